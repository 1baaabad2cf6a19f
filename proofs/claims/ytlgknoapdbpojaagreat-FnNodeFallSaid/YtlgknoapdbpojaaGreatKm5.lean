/- Part 5 of the texts that the proof of LawFnNodeFall leans on, merged by program. -/
import Derived.Test.YtlgknoapdbpojaaGreatKm4
set_option linter.unusedVariables false
set_option linter.unusedSimpArgs false
set_option maxHeartbeats 4000000
set_option autoImplicit true
set_option relaxedAutoImplicit true
namespace Go.Proofs.YtlgknoapdbpojaaGreat.Am
open Go Go.RowKit
section
theorem a8x (c : Bool) (n : Nd) (w : Wo) : a1o Tryz.prog 74 [.agg (w6w c n), .agg (q2q c w)] (.tup [.agg (w6w true (r9r n w).1), r1r true (r9r n w).2]) := by
 refine pX Tryz.f74 [.agg (w6w true (r9r n w).1), r1r true (r9r n w).2] 12 ?_
 refine exR (z7z (id := 0) rfl rfl rfl (z7z (id := 1) rfl rfl rfl (y7y (id := 2) y5y s5s rfl (x0x rfl (exR (z8z (id := 3) v8v rfl v7v rfl (x0x rfl (x2x fun K1 hK1 => ?_))))))))
 refine exR (x5x rfl y5y rfl rfl rfl (x9x rfl rfl rfl (r6r ..) (a1k rfl (x8x rfl ?_ ?_))))<;>intro hc2<;>try simp at hc2
 ·have fX : ¬ u3u n := a0z (by simpa using hc2)
  refine exR (rlB y5y s5s ?_)
  refine x4x rfl (x3x rfl rfl y5y rfl rfl rfl rfl (x0x rfl (x6x ⟨.inr rfl, ?_⟩)))
  (rw [f3s fX]; exact ⟨_, _, rfl, b6m (a3d (l := ([] : List Wo)) rfl .nil)⟩)
 have fK : u3u n := a1x.1 (by simpa using hc2)
 have fS := fK.1
 have fb := b9d fS
 refine x7x (hK1 _ _ (x2x fun K3 hK3 => ?_))
 refine exA 4 rfl rfl (z6z rfl rfl ?_ ?_)<;>intro hg4<;>try simp at hg4
 ·have fU : ¬ b1h n w := fun h => by have := h.1; simp_all
  refine x1x 17 rfl rfl (x8x rfl (fun hc20 => ?_) (fun hc20 => ?_))
  rotate_left
  ·simp at hc20
  try simp at hc20
  try have fU : ¬ b1h n w := fun h => by have := h.2.2.1; have := h.2.2.2; omega
  refine exR (x5x rfl y5y rfl rfl rfl ?_)
  refine rlM [9, 10, 11] [_, _, _] (u1u c n fb) rfl rfl rfl ?_
  refine x4x rfl (x3x rfl rfl y5y rfl rfl rfl rfl (x0x rfl (x6x ⟨.inr rfl, ?_⟩)))
  (rw [d5q fK fU]; exact ⟨_, _, rfl, a0g rfl rfl rfl (a3d (l := ([] : List Wo)) rfl .nil)⟩)
 have fUp : n.up = true := hg4
 refine x5x rfl v7v rfl rfl rfl (z1z rfl rfl (x9x rfl rfl rfl (b2g ..) (x1x 3 rfl rfl (z6z rfl rfl ?_ ?_))))<;>intro hg5<;>try simp at hg5
 ·try have fU : ¬ b1h n w := fun h => absurd h.2.1 hg5
  refine x1x 12 rfl rfl (x8x rfl (fun hc19 => ?_) (fun hc19 => ?_))
  rotate_left
  ·simp at hc19
  try simp at hc19
  try have fU : ¬ b1h n w := fun h => by have := h.2.2.1; have := h.2.2.2; omega
  refine exR (x5x rfl y5y rfl rfl rfl ?_)
  refine rlM [9, 10, 11] [_, _, _] (u1u c n fb) rfl rfl rfl ?_
  refine x4x rfl (x3x rfl rfl y5y rfl rfl rfl rfl (x0x rfl (x6x ⟨.inr rfl, ?_⟩)))
  (rw [d5q fK fU]; exact ⟨_, _, rfl, a0g rfl rfl rfl (a3d (l := ([] : List Wo)) rfl .nil)⟩)
 have fW : a4r w := hg5
 refine x1x 7 rfl rfl (z6z rfl rfl ?_ ?_)<;>intro j<;>try simp at j
 ·try have fU : ¬ b1h n w := fun h => by have := h.2.2.1; omega
  refine x1x 5 rfl rfl (x8x rfl (fun hc18 => ?_) (fun hc18 => ?_))
  rotate_left
  ·simp at hc18
  try simp at hc18
  try have fU : ¬ b1h n w := fun h => by have := h.2.2.1; have := h.2.2.2; omega
  refine exR (x5x rfl y5y rfl rfl rfl ?_)
  refine rlM [9, 10, 11] [_, _, _] (u1u c n fb) rfl rfl rfl ?_
  refine x4x rfl (x3x rfl rfl y5y rfl rfl rfl rfl (x0x rfl (x6x ⟨.inr rfl, ?_⟩)))
  (rw [d5q fK fU]; exact ⟨_, _, rfl, a0g rfl rfl rfl (a3d (l := ([] : List Wo)) rfl .nil)⟩)
 refine x1x 6 rfl rfl (x8x rfl ?_ ?_)<;>intro j<;>try simp at j
 ·try have fU : ¬ b1h n w := fun h => by have := h.2.2.1; have := h.2.2.2; omega
  refine exR (x5x rfl y5y rfl rfl rfl ?_)
  refine rlM [9, 10, 11] [_, _, _] (u1u c n fb) rfl rfl rfl ?_
  refine x4x rfl (x3x rfl rfl y5y rfl rfl rfl rfl (x0x rfl (x6x ⟨.inr rfl, ?_⟩)))
  (rw [d5q fK fU]; exact ⟨_, _, rfl, a0g rfl rfl rfl (a3d (l := ([] : List Wo)) rfl .nil)⟩)
 have fM : b1h n w := ⟨fUp, fW, by omega, by omega⟩
 refine x7x (hK3 _ _ (x2x fun K8 hK8 => ?_))
 refine exA 2 rfl rfl (y0y (exA 2 rfl rfl (x8x rfl ?_ ?_)))<;>intro hc9<;>try simp at hc9
 ·have k1 : w.kind = 1 := hc9
  refine exA 11 rfl rfl (x9x rfl rfl rfl (c3q c n w.from' w.inc w.version w.g w.events) ?_)
  refine x4x rfl (x3x rfl rfl y5y rfl rfl rfl rfl (x0x rfl (x6x ⟨.inr rfl, ?_⟩)))
  (rw [b8d fK fM, f0v k1]; exact ⟨_, _, rfl, d1n (a3d (l := ([] : List Wo)) rfl .nil)⟩)
 have n1 : ¬ w.kind = 1 := hc9
 refine exA 2 rfl rfl (x8x rfl ?_ ?_)<;>intro hc10<;>try simp at hc10
 ·have k2 : w.kind = 2 := hc10
  refine exA 3 rfl rfl (x9x rfl rfl rfl (b1k ..) (x1x 4 rfl rfl (y7y (id := 4) y5y s5s rfl (y7y (id := 5) v7v b0r rfl (x3x rfl rfl y5y rfl rfl rfl rfl (x3x rfl rfl v7v rfl rfl rfl rfl (x0x rfl (exR (x4x rfl (x8x rfl ?_ ?_))))))))))<;>intro hc11<;>try simp at hc11
  ·have hr : (p3p n w.round).2.2 = true := hc11
   refine exD (x1x 2 rfl rfl (u5u (id := 6) v8v rfl v7v rfl rfl rfl rfl rfl rfl (x3x rfl rfl y5y rfl rfl rfl rfl (x0x rfl ⟨by kernel_rfl, x6x ⟨.inr rfl, ?_⟩⟩))))
   (rw [b8d fK fM, e5y k2 hr]; exact ⟨_, _, rfl, d1n (a3d (l := [(p3p n w.round).2.1]) rfl .nil)⟩)
  have hr : ¬ (p3p n w.round).2.2 = true := by simpa using hc11
  have hE : r9r n w = (n, []) := by rw [b8d fK fM, e5z k2 hr]
  refine x7x (hK8 _ _ (exR (x5x rfl y5y rfl rfl rfl ?_)))
  refine rlM [9, 10, 11] [_, _, _] (u1u c n fb) rfl rfl rfl ?_
  refine x4x rfl (x3x rfl rfl y5y rfl rfl rfl rfl (x0x rfl (x6x ⟨.inr rfl, ?_⟩)))
  (rw [hE]; exact ⟨_, _, rfl, a0g rfl rfl rfl (a3d (l := ([] : List Wo)) rfl .nil)⟩)
 have n2 : ¬ w.kind = 2 := hc10
 refine exA 2 rfl rfl (y2y rfl ?_ ?_)<;>intro hc12<;>try simp at hc12
 ·have n4 : ¬ w.kind = 4 := hc12
  refine exA 2 rfl rfl (y2y rfl ?_ ?_)<;>intro hc16<;>try simp at hc16
  ·have n6 : ¬ w.kind = 6 := hc16
   have hE : r9r n w = (n, []) := by rw [b8d fK fM, f0w n1 n2 n4 n6]
   refine x7x (hK8 _ _ (exR (x5x rfl y5y rfl rfl rfl ?_)))
   refine rlM [9, 10, 11] [_, _, _] (u1u c n fb) rfl rfl rfl ?_
   refine x4x rfl (x3x rfl rfl y5y rfl rfl rfl rfl (x0x rfl (x6x ⟨.inr rfl, ?_⟩)))
   (rw [hE]; exact ⟨_, _, rfl, a0g rfl rfl rfl (a3d (l := ([] : List Wo)) rfl .nil)⟩)
  have k6 : w.kind = 6 := hc16
  refine exA 5 rfl rfl (y2y rfl ?_ ?_)<;>intro hc17<;>try simp at hc17
  ·have h6 : ¬ w.inc = n.inc := hc17
   have hE : r9r n w = (n, []) := by rw [b8d fK fM, e6c k6 h6]
   refine x7x (hK8 _ _ (exR (x5x rfl y5y rfl rfl rfl ?_)))
   refine rlM [9, 10, 11] [_, _, _] (u1u c n fb) rfl rfl rfl ?_
   refine x4x rfl (x3x rfl rfl y5y rfl rfl rfl rfl (x0x rfl (x6x ⟨.inr rfl, ?_⟩)))
   (rw [hE]; exact ⟨_, _, rfl, a0g rfl rfl rfl (a3d (l := ([] : List Wo)) rfl .nil)⟩)
  have h6 : w.inc = n.inc := hc17
  refine exA 5 rfl rfl (x9x rfl rfl rfl (b1l ..) (x1x 3 rfl rfl (y7y (id := 8) y5y s5s rfl (x3x rfl rfl y5y rfl rfl rfl rfl (x0x rfl (exA 2 rfl rfl (x3x rfl rfl y5y rfl rfl rfl rfl (x0x rfl (x6x ⟨.inr rfl, ?_⟩)))))))))
  (rw [b8d fK fM, e6b k6 h6]; exact ⟨_, _, rfl, d1n (a3d (l := ([] : List Wo)) rfl .nil)⟩)
 have k4 : w.kind = 4 := hc12
 refine exA 6 rfl rfl (z6z rfl rfl ?_ ?_)<;>intro j<;>try simp at j
 ·refine x1x 3 rfl rfl (x8x rfl (fun hc15 => ?_) (fun hc15 => ?_))
  ·simp at hc15
  try simp at hc15
  have h4 : ¬ (w.round = n.round ∧ 0 < w.round) := by omega
  have hE : r9r n w = (n, []) := by rw [b8d fK fM, d5r k4 h4]
  refine x7x (hK8 _ _ (exR (x5x rfl y5y rfl rfl rfl ?_)))
  refine rlM [9, 10, 11] [_, _, _] (u1u c n fb) rfl rfl rfl ?_
  refine x4x rfl (x3x rfl rfl y5y rfl rfl rfl rfl (x0x rfl (x6x ⟨.inr rfl, ?_⟩)))
  (rw [hE]; exact ⟨_, _, rfl, a0g rfl rfl rfl (a3d (l := ([] : List Wo)) rfl .nil)⟩)
 refine x1x 4 rfl rfl (y2y rfl ?_ ?_)<;>intro j<;>try simp at j
 ·have h4 : ¬ (w.round = n.round ∧ 0 < w.round) := by omega
  have hE : r9r n w = (n, []) := by rw [b8d fK fM, d5r k4 h4]
  refine x7x (hK8 _ _ (exR (x5x rfl y5y rfl rfl rfl ?_)))
  refine rlM [9, 10, 11] [_, _, _] (u1u c n fb) rfl rfl rfl ?_
  refine x4x rfl (x3x rfl rfl y5y rfl rfl rfl rfl (x0x rfl (x6x ⟨.inr rfl, ?_⟩)))
  (rw [hE]; exact ⟨_, _, rfl, a0g rfl rfl rfl (a3d (l := ([] : List Wo)) rfl .nil)⟩)
 have h4 : w.round = n.round ∧ 0 < w.round := by omega
 refine exD (x5x rfl y5y rfl rfl rfl ?_)
 refine rlM [9, 10, 11] [_, _, _] (u1u c n fb) rfl rfl rfl ?_
 refine x1x 8 rfl rfl (rlB v7v b0r ?_)
 refine u5u (id := 7) v8v rfl v7v rfl rfl rfl rfl rfl rfl (x3x rfl rfl y5y rfl rfl rfl rfl (x0x rfl ⟨by kernel_rfl, x6x ⟨.inr rfl, ?_⟩⟩))
 (rw [b8d fK fM, e6a k4 h4]; exact ⟨_, _, rfl, a0g rfl rfl rfl (f5x (k := 5) (f := n.id) (t := 0) (i := n.inc) (v := n.version) (r := n.round) (g := 0) rfl .nil)⟩)
theorem c3r (c : Bool) (h : Hb) (n : Nd) : a1o Tryz.prog 311 [.agg (a9h true h), .agg (w6w c n)] (.tup [.agg (a9h true (s9s h n).1), .agg (w6w true (s9s h n).2.1), r1r true (s9s h n).2.2]) := by
 refine pX Tryz.f311 [.agg (a9h true (s9s h n).1), .agg (w6w true (s9s h n).2.1), r1r true (s9s h n).2.2] 17 ?_
 refine exR (z7z (id := 0) rfl rfl rfl (z7z (id := 1) rfl rfl rfl (y7y (id := 2) r4r b5y rfl (y7y (id := 3) y5y s5s rfl (x0x rfl (exR (z8z (id := 4) v8v rfl v7v rfl (x0x rfl (x2x fun K1 hK1 => ?_)))))))))
 refine exR (x5x rfl r4r rfl rfl rfl (x9x rfl rfl rfl (a9q ..) (x1x 2 rfl rfl (z6z rfl rfl ?_ ?_))))<;>intro hg2<;>try simp at hg2
 ·have fX : ¬ (a1f h ∧ u3u n) := fun q => a0z (by simpa using hg2) q.1
  refine x1x 3 rfl rfl (x8x rfl (fun hc12 => ?_) (fun hc12 => ?_))
  rotate_left
  ·simp at hc12
  try simp at hc12
  try have fX : ¬ (a1f h ∧ u3u n) := fun q => a0z (by simpa using hc12) q.2
  refine exR (rlB r4r b5y ?_)
  refine rlB y5y s5s ?_
  refine x4x rfl (x3x rfl rfl r4r rfl rfl rfl rfl (x3x rfl rfl y5y rfl rfl rfl rfl (x0x rfl (x6x ⟨.inr rfl, ?_⟩))))
  (rw [e2g fX]; exact ⟨_, _, rfl, d6e (b6m (a3d (l := ([] : List Wo)) rfl .nil))⟩)
 have fH : a1f h := a1x.1 (by simpa using hg2)
 refine x5x rfl y5y rfl rfl rfl (z1z rfl rfl (x9x rfl rfl rfl (r6r ..) (x1x 2 rfl rfl (x8x rfl ?_ ?_))))<;>intro hc3<;>try simp at hc3
 ·try have fX : ¬ (a1f h ∧ u3u n) := fun q => a0z (by simpa using hc3) q.2
  refine exR (rlB r4r b5y ?_)
  refine rlB y5y s5s ?_
  refine x4x rfl (x3x rfl rfl r4r rfl rfl rfl rfl (x3x rfl rfl y5y rfl rfl rfl rfl (x0x rfl (x6x ⟨.inr rfl, ?_⟩))))
  (rw [e2g fX]; exact ⟨_, _, rfl, d6e (b6m (a3d (l := ([] : List Wo)) rfl .nil))⟩)
 have fK : u3u n := a1x.1 (by simpa using hc3)
 have fS := fK.1
 have fb := b9d fS
 refine x7x (hK1 _ _ (exR (x5x rfl y5y rfl rfl rfl ?_)))
 refine rlM [11, 12, 13] [_, _, _] (u1u c n fb) rfl rfl rfl ?_
 refine y7y (id := 5) y5y s5s rfl (x3x rfl rfl y5y rfl rfl rfl rfl (exA 2 rfl rfl ?_))
 refine a0r (.int .i64 (n.led + 1)) rfl rfl rfl (a7f rfl rfl (by have := fS.1.2.2.2.1; omega) (by have := fS.1.2.2.2.1; omega)) ?_
 refine y1y rfl y5y rfl rfl q5q rfl rfl (y9y rfl rfl q5q rfl rfl rfl rfl rfl (by simp only [a0y]; rfl) ?_)
 refine x2x fun K4 hK4 => ?_
 refine exD (x1x 4 rfl rfl (z6z rfl rfl ?_ ?_))<;>intro hg5<;>try simp at hg5
 ·have fU : ¬ a5i n := fun q => by have := q.1; omega
  refine x1x 9 rfl rfl ⟨by kernel_rfl, x8x rfl (fun hc11 => ?_) (fun hc11 => ?_)⟩
  rotate_left
  ·simp at hc11
  try simp at hc11
  try have fU : ¬ a5i n := fun q => by have := q.2.2.1; omega
  refine exD (x5x rfl r4r rfl rfl rfl (x9x rfl rfl rfl (a3y true h fH) (x5x rfl y5y rfl rfl rfl ?_)))
  refine rlM [14, 15, 16] [_, _, _] (u1u c n fb) rfl rfl rfl ?_
  refine x4x rfl (x3x rfl rfl r4r rfl rfl rfl rfl (x3x rfl rfl y5y rfl rfl rfl rfl (x0x rfl ⟨by kernel_rfl, x6x ⟨.inr rfl, ?_⟩⟩)))
  (rw [c3d ⟨fH, fK⟩ fU]; exact ⟨_, _, rfl, a8t (a0g rfl rfl rfl (a3d (l := ([] : List Wo)) rfl .nil))⟩)
 have hid : n.id = 0 := hg5
 refine x1x 5 rfl rfl (z6z rfl rfl ?_ ?_)<;>intro hg6<;>try simp at hg6
 ·try have fU : ¬ a5i n := fun h => by have := h.2.1; simp_all
  refine x1x 4 rfl rfl ⟨by kernel_rfl, x8x rfl (fun hc10 => ?_) (fun hc10 => ?_)⟩
  rotate_left
  ·simp at hc10
  try simp at hc10
  try have fU : ¬ a5i n := fun q => by have := q.2.2.1; omega
  refine exD (x5x rfl r4r rfl rfl rfl (x9x rfl rfl rfl (a3y true h fH) (x5x rfl y5y rfl rfl rfl ?_)))
  refine rlM [14, 15, 16] [_, _, _] (u1u c n fb) rfl rfl rfl ?_
  refine x4x rfl (x3x rfl rfl r4r rfl rfl rfl rfl (x3x rfl rfl y5y rfl rfl rfl rfl (x0x rfl ⟨by kernel_rfl, x6x ⟨.inr rfl, ?_⟩⟩)))
  (rw [c3d ⟨fH, fK⟩ fU]; exact ⟨_, _, rfl, a8t (a0g rfl rfl rfl (a3d (l := ([] : List Wo)) rfl .nil))⟩)
 have fUp : n.up = true := hg6
 refine x1x 2 rfl rfl (z1z rfl rfl (x9x rfl rfl rfl (w5w ..) (x1x 2 rfl rfl ⟨by kernel_rfl, x8x rfl ?_ ?_⟩)))<;>intro j<;>try simp at j
 ·try have fU : ¬ a5i n := fun q => by have := q.2.2.1; omega
  refine exD (x5x rfl r4r rfl rfl rfl (x9x rfl rfl rfl (a3y true h fH) (x5x rfl y5y rfl rfl rfl ?_)))
  refine rlM [14, 15, 16] [_, _, _] (u1u c n fb) rfl rfl rfl ?_
  refine x4x rfl (x3x rfl rfl r4r rfl rfl rfl rfl (x3x rfl rfl y5y rfl rfl rfl rfl (x0x rfl ⟨by kernel_rfl, x6x ⟨.inr rfl, ?_⟩⟩)))
  (rw [c3d ⟨fH, fK⟩ fU]; exact ⟨_, _, rfl, a8t (a0g rfl rfl rfl (a3d (l := ([] : List Wo)) rfl .nil))⟩)
 have hld : n.led < 9999 := by omega
 refine x7x (hK4 _ _ (exA 3 rfl rfl ?_))
 refine b6c rfl rfl rfl (c2x (n := d1c n) rfl rfl rfl (.cl rfl .nil)) (b1k false (d1c n) (n.led + 1)) (.tup (a4h (e5t _) (a4h (e5u _) (a4h (.pv _) f0p)))) ?_
 refine x1x 4 rfl rfl (y7y (id := 6) y5y s5s rfl (y7y (id := 7) v7v b0r rfl (x3x rfl rfl y5y rfl rfl rfl rfl (x3x rfl rfl v7v rfl rfl rfl rfl (x0x rfl (x2x fun K8 hK8 => ?_))))))
 refine exA 2 rfl rfl (x8x rfl ?_ ?_)<;>intro hc9<;>try simp at hc9
 ·have fU : ¬ a5i n := fun q => by have hb := (d1k fK hld).2 ⟨q.2.1, q.2.2.2⟩; have hx := hc9; simp only [d1c] at hb hx; simp_all
  refine exD (x5x rfl r4r rfl rfl rfl (x9x rfl rfl rfl (a3y true h fH) (x5x rfl y5y rfl rfl rfl ?_)))
  refine rlM [14, 15, 16] [_, _, _] (u1u c n fb) rfl rfl rfl ?_
  refine x4x rfl (x3x rfl rfl r4r rfl rfl rfl rfl (x3x rfl rfl y5y rfl rfl rfl rfl (x0x rfl ⟨by kernel_rfl, x6x ⟨.inr rfl, ?_⟩⟩)))
  (rw [c3d ⟨fH, fK⟩ fU]; exact ⟨_, _, rfl, a8t (a0g rfl rfl rfl (a3d (l := ([] : List Wo)) rfl .nil))⟩)
 have hrb := (d1k fK hld).1 (by have hx := hc9; simp only [d1c] at hx ⊢; exact hx)
 have fM : a5i n := ⟨hid, fUp, hld, hrb.2⟩
 have hEq := e6l (h := h) ⟨fH, fK⟩ fM
 refine x7x (hK8 _ _ (exR (x5x rfl r4r rfl rfl rfl (x9x rfl rfl rfl (a3y true h fH) (y7y (id := 8) r4r b5y rfl (x3x rfl rfl r4r rfl rfl rfl rfl (exA 3 rfl rfl (y9y rfl rfl q5q rfl rfl rfl rfl rfl (by simp only [a0y]; rfl) ?_))))))))
 refine exR (x5x rfl v7v rfl rfl rfl (u5u (id := 9) v8v rfl v7v rfl rfl rfl rfl rfl rfl (y1y rfl r4r rfl rfl v8v rfl rfl (y9y rfl rfl v8v rfl rfl rfl rfl rfl (by simp only [a0y]; rfl) ?_))))
 refine exR (z8z (id := 10) v8v rfl v7v rfl (y1y rfl r4r rfl rfl v8v rfl rfl (y9y rfl rfl v8v rfl rfl rfl rfl rfl (by simp only [a0y]; rfl) ?_)))
 refine exD (x1x 4 rfl rfl (rlB v7v b0r ?_))
 refine x9x rfl rfl rfl (b8f 2 0 0 0 0 (n.led + 1) 0) ?_
 refine x3x rfl rfl r4r rfl rfl rfl rfl (x3x rfl rfl y5y rfl rfl rfl rfl (x0x rfl ⟨by kernel_rfl, x6x ⟨.inr rfl, ?_⟩⟩))
 (rw [show p3p (d1c n) (n.led + 1) = _ from hEq]; rw [d3i ⟨fH, fK⟩ fM]; exact ⟨_, _, rfl, f4j (a := [e1b (d1c n) (n.led + 1)]) (c := ([] : List Wo)) rfl rfl (d1n (.cl rfl .nil))⟩)
end
section
theorem b0e (c : Bool) (h : Hb) (n : Nd) (w : Wo) : a1o Tryz.prog 322 [.agg (a9h true h), .agg (w6w c n), .agg (q2q c w)] (.tup [.agg (a9h true (q3q h n w).1), .agg (w6w true (q3q h n w).2.1), r1r true (q3q h n w).2.2]) := by
 refine pX Tryz.f322 [.agg (a9h true (q3q h n w).1), .agg (w6w true (q3q h n w).2.1), r1r true (q3q h n w).2.2] 14 ?_
 refine exR (z7z (id := 0) rfl rfl rfl (z7z (id := 1) rfl rfl rfl (z7z (id := 2) rfl rfl rfl (y7y (id := 3) r4r b5y rfl (y7y (id := 4) y5y s5s rfl (x0x rfl (exR (z8z (id := 5) v8v rfl v7v rfl (x0x rfl (x2x fun K1 hK1 => ?_))))))))))
 refine exR (x5x rfl r4r rfl rfl rfl (x9x rfl rfl rfl (a9q ..) (x1x 2 rfl rfl (z6z rfl rfl ?_ ?_))))<;>intro hg2<;>try simp at hg2
 ·have fX : ¬ (a1f h ∧ u3u n) := fun q => a0z (by simpa using hg2) q.1
  refine x1x 3 rfl rfl (x8x rfl (fun hc41 => ?_) (fun hc41 => ?_))
  rotate_left
  ·simp at hc41
  try simp at hc41
  try have fX : ¬ (a1f h ∧ u3u n) := fun q => a0z (by simpa using hc41) q.2
  refine exR (rlB r4r b5y ?_)
  refine rlB y5y s5s ?_
  refine x4x rfl (x3x rfl rfl r4r rfl rfl rfl rfl (x3x rfl rfl y5y rfl rfl rfl rfl (x0x rfl (x6x ⟨.inr rfl, ?_⟩))))
  (rw [f3w fX]; exact ⟨_, _, rfl, d6e (b6m (a3d (l := ([] : List Wo)) rfl .nil))⟩)
 have fH : a1f h := a1x.1 (by simpa using hg2)
 refine x5x rfl y5y rfl rfl rfl (z1z rfl rfl (x9x rfl rfl rfl (r6r ..) (x1x 2 rfl rfl (x8x rfl ?_ ?_))))<;>intro hc3<;>try simp at hc3
 ·try have fX : ¬ (a1f h ∧ u3u n) := fun q => a0z (by simpa using hc3) q.2
  refine exR (rlB r4r b5y ?_)
  refine rlB y5y s5s ?_
  refine x4x rfl (x3x rfl rfl r4r rfl rfl rfl rfl (x3x rfl rfl y5y rfl rfl rfl rfl (x0x rfl (x6x ⟨.inr rfl, ?_⟩))))
  (rw [f3w fX]; exact ⟨_, _, rfl, d6e (b6m (a3d (l := ([] : List Wo)) rfl .nil))⟩)
 have fK : u3u n := a1x.1 (by simpa using hc3)
 have fS := fK.1
 have fb := b9d fS
 refine x7x (hK1 _ _ (exR (x5x rfl r4r rfl rfl rfl (x9x rfl rfl rfl (a3y true h fH) (y7y (id := 6) r4r b5y rfl (x3x rfl rfl r4r rfl rfl rfl rfl (exR (x5x rfl y5y rfl rfl rfl ?_))))))))
 refine rlM [10, 11, 12] [_, _, _] (u1u c n fb) rfl rfl rfl ?_
 refine y7y (id := 7) y5y s5s rfl (x3x rfl rfl y5y rfl rfl rfl rfl (x2x fun K4 hK4 => ?_))
 refine exA 4 rfl rfl (z6z rfl rfl ?_ ?_)<;>intro hg5<;>try simp at hg5
 ·have fU : ¬ a2d n w := fun q => by have := q.1; omega
  refine x1x 18 rfl rfl (x8x rfl (fun hc40 => ?_) (fun hc40 => ?_))
  rotate_left
  ·simp at hc40
  try simp at hc40
  try have fU : ¬ a2d n w := fun q => by have := q.2.2.2.2; omega
  refine exD (x1x 3 rfl rfl (x3x rfl rfl r4r rfl rfl rfl rfl (x3x rfl rfl y5y rfl rfl rfl rfl (x0x rfl ⟨by kernel_rfl, x6x ⟨.inr rfl, ?_⟩⟩))))
  (rw [e2x ⟨fH, fK⟩ fU]; exact ⟨_, _, rfl, a8t (a0g rfl rfl rfl (a3d (l := ([] : List Wo)) rfl .nil))⟩)
 try have hid : n.id = 0 := hg5
 refine x1x 5 rfl rfl (z6z rfl rfl ?_ ?_)<;>intro hg6<;>try simp at hg6
 ·try have fU : ¬ a2d n w := fun q => by have := q.2.1; simp_all
  refine x1x 13 rfl rfl (x8x rfl (fun hc39 => ?_) (fun hc39 => ?_))
  rotate_left
  ·simp at hc39
  try simp at hc39
  try have fU : ¬ a2d n w := fun q => by have := q.2.2.2.2; omega
  refine exD (x1x 3 rfl rfl (x3x rfl rfl r4r rfl rfl rfl rfl (x3x rfl rfl y5y rfl rfl rfl rfl (x0x rfl ⟨by kernel_rfl, x6x ⟨.inr rfl, ?_⟩⟩))))
  (rw [e2x ⟨fH, fK⟩ fU]; exact ⟨_, _, rfl, a8t (a0g rfl rfl rfl (a3d (l := ([] : List Wo)) rfl .nil))⟩)
 have fUp : n.up = true := hg6
 refine x5x rfl v7v rfl rfl rfl (z1z rfl rfl (x9x rfl rfl rfl (b2g ..) (x1x 3 rfl rfl (z6z rfl rfl ?_ ?_))))<;>intro hg7<;>try simp at hg7
 ·try have fU : ¬ a2d n w := fun q => absurd q.2.2.1 hg7
  refine x1x 8 rfl rfl (x8x rfl (fun hc38 => ?_) (fun hc38 => ?_))
  rotate_left
  ·simp at hc38
  try simp at hc38
  try have fU : ¬ a2d n w := fun q => by have := q.2.2.2.2; omega
  refine exD (x1x 3 rfl rfl (x3x rfl rfl r4r rfl rfl rfl rfl (x3x rfl rfl y5y rfl rfl rfl rfl (x0x rfl ⟨by kernel_rfl, x6x ⟨.inr rfl, ?_⟩⟩))))
  (rw [e2x ⟨fH, fK⟩ fU]; exact ⟨_, _, rfl, a8t (a0g rfl rfl rfl (a3d (l := ([] : List Wo)) rfl .nil))⟩)
 have fW : a4r w := hg7
 refine x1x 5 rfl rfl (z6z rfl rfl ?_ ?_)<;>intro hg8<;>try simp at hg8
 ·try have fU : ¬ a2d n w := fun q => by have := q.2.2.2.1; omega
  refine x1x 3 rfl rfl (x8x rfl (fun hc37 => ?_) (fun hc37 => ?_))
  rotate_left
  ·simp at hc37
  try simp at hc37
  try have fU : ¬ a2d n w := fun q => by have := q.2.2.2.2; omega
  refine exD (x1x 3 rfl rfl (x3x rfl rfl r4r rfl rfl rfl rfl (x3x rfl rfl y5y rfl rfl rfl rfl (x0x rfl ⟨by kernel_rfl, x6x ⟨.inr rfl, ?_⟩⟩))))
  (rw [e2x ⟨fH, fK⟩ fU]; exact ⟨_, _, rfl, a8t (a0g rfl rfl rfl (a3d (l := ([] : List Wo)) rfl .nil))⟩)
 try have hto : w.to = 0 := hg8
 refine x1x 4 rfl rfl (x8x rfl ?_ ?_)<;>intro o<;>try simp at o
 ·try have fU : ¬ a2d n w := fun q => by have := q.2.2.2.2; omega
  refine exD (x1x 3 rfl rfl (x3x rfl rfl r4r rfl rfl rfl rfl (x3x rfl rfl y5y rfl rfl rfl rfl (x0x rfl ⟨by kernel_rfl, x6x ⟨.inr rfl, ?_⟩⟩))))
  (rw [e2x ⟨fH, fK⟩ fU]; exact ⟨_, _, rfl, a8t (a0g rfl rfl rfl (a3d (l := ([] : List Wo)) rfl .nil))⟩)
 have fM : a2d n w := ⟨hid, fUp, fW, hto, by omega⟩
 refine x7x (hK4 _ _ (x2x fun K10 hK10 => ?_))
 refine exA 2 rfl rfl (y0y (exA 2 rfl rfl (x8x rfl ?_ ?_)))<;>intro hc11<;>try simp at hc11
 ·try have k7 : w.kind = 7 := hc11
  refine exA 4 rfl rfl (x9x rfl rfl rfl (c8p h.outs w.from') ?_)
  refine x1x 3 rfl rfl (y7y (id := 8) v7v b0r rfl (x3x rfl rfl v7v rfl rfl rfl rfl (x0x rfl (exA 3 rfl rfl (z6z rfl rfl ?_ ?_)))))<;>intro hg12<;>try simp at hg12
  ·have hnone : (b6q w.from' h.outs).isSome = false := by simpa using hg12
   refine x1x 5 rfl rfl (x8x rfl (fun hc14 => ?_) (fun hc14 => ?_))
   rotate_left
   ·simp at hc14
   try simp at hc14
   have hl : a4i h w = true := e6m hnone
   have hE : q3q h n w = ({ h with outs := a7m w true h.outs false }, n, []) := by rw [b6s ⟨fH, fK⟩ fM, e7y k7 hl]
   refine exH (x1x 3 rfl rfl (x9x rfl rfl rfl (a5e c w (d1b fW)) ?_))
   refine x9x rfl rfl rfl (a8f h.outs w true (by have := b6p fH.2.2.2.1; omega)) ?_
   refine y1y rfl r4r rfl rfl v8v rfl rfl (y9y rfl rfl v8v rfl rfl rfl rfl rfl (by simp only [a0y]; rfl) ?_)
   refine ⟨by kernel_rfl, hK10 _ _ (exD (x1x 3 rfl rfl (x3x rfl rfl r4r rfl rfl rfl rfl (x3x rfl rfl y5y rfl rfl rfl rfl (x0x rfl ⟨by kernel_rfl, x6x ⟨.inr rfl, ?_⟩⟩)))))⟩
   (rw [hE]; exact ⟨_, _, rfl, a8t (u := { h with outs := a7m w true h.outs false }) (a0g rfl rfl rfl (a3d (l := ([] : List Wo)) rfl .nil))⟩)
  have hsome : (b6q w.from' h.outs).isSome = true := hg12
  refine x1x 6 rfl rfl (y2y rfl ?_ ?_)<;>intro o<;>try simp at o
  ·have hl : ¬ a4i h w = true := fun q => by have := (d1l hsome).1 q; omega
   have hE : q3q h n w = (h, n, []) := by rw [b6s ⟨fH, fK⟩ fM, f3x k7 hl]
   refine x7x (hK10 _ _ (exD (x1x 3 rfl rfl (x3x rfl rfl r4r rfl rfl rfl rfl (x3x rfl rfl y5y rfl rfl rfl rfl (x0x rfl ⟨by kernel_rfl, x6x ⟨.inr rfl, ?_⟩⟩))))))
   (rw [hE]; exact ⟨_, _, rfl, a8t (u := h) (a0g rfl rfl rfl (a3d (l := ([] : List Wo)) rfl .nil))⟩)
  have hl : a4i h w = true := (d1l hsome).2 (by omega)
  have hE : q3q h n w = ({ h with outs := a7m w true h.outs false }, n, []) := by rw [b6s ⟨fH, fK⟩ fM, e7y k7 hl]
  refine exH (x1x 3 rfl rfl (x9x rfl rfl rfl (a5e c w (d1b fW)) ?_))
  refine x9x rfl rfl rfl (a8f h.outs w true (by have := b6p fH.2.2.2.1; omega)) ?_
  refine y1y rfl r4r rfl rfl v8v rfl rfl (y9y rfl rfl v8v rfl rfl rfl rfl rfl (by simp only [a0y]; rfl) ?_)
  refine ⟨by kernel_rfl, hK10 _ _ (exD (x1x 3 rfl rfl (x3x rfl rfl r4r rfl rfl rfl rfl (x3x rfl rfl y5y rfl rfl rfl rfl (x0x rfl ⟨by kernel_rfl, x6x ⟨.inr rfl, ?_⟩⟩)))))⟩
  (rw [hE]; exact ⟨_, _, rfl, a8t (u := { h with outs := a7m w true h.outs false }) (a0g rfl rfl rfl (a3d (l := ([] : List Wo)) rfl .nil))⟩)
 try have n7 : ¬ w.kind = 7 := hc11
 refine exA 2 rfl rfl (x8x rfl ?_ ?_)<;>intro hc15<;>try simp at hc15
 ·try have k3 : w.kind = 3 := hc15
  refine x2x fun K16 hK16 => ?_
  refine exA 6 rfl rfl (z6z rfl rfl ?_ ?_)<;>intro hg17<;>try simp at hg17
  ·try have hr : ¬ w.round = h.round := hg17
   refine x1x 16 rfl rfl (x8x rfl (fun hc24 => ?_) (fun hc24 => ?_))
   rotate_left
   ·simp at hc24
   try simp at hc24
   have hm : ¬ d7o h w := fun q => by obtain ⟨q1, q2, q3, q4⟩ := q; omega
   have hE : q3q h n w = (h, n, []) := by rw [b6s ⟨fH, fK⟩ fM, d6b k3 hm]
   refine exD (x1x 3 rfl rfl (x3x rfl rfl r4r rfl rfl rfl rfl (x3x rfl rfl y5y rfl rfl rfl rfl (x0x rfl ⟨by kernel_rfl, x6x ⟨.inr rfl, ?_⟩⟩))))
   (rw [hE]; exact ⟨_, _, rfl, a8t (u := h) (a0g rfl rfl rfl (a3d (l := ([] : List Wo)) rfl .nil))⟩)
  try have hr : w.round = h.round := hg17
  refine x1x 2 rfl rfl (z1z rfl rfl (z2z rfl q1q rfl (x1x 3 rfl rfl (z6z rfl rfl ?_ ?_))))<;>intro hg18<;>try simp at hg18
  ·try have hz : w.incs.length = 0 := by (rw [hg18]; rfl)
   refine x1x 10 rfl rfl (x8x rfl (fun hc23 => ?_) (fun hc23 => ?_))
   rotate_left
   ·simp at hc23
   try simp at hc23
   have hm : ¬ d7o h w := fun q => by obtain ⟨q1, q2, q3, q4⟩ := q; omega
   have hE : q3q h n w = (h, n, []) := by rw [b6s ⟨fH, fK⟩ fM, d6b k3 hm]
   refine exD (x1x 3 rfl rfl (x3x rfl rfl r4r rfl rfl rfl rfl (x3x rfl rfl y5y rfl rfl rfl rfl (x0x rfl ⟨by kernel_rfl, x6x ⟨.inr rfl, ?_⟩⟩))))
   (rw [hE]; exact ⟨_, _, rfl, a8t (u := h) (a0g rfl rfl rfl (a3d (l := ([] : List Wo)) rfl .nil))⟩)
  have hi1 : ¬ w.incs.length = 0 := by (intro q; exact hg18 (List.length_eq_zero_iff.1 q))
  refine x1x 2 rfl rfl (z1z rfl rfl (z2z rfl q1q rfl (x1x 3 rfl rfl (z6z rfl rfl ?_ ?_))))<;>intro hg19<;>try simp at hg19
  ·try have hz2 : w.versions.length = 0 := by (rw [hg19]; rfl)
   refine x1x 4 rfl rfl (x8x rfl (fun hc22 => ?_) (fun hc22 => ?_))
   rotate_left
   ·simp at hc22
   try simp at hc22
   have hm : ¬ d7o h w := fun q => by obtain ⟨q1, q2, q3, q4⟩ := q; omega
   have hE : q3q h n w = (h, n, []) := by rw [b6s ⟨fH, fK⟩ fM, d6b k3 hm]
   refine exD (x1x 3 rfl rfl (x3x rfl rfl r4r rfl rfl rfl rfl (x3x rfl rfl y5y rfl rfl rfl rfl (x0x rfl ⟨by kernel_rfl, x6x ⟨.inr rfl, ?_⟩⟩))))
   (rw [hE]; exact ⟨_, _, rfl, a8t (u := h) (a0g rfl rfl rfl (a3d (l := ([] : List Wo)) rfl .nil))⟩)
  have hv1 : ¬ w.versions.length = 0 := by (intro q; exact hg19 (List.length_eq_zero_iff.1 q))
  refine x1x 2 rfl rfl (z1z rfl rfl (z2z rfl v8v rfl (x1x 2 rfl rfl (x8x rfl ?_ ?_))))<;>intro o<;>try simp at o
  ·have hm : ¬ d7o h w := fun q => by obtain ⟨q1, q2, q3, q4⟩ := q; omega
   have hE : q3q h n w = (h, n, []) := by rw [b6s ⟨fH, fK⟩ fM, d6b k3 hm]
   refine exD (x1x 3 rfl rfl (x3x rfl rfl r4r rfl rfl rfl rfl (x3x rfl rfl y5y rfl rfl rfl rfl (x0x rfl ⟨by kernel_rfl, x6x ⟨.inr rfl, ?_⟩⟩))))
   (rw [hE]; exact ⟨_, _, rfl, a8t (u := h) (a0g rfl rfl rfl (a3d (l := ([] : List Wo)) rfl .nil))⟩)
  have hm : d7o h w := ⟨hr, hi1, hv1, by omega⟩
  refine x7x (hK16 _ _ (exD (x1x 3 rfl rfl (x9x rfl rfl rfl (a5e c w (d1b fW)) ?_))))
  refine x9x rfl rfl rfl (a8f h.ones w false (by have := b6p fH.2.1; omega)) ?_
  refine y1y rfl r4r rfl rfl v8v rfl rfl (y9y rfl rfl v8v rfl rfl rfl rfl rfl (by simp only [a0y]; rfl) ?_)
  refine ⟨by kernel_rfl, exA 2 rfl rfl (z2z rfl v8v rfl (v1v rfl rfl rfl (y2y rfl ?_ ?_)))⟩<;>intro o<;>try simp at o
  ·have h3 : ¬ (d5t h w).ones.length = 3 := by show ¬ (a7m w false h.ones false).length = 3; omega
   have hE : q3q h n w = (d5t h w, n, []) := by rw [b6s ⟨fH, fK⟩ fM, f3z k3 hm h3]
   refine x7x (hK10 _ _ (exD (x1x 3 rfl rfl (x3x rfl rfl r4r rfl rfl rfl rfl (x3x rfl rfl y5y rfl rfl rfl rfl (x0x rfl ⟨by kernel_rfl, x6x ⟨.inr rfl, ?_⟩⟩))))))
   (rw [hE]; exact ⟨_, _, rfl, a8t (u := d5t h w) (a0g rfl rfl rfl (a3d (l := ([] : List Wo)) rfl .nil))⟩)
  have h3 : (d5t h w).ones.length = 3 := by show (a7m w false h.ones false).length = 3; omega
  have hE : q3q h n w = ({ d5t h w with twos := [f4u h n] }, n, e3w (f0x h.round)) := by rw [b6s ⟨fH, fK⟩ fM, f3y k3 hm h3]
  refine exA 6 rfl rfl (rlB v7v b0r ?_)
  refine u5u (id := 9) v8v rfl v7v rfl rfl rfl rfl rfl rfl (y1y rfl r4r rfl rfl v8v rfl rfl (y9y rfl rfl v8v rfl rfl rfl rfl rfl (by simp only [a0y]; rfl) ?_))
  refine exD (x1x 4 rfl rfl (rlB v7v b0r ?_))
  refine x9x rfl rfl rfl (b8f 4 0 0 0 0 h.round 0) (x3x rfl rfl r4r rfl rfl rfl rfl (x3x rfl rfl y5y rfl rfl rfl rfl (x0x rfl ⟨by kernel_rfl, x6x ⟨.inr rfl, ?_⟩⟩)))
  (rw [hE]; exact ⟨_, _, rfl, f4i (R := h.round) (a := (d5t h w).ones) (b := h.outs) (k := 5) (f := 0) (t := 0) (i := n.inc) (v := n.version) (r := h.round) (g := 0) rfl (a0g rfl rfl rfl (.cl rfl .nil))⟩)
 try have n3 : ¬ w.kind = 3 := hc15
 refine exA 2 rfl rfl (y2y rfl ?_ ?_)<;>intro hc25<;>try simp at hc25
 ·try have n5 : ¬ w.kind = 5 := hc25
  have hE : q3q h n w = (h, n, []) := by rw [b6s ⟨fH, fK⟩ fM, f5u n7 n3 n5]
  refine x7x (hK10 _ _ (exD (x1x 3 rfl rfl (x3x rfl rfl r4r rfl rfl rfl rfl (x3x rfl rfl y5y rfl rfl rfl rfl (x0x rfl ⟨by kernel_rfl, x6x ⟨.inr rfl, ?_⟩⟩))))))
  (rw [hE]; exact ⟨_, _, rfl, a8t (u := h) (a0g rfl rfl rfl (a3d (l := ([] : List Wo)) rfl .nil))⟩)
 try have k5 : w.kind = 5 := hc25
 refine x2x fun K26 hK26 => ?_
 refine exA 6 rfl rfl (z6z rfl rfl ?_ ?_)<;>intro hg27<;>try simp at hg27
 ·try have hr : ¬ w.round = h.round := hg27
  refine x1x 10 rfl rfl (x8x rfl (fun hc36 => ?_) (fun hc36 => ?_))
  rotate_left
  ·simp at hc36
  try simp at hc36
  have hm : ¬ e3x h w := fun q => by obtain ⟨q1, q2, q3⟩ := q; omega
  have hE : q3q h n w = (h, n, []) := by rw [b6s ⟨fH, fK⟩ fM, e2y k5 hm]
  refine exD (x1x 3 rfl rfl (x3x rfl rfl r4r rfl rfl rfl rfl (x3x rfl rfl y5y rfl rfl rfl rfl (x0x rfl ⟨by kernel_rfl, x6x ⟨.inr rfl, ?_⟩⟩))))
  (rw [hE]; exact ⟨_, _, rfl, a8t (u := h) (a0g rfl rfl rfl (a3d (l := ([] : List Wo)) rfl .nil))⟩)
 try have hr : w.round = h.round := hg27
 refine x1x 2 rfl rfl (z1z rfl rfl (z2z rfl v8v rfl (x1x 3 rfl rfl (z6z rfl rfl ?_ ?_))))<;>intro o<;>try simp at o
 ·refine x1x 4 rfl rfl (x8x rfl (fun hc35 => ?_) (fun hc35 => ?_))
  rotate_left
  ·simp at hc35
  try simp at hc35
  have hm : ¬ e3x h w := fun q => by obtain ⟨q1, q2, q3⟩ := q; omega
  have hE : q3q h n w = (h, n, []) := by rw [b6s ⟨fH, fK⟩ fM, e2y k5 hm]
  refine exD (x1x 3 rfl rfl (x3x rfl rfl r4r rfl rfl rfl rfl (x3x rfl rfl y5y rfl rfl rfl rfl (x0x rfl ⟨by kernel_rfl, x6x ⟨.inr rfl, ?_⟩⟩))))
  (rw [hE]; exact ⟨_, _, rfl, a8t (u := h) (a0g rfl rfl rfl (a3d (l := ([] : List Wo)) rfl .nil))⟩)
 refine x1x 2 rfl rfl (z1z rfl rfl (z2z rfl v8v rfl (x1x 2 rfl rfl (x8x rfl ?_ ?_))))<;>intro o<;>try simp at o
 ·have hm : ¬ e3x h w := fun q => by obtain ⟨q1, q2, q3⟩ := q; omega
  have hE : q3q h n w = (h, n, []) := by rw [b6s ⟨fH, fK⟩ fM, e2y k5 hm]
  refine exD (x1x 3 rfl rfl (x3x rfl rfl r4r rfl rfl rfl rfl (x3x rfl rfl y5y rfl rfl rfl rfl (x0x rfl ⟨by kernel_rfl, x6x ⟨.inr rfl, ?_⟩⟩))))
  (rw [hE]; exact ⟨_, _, rfl, a8t (u := h) (a0g rfl rfl rfl (a3d (l := ([] : List Wo)) rfl .nil))⟩)
 have hm : e3x h w := ⟨hr, by omega, by omega⟩
 refine x7x (hK26 _ _ (exD (x1x 3 rfl rfl (x9x rfl rfl rfl (a5e c w (d1b fW)) ?_))))
 refine x9x rfl rfl rfl (a8f h.twos w false (by have := b6p fH.2.2.1; omega)) ?_
 refine y1y rfl r4r rfl rfl v8v rfl rfl (y9y rfl rfl v8v rfl rfl rfl rfl rfl (by simp only [a0y]; rfl) ?_)
 refine ⟨by kernel_rfl, exR (x5x rfl r4r rfl rfl rfl (x9x rfl rfl rfl (c3p true (b1j h w)) ?_))⟩
 refine x1x 5 rfl rfl (exR (x4x rfl (y2y rfl ?_ ?_)))<;>intro hc30<;>try simp at hc30
 ·have hj : ¬ (a0e (b1j h w)).2 = true := by simpa using hc30
  have hE : q3q h n w = ((b1j h w), n, []) := by rw [b6s ⟨fH, fK⟩ fM, f4b k5 hm hj]
  refine x7x (hK10 _ _ (exD (x1x 3 rfl rfl (x3x rfl rfl r4r rfl rfl rfl rfl (x3x rfl rfl y5y rfl rfl rfl rfl (x0x rfl ⟨by kernel_rfl, x6x ⟨.inr rfl, ?_⟩⟩))))))
  (rw [hE]; exact ⟨_, _, rfl, a8t (u := b1j h w) (a0g rfl rfl rfl (a3d (l := ([] : List Wo)) rfl .nil))⟩)
 have hj : (a0e (b1j h w)).2 = true := hc30
 have hjo := e2w hj
 have hE : q3q h n w = ((b1j h w), (a0i n h.round (a0e (b1j h w)).1).1, b5k (b1j h w) (a0e (b1j h w)).1 2) := by rw [b6s ⟨fH, fK⟩ fM, f4a k5 hm hj]
 refine exA 4 rfl rfl (x9x rfl rfl rfl (b1l c n h.round (a0e (b1j h w)).1) ?_)
 refine x1x 3 rfl rfl (x3x rfl rfl y5y rfl rfl rfl rfl (exA 3 rfl rfl (rlB v7v b0r ?_)))
 refine rlM [13] [_] (c3o 6 0 0 0 0 h.round (a0e (b1j h w)).1) rfl rfl rfl ?_
 refine x0x rfl (x2x fun K31 hK31 => ?_)
 refine exR (x0x rfl (y0y ?_))
 refine z3z (ι := Nat) (fun i γ1 => [(17, pI (i : Int))]) (fun i γ1 => [(13, ((0 + 1), .row 79 11 ((b5k (b1j h w) (a0e (b1j h w)).1 i).map (q2q true))))]) (fun i => i ≤ 2) (fun i => 2 - i) (cK [6, 7, 10, 11, 16] rfl) (hK [0, 1, 2, 3, 4, 5, 6, 7, 8, 9, 10, 11, 12] rfl) 0 (by omega) [] cv (HE.row rfl (by rfl) HE.nil) rfl fun i γ1 hi => ?_
 refine x2x fun K32 hK32 => ?_
 refine exA 2 rfl rfl ?_
 refine a1l (n := 2) rfl v8v rfl rfl (by simp [b5k]) ?_
 refine v1v rfl rfl rfl (y2y rfl ?_ ?_)<;>intro o<;>try simp at o
 ·obtain rfl : i = 2 := by omega
  refine z4z (hK31 _ _ (exD (x1x 3 rfl rfl (x3x rfl rfl r4r rfl rfl rfl rfl (x3x rfl rfl y5y rfl rfl rfl rfl (x0x rfl ⟨by kernel_rfl, x6x ⟨.inr rfl, ?_⟩⟩))))))
  (rw [hE]; exact ⟨_, _, rfl, a8t (u := b1j h w) (d1n (a3d (l := b5k (b1j h w) (a0e (b1j h w)).1 2) rfl .nil))⟩)
 have hi2 : i < 2 := by omega
 have hat := e2u (b1j h w) (a0e (b1j h w)).1 hi2
 have hlen : (b5k (b1j h w) (a0e (b1j h w)).1 i).length = 2 := by simp [b5k]
 obtain ⟨b, hb⟩ : ∃ b, (b1j h w).twos[i + 1]? = some b := ⟨_, List.getElem?_eq_getElem (by have := hjo.2.2.1; omega)⟩
 refine x7x (hK32 _ _ (x2x fun K34 hK34 => ?_))
 refine y0y (exH (x1x 6 rfl rfl ?_))
 refine v2v (j := i) rfl rfl v8v rfl v7v rfl rfl (by omega) ?_
 refine y1y rfl v7v rfl rfl q5q rfl rfl (a1h rfl q5q rfl hat rfl ?_)
 refine y8y (j := i + 1) rfl rfl v8v rfl v7v rfl hb ?_
 refine x1x 2 rfl rfl ?_
 refine v2v (j := i) rfl rfl v8v rfl v7v rfl rfl (by omega) ?_
 refine y1y rfl v7v rfl rfl q5q rfl rfl (b4n (c8d (b1j h w) (a0e (b1j h w)).1 (i + 1)) rfl rfl q5q rfl rfl rfl hat rfl (by decide) (.val rfl rfl .nil) (by rw [show b.inc = (c8d (b1j h w) (a0e (b1j h w)).1 (i + 1)).inc from (e2v hb _).symm]; rfl) rfl ?_)
 refine ⟨by kernel_rfl, hK34 _ _ (exG (x4x rfl (z5z (b := 1) rfl rfl (by omega) (x0x rfl ?_))))⟩
 exact ⟨i + 1, ⟨by omega, by omega⟩, [], cv, cv, (HE.row rfl (by rw [d7r _ _ hi2]) HE.nil), hv, rfl⟩
theorem c4u (c : Bool) (h : Hb) (n : Nd) : a1o Tryz.prog 326 [.agg (a9h true h), .agg (w6w c n)] (a0p true (a8s h n)) := by
 refine pX Tryz.f326 [a0p true (a8s h n)] 8 ?_
 refine exR (z7z (id := 0) rfl rfl rfl (z7z (id := 1) rfl rfl rfl (x0x rfl (exR (z8z (id := 2) q8q rfl w8w rfl (x0x rfl (x2x fun K1 hK1 => ?_)))))))
 refine exR (x5x rfl r4r rfl rfl rfl (x9x rfl rfl rfl (a9q ..) (x1x 2 rfl rfl (z6z rfl rfl ?_ ?_))))<;>intro hg2<;>try simp at hg2
 ·have fX : ¬ (a1f h ∧ u3u n ∧ n.id = 0 ∧ h.outs.length = 2) := fun q => a0z (by simpa using hg2) q.1
  refine x1x 14 rfl rfl (x8x rfl (fun hc18 => ?_) (fun hc18 => ?_))
  rotate_left
  ·simp at hc18
  try simp at hc18
  try have fX : ¬ (a1f h ∧ u3u n ∧ n.id = 0 ∧ h.outs.length = 2) := fun q => by have := q.2.2.2; omega
  refine exA 2 rfl rfl (x6x ⟨.inr rfl, ?_⟩)
  (rw [d1m fX]; exact a5h (l := ([] : List Ou)) rfl rfl (fun _ => rfl) rfl)
 have fH : a1f h := a1x.1 (by simpa using hg2)
 refine x5x rfl y5y rfl rfl rfl (z1z rfl rfl (x9x rfl rfl rfl (r6r ..) (x1x 3 rfl rfl (z6z rfl rfl ?_ ?_))))<;>intro hg3<;>try simp at hg3
 ·try have fX : ¬ (a1f h ∧ u3u n ∧ n.id = 0 ∧ h.outs.length = 2) := fun q => a0z (by simpa using hg3) q.2.1
  refine x1x 9 rfl rfl (x8x rfl (fun hc17 => ?_) (fun hc17 => ?_))
  rotate_left
  ·simp at hc17
  try simp at hc17
  try have fX : ¬ (a1f h ∧ u3u n ∧ n.id = 0 ∧ h.outs.length = 2) := fun q => by have := q.2.2.2; omega
  refine exA 2 rfl rfl (x6x ⟨.inr rfl, ?_⟩)
  (rw [d1m fX]; exact a5h (l := ([] : List Ou)) rfl rfl (fun _ => rfl) rfl)
 have fK : u3u n := a1x.1 (by simpa using hg3)
 refine x1x 5 rfl rfl (z6z rfl rfl ?_ ?_)<;>intro hg4<;>try simp at hg4
 ·try have fX : ¬ (a1f h ∧ u3u n ∧ n.id = 0 ∧ h.outs.length = 2) := fun q => by have := q.2.2.1; omega
  refine x1x 4 rfl rfl (x8x rfl (fun hc16 => ?_) (fun hc16 => ?_))
  rotate_left
  ·simp at hc16
  try simp at hc16
  try have fX : ¬ (a1f h ∧ u3u n ∧ n.id = 0 ∧ h.outs.length = 2) := fun q => by have := q.2.2.2; omega
  refine exA 2 rfl rfl (x6x ⟨.inr rfl, ?_⟩)
  (rw [d1m fX]; exact a5h (l := ([] : List Ou)) rfl rfl (fun _ => rfl) rfl)
 try have hid : n.id = 0 := hg4
 refine x1x 2 rfl rfl (z1z rfl rfl (z2z rfl v8v rfl (x1x 2 rfl rfl (x8x rfl ?_ ?_))))<;>intro o<;>try simp at o
 ·try have fX : ¬ (a1f h ∧ u3u n ∧ n.id = 0 ∧ h.outs.length = 2) := fun q => by have := q.2.2.2; omega
  refine exA 2 rfl rfl (x6x ⟨.inr rfl, ?_⟩)
  (rw [d1m fX]; exact a5h (l := ([] : List Ou)) rfl rfl (fun _ => rfl) rfl)
 have h2 : h.outs.length = 2 := by omega
 have fT : a1f h ∧ u3u n ∧ n.id = 0 ∧ h.outs.length = 2 := ⟨fH, fK, hid, h2⟩
 have hno := (r8r fK.1).2.2.1
 have hwo := d6c fH.2.2.2.1
 refine x7x (hK1 _ _ (exA 3 rfl rfl (exA 3 rfl rfl ?_)))
 refine s1s (zs := n.outs.map a0c) rfl rfl q8q rfl w8w rfl rfl rfl (w3w (fun _ => rfl) _) rfl (by (simp only [a0w, a0q, a0v, a0x, a1t, a3w, T141]; omega)) ?_
 refine x0x rfl (x2x fun K6 hK6 => ?_)
 refine exR (x0x rfl (y0y ?_))
 refine z3z (ι := Nat) (fun i γ1 => [(5, .ref 2 (γ1 2)), (6, pI (a2g n.g (h.outs.take i))), (7, pI (i : Int))]) (fun i γ1 => [(2, ((γ1 2), .row 141 5 ((n.outs ++ (h.outs.take i).flatMap Wo.outs).map a0c))), (4, ((γ1 4), .dead))]) (fun i => i ≤ h.outs.length) (fun i => h.outs.length - i) (y3y 2 rfl Cov.nil) (hK [0, 1, 3, 5, 6, 7] rfl) 0 (by omega) [0, 0, _, 0, _] (y3y 5 rfl (Cov.cons' (t := 6) rfl (rfl) (y3y 7 rfl Cov.nil))) (HE.row rfl (by simp) (HE.kill rfl HE.nil)) rfl fun i γ1 hi => ?_
 refine x2x fun K7 hK7 => ?_
 refine exA 3 rfl rfl (z2z rfl v8v rfl (v1v rfl rfl rfl (x8x rfl ?_ ?_)))<;>intro o<;>try simp at o
 ·obtain ⟨w, hw⟩ := gE h.outs i
  have hw96 := hwo w (List.mem_of_getElem? hw)
  have hfl := a2b (f := Wo.outs) (k := 96) (l := h.outs.take i) fun a ha => hwo a (List.mem_of_mem_take ha)
  have htl : (h.outs.take i).length ≤ 2 := by rw [List.length_take]; omega
  refine x7x (hK7 _ _ (x2x fun K9 hK9 => ?_))
  refine y0y ?_
  refine a0k (ι := Unit) (fun _i γ2 => [(6, pI (a2g n.g (h.outs.take (i + 1))))]) (fun _i γ2 => []) (fun _i => True) (cK [2, 5, 7] rfl) (hK [0, 1, 2, 3, 4, 5, 6, 7] rfl) ?_ fun _i γ2 hi => ?_
  ·refine exA 3 rfl rfl (y8y rfl rfl v8v rfl v7v rfl hw (x1x 4 rfl rfl (y2y rfl ?_ ?_)))<;>intro o<;>try simp at o
   ·have hlt : ¬ w.g < a2g n.g (h.outs.take i) := by omega
    refine x7x ?_
    exact ⟨(), trivial, [], (Cov.cons' (t := 6) rfl (congrArg (fun v : Int => AV.pv (.int .i64 v)) (d6a hw hlt)) Cov.nil), cv, hv, hv, rfl⟩
   have hlt : w.g < a2g n.g (h.outs.take i) := by omega
   refine exG (x1x 3 rfl rfl (y8y rfl rfl v8v rfl v7v rfl hw (x1x 3 rfl rfl ?_)))
   exact ⟨(), trivial, [], (Cov.cons' (t := 6) rfl (congrArg (fun v : Int => AV.pv (.int .i64 v)) (d5z hw hlt)) Cov.nil), cv, hv, hv, rfl⟩
  ·try dsimp only [b3s, b3t]
   refine exG (x1x 4 rfl rfl (y8y rfl rfl v8v rfl v7v rfl hw (x1x 2 rfl rfl ?_)))
   refine s1s (zs := (n.outs ++ (h.outs.take i).flatMap Wo.outs ++ w.outs).map a0c) rfl rfl q8q rfl w8w rfl rfl rfl (w3w (fun _ => rfl) _) (a9u _ _ _) (by (simp only [a0w, a0q, a0v, a0x, a1t, a3w, T141]; omega)) ?_
   refine x0x rfl (hK9 _ _ (exG (x4x rfl (z5z (b := 1) rfl rfl (by omega) (x0x rfl ?_)))))
   exact ⟨i + 1, ⟨by omega, by omega⟩, [0, 0, _, 0, _], cv, cv, (HE.row rfl (by rw [a6b hw, List.append_assoc]) (HE.kill rfl HE.nil)), hv, rfl⟩
 obtain rfl : i = h.outs.length := by omega
 rw [List.take_length]
 refine z4z (hK6 _ _ ?_)
 have hall : (n.outs ++ h.outs.flatMap Wo.outs).length ≤ 10000 := by have hfl := a2b (f := Wo.outs) (k := 96) (l := h.outs) hwo; rw [List.length_append]; omega
 obtain ⟨A, hA⟩ : ∃ A, A = (n.outs ++ h.outs.flatMap Wo.outs) := ⟨_, rfl⟩
 rw [← hA] at hall ⊢
 refine a1e 5 rfl rfl (fun _ => rfl) ?_
 refine exR (z8z (id := 5) q8q rfl w8w rfl (x0x rfl (x2x fun K11 hK11 => ?_)))
 refine exR (x0x rfl (y0y ?_))
 refine z3z (ι := Nat) (fun j γ3 => [(8, .ref 5 (γ3 5)), (9, pI (j : Int))]) (fun j γ3 => [(5, ((γ3 5), .row 141 5 (((A.take j).filter (d3m (a2g n.g h.outs))).map a0c))), (6, ((γ3 6), .dead)), (7, ((γ3 7), .dead))]) (fun j => j ≤ A.length) (fun j => A.length - j) (cK [5, 6] rfl) (hK [0, 1, 2, 3, 4] rfl) 0 (by omega) [0, 0, 0, 0, 0, _, _, _] cv (HE.row rfl (by rw [List.take_zero]; rfl) (HE.kill rfl (HE.kill rfl HE.nil))) rfl fun j γ3 hi => ?_
 refine x2x fun K12 hK12 => ?_
 refine exA 2 rfl rfl (z2z rfl q8q rfl (v1v rfl rfl rfl (y2y rfl ?_ ?_)))<;>intro o<;>try simp at o
 ·obtain rfl : j = A.length := by omega
  have hfl3 : (A.filter (d3m (a2g n.g h.outs))).length ≤ 10000 := Nat.le_trans (List.length_filter_le _ _) (by omega)
  refine z4z (hK11 _ _ ?_)
  rw [List.take_length]
  refine a1e 8 rfl rfl (fun _ => rfl) ?_
  refine exR (x4x rfl (x9x rfl rfl rfl (a5c true (A.filter (d3m (a2g n.g h.outs))) (by omega)) ?_))
  refine x0x rfl (x6x ⟨.inr rfl, ?_⟩)
  (rw [e7z fT, ← hA]; exact y6y rfl rfl rfl)
 obtain ⟨p, hp⟩ := gE A j
 have hfl2 : ((A.take j).filter (d3m (a2g n.g h.outs))).length ≤ 10000 := Nat.le_trans (List.length_filter_le _ _) (by rw [List.length_take]; omega)
 refine x7x (hK12 _ _ (x2x fun K14 hK14 => ?_))
 refine y0y (exA 2 rfl rfl (y8y rfl rfl q8q rfl w8w rfl hp (x1x 4 rfl rfl (y2y rfl ?_ ?_))))<;>intro o<;>try simp at o
 ·have hq : ¬ d3m (a2g n.g h.outs) p = true := fun q => by have := of_decide_eq_true q; omega
  refine x7x (hK14 _ _ (exG (x4x rfl (z5z (b := 1) rfl rfl (by omega) (x0x rfl ?_)))))
  exact ⟨j + 1, ⟨by omega, by omega⟩, [0, 0, 0, 0, 0, _, _, _], cv, cv, (HE.row rfl (by rw [a1m hp]; rw [if_neg hq, List.append_nil]) (HE.kill rfl (HE.kill rfl HE.nil))), hv, rfl⟩
 have hq : d3m (a2g n.g h.outs) p = true := decide_eq_true (by omega)
 refine exG (x1x 3 rfl rfl (y8y rfl rfl q8q rfl w8w rfl hp ?_))
 refine v9v (out := .agg (a0c p)) rfl w8w rfl ?_
 refine u5u (id := 6) q8q rfl w8w rfl rfl rfl rfl rfl rfl ?_
 refine u6u (zs := ((A.take j).filter (d3m (a2g n.g h.outs)) ++ [p]).map a0c) rfl rfl q8q rfl w8w rfl rfl rfl rfl (by rfl) (w7w _ _ _) (by (simp only [a0w, a0q, a0v, a0x, a1t, a3w, T141]; omega)) ?_
 refine x0x rfl (hK14 _ _ (exG (x4x rfl (z5z (b := 1) rfl rfl (by omega) (x0x rfl ?_)))))
 exact ⟨j + 1, ⟨by omega, by omega⟩, [0, 0, 0, 0, 0, _, _, _], cv, cv, (HE.row rfl (by rw [a1m hp]; rw [if_pos hq]) (HE.kill rfl (HE.kill rfl HE.nil))), hv, rfl⟩
end
section
variable {P : Program} {tt : TT} {ops : Array Oper} {r : List Oper} {fr : Fr} {h : Hp} {lg : Log} {K : Fr → Hp → Log → Prop} {d : Nat} {ty : TypeId} {pos : String} {af : Array Edge}
variable {id : Nat}
theorem f1q (hh : z9z h id = some (g, .row t sz ys)) : src h (.cut id g lo hi) = some (sz, (ys.take hi).drop lo, [(id, (g, .row t sz ys))]) := by simp [src, hh]
theorem b4v {α : Type} {f : α → List AV} {t e : Nat} {x y : Operand} {S E : TS} {l l2 l' : List α} {id g id2 g2 ty2 lo hi : Nat} (hx : evO fr x = some (.ref id g)) (hy : evO fr y = some (.cut id2 g2 lo hi)) (hs : tt t = some S) (hk : S.kind = .sl e) (he : tt e = some E) (h2 : Nat.ble 1 E.size = true) (h3 : Nat.ble 1 E.bytes = true) (hh : z9z h id = some (g, .row e E.size (l.map f))) (hh2 : z9z h id2 = some (g2, .row ty2 E.size (l2.map f)))
  (how : ((((l2.take hi).drop lo).map f).flatten.all fun c => !c.isOw) = true) (hz : l ++ (l2.take hi).drop lo = l') (h4 : l'.length * E.bytes ≤ 140737488355328) (k : p4p P tt ops r ((d, .ref id (g + 1)) :: fr) ((id, (g + 1, .row e E.size (l'.map f))) :: h) (([id, id2], [id]) :: lg) K) :
  p4p P tt ops (⟨some d, .call { callee := .builtin .append, args := #[x, y], argTypes := #[t, t] }, ty, pos, af, none⟩ :: r) fr h lg K := by
 subst hz
 exact d8x hx hy hs hk he h2 h3 hh (f1q hh2) (by rw [← List.map_take, ← List.map_drop]; exact how) (by rw [← List.map_take, ← List.map_drop, ← List.map_append]) (by rw [List.length_map]; exact h4) k
section
variable {n : Nat} {Q : Exit → Fr → Hp → Prop} {B : Base} {X0 : Cx} {w0 : World}
variable {jg tg i m : Nat} {wg : Bool} {f : FuncId} {x : Operand} {args : Array Operand} {at' : Array TypeId} {fi cap avs A0 : List AV} {I0 T : Hp} {ι : Type}

theorem e3i {okι : ι → Prop} {kpF : ι → List Nat} {OF : ι → AV} {UF : ι → Hp}
  (L gs : List Nat) (hM : MethE P f m A0 I0 okι kpF OF UF) (ho : ops[i]? = some ⟨some d, .call { callee := .value x, args := args, argTypes := at' }, ty, pos, af, some (jg, wg)⟩) (hjg : s4s ops jg = some tg) (hf' : evO fr x = some (.fn (.func f) fi cap)) (ha : evL (evO fr) args.toList = some avs) (he : fi ++ avs ++ cap = A0.map (inT (gl L) (gl gs))) (hn : L.Nodup) (hL : L.length = m)
  (hT : I0.map (a3n (gl L) (gl gs)) = T) {out : ι → AV} {W : ι → Hp} (hout : ∀ j, inT (gl L) (nx (kpF j) (gl gs)) (OF j) = out j) (hW : ∀ j, (UF j).map (a3n (gl L) (nx (kpF j) (gl gs))) = W j)
  {X : Cx} {B : Base} {h : HF} {a : Act} {w : World} {Q : Exit → Act → World → Prop} {K : Act → World → Prop} (hS : SRh X B h w) (hgv : VR X w (.pv (.bool wg)) (a.tmps.getD tg undef)) (hin : ∀ t av, (t, av) ∈ c4f fr ⟨some d, .call { callee := .value x, args := args, argTypes := at' }, ty, pos, af, some (jg, wg)⟩ → VR X w av (a.tmps.getD t undef)) (hent : ∀ id ge, (id, ge) ∈ T → h id = some ge)
  (hK : ∀ j, okι j → ∀ X' w' v, X.le X' → SRh X' B (a9j h (W j)) w' → (∀ b, X.ok2 b → w'.heap[b]? = w.heap[b]?) → VR X' w' (out j) v → K (a.put (s4s ops i) v) w') : wpOp P ops Q i K a w := by
 subst hT
 obtain rfl : out = fun j => inT (gl L) (nx (kpF j) (gl gs)) (OF j) := (funext hout).symm
 obtain rfl : W = fun j => (UF j).map (a3n (gl L) (nx (kpF j) (gl gs))) := (funext hW).symm
 have hC := b8u hM L (gl gs) hn hL
 rw [← he] at hC
 obtain ⟨⟨fn, code, h1, h2, h3⟩, hC⟩ := hC
 have hd : s4s ops i = some d := by simp [s4s, ho]
 rw [hd] at hK
 have hop : ∀ y ∈ (Op.call { callee := .value x, args := args, argTypes := at' }).operands, ∀ av, evO fr y = some av → VR X w av (a.eval y) := fun y hy => c1k hin (fun t ht av hav => a2u.2 ⟨⟨y, hy, ht⟩, hav⟩)
 have hxv := hop x (by simp [Op.operands, Call.operands]) _ hf'
 obtain ⟨us, vs, e1, hl1, hl2, r1, r2⟩ := hxv.fn_inv
 obtain ⟨k1, k2⟩ := b8q (X := X) (w := w) (a := a) args.toList avs ha (fun y hy => hop y (by
  simp only [Op.operands, Call.operands, Array.mem_append]
  exact .inr (by simpa using hy)))
 have hr := hC X B _ w (us ++ args.toList.map a.eval ++ vs) hS (by simp [hl1, hl2, ← k1]) (a8j (by simp [hl1, ← k1]) (a8j hl1 r1 k2) r2) hent
 have hargs : us.toArray ++ args.map a.eval ++ vs.toArray = (us ++ args.toList.map a.eval ++ vs).toArray := by
  apply Array.ext'
  simp
 unfold wpOp
 rw [ho]
 simp only [Region.wanted, b5w hjg hgv, beq_self_eq_true, if_true]
 refine .inl ?_
 unfold Oper.wp
 have hx2 : ∀ o : Oper, o.op = .call { callee := .value x, args := args, argTypes := at' } → (execOp a.eval o).run P w = .ok (.enter f (us ++ args.toList.map a.eval ++ vs).toArray) w := fun o e => by
  rw [← hargs]
  simp only [execOp, e, resolve, e1, Deferred.ofValue, Sem.run_bind, Sem.run_pure, Result.andThen_ok, invoke]
  have h4 : fn.name ≠ "runtime.NumGoroutine" := by simpa using h2
  simp [callFunc, h1, h4, h3]
 rw [hx2 _ rfl, Oper.upon_enter]
 refine hr.mono fun e w' hh => ?_
 obtain ⟨out, W, ⟨j, hj, rfl, rfl⟩, v, rfl, X', g1, g2, g3, g4⟩ := hh
 exact hK j hj X' w' v g1 g2 g3 g4

theorem e3j {okι : ι → Prop} {kpF : ι → List Nat} {OF : ι → AV} {UF : ι → Hp}
  (L gs : List Nat) (hM : MethE P f m A0 I0 okι kpF OF UF) (ho : ops[i]? = some ⟨some d, .call { callee := .value x, args := args, argTypes := at' }, ty, pos, af, some (jg, wg)⟩) (hjg : s4s ops jg = some tg) (hgv : fr.get tg = some (.pv (.bool wg))) (hdn : Nat.blt d n = true) (hf' : evO fr x = some (.fn (.func f) fi cap)) (ha : evL (evO fr) args.toList = some avs) (he : fi ++ avs ++ cap = A0.map (inT (gl L) (gl gs))) (hn : L.Nodup) (hL : L.length = m)
  (hT : I0.map (a3n (gl L) (gl gs)) = T) (hi : InH h T) {out : ι → AV} {W : ι → Hp} (hout : ∀ j, inT (gl L) (nx (kpF j) (gl gs)) (OF j) = out j) (hW : ∀ j, (UF j).map (a3n (gl L) (nx (kpF j) (gl gs))) = W j)
  (k : ∀ j, okι j → d1u P n ops Q B X0 w0 (i + 1) ((d, out j) :: fr) (W j ++ h)) : d1u P n ops Q B X0 w0 i fr h := fun X a w hX hw hS hF hdf => by
 have hlt : i < ops.size := (Array.getElem?_eq_some_iff.1 ho).1
 have hd : s4s ops i = some d := by simp [s4s, ho]
 rw [show ops.size - i = (ops.size - (i + 1)) + 1 from by omega, List.range'_succ, wpOps_cons]
 refine e3i L gs hM ho hjg hf' ha he hn hL hT hout hW hS (by
  obtain ⟨v, q1, q2⟩ := hF.slot tg _ hgv
  rw [Array.getD_eq_getD_getElem?, q1]
  exact q2) (fun t av hm => ?_) (fun id ge hm => hi _ hm) fun j hj X' w' v g1 g2 g3 g4 => ?_
 ·obtain ⟨v, q1, q2⟩ := hF.slot t av (a2u.1 hm).2
  rw [Array.getD_eq_getD_getElem?, q1]
  exact q2
 ·rw [← b5u] at g2
  rw [hd]
  refine k j hj X' _ w' (hX.trans g1) (fun b hb => (g3 b (hX.ok2 b hb)).trans (hw b hb)) g2 ?_ hdf
  have := (hF.mono g1 hS.ok12 g3).put (some d) g4 (fun q hq => by cases hq; exact a7e hdn)
  rw [show Fr.get ((d, out j) :: fr) = c0z fr.get (some d) (out j) from a7x fr (some d) _]
  exact this

theorem f5z (t : Nat) (hg : fr.get t = some (.pv (.bool b))) (k1 : b = true → d1u P n ops Q B X0 w0 i ((t, .pv (.bool true)) :: fr) h) (k2 : b = false → d1u P n ops Q B X0 w0 i ((t, .pv (.bool false)) :: fr) h) : d1u P n ops Q B X0 w0 i fr h := by
 have e : Fr.get ((t, .pv (.bool b)) :: fr) = fr.get := by
  rw [show Fr.get ((t, AV.pv (.bool b)) :: fr) = c0z fr.get (some t) (.pv (.bool b)) from a7x fr (some t) _]
  funext q
  simp only [c0z]
  split
  ·rename_i hq; subst hq; exact hg.symm
  ·rfl
 cases b with
 | true => exact fun X a w hX hw hS hF hdf => k1 rfl X a w hX hw hS (e ▸ hF) hdf
 | false => exact fun X a w hX hw hS hF hdf => k2 rfl X a w hX hw hS (e ▸ hF) hdf
end
section
variable {n : Nat} {Q : Exit → Fr → Hp → Prop}
end
end
section
variable {W : Tw} {i : Nat}
theorem a6f (h : b9l W) {m : Nd} (hm : ndI m) : b9l { W with nodes := W.nodes.set i m } := ⟨h.1, by show (W.nodes.set i m).length = 3; rw [List.length_set]; exact h.2.1, f5v h.2.2.1 hm, h.2.2.2⟩
variable {r : List Wo}
theorem a6y (h : b9l W) (h1 : r.length ≤ 40) (h2 : ∀ x ∈ r, c8f x) : b9l { W with radio := r } := ⟨h.1, h.2.1, h.2.2.1, h1, h2, h.2.2.2.2.2⟩
theorem d1p (h : b9l W) {u : Hb} (hu : a1f u) : b9l { W with hub := u } := ⟨h.1, h.2.1, h.2.2.1, h.2.2.2.1, h.2.2.2.2.1, hu, h.2.2.2.2.2.2⟩
theorem f1r (h : b9l W) {s : List Ou} (hs : s.length ≤ 1000000) : b9l { W with sink := s } := ⟨h.1, h.2.1, h.2.2.1, h.2.2.2.1, h.2.2.2.2.1, h.2.2.2.2.2.1, hs⟩
theorem b4d (h : b9l W) (hi : i ≤ 2) : ∃ n, W.nodes[i]? = some n ∧ ndI n := by
 obtain ⟨n, hn⟩ := f1h h.2.1 i (by omega)
 exact ⟨n, hn, h.2.2.1 n (List.mem_of_getElem? hn)⟩
variable {m : List Wo}
theorem b4e (h : b9l W) (k : ∀ x ∈ m, c8f x) : b9l { W with radio := b2e W.radio m } := a6y h (e6i h.2.2.2.1) (e6j h.2.2.2.2.1 k)
theorem e3k {w : Wo} (h : m[i]? = some w) (hl : (r ++ m.take i).length < 40) : r ++ m.take i ++ [w] = r ++ m.take (i + 1) := by rw [w0w h, List.append_assoc]
theorem d6f (hr : r.length ≤ 40) (hi : i ≤ m.length) (h40 : r.length + i ≤ 40) (h : ¬ (i < m.length ∧ r.length + i < 40)) : r ++ m.take i = b2e r m := by
 unfold b2e
 rcases Nat.lt_or_ge i m.length with h1 | h1
 ·rw [show 40 - r.length = i from by omega]
 ·rw [List.take_of_length_le h1, List.take_of_length_le (by omega)]
variable {h : Hb} {n : Nd}
theorem e6r : (a8s h n).length ≤ 10000 := by
 by_cases k : a1f h ∧ u3u n ∧ n.id = 0 ∧ h.outs.length = 2
 ·rw [e7z k, b4s]
  have hno := (r8r k.2.1.1).2.2.1
  have hwo := d6c k.1.2.2.2.1
  have hfl := a2b (f := Wo.outs) (k := 96) (l := h.outs) hwo
  refine Nat.le_trans (List.length_filter_le _ _) ?_
  rw [List.length_append]; omega
 ·rw [d1m k]; exact Nat.zero_le _

def kpB : Bool → List Nat
 | true => [0]
 | false => [0, 1]
def kpS : List Wo → List Nat
 | [] => [0]
 | _ :: _ => []
theorem d3o (γ : Nat → Nat) (b : Bool) (f : List Nat → Nat → Nat) (h0 : f [γ 0, γ 1] 0 = γ 0) (h1 : f [γ 0, γ 1] 1 = γ 1) : (kpB b).map (f [γ 0, γ 1]) = (kpB b).map γ := by
 cases b <;> simp [kpB, h0, h1]
theorem c3s (k : a1f h ∧ u3u n) : ((s9s h n).2.2 = [] ∧ ¬ n.led < (s9s h n).2.1.led) ∨ n.led < (s9s h n).2.1.led := by
 by_cases m : a5i n
 ·rw [d3i k m]; exact .inr (by show n.led < n.led + 1; omega)
 ·rw [c3d k m]; exact .inl ⟨rfl, by show ¬ n.led < n.led; omega⟩
variable {j : Nat}
theorem e3l (h : b9l W) : (W.radio.take j ++ W.radio.drop (j + 1)).length ≤ 40 := by
 have := h.2.2.2.1
 simp only [List.length_append, List.length_take, List.length_drop]; omega
theorem e3m (h : b9l W) : ∀ q ∈ W.radio.take j ++ W.radio.drop (j + 1), c8f q := fun q hq =>
 h.2.2.2.2.1 q ((List.mem_append.1 hq).elim List.mem_of_mem_take List.mem_of_mem_drop)
theorem f1s {W T : Tw} (h : b9l W) (k : b9l T) : b9l { W with nodes := T.nodes } := ⟨h.1, k.2.1, k.2.2.1, h.2.2.2⟩
theorem b2h (bs : List Nat) (p n : Nat) : pk bs p n ≤ n := by
 rcases Nat.eq_zero_or_pos n with h | h
 ·subst h; unfold pk; rw [if_pos (.inl (by omega))]; exact Nat.le_refl _
 ·exact Nat.le_of_lt (a4t bs p n h)

def pSm (S : Sm) (p : Nat) : Sm := ⟨S.w, S.list, p⟩
theorem a4d {S : Sm} {c d p : Nat} (h : smOk S c) (hd : c ≤ d) (hp : p ≤ d) : smOk (pSm S p) d := ⟨h.1, Nat.le_trans h.2.1 hd, hp⟩

def f4v (l : List Ru) : Prop := ∀ (i : Nat) r, l[i]? = some r → r.kind = (i : Int) ∧ c8z r
theorem ru0 {k : Int} : c8z ⟨k, []⟩ := ⟨fun o h => (by cases h), Nat.zero_le _, Nat.zero_le _, Nat.zero_le _⟩
theorem f4l {l : List Ru} (hl : l.length ≤ 3) (h : f4v l) : e2c ⟨l⟩ := ⟨by show l.length ≤ 4; omega, fun i r hr => by
 have hi : i < l.length := (List.getElem?_eq_some_iff.1 hr).1
 have h1 := h i r hr
 refine ⟨by omega, h1.2, fun p h0 hp => ?_⟩
 have h2 := h _ p hp
 omega⟩
theorem f4m {l : List Ru} {ops : List Op_} {q q1 q2 : Nat} (h : f4v l) (ho : c8z ⟨(l.length : Int), ops⟩) (hl : l.length < 3) (h3 : q1 ≤ q + 40 * l.length) (h4 : q2 ≤ q1 + 40) : (l ++ [(⟨(l.length : Int), ops⟩ : Ru)]).length ≤ 3 ∧ f4v (l ++ [(⟨(l.length : Int), ops⟩ : Ru)]) ∧ q2 ≤ q + 40 * (l ++ [(⟨(l.length : Int), ops⟩ : Ru)]).length := by
 rw [List.length_append]
 refine ⟨by show l.length + 1 ≤ 3; omega, fun i r hr => ?_, by show q2 ≤ q + 40 * (l.length + 1); omega⟩
 rcases Nat.lt_or_ge i l.length with hi | hi
 ·rw [List.getElem?_append_left hi] at hr; exact h i r hr
 ·rw [List.getElem?_append_right hi] at hr
  cases e : i - l.length with
  | zero => rw [e] at hr; cases hr; exact ⟨by show (l.length : Int) = (i : Int); omega, ho⟩
  | succ n => rw [e] at hr; simp at hr
variable {l : List Ap}
theorem f4n {rs : List Ru} {p0 q q1 : Nat} (h : ∀ a ∈ l, e2c a) (ha : e2c ⟨rs⟩) (hl : l.length < 4) (h3 : q ≤ p0 + 120 * l.length) (h4 : q1 ≤ q + 40 * rs.length) (hr : rs.length ≤ 3) : (l ++ [(⟨rs⟩ : Ap)]).length ≤ 4 ∧ (∀ a ∈ l ++ [(⟨rs⟩ : Ap)], e2c a) ∧ q1 ≤ p0 + 120 * (l ++ [(⟨rs⟩ : Ap)]).length := by
 rw [List.length_append]
 refine ⟨by show l.length + 1 ≤ 4; omega, fun a hm => ?_, by show q1 ≤ p0 + 120 * (l.length + 1); omega⟩
 rcases List.mem_append.1 hm with hm | hm
 ·exact h a hm
 ·rw [List.mem_singleton.1 hm]; exact ha
theorem e6s (h : a7l l) : b9l ⟨0, l, a9z 3, [], hb0, []⟩ := ⟨h, rfl, fun n hn => by
 obtain ⟨i, hi, rfl⟩ := List.mem_map.1 hn
 have := List.mem_range.1 hi
 exact f1j _ (by omega), Nat.zero_le _, fun x h => (by cases h), e2p, Nat.zero_le _⟩
variable {p c : Nat}
theorem e6t (h : a7l l) (hp : p ≤ c) : smOk ⟨⟨0, l, a9z 3, [], hb0, []⟩, [], p⟩ c := ⟨e6s h, Nat.zero_le _, hp⟩
end
section
theorem c0l (r : List Wo) (hr : r.length ≤ 40) : Meth Tryz.prog 312 1 [0] [.ref 0 0, r1r true ([] : List Wo)] [(0, (0, .row 79 11 ((r).map (q2q true))))] (.ref 0 0) [(0, (0, .row 79 11 ((r).map (q2q true))))] := by
 refine mX Tryz.f312 [.ref 0 0] 1 2 fun γ => ?_
 refine exR (x0x rfl (x2x fun K1 hK1 => ?_))
 refine exR (x0x rfl (y0y ?_))
 refine z3z (ι := Nat) (fun i γ1 => [(0, .ref 0 (γ 0)), (5, pI (i : Int))]) (fun i γ1 => [(0, ((γ 0), .row 79 11 ((r).map (q2q true)))), (1, ((γ1 1), .dead)), (2, ((γ1 2), .dead))]) (fun i => i = 0) (fun i => i) (y3y 1 rfl Cov.nil) HE.nil 0 rfl [0, _, _] cv hv rfl fun i γ1 hi => ?_
 subst hi
 refine x2x fun K2 hK2 => ?_
 refine exA 2 rfl rfl (z2z rfl v8v rfl (x1x 2 rfl rfl (d6q rfl rfl (fun hg3 => ?_) (fun hg3 => ?_))))
 ·(simp at hg3; done)
 try simp at hg3
 refine x1x 3 rfl rfl (x8x rfl (fun hc5 => ?_) (fun hc5 => ?_))
 ·(simp at hc5; done)
 try simp at hc5
 refine z4z (hK1 _ _ (exA 2 rfl rfl (x6x ?_)))
 exact ⟨.inr rfl, [γ 0], rfl, rfl, hv⟩
theorem c0m (r m : List Wo) (hr : r.length ≤ 40) : Meth Tryz.prog 312 1 [] [.ref 0 0, r1r true m] [(0, (0, .row 79 11 ((r).map (q2q true))))] (.ref 0 0) [(0, (0, .row 79 11 ((b2e r m).map (q2q true))))] := by
 refine mX Tryz.f312 [.ref 0 0] 1 2 fun γ => ?_
 refine exR (x0x rfl (x2x fun K1 hK1 => ?_))
 refine exR (x0x rfl (y0y ?_))
 refine z3z (ι := Nat) (fun i γ1 => [(0, .ref 0 (γ1 0)), (5, pI (i : Int))]) (fun i γ1 => [(0, ((γ1 0), .row 79 11 ((r ++ m.take i).map (q2q true)))), (1, ((γ1 1), .dead)), (2, ((γ1 2), .dead))]) (fun i => i ≤ m.length ∧ r.length + i ≤ 40) (fun i => m.length - i) (y3y 1 rfl Cov.nil) HE.nil 0 ⟨Nat.zero_le _, hr⟩ [_, _, _] cv (HE.row rfl (by simp) (HE.kill rfl (HE.kill rfl HE.nil))) rfl fun i γ1 hi => ?_
 obtain ⟨h1, h2⟩ := hi
 have hl : (r ++ m.take i).length = r.length + i := by simp; omega
 refine x2x fun K2 hK2 => ?_
 refine exA 2 rfl rfl (z2z rfl v8v rfl (x1x 2 rfl rfl (z6z rfl rfl ?_ ?_)))<;>intro h<;>try simp at h
 ·refine x1x 3 rfl rfl (x8x rfl (fun hc6 => ?_) (fun hc6 => ?_))
  ·simp at hc6
  try simp at hc6
  refine z4z (hK1 _ _ (exA 2 rfl rfl (x6x ?_)))
  exact ⟨.inr rfl, [_], rfl, rfl, HE.row rfl (by rw [d6f hr h1 h2 (by omega)]) HE.nil⟩
 refine x4x rfl (z1z rfl rfl ?_)
 refine a1l (n := r.length + i) rfl v8v rfl rfl (by rw [List.length_map]; exact hl) ?_
 refine x1x 2 rfl rfl (y2y rfl ?_ ?_)<;>intro h<;>try simp at h
 ·refine z4z (hK1 _ _ (exA 2 rfl rfl (x6x ?_)))
  exact ⟨.inr rfl, [_], rfl, rfl, HE.row rfl (by rw [d6f hr h1 h2 (by omega)]) HE.nil⟩
 obtain ⟨w, hw⟩ := gE m i
 refine x7x (hK2 _ _ (x2x fun K5 hK5 => ?_))
 refine y0y (exG (x1x 3 rfl rfl (y8y rfl rfl v8v rfl v7v rfl hw (u4u rfl v7v rfl rfl (u5u (id := 1) v8v rfl v7v rfl rfl rfl rfl rfl rfl ?_)))))
 refine u6u (zs := (r ++ m.take i ++ [w]).map (q2q true)) rfl rfl v8v rfl v7v rfl rfl rfl rfl (by rfl) (w7w (q2q true) _ w) (by (simp only [a0w, a0q, a0v, a0x, a1t, a3w, T79]; omega)) ?_
 refine x0x rfl (hK5 _ _ (exG (x4x rfl (z5z (b := 1) rfl rfl (by omega) (x0x rfl ?_)))))
 exact ⟨i + 1, ⟨⟨by omega, by omega⟩, by omega⟩, [_, _, _], cv, cv, (HE.row rfl (by rw [← e3k hw (by rw [hl]; omega)]) (HE.kill rfl (HE.kill rfl HE.nil))), hv, rfl⟩
theorem a1z (r m : List Wo) (hr : r.length ≤ 40) : Meth Tryz.prog 312 1 (kpS m) [.ref 0 0, r1r true m] [(0, (0, .row 79 11 ((r).map (q2q true))))] (.ref 0 0) [(0, (0, .row 79 11 ((b2e r m).map (q2q true))))] := by
 cases m with
 | nil =>
  have e : b2e r [] = r := by simp [b2e]
  rw [e]; exact c0l r hr
 | cons x l => exact c0m r (x :: l) hr
end
section
theorem b4f (c : Bool) (n : Nd) : a1o Tryz.prog 54 [.agg (w6w c n)] (.agg (w6w true (u7u n))) := by
 refine pX Tryz.f54 [.agg (w6w true (u7u n))] 6 ?_
 refine exR (z7z (id := 0) rfl rfl rfl (y7y (id := 1) y5y s5s rfl (x2x fun K1 hK1 => ?_)))
 refine exR (x5x rfl y5y rfl rfl rfl (x9x rfl rfl rfl (r6r ..) (a1k rfl (x8x rfl ?_ ?_))))<;>intro hc2<;>try simp at hc2
 ·have fX : ¬ u3u n := a0z (by simpa using hc2)
  refine exR (rlB y5y s5s ?_)
  refine x3x rfl rfl y5y rfl rfl rfl rfl (x6x ⟨.inr rfl, ?_⟩)
  (rw [c5v fX]; exact ⟨_, _, rfl, e1x⟩)
 have fK : u3u n := a1x.1 (by simpa using hc2)
 have fS := fK.1
 have fB := r8r fS
 have fb := b9d fS
 refine x7x (hK1 _ _ (exR (x5x rfl y5y rfl rfl rfl ?_)))
 refine rlM [3, 4, 5] [_, _, _] (a6q c n fb.1 fb.2.1 fb.2.2.1 fb.2.2.2.1) rfl rfl rfl ?_
 refine y7y (id := 2) y5y s5s rfl (x3x rfl rfl y5y rfl rfl rfl rfl (exR (y1y rfl y5y rfl rfl d7x rfl rfl (y9y rfl rfl d7x rfl rfl rfl rfl rfl (by simp only [a0y]; rfl) ?_))))
 refine exR (x5x rfl y5y rfl rfl rfl (x3x rfl rfl y5y rfl rfl rfl rfl (x6x ⟨.inr rfl, ?_⟩)))
 (rw [a6o fK]; exact ⟨_, _, rfl, b6l (n := ({ s8s n with up := false } : Nd)) rfl rfl rfl⟩)
theorem b4g (c : Bool) (n : Nd) : a1o Tryz.prog 58 [.agg (w6w c n)] (.agg (w6w true (w4w n))) := by
 refine pX Tryz.f58 [.agg (w6w true (w4w n))] 6 ?_
 refine exR (z7z (id := 0) rfl rfl rfl (y7y (id := 1) y5y s5s rfl (x2x fun K1 hK1 => ?_)))
 refine exR (x5x rfl y5y rfl rfl rfl (x9x rfl rfl rfl (r6r ..) (a1k rfl (x8x rfl ?_ ?_))))<;>intro hc2<;>try simp at hc2
 ·have fX : ¬ u3u n := a0z (by simpa using hc2)
  refine exR (rlB y5y s5s ?_)
  refine x3x rfl rfl y5y rfl rfl rfl rfl (x6x ⟨.inr rfl, ?_⟩)
  (rw [c5w fX]; exact ⟨_, _, rfl, e1x⟩)
 have fK : u3u n := a1x.1 (by simpa using hc2)
 have fS := fK.1
 have fB := r8r fS
 have fb := b9d fS
 refine x7x (hK1 _ _ (x2x fun K3 hK3 => ?_))
 refine exD (x1x 3 rfl rfl (z6z rfl rfl ?_ ?_))<;>intro j<;>try simp at j
 ·refine x1x 4 rfl rfl ⟨by kernel_rfl, x8x rfl (fun hc6 => ?_) (fun hc6 => ?_)⟩
  rotate_left
  ·simp at hc6
  try simp at hc6
  have fU : n.up = true ∨ 9999 ≤ n.inc := by (simp_all; done)
  refine exR (x5x rfl y5y rfl rfl rfl ?_)
  refine rlM [3, 4, 5] [_, _, _] (u1u c n fb) rfl rfl rfl ?_
  refine x3x rfl rfl y5y rfl rfl rfl rfl (x6x ⟨.inr rfl, ?_⟩)
  (rw [a6p fK fU]; exact ⟨_, _, rfl, b6l rfl rfl rfl⟩)
 refine x1x 2 rfl rfl (z1z rfl rfl (x9x rfl rfl rfl (w5w ..) (x1x 2 rfl rfl ⟨by kernel_rfl, x8x rfl ?_ ?_⟩)))<;>intro hc5<;>try simp at hc5
 ·have fU : n.up = true ∨ 9999 ≤ n.inc := .inr hc5
  refine exR (x5x rfl y5y rfl rfl rfl ?_)
  refine rlM [3, 4, 5] [_, _, _] (u1u c n fb) rfl rfl rfl ?_
  refine x3x rfl rfl y5y rfl rfl rfl rfl (x6x ⟨.inr rfl, ?_⟩)
  (rw [a6p fK fU]; exact ⟨_, _, rfl, b6l rfl rfl rfl⟩)
 have fU : ¬ (n.up = true ∨ 9999 ≤ n.inc) := by rintro (h | h) <;> first | omega | (simp_all; done)
 refine x7x (hK3 _ _ (exR (x5x rfl y5y rfl rfl rfl ?_)))
 refine rlM [3, 4, 5] [_, _, _] (a6q c n fb.1 fb.2.1 fb.2.2.1 fb.2.2.2.1) rfl rfl rfl ?_
 refine y7y (id := 2) y5y s5s rfl (x3x rfl rfl y5y rfl rfl rfl rfl (exR (y1y rfl y5y rfl rfl d7x rfl rfl (y9y rfl rfl d7x rfl rfl rfl rfl rfl (by simp only [a0y]; rfl) ?_))))
 refine exA 2 rfl rfl ?_
 refine a0r (.int .i64 (n.inc + 1)) rfl rfl rfl (a7f rfl rfl (by have := fS.1.2.1; omega) (by have := fS.1.2.1; omega)) ?_
 refine y1y rfl y5y rfl rfl q5q rfl rfl (y9y rfl rfl q5q rfl rfl rfl rfl rfl (by simp only [a0y]; rfl) ?_)
 refine exR (y1y rfl y5y rfl rfl q5q rfl rfl (y9y rfl rfl q5q rfl rfl rfl rfl rfl (by simp only [a0y]; rfl) ?_))
 refine exR (x5x rfl y5y rfl rfl rfl (x3x rfl rfl y5y rfl rfl rfl rfl (x6x ⟨.inr rfl, ?_⟩)))
 (rw [b1a fK fU]; exact ⟨_, _, rfl, b6l (n := ({ s8s n with up := true, inc := n.inc + 1, version := 1 } : Nd)) rfl rfl rfl⟩)
end
section
theorem c3t (c : Bool) (n : Nd) : a1o Tryz.prog 49 [.agg (w6w c n)] (r1r true (c2j n)) := by
 refine pX Tryz.f49 [r1r true (c2j n)] 8 ?_
 refine exR (z7z (id := 0) rfl rfl rfl (x0x rfl (exR (z8z (id := 1) v8v rfl v7v rfl (x0x rfl (x2x fun K1 hK1 => ?_))))))
 refine exR (x5x rfl y5y rfl rfl rfl (x9x rfl rfl rfl (r6r ..) (x1x 2 rfl rfl (z6z rfl rfl ?_ ?_))))<;>intro hg2<;>try simp at hg2
 ·have fX : ¬ (u3u n ∧ n.up = true) := fun h => a0z (by simpa using hg2) h.1
  refine x1x 3 rfl rfl (x8x rfl (fun hc11 => ?_) (fun hc11 => ?_))
  rotate_left
  ·simp at hc11
  try simp at hc11
  refine exA 2 rfl rfl (x6x ⟨.inr rfl, ?_⟩)
  (rw [e0w fX]; exact a5h (l := ([] : List Wo)) rfl rfl (fun _ => rfl) rfl)
 have fK : u3u n := a1x.1 (by simpa using hg2)
 have fS := fK.1
 have fB := r8r fS
 have fV := fS.2.2.2.2.2.1
 refine x1x 4 rfl rfl (x8x rfl ?_ ?_)<;>intro hc3<;>try simp at hc3
 ·have fX : ¬ (u3u n ∧ n.up = true) := by (intro h; simp_all; done)
  refine exA 2 rfl rfl (x6x ⟨.inr rfl, ?_⟩)
  (rw [e0w fX]; exact a5h (l := ([] : List Wo)) rfl rfl (fun _ => rfl) rfl)
 have fU : n.up = true := hc3
 refine x7x (hK1 _ _ (x2x fun K4 hK4 => ?_))
 refine exR (x0x rfl (y0y ?_))
 refine z3z (ι := Nat) (fun i γ1 => [(3, .ref 1 (γ1 1)), (4, pI (i : Int))]) (fun i γ1 => [(1, ((γ1 1), .row 79 11 ((a7i n i).map (q2q true)))), (2, ((γ1 2), .dead)), (3, ((γ1 3), .dead))]) (fun i => i ≤ 3) (fun i => 3 - i) (y3y 1 rfl Cov.nil) (hK [0, 4, 5, 6, 7] rfl) 0 (by omega) [0, _, _, _] cv (HE.row rfl (by rfl) (HE.kill rfl (HE.kill rfl HE.nil))) rfl fun i γ1 hi => ?_
 refine x2x fun K5 hK5 => ?_
 refine exA 2 rfl rfl (x8x rfl ?_ ?_)<;>intro j<;>try simp at j
 ·refine x7x (hK5 _ _ (x2x fun K7 hK7 => ?_))
  refine y0y (exA 4 rfl rfl (y2y rfl ?_ ?_))<;>intro hc8<;>try simp at hc8
  ·have hto : (i : Int) = n.id := hc8
   refine x7x (hK7 _ _ ?_)
   skip
   refine exG (x4x rfl (p7p rfl rfl rfl (x0x rfl ?_)))
   exact ⟨i + 1, ⟨by omega, by omega⟩, [0, _, _, _], (y3y 3 rfl (Cov.cons' (t := 4) rfl (by rw [u2u (by omega) (by omega)]; rfl) Cov.nil)), cv, (HE.row rfl (by rw [d5e hto]) (HE.kill rfl (HE.kill rfl HE.nil))), hv, rfl⟩
  have hto : ¬ (i : Int) = n.id := hc8
  have htl := d0q fS (i : Int)
  have htn := c2i n i
  refine exH (x1x 12 rfl rfl ?_)
  refine x9x rfl rfl rfl (a8v c n i (by omega) fS.2.2.2.2.2.2.1 (by have := b4r fS; omega) (by omega)) ?_
  refine rlB v7v b0r ?_
  refine u5u (id := 2) v8v rfl v7v rfl rfl rfl rfl rfl rfl ?_
  refine u6u (zs := (a7i n i).map (q2q true) ++ [[pI (b3j n (i : Int)).kind, pI (b3j n (i : Int)).from', pI (b3j n (i : Int)).to, pI (b3j n (i : Int)).inc, pI (b3j n (i : Int)).version, pI (b3j n (i : Int)).round, pI (b3j n (i : Int)).g, .pv (.slice none 0 0), .pv (.slice none 0 0), a1y true (a4c n (i : Int)), .pv (.slice none 0 0)]]) rfl rfl v8v rfl v7v rfl rfl rfl rfl rfl rfl (by (simp only [a0w, a0q, a0v, a0x, a1t, a3w, T79] at *; omega)) ?_
  refine x0x rfl ⟨by kernel_rfl, hK7 _ _ ?_⟩
  refine e7o 1 rfl (LeLs.snoc (x' := q2q true (b3j n (i : Int))) (.same (.same (.same (.same (.same (.same (.same (.le rfl .nil rfl (.le rfl .nil rfl (.same (.le rfl .nil rfl .nil))))))))))) _) ?_
  refine exG (x4x rfl (p7p rfl rfl rfl (x0x rfl ?_)))
  exact ⟨i + 1, ⟨by omega, by omega⟩, [0, _, _, _], (y3y 3 rfl (Cov.cons' (t := 4) rfl (by rw [u2u (by omega) (by omega)]; rfl) Cov.nil)), cv, (HE.row rfl (by (rw [d5c hto, List.map_append]; rfl)) (HE.kill rfl (HE.kill rfl HE.nil))), hv, rfl⟩
 obtain rfl : i = 3 := by omega
 have htn := c2i n 3
 refine z4z (hK4 _ _ (x2x fun K9 hK9 => ?_))
 refine exA 3 rfl rfl (y2y rfl ?_ ?_)<;>intro hc10<;>try simp at hc10
 ·have h0 : n.id = 0 := hc10
  refine x7x (hK9 _ _ ?_)
  skip
  refine exA 2 rfl rfl (x6x ⟨.inr rfl, ?_⟩)
  (rw [e9t ⟨fK, fU⟩ h0]; exact a5h rfl rfl (fun _ => rfl) rfl)
 have h0 : ¬ n.id = 0 := hc10
 refine exH (x1x 5 rfl rfl (z8z (id := 4) q8q rfl w8w rfl (x1x 2 rfl rfl ?_)))
 refine a2o s3s (zs := (n.outs).map a0c) rfl rfl q8q rfl w8w rfl rfl rfl (w3w (fun _ => rfl) _) rfl (by (simp only [a0w, a0q, a0v, a0x, a1t, a3w, T141] at *; omega)) (Le.ow_map _ (fun _ => rfl) (fun _ => rfl)) ?_
 refine rlB v7v b0r ?_
 refine u5u (id := 6) v8v rfl v7v rfl rfl rfl rfl rfl rfl ?_
 refine u6u (zs := (a7i n 3).map (q2q true) ++ [[pI (c2h n).kind, pI (c2h n).from', pI (c2h n).to, pI (c2h n).inc, pI (c2h n).version, pI (c2h n).round, pI (c2h n).g, .pv (.slice none 0 0), .pv (.slice none 0 0), .pv (.slice none 0 0), a0p true n.outs]]) rfl rfl v8v rfl v7v rfl rfl rfl rfl rfl rfl (by (simp only [a0w, a0q, a0v, a0x, a1t, a3w, T79] at *; omega)) ?_
 refine x0x rfl ⟨by kernel_rfl, hK9 _ _ ?_⟩
 (refine e7o 1 rfl (LeLs.snoc (x' := q2q true (c2h n)) (.same (.same (.same (.same (.same (.same (.same (.le rfl .nil rfl (.le rfl .nil rfl (.le rfl .nil rfl (.same .nil))))))))))) _) ?_; refine b3f 1 (xs' := (a7i n 3 ++ [c2h n]).map (q2q true)) rfl (by rw [List.map_append]; rfl) ?_)
 refine exA 2 rfl rfl (x6x ⟨.inr rfl, ?_⟩)
 (rw [e9u ⟨fK, fU⟩ h0]; exact a5h rfl rfl (fun _ => rfl) rfl)
end
section
theorem c4v (W : Tw) (ek en ep ew : Int) (eb : Bool) (hW : b9l W) : MethE Tryz.prog 309 2 [.agg [pI W.time, a6k true W.apps, .ref 0 0, .ref 1 0, pI W.hub.round, r1r true W.hub.ones, r1r true W.hub.twos, r1r true W.hub.outs, a0p true W.sink], .agg [pI ek, pI en, pI ep, pI ew, .pv (.bool eb)]] [(0, (0, .row 65 13 ((W.nodes).map (w6w true)))), (1, (0, .row 79 11 ((W.radio).map (q2q true))))] (ι := Tw × Bool) (fun S' => b9l S'.1 ∧ (S'.2 = false → S'.1.radio = W.radio)) (fun S' => kpB S'.2) (fun S' => .tup [.agg [pI S'.1.time, a6k true S'.1.apps, .ref 0 0, .ref 1 0, pI S'.1.hub.round, r1r true S'.1.hub.ones, r1r true S'.1.hub.twos, r1r true S'.1.hub.outs, a0p true S'.1.sink], .pv (.bool (S'.2))]) (fun S' => [(0, (0, .row 65 13 ((S'.1.nodes).map (w6w true)))), (1, (0, .row 79 11 ((S'.1.radio).map (q2q true))))]) := by
 refine mE (ι := Tw × Bool) Tryz.f309 (fun S' => [.agg [pI S'.1.time, a6k true S'.1.apps, .ref 0 0, .ref 1 0, pI S'.1.hub.round, r1r true S'.1.hub.ones, r1r true S'.1.hub.twos, r1r true S'.1.hub.outs, a0p true S'.1.sink], .pv (.bool (S'.2))]) 2 6 fun γ => ?_
 refine exR (z7z (id := 2) rfl rfl rfl (z7z (id := 3) rfl rfl rfl (y7y (id := 4) r2r b8t rfl (x0x rfl (x2x fun K1 hK1 => ?_)))))
 refine exA 2 rfl rfl (x9x rfl rfl rfl (u8u ..) (a1k rfl (x8x rfl ?_ ?_)))<;>intro hc2<;>try simp at hc2
 ·refine exR (x5x rfl r2r rfl rfl rfl (x3x rfl rfl r2r rfl rfl rfl rfl (x0x rfl (x6x ?_))))
  exact ⟨.inr rfl, (W, false), ⟨hW, (fun _ => rfl)⟩, [γ 0, γ 1], rfl, rfl, hv⟩
 have hen : 0 ≤ en ∧ en ≤ 2 := hc2
 obtain ⟨k, rfl⟩ : ∃ k : Nat, en = (k : Int) := ⟨en.toNat, by omega⟩
 obtain ⟨n, hnd, hnI⟩ := b4d hW (i := k) (by omega)
 have hA := hW.1
 have hr40 := hW.2.2.2.1
 refine x7x (hK1 _ _ (exA 4 rfl rfl ?_))
 refine v2v (j := k) rfl rfl a6l rfl y5y rfl rfl (v5v hnd) ?_
 refine q7q rfl y5y rfl (by assumption) rfl rfl ?_
 refine y7y (id := 5) y5y s5s rfl (x3x rfl rfl y5y rfl rfl rfl rfl (x2x fun K3 hK3 => ?_))
 refine y0y (exA 4 rfl rfl (x8x rfl ?_ ?_))<;>intro o<;>try simp at o
 ·refine exR (x5x rfl y5y rfl rfl rfl (x9x rfl rfl rfl (b4g true n) (y7y (id := 6) y5y s5s rfl (x3x rfl rfl y5y rfl rfl rfl rfl (exA 5 rfl rfl ?_)))))
  refine v2v (j := k) rfl rfl a6l rfl y5y rfl rfl (v5v hnd) ?_
  refine q9q (el' := w4w n) rfl rfl y5y rfl rfl rfl hnd rfl (a0j rfl) rfl rfl ?_
  refine exD (x1x 6 rfl rfl (x3x rfl rfl r2r rfl rfl rfl rfl (x0x rfl ⟨by kernel_rfl, x6x ?_⟩)))
  exact ⟨.inr rfl, ({ W with nodes := W.nodes.set k (w4w n) }, decide ((w4w n).inc > n.inc)), ⟨a6f hW (f4g hnI), (fun _ => rfl)⟩, [γ 0, γ 1], (d3o γ _ gl rfl rfl), rfl, hv⟩
 refine exA 4 rfl rfl (x8x rfl ?_ ?_)<;>intro o<;>try simp at o
 ·refine exR (x5x rfl r2r rfl rfl rfl (x3x rfl rfl r2r rfl rfl rfl rfl (x0x rfl (x6x ?_))))
  exact ⟨.inr rfl, (W, false), ⟨hW, (fun _ => rfl)⟩, [γ 0, γ 1], rfl, rfl, hv⟩
 refine exA 4 rfl rfl (x8x rfl ?_ ?_)<;>intro o<;>try simp at o
 ·refine a1b fun B X0 w0 => ?_
  refine txR 5 rfl rfl (x1x 5 rfl rfl ?_)
  refine txM [] [] (c3n W.apps n ep hnI hA) rfl rfl rfl rfl fun j hj => ?_
  refine txR 6 rfl rfl (x1x 3 rfl rfl (y7y (id := 7) y5y s5s rfl (x3x rfl rfl y5y rfl rfl rfl rfl (x0x rfl (w1w rfl (exA 5 rfl rfl ?_))))))
  refine v2v (j := k) rfl rfl a6l rfl y5y rfl rfl (v5v hnd) ?_
  refine q9q (el' := j.1) rfl rfl y5y rfl rfl rfl hnd rfl (a0j rfl) rfl rfl ?_
  refine exA 2 rfl rfl (x3x rfl rfl r2r rfl rfl rfl rfl (x0x rfl (x6x ?_)))
  exact ⟨.inr rfl, ({ W with nodes := W.nodes.set k j.1 }, j.2), ⟨a6f hW hj, (fun _ => rfl)⟩, [γ 0, γ 1], (d3o γ _ gl rfl rfl), rfl, hv⟩
 refine exA 4 rfl rfl (x8x rfl ?_ ?_)<;>intro o<;>try simp at o
 ·refine exD (x1x 3 rfl rfl (x9x rfl rfl rfl (c3t true n) ?_))
  refine rlM [1] [_] (a1z W.radio (c2j n) hr40) rfl rfl rfl ?_
  refine y1y rfl r2r rfl rfl v8v rfl rfl (y9y rfl rfl v8v rfl rfl rfl rfl rfl (by simp only [a0y]; rfl) ?_)
  refine ⟨by kernel_rfl, exR (x5x rfl r2r rfl rfl rfl (x3x rfl rfl r2r rfl rfl rfl rfl (x0x rfl (x6x ?_))))⟩
  exact ⟨.inr rfl, ({ W with radio := b2e W.radio (c2j n) }, true), ⟨b4e hW (e6f hnI.1), (fun h => by cases h)⟩, [γ 0, _], rfl, rfl, hv⟩
 refine x7x (hK3 _ _ (exD (x1x 5 rfl rfl (x9x rfl rfl rfl (b4f true n) ?_))))
 refine v2v (j := k) rfl rfl a6l rfl y5y rfl rfl (v5v hnd) ?_
 refine q9q (el' := u7u n) rfl rfl y5y rfl rfl rfl hnd rfl (a0j rfl) rfl rfl ?_
 refine ⟨by kernel_rfl, x2x fun K8 hK8 => ?_⟩
 refine exA 3 rfl rfl (y2y rfl ?_ ?_)<;>intro o<;>try simp at o
 ·refine x7x (hK8 _ _ ?_)
  skip
  refine exR (x5x rfl r2r rfl rfl rfl (x3x rfl rfl r2r rfl rfl rfl rfl (x0x rfl (x6x ?_))))
  exact ⟨.inr rfl, ({ W with nodes := W.nodes.set k (u7u n) }, true), ⟨a6f hW (e8b hnI), (fun h => by cases h)⟩, [γ 0, γ 1], rfl, rfl, hv⟩
 obtain rfl : k = 0 := by omega
 refine exG (rlB r4r b5y ?_)
 refine y1y rfl r2r rfl rfl r4r rfl rfl (a1v rfl rfl r4r rfl rfl rfl rfl (a1d rfl) rfl ?_)
 refine hK8 _ _ ?_
 refine e7m 2 rfl (.same (.same (.same (.same (.same (.le (b := r1r true ([] : List Wo)) rfl .nil rfl (.le (b := r1r true ([] : List Wo)) rfl .nil rfl (.le (b := r1r true ([] : List Wo)) rfl .nil rfl (LeCs.refl _))))))))) ?_
 refine exR (x5x rfl r2r rfl rfl rfl (x3x rfl rfl r2r rfl rfl rfl rfl (x0x rfl (x6x ?_))))
 exact ⟨.inr rfl, ({ W with nodes := W.nodes.set 0 (u7u n), hub := hb0 }, true), ⟨d1p (a6f hW (e8b hnI)) e2p, (fun h => by cases h)⟩, [γ 0, γ 1], rfl, rfl, hv⟩
end
section
theorem c3u (W : Tw) (ek en ep ew : Int) (eb : Bool) (hW : b9l W) : MethE Tryz.prog 310 2 [.agg [pI W.time, a6k true W.apps, .ref 0 0, .ref 1 0, pI W.hub.round, r1r true W.hub.ones, r1r true W.hub.twos, r1r true W.hub.outs, a0p true W.sink], .agg [pI ek, pI en, pI ep, pI ew, .pv (.bool eb)]] [(0, (0, .row 65 13 ((W.nodes).map (w6w true)))), (1, (0, .row 79 11 ((W.radio).map (q2q true))))] (ι := Tw × Bool) (fun S' => b9l S'.1 ∧ (S'.2 = false → S'.1.radio = W.radio)) (fun S' => kpB S'.2) (fun S' => .tup [.agg [pI S'.1.time, a6k true S'.1.apps, .ref 0 0, .ref 1 0, pI S'.1.hub.round, r1r true S'.1.hub.ones, r1r true S'.1.hub.twos, r1r true S'.1.hub.outs, a0p true S'.1.sink], .pv (.bool (S'.2))]) (fun S' => [(0, (0, .row 65 13 ((S'.1.nodes).map (w6w true)))), (1, (0, .row 79 11 ((S'.1.radio).map (q2q true))))]) := by
 refine mE (ι := Tw × Bool) Tryz.f310 (fun S' => [.agg [pI S'.1.time, a6k true S'.1.apps, .ref 0 0, .ref 1 0, pI S'.1.hub.round, r1r true S'.1.hub.ones, r1r true S'.1.hub.twos, r1r true S'.1.hub.outs, a0p true S'.1.sink], .pv (.bool (S'.2))]) 2 11 fun γ => ?_
 have hr40 := hW.2.2.2.1
 refine exR (z7z (id := 2) rfl rfl rfl (z7z (id := 3) rfl rfl rfl (y7y (id := 4) r2r b8t rfl (x0x rfl (x2x fun K1 hK1 => ?_)))))
 refine exA 4 rfl rfl ?_
 refine a1l (n := W.radio.length) rfl v8v rfl rfl (List.length_map _) ?_
 refine a0r (.int .i64 ((W.radio.length : Int) - 1)) rfl rfl rfl (a7f rfl (by omega) (by omega) (by omega)) ?_
 refine x9x rfl rfl rfl (u8u ..) (a1k rfl (x8x rfl ?_ ?_))<;>intro hc2<;>try simp at hc2
 ·refine exR (x5x rfl r2r rfl rfl rfl (x3x rfl rfl r2r rfl rfl rfl rfl (x0x rfl (x6x ?_))))
  exact ⟨.inr rfl, (W, false), ⟨hW, (fun _ => rfl)⟩, [γ 0, γ 1], rfl, rfl, hv⟩
 have hr40 := hW.2.2.2.1
 have hew : 0 ≤ ew ∧ ew ≤ (W.radio.length : Int) - 1 := hc2
 obtain ⟨j, rfl⟩ : ∃ j : Nat, ew = (j : Int) := ⟨ew.toNat, by omega⟩
 have hjl : j < W.radio.length := by omega
 obtain ⟨x, hx⟩ := gE W.radio j
 have hxr := hW.2.2.2.2.1 x (List.mem_of_getElem? hx)
 obtain ⟨n0, h0, h0I⟩ := b4d hW (i := 0) (by omega)
 have hHb := hW.2.2.2.2.2.1
 refine x7x (hK1 _ _ (exA 4 rfl rfl ?_))
 refine v2v (j := j) rfl rfl v8v rfl v7v rfl rfl hjl ?_
 refine q7q rfl v7v rfl (by assumption) rfl rfl ?_
 refine y7y (id := 5) v7v b0r rfl (x3x rfl rfl v7v rfl rfl rfl rfl (x2x fun K3 hK3 => ?_))
 refine exA 4 rfl rfl (z6z rfl rfl ?_ ?_)<;>intro o<;>try simp at o
 ·refine x1x 3 rfl rfl (x8x rfl (fun hc20 => ?_) (fun hc20 => ?_))
  rotate_left
  ·simp at hc20
  try simp at hc20
  refine exH (z8z (id := 6) v8v rfl v7v rfl (x1x 4 rfl rfl (d4n s3s rfl v8v rfl v7v rfl rfl rfl rfl (by omega) (by omega) (by (simp only [a0w]; omega)) ?_)))
  refine b4v (f := q2q true) (l := ([] : List Wo)) (l2 := W.radio) (l' := W.radio.take j) rfl rfl v8v rfl v7v rfl rfl rfl rfl (w3w (fun _ => rfl) _) (by (simp; done)) (by simp only [a1t, b3r, a0q, T79]; omega) ?_
  refine x1x 4 rfl rfl (a0r (.int .i64 ((j + 1 : Nat) : Int)) rfl rfl rfl (a7f rfl (by omega) (by omega) (by omega)) ?_)
  refine d4n s3s rfl v8v rfl v7v rfl rfl rfl rfl (by omega) (by (simp only [a0w]; omega)) (by omega) ?_
  refine b4v (f := q2q true) (l := W.radio.take j) (l2 := W.radio) (l' := (W.radio.take j ++ W.radio.drop (j + 1))) rfl rfl v8v rfl v7v rfl rfl rfl rfl (w3w (fun _ => rfl) _) (by (simp; done)) (by simp only [a1t, b3r, a0q, T79]; omega) ?_
  refine y1y rfl r2r rfl rfl v8v rfl rfl (y9y rfl rfl v8v rfl rfl rfl rfl rfl (by simp only [a0y]; rfl) ?_)
  refine ⟨by kernel_rfl, hK3 _ _ (x2x fun K21 hK21 => ?_)⟩
  (refine e2f 2 6 1 rfl rfl rfl rfl rfl rfl rfl ?_; obtain ⟨r, er, hr1, hr2⟩ : ∃ r, (W.radio.take j ++ W.radio.drop (j + 1)) = r ∧ r.length ≤ 40 ∧ ∀ q ∈ r, c8f q := ⟨_, rfl, e3l hW, e3m hW⟩; rw [er])
  refine exA 3 rfl rfl (x8x rfl ?_ ?_)<;>intro o<;>try simp at o
  ·refine exR (x5x rfl r2r rfl rfl rfl (x3x rfl rfl r2r rfl rfl rfl rfl (x0x rfl (x6x ?_))))
   exact ⟨.inr rfl, ({ W with radio := r }, true), ⟨a6y hW hr1 hr2, (fun h => by cases h)⟩, [γ 0, _], rfl, rfl, hv⟩
  refine x7x (hK21 _ _ (exR (z8z (id := 9) v8v rfl v7v rfl (x0x rfl (x2x fun K23 hK23 => ?_)))))
  refine a0k (ι := Bool) (fun b γ3 => [(73, .pv (.bool (b)))]) (fun b γ3 => []) (fun b => True) (cK [2, 4, 6] rfl) (hK [0, 1, 2, 3, 4, 5, 6, 7, 8, 9, 10, 11, 12] rfl) ?_ fun b γ3 hi => ?_
  ·refine exG (x1x 4 rfl rfl (z6z rfl rfl ?_ ?_))<;>intro o<;>try simp at o
   ·refine x1x 13 rfl rfl ?_
    exact ⟨_, trivial, [], cv, cv, hv, hv, rfl⟩
   refine x1x 4 rfl rfl (z6z rfl rfl ?_ ?_)<;>intro o<;>try simp at o
   ·refine x1x 9 rfl rfl ?_
    exact ⟨_, trivial, [], cv, cv, hv, hv, rfl⟩
   refine x1x 5 rfl rfl (z6z rfl rfl ?_ ?_)<;>intro o<;>try simp at o
   ·refine x1x 4 rfl rfl ?_
    exact ⟨_, trivial, [], cv, cv, hv, hv, rfl⟩
   refine x1x 5 rfl rfl ?_
   exact ⟨_, trivial, [], cv, cv, hv, hv, rfl⟩
  ·try dsimp only [b3s, b3t]
   refine y2y rfl ?_ ?_<;>intro o<;>try simp at o
   ·obtain ⟨q, hq⟩ : ∃ q : Nat, x.to = (q : Int) := ⟨x.to.toNat, by have := hxr.1; omega⟩
    obtain ⟨n, hnd, hnI⟩ := b4d hW (i := q) (by have := hxr.1; omega)
    refine exD (x1x 3 rfl rfl ?_)
    refine v3v (out := pI x.to) rfl q5q rfl rfl ?_
    rw [hq]
    refine v2v (j := q) rfl rfl a6l rfl y5y rfl rfl (v5v hnd) ?_
    refine q7q rfl y5y rfl (by assumption) rfl rfl ?_
    refine x5x rfl v7v rfl rfl rfl (x9x rfl rfl rfl (a8x true n x) (x1x 3 rfl rfl (y7y (id := 12) y5y s5s rfl (x3x rfl rfl y5y rfl rfl rfl rfl (x0x rfl ⟨by kernel_rfl, exA 3 rfl rfl ?_⟩)))))
    refine v3v (out := pI x.to) rfl q5q rfl rfl ?_
    rw [hq]
    refine x5x rfl y5y rfl rfl rfl ?_
    refine v2v (j := q) rfl rfl a6l rfl y5y rfl rfl (v5v hnd) ?_
    refine q9q (el' := (r9r n x).1) rfl rfl y5y rfl rfl rfl hnd rfl (a0j rfl) rfl rfl ?_
    refine exG (x1x 2 rfl rfl (hK23 _ _ (exA 3 rfl rfl ?_)))
    refine rlM [1] [_] (a1z r (r9r n x).2 hr1) rfl rfl rfl ?_
    refine y1y rfl r2r rfl rfl v8v rfl rfl (y9y rfl rfl v8v rfl rfl rfl rfl rfl (by simp only [a0y]; rfl) ?_)
    refine exR (x5x rfl r2r rfl rfl rfl (x3x rfl rfl r2r rfl rfl rfl rfl (x0x rfl (x6x ?_))))
    exact ⟨.inr rfl, ({ W with nodes := W.nodes.set q (r9r n x).1, radio := b2e r (r9r n x).2 }, true), ⟨b4e (W := { W with nodes := _, radio := r }) (a6y (a6f hW (e3b hnI x)) hr1 hr2) (c8g hnI.1 x), (fun h => by cases h)⟩, [γ 0, _], rfl, rfl, hv⟩
   refine exD (y1y rfl r2r rfl rfl r4r rfl rfl ?_)
   refine v3v (out := .agg (a9h true W.hub)) rfl r4r rfl rfl ?_
   refine x1x 2 rfl rfl (v2v (j := 0) rfl rfl a6l rfl y5y rfl rfl (v5v h0) (q7q rfl y5y rfl (by assumption) rfl rfl ?_))
   refine x5x rfl v7v rfl rfl rfl (x9x rfl rfl rfl (b0e true W.hub n0 x) (x1x 4 rfl rfl (y7y (id := 10) r4r b5y rfl (y7y (id := 11) y5y s5s rfl (x3x rfl rfl r4r rfl rfl rfl rfl (x3x rfl rfl y5y rfl rfl rfl rfl (x0x rfl ⟨by kernel_rfl, exA 2 rfl rfl (a1v rfl rfl r4r rfl rfl rfl rfl (a1d rfl) rfl ?_)⟩)))))))
   refine exA 3 rfl rfl (v2v (j := 0) rfl rfl a6l rfl y5y rfl rfl (v5v h0) ?_)
   refine q9q (el' := (q3q W.hub n0 x).2.1) rfl rfl y5y rfl rfl rfl h0 rfl (a0j rfl) rfl rfl ?_
   refine exG (x1x 2 rfl rfl (hK23 _ _ (exA 3 rfl rfl ?_)))
   refine rlM [1] [_] (a1z r (q3q W.hub n0 x).2.2 hr1) rfl rfl rfl ?_
   refine y1y rfl r2r rfl rfl v8v rfl rfl (y9y rfl rfl v8v rfl rfl rfl rfl rfl (by simp only [a0y]; rfl) ?_)
   refine exR (x5x rfl r2r rfl rfl rfl (x3x rfl rfl r2r rfl rfl rfl rfl (x0x rfl (x6x ?_))))
   exact ⟨.inr rfl, ({ W with nodes := W.nodes.set 0 (q3q W.hub n0 x).2.1, radio := b2e r (q3q W.hub n0 x).2.2, hub := (q3q W.hub n0 x).1 }, true), ⟨b4e (W := { W with nodes := _, radio := r, hub := _ }) (a6y (d1p (a6f hW (c8h h0I hHb x)) (b3o h0I.1 hHb x)) hr1 hr2) (b9k W.hub n0 x), (fun h => by cases h)⟩, [γ 0, _], rfl, rfl, hv⟩
 refine x1x 4 rfl rfl (y2y rfl ?_ ?_)<;>intro o<;>try simp at o
 ·refine x7x (hK3 _ _ (x2x fun K13 hK13 => ?_))
  (obtain ⟨r, er, hr1, hr2⟩ : ∃ r, W.radio = r ∧ r.length ≤ 40 ∧ ∀ q ∈ r, c8f q := ⟨_, rfl, hW.2.2.2.1, hW.2.2.2.2.1⟩; rw [er])
  refine exA 3 rfl rfl (x8x rfl ?_ ?_)<;>intro o<;>try simp at o
  ·refine exR (x5x rfl r2r rfl rfl rfl (x3x rfl rfl r2r rfl rfl rfl rfl (x0x rfl (x6x ?_))))
   exact ⟨.inr rfl, ({ W with radio := r }, true), ⟨a6y hW hr1 hr2, (fun h => by cases h)⟩, [γ 0, _], rfl, rfl, hv⟩
  refine x7x (hK13 _ _ (exR (z8z (id := 9) v8v rfl v7v rfl (x0x rfl (x2x fun K15 hK15 => ?_)))))
  refine a0k (ι := Bool) (fun b γ2 => [(73, .pv (.bool (b)))]) (fun b γ2 => []) (fun b => True) (cK [2, 4, 6] rfl) (hK [0, 1, 2, 3, 4, 5, 6, 7, 8, 9, 10, 11, 12] rfl) ?_ fun b γ2 hi => ?_
  ·refine exG (x1x 4 rfl rfl (z6z rfl rfl ?_ ?_))<;>intro o<;>try simp at o
   ·refine x1x 13 rfl rfl ?_
    exact ⟨_, trivial, [], cv, cv, hv, hv, rfl⟩
   refine x1x 4 rfl rfl (z6z rfl rfl ?_ ?_)<;>intro o<;>try simp at o
   ·refine x1x 9 rfl rfl ?_
    exact ⟨_, trivial, [], cv, cv, hv, hv, rfl⟩
   refine x1x 5 rfl rfl (z6z rfl rfl ?_ ?_)<;>intro o<;>try simp at o
   ·refine x1x 4 rfl rfl ?_
    exact ⟨_, trivial, [], cv, cv, hv, hv, rfl⟩
   refine x1x 5 rfl rfl ?_
   exact ⟨_, trivial, [], cv, cv, hv, hv, rfl⟩
  ·try dsimp only [b3s, b3t]
   refine y2y rfl ?_ ?_<;>intro o<;>try simp at o
   ·obtain ⟨q, hq⟩ : ∃ q : Nat, x.to = (q : Int) := ⟨x.to.toNat, by have := hxr.1; omega⟩
    obtain ⟨n, hnd, hnI⟩ := b4d hW (i := q) (by have := hxr.1; omega)
    refine exD (x1x 3 rfl rfl ?_)
    refine v3v (out := pI x.to) rfl q5q rfl rfl ?_
    rw [hq]
    refine v2v (j := q) rfl rfl a6l rfl y5y rfl rfl (v5v hnd) ?_
    refine q7q rfl y5y rfl (by assumption) rfl rfl ?_
    refine x5x rfl v7v rfl rfl rfl (x9x rfl rfl rfl (a8x true n x) (x1x 3 rfl rfl (y7y (id := 12) y5y s5s rfl (x3x rfl rfl y5y rfl rfl rfl rfl (x0x rfl ⟨by kernel_rfl, exA 3 rfl rfl ?_⟩)))))
    refine v3v (out := pI x.to) rfl q5q rfl rfl ?_
    rw [hq]
    refine x5x rfl y5y rfl rfl rfl ?_
    refine v2v (j := q) rfl rfl a6l rfl y5y rfl rfl (v5v hnd) ?_
    refine q9q (el' := (r9r n x).1) rfl rfl y5y rfl rfl rfl hnd rfl (a0j rfl) rfl rfl ?_
    refine exG (x1x 2 rfl rfl (hK15 _ _ (exA 3 rfl rfl ?_)))
    refine rlM [1] [_] (a1z r (r9r n x).2 hr1) rfl rfl rfl ?_
    refine y1y rfl r2r rfl rfl v8v rfl rfl (y9y rfl rfl v8v rfl rfl rfl rfl rfl (by simp only [a0y]; rfl) ?_)
    refine exR (x5x rfl r2r rfl rfl rfl (x3x rfl rfl r2r rfl rfl rfl rfl (x0x rfl (x6x ?_))))
    exact ⟨.inr rfl, ({ W with nodes := W.nodes.set q (r9r n x).1, radio := b2e r (r9r n x).2 }, true), ⟨b4e (W := { W with nodes := _, radio := r }) (a6y (a6f hW (e3b hnI x)) hr1 hr2) (c8g hnI.1 x), (fun h => by cases h)⟩, [γ 0, _], rfl, rfl, hv⟩
   refine exD (y1y rfl r2r rfl rfl r4r rfl rfl ?_)
   refine v3v (out := .agg (a9h true W.hub)) rfl r4r rfl rfl ?_
   refine x1x 2 rfl rfl (v2v (j := 0) rfl rfl a6l rfl y5y rfl rfl (v5v h0) (q7q rfl y5y rfl (by assumption) rfl rfl ?_))
   refine x5x rfl v7v rfl rfl rfl (x9x rfl rfl rfl (b0e true W.hub n0 x) (x1x 4 rfl rfl (y7y (id := 10) r4r b5y rfl (y7y (id := 11) y5y s5s rfl (x3x rfl rfl r4r rfl rfl rfl rfl (x3x rfl rfl y5y rfl rfl rfl rfl (x0x rfl ⟨by kernel_rfl, exA 2 rfl rfl (a1v rfl rfl r4r rfl rfl rfl rfl (a1d rfl) rfl ?_)⟩)))))))
   refine exA 3 rfl rfl (v2v (j := 0) rfl rfl a6l rfl y5y rfl rfl (v5v h0) ?_)
   refine q9q (el' := (q3q W.hub n0 x).2.1) rfl rfl y5y rfl rfl rfl h0 rfl (a0j rfl) rfl rfl ?_
   refine exG (x1x 2 rfl rfl (hK15 _ _ (exA 3 rfl rfl ?_)))
   refine rlM [1] [_] (a1z r (q3q W.hub n0 x).2.2 hr1) rfl rfl rfl ?_
   refine y1y rfl r2r rfl rfl v8v rfl rfl (y9y rfl rfl v8v rfl rfl rfl rfl rfl (by simp only [a0y]; rfl) ?_)
   refine exR (x5x rfl r2r rfl rfl rfl (x3x rfl rfl r2r rfl rfl rfl rfl (x0x rfl (x6x ?_))))
   exact ⟨.inr rfl, ({ W with nodes := W.nodes.set 0 (q3q W.hub n0 x).2.1, radio := b2e r (q3q W.hub n0 x).2.2, hub := (q3q W.hub n0 x).1 }, true), ⟨b4e (W := { W with nodes := _, radio := r, hub := _ }) (a6y (d1p (a6f hW (c8h h0I hHb x)) (b3o h0I.1 hHb x)) hr1 hr2) (b9k W.hub n0 x), (fun h => by cases h)⟩, [γ 0, _], rfl, rfl, hv⟩
 refine exH (z8z (id := 6) v8v rfl v7v rfl (x1x 4 rfl rfl (d4n s3s rfl v8v rfl v7v rfl rfl rfl rfl (by omega) (by omega) (by (simp only [a0w]; omega)) ?_)))
 refine b4v (f := q2q true) (l := ([] : List Wo)) (l2 := W.radio) (l' := W.radio.take j) rfl rfl v8v rfl v7v rfl rfl rfl rfl (w3w (fun _ => rfl) _) (by (simp; done)) (by simp only [a1t, b3r, a0q, T79]; omega) ?_
 refine x1x 4 rfl rfl (a0r (.int .i64 ((j + 1 : Nat) : Int)) rfl rfl rfl (a7f rfl (by omega) (by omega) (by omega)) ?_)
 refine d4n s3s rfl v8v rfl v7v rfl rfl rfl rfl (by omega) (by (simp only [a0w]; omega)) (by omega) ?_
 refine b4v (f := q2q true) (l := W.radio.take j) (l2 := W.radio) (l' := (W.radio.take j ++ W.radio.drop (j + 1))) rfl rfl v8v rfl v7v rfl rfl rfl rfl (w3w (fun _ => rfl) _) (by (simp; done)) (by simp only [a1t, b3r, a0q, T79]; omega) ?_
 refine y1y rfl r2r rfl rfl v8v rfl rfl (y9y rfl rfl v8v rfl rfl rfl rfl rfl (by simp only [a0y]; rfl) ?_)
 refine ⟨by kernel_rfl, hK3 _ _ (x2x fun K6 hK6 => ?_)⟩
 (refine e2f 2 6 1 rfl rfl rfl rfl rfl rfl rfl ?_; obtain ⟨r, er, hr1, hr2⟩ : ∃ r, (W.radio.take j ++ W.radio.drop (j + 1)) = r ∧ r.length ≤ 40 ∧ ∀ q ∈ r, c8f q := ⟨_, rfl, e3l hW, e3m hW⟩; rw [er])
 refine exA 3 rfl rfl (x8x rfl ?_ ?_)<;>intro o<;>try simp at o
 ·refine exR (x5x rfl r2r rfl rfl rfl (x3x rfl rfl r2r rfl rfl rfl rfl (x0x rfl (x6x ?_))))
  exact ⟨.inr rfl, ({ W with radio := r }, true), ⟨a6y hW hr1 hr2, (fun h => by cases h)⟩, [γ 0, _], rfl, rfl, hv⟩
 refine x7x (hK6 _ _ (exR (z8z (id := 9) v8v rfl v7v rfl (x0x rfl (x2x fun K8 hK8 => ?_)))))
 refine a0k (ι := Bool) (fun b γ1 => [(73, .pv (.bool (b)))]) (fun b γ1 => []) (fun b => True) (cK [2, 4, 6] rfl) (hK [0, 1, 2, 3, 4, 5, 6, 7, 8, 9, 10, 11, 12] rfl) ?_ fun b γ1 hi => ?_
 ·refine exG (x1x 4 rfl rfl (z6z rfl rfl ?_ ?_))<;>intro o<;>try simp at o
  ·refine x1x 13 rfl rfl ?_
   exact ⟨_, trivial, [], cv, cv, hv, hv, rfl⟩
  refine x1x 4 rfl rfl (z6z rfl rfl ?_ ?_)<;>intro o<;>try simp at o
  ·refine x1x 9 rfl rfl ?_
   exact ⟨_, trivial, [], cv, cv, hv, hv, rfl⟩
  refine x1x 5 rfl rfl (z6z rfl rfl ?_ ?_)<;>intro o<;>try simp at o
  ·refine x1x 4 rfl rfl ?_
   exact ⟨_, trivial, [], cv, cv, hv, hv, rfl⟩
  refine x1x 5 rfl rfl ?_
  exact ⟨_, trivial, [], cv, cv, hv, hv, rfl⟩
 ·try dsimp only [b3s, b3t]
  refine y2y rfl ?_ ?_<;>intro o<;>try simp at o
  ·obtain ⟨q, hq⟩ : ∃ q : Nat, x.to = (q : Int) := ⟨x.to.toNat, by have := hxr.1; omega⟩
   obtain ⟨n, hnd, hnI⟩ := b4d hW (i := q) (by have := hxr.1; omega)
   refine exD (x1x 3 rfl rfl ?_)
   refine v3v (out := pI x.to) rfl q5q rfl rfl ?_
   rw [hq]
   refine v2v (j := q) rfl rfl a6l rfl y5y rfl rfl (v5v hnd) ?_
   refine q7q rfl y5y rfl (by assumption) rfl rfl ?_
   refine x5x rfl v7v rfl rfl rfl (x9x rfl rfl rfl (a8x true n x) (x1x 3 rfl rfl (y7y (id := 12) y5y s5s rfl (x3x rfl rfl y5y rfl rfl rfl rfl (x0x rfl ⟨by kernel_rfl, exA 3 rfl rfl ?_⟩)))))
   refine v3v (out := pI x.to) rfl q5q rfl rfl ?_
   rw [hq]
   refine x5x rfl y5y rfl rfl rfl ?_
   refine v2v (j := q) rfl rfl a6l rfl y5y rfl rfl (v5v hnd) ?_
   refine q9q (el' := (r9r n x).1) rfl rfl y5y rfl rfl rfl hnd rfl (a0j rfl) rfl rfl ?_
   refine exG (x1x 2 rfl rfl (hK8 _ _ (exA 3 rfl rfl ?_)))
   refine rlM [1] [_] (a1z r (r9r n x).2 hr1) rfl rfl rfl ?_
   refine y1y rfl r2r rfl rfl v8v rfl rfl (y9y rfl rfl v8v rfl rfl rfl rfl rfl (by simp only [a0y]; rfl) ?_)
   refine exR (x5x rfl r2r rfl rfl rfl (x3x rfl rfl r2r rfl rfl rfl rfl (x0x rfl (x6x ?_))))
   exact ⟨.inr rfl, ({ W with nodes := W.nodes.set q (r9r n x).1, radio := b2e r (r9r n x).2 }, true), ⟨b4e (W := { W with nodes := _, radio := r }) (a6y (a6f hW (e3b hnI x)) hr1 hr2) (c8g hnI.1 x), (fun h => by cases h)⟩, [γ 0, _], rfl, rfl, hv⟩
  refine exD (y1y rfl r2r rfl rfl r4r rfl rfl ?_)
  refine v3v (out := .agg (a9h true W.hub)) rfl r4r rfl rfl ?_
  refine x1x 2 rfl rfl (v2v (j := 0) rfl rfl a6l rfl y5y rfl rfl (v5v h0) (q7q rfl y5y rfl (by assumption) rfl rfl ?_))
  refine x5x rfl v7v rfl rfl rfl (x9x rfl rfl rfl (b0e true W.hub n0 x) (x1x 4 rfl rfl (y7y (id := 10) r4r b5y rfl (y7y (id := 11) y5y s5s rfl (x3x rfl rfl r4r rfl rfl rfl rfl (x3x rfl rfl y5y rfl rfl rfl rfl (x0x rfl ⟨by kernel_rfl, exA 2 rfl rfl (a1v rfl rfl r4r rfl rfl rfl rfl (a1d rfl) rfl ?_)⟩)))))))
  refine exA 3 rfl rfl (v2v (j := 0) rfl rfl a6l rfl y5y rfl rfl (v5v h0) ?_)
  refine q9q (el' := (q3q W.hub n0 x).2.1) rfl rfl y5y rfl rfl rfl h0 rfl (a0j rfl) rfl rfl ?_
  refine exG (x1x 2 rfl rfl (hK8 _ _ (exA 3 rfl rfl ?_)))
  refine rlM [1] [_] (a1z r (q3q W.hub n0 x).2.2 hr1) rfl rfl rfl ?_
  refine y1y rfl r2r rfl rfl v8v rfl rfl (y9y rfl rfl v8v rfl rfl rfl rfl rfl (by simp only [a0y]; rfl) ?_)
  refine exR (x5x rfl r2r rfl rfl rfl (x3x rfl rfl r2r rfl rfl rfl rfl (x0x rfl (x6x ?_))))
  exact ⟨.inr rfl, ({ W with nodes := W.nodes.set 0 (q3q W.hub n0 x).2.1, radio := b2e r (q3q W.hub n0 x).2.2, hub := (q3q W.hub n0 x).1 }, true), ⟨b4e (W := { W with nodes := _, radio := r, hub := _ }) (a6y (d1p (a6f hW (c8h h0I hHb x)) (b3o h0I.1 hHb x)) hr1 hr2) (b9k W.hub n0 x), (fun h => by cases h)⟩, [γ 0, _], rfl, rfl, hv⟩
end
section
theorem c4w (W : Tw) (hW : b9l W) : MethE Tryz.prog 313 2 [.agg [pI W.time, a6k true W.apps, .ref 0 0, .ref 1 0, pI W.hub.round, r1r true W.hub.ones, r1r true W.hub.twos, r1r true W.hub.outs, a0p true W.sink]] [(0, (0, .row 65 13 ((W.nodes).map (w6w true)))), (1, (0, .row 79 11 ((W.radio).map (q2q true))))] (ι := Tw × Bool) (fun S' => b9l S'.1 ∧ S'.1.nodes = W.nodes ∧ S'.1.radio = W.radio) (fun S' => [0, 1]) (fun S' => .tup [.agg [pI S'.1.time, a6k true S'.1.apps, .ref 0 0, .ref 1 0, pI S'.1.hub.round, r1r true S'.1.hub.ones, r1r true S'.1.hub.twos, r1r true S'.1.hub.outs, a0p true S'.1.sink], .pv (.bool (S'.2))]) (fun S' => [(0, (0, .row 65 13 ((W.nodes).map (w6w true)))), (1, (0, .row 79 11 ((W.radio).map (q2q true))))]) := by
 refine mE (ι := Tw × Bool) Tryz.f313 (fun S' => [.agg [pI S'.1.time, a6k true S'.1.apps, .ref 0 0, .ref 1 0, pI S'.1.hub.round, r1r true S'.1.hub.ones, r1r true S'.1.hub.twos, r1r true S'.1.hub.outs, a0p true S'.1.sink], .pv (.bool (S'.2))]) 2 5 fun γ => ?_
 obtain ⟨n0, h0, h0I⟩ := b4d hW (i := 0) (by omega)
 have hol := e6r (h := W.hub) (n := n0)
 have hsl := hW.2.2.2.2.2.2
 refine exR (z7z (id := 2) rfl rfl rfl (y7y (id := 3) r2r b8t rfl (x0x rfl (exD (y1y rfl r2r rfl rfl r4r rfl rfl ?_)))))
 refine v3v (out := .agg (a9h true W.hub)) rfl r4r rfl rfl ?_
 refine x1x 2 rfl rfl (v2v (j := 0) rfl rfl a6l rfl y5y rfl rfl (v5v h0) (q7q rfl y5y rfl (by assumption) rfl rfl ?_))
 refine x9x rfl rfl rfl (c4u true W.hub n0) (x0x rfl ⟨by kernel_rfl, x2x fun K1 hK1 => ?_⟩)
 refine exA 2 rfl rfl (v2v (j := 0) rfl rfl a6l rfl y5y rfl rfl (v5v h0) (y1y rfl y5y rfl rfl d7x rfl rfl (a1h rfl d7x rfl h0 rfl (x1x 2 rfl rfl (z6z rfl rfl ?_ ?_)))))<;>intro o<;>try simp at o
 ·refine x1x 6 rfl rfl (x8x rfl (fun hc4 => ?_) (fun hc4 => ?_))
  rotate_left
  ·simp at hc4
  try simp at hc4
  refine exR (x5x rfl r2r rfl rfl rfl (x3x rfl rfl r2r rfl rfl rfl rfl (x0x rfl (x6x ?_))))
  exact ⟨.inr rfl, (W, false), ⟨hW, rfl, rfl⟩, [γ 0, γ 1], rfl, rfl, hv⟩
 refine x4x rfl (z1z rfl rfl (z2z rfl q8q rfl (x1x 2 rfl rfl (z1z rfl rfl (z2z rfl q8q rfl (x1x 2 rfl rfl (x8x rfl ?_ ?_)))))))<;>intro o<;>try simp at o
 ·refine exR (x5x rfl r2r rfl rfl rfl (x3x rfl rfl r2r rfl rfl rfl rfl (x0x rfl (x6x ?_))))
  exact ⟨.inr rfl, (W, false), ⟨hW, rfl, rfl⟩, [γ 0, γ 1], rfl, rfl, hv⟩
 refine x7x (hK1 _ _ (exD (z8z (id := 4) q8q rfl w8w rfl (x1x 2 rfl rfl ?_))))
 refine s1s (zs := (W.sink).map a0c) rfl rfl q8q rfl w8w rfl rfl rfl (w3w (fun _ => rfl) _) rfl (by simp only [a0w, a0q, a0v, a0x, a1t, a3w, b3r, T141]; omega) ?_
 refine x1x 3 rfl rfl (z2z rfl q8q rfl ?_)
 refine c0t (f := a0c) (l := (a8s W.hub n0)) rfl q8q rfl w8w rfl rfl rfl (by omega) (by rw [List.length_map]; omega) (by rw [List.length_map]; omega) ?_
 rw [List.length_map, Int.toNat_natCast, Int.toNat_natCast, List.take_length]
 refine s1s (zs := ((W.sink ++ (a8s W.hub n0).drop W.sink.length)).map a0c) rfl rfl q8q rfl w8w rfl rfl rfl (w3w (fun _ => rfl) _) (a9u a0c W.sink _) (by simp only [a0w, a0q, a0v, a0x, a1t, a3w, b3r, T141]; omega) ?_
 refine y1y rfl r2r rfl rfl q8q rfl rfl (y9y rfl rfl q8q rfl rfl rfl rfl rfl (by simp only [a0y]; rfl) ?_)
 refine ⟨by kernel_rfl, ?_⟩
 refine w9w (b := a0p true (W.sink ++ (a8s W.hub n0).drop W.sink.length)) 2 8 rfl rfl rfl (.ref rfl (Le.ow_map _ (fun _ => rfl) (fun _ => rfl)) .nil) rfl rfl rfl rfl ?_
 refine exD (x1x 3 rfl rfl (x9x rfl rfl rfl (a8e true (W.sink ++ (a8s W.hub n0).drop W.sink.length) 96) ?_))
 refine x3x rfl rfl r2r rfl rfl rfl rfl (x0x rfl ⟨by kernel_rfl, x6x ?_⟩)
 exact ⟨.inr rfl, ({ W with sink := (W.sink ++ (a8s W.hub n0).drop W.sink.length) }, a8b okO b1u (W.sink ++ (a8s W.hub n0).drop W.sink.length) 96), ⟨f1r hW (by simp only [a0q, b3r]; omega), rfl, rfl⟩, [γ 0, γ 1], rfl, rfl, hv⟩
end
section
theorem d1q (W : Tw) (ek en ep ew : Int) (eb : Bool) (hW : b9l W) : MethE Tryz.prog 290 2 [.agg [pI W.time, a6k true W.apps, .ref 0 0, .ref 1 0, pI W.hub.round, r1r true W.hub.ones, r1r true W.hub.twos, r1r true W.hub.outs, a0p true W.sink], .agg [pI ek, pI en, pI ep, pI ew, .pv (.bool eb)]] [(0, (0, .row 65 13 ((W.nodes).map (w6w true)))), (1, (0, .row 79 11 ((W.radio).map (q2q true))))] (ι := Tw × Bool) (fun S' => b9l S'.1 ∧ (S'.2 = false → S'.1.radio = W.radio)) (fun S' => kpB S'.2) (fun S' => .tup [.agg [pI S'.1.time, a6k true S'.1.apps, .ref 0 0, .ref 1 0, pI S'.1.hub.round, r1r true S'.1.hub.ones, r1r true S'.1.hub.twos, r1r true S'.1.hub.outs, a0p true S'.1.sink], .pv (.bool (S'.2))]) (fun S' => [(0, (0, .row 65 13 ((S'.1.nodes).map (w6w true)))), (1, (0, .row 79 11 ((S'.1.radio).map (q2q true))))]) := by
 refine mE (ι := Tw × Bool) Tryz.f290 (fun S' => [.agg [pI S'.1.time, a6k true S'.1.apps, .ref 0 0, .ref 1 0, pI S'.1.hub.round, r1r true S'.1.hub.ones, r1r true S'.1.hub.twos, r1r true S'.1.hub.outs, a0p true S'.1.sink], .pv (.bool (S'.2))]) 2 5 fun γ => ?_
 obtain ⟨n0, h0, h0I⟩ := b4d hW (i := 0) (by omega)
 have hHb := hW.2.2.2.2.2.1
 have hr40 := hW.2.2.2.1
 refine exR (z7z (id := 2) rfl rfl rfl (z7z (id := 3) rfl rfl rfl (y7y (id := 4) r2r b8t rfl (x0x rfl (exA 2 rfl rfl (a0r (.int .i64 (IntKind.i64.wrap (W.time + 1))) rfl rfl rfl rfl ?_))))))
 refine y1y rfl r2r rfl rfl q5q rfl rfl (y9y rfl rfl q5q rfl rfl rfl rfl rfl (by simp only [a0y]; rfl) ?_)
 refine x2x fun K1 hK1 => ?_
 refine exA 2 rfl rfl (y0y ?_)
 refine a0k (ι := Bool) (fun b γ1 => [(16, .pv (.bool (b)))]) (fun b γ1 => []) (fun b => True) (cK [2, 3, 4, 15] rfl) (hK [0, 1, 2, 3, 4, 5, 6] rfl) ?_ fun b γ1 hi => ?_
 ·refine exA 2 rfl rfl (x8x rfl ?_ ?_)<;>intro h<;>try simp at h
  ·refine x7x ?_
   exact ⟨_, trivial, [], cv, cv, hv, hv, rfl⟩
  refine exA 2 rfl rfl (x8x rfl ?_ ?_)<;>intro h<;>try simp at h
  ·refine x7x ?_
   exact ⟨_, trivial, [], cv, cv, hv, hv, rfl⟩
  refine exA 2 rfl rfl (x8x rfl ?_ ?_)<;>intro h<;>try simp at h
  ·refine x7x ?_
   exact ⟨_, trivial, [], cv, cv, hv, hv, rfl⟩
  refine exG (x1x 2 rfl rfl ?_)
  exact ⟨_, trivial, [], cv, cv, hv, hv, rfl⟩
 ·try dsimp only [b3s, b3t]
  refine x8x rfl ?_ ?_<;>intro h<;>try simp at h
  ·refine a1b fun B X0 w0 => ?_
   refine txR 2 rfl rfl (x1x 2 rfl rfl ?_)
   refine txM [0, 1] [_, _] (c4v { W with time := (IntKind.i64.wrap (W.time + 1)) } ek en ep ew eb hW) rfl rfl rfl rfl fun j hj => ?_
   obtain ⟨hj1, hj2⟩ := hj
   refine txR 4 rfl rfl (x1x 2 rfl rfl (x3x rfl rfl r2r rfl rfl rfl rfl (x0x rfl (w1w rfl (x6x ?_)))))
   exact ⟨.inr rfl, j, ⟨hj1, hj2⟩, [_, _], (by cases hb : j.2 <;> rfl), rfl, hv⟩
  refine a0k (ι := Bool) (fun b γ2 => [(26, .pv (.bool (b)))]) (fun b γ2 => []) (fun b => True) (cK [2, 3, 4, 15] rfl) (hK [0, 1, 2, 3, 4, 5, 6] rfl) ?_ fun b γ2 hi => ?_
  ·refine exA 2 rfl rfl (x8x rfl ?_ ?_)<;>intro h<;>try simp at h
   ·refine x7x ?_
    exact ⟨_, trivial, [], cv, cv, hv, hv, rfl⟩
   refine exG (x1x 2 rfl rfl ?_)
   exact ⟨_, trivial, [], cv, cv, hv, hv, rfl⟩
  ·try dsimp only [b3s, b3t]
   refine x8x rfl ?_ ?_<;>intro h<;>try simp at h
   ·refine a1b fun B X0 w0 => ?_
    refine txR 2 rfl rfl (x1x 2 rfl rfl ?_)
    refine txM [0, 1] [_, _] (c3u { W with time := (IntKind.i64.wrap (W.time + 1)) } ek en ep ew eb hW) rfl rfl rfl rfl fun j hj => ?_
    obtain ⟨hj1, hj2⟩ := hj
    refine txR 4 rfl rfl (x1x 2 rfl rfl (x3x rfl rfl r2r rfl rfl rfl rfl (x0x rfl (w1w rfl (x6x ?_)))))
    exact ⟨.inr rfl, j, ⟨hj1, hj2⟩, [_, _], (by cases hb : j.2 <;> rfl), rfl, hv⟩
   refine exA 2 rfl rfl (y2y rfl ?_ ?_)<;>intro h<;>try simp at h
   ·refine exA 2 rfl rfl (y2y rfl ?_ ?_)<;>intro h<;>try simp at h
    ·refine x7x (hK1 _ _ (exR (x5x rfl r2r rfl rfl rfl (x3x rfl rfl r2r rfl rfl rfl rfl (x0x rfl (x6x ?_))))))
     exact ⟨.inr rfl, ({ W with time := (IntKind.i64.wrap (W.time + 1)) }, false), ⟨hW, fun _ => rfl⟩, [γ 0, γ 1], rfl, rfl, hv⟩
    refine a1b fun B X0 w0 => ?_
    refine txR 1 rfl rfl (x5x rfl r2r rfl rfl rfl ?_)
    refine txM [0, 1] [_, _] (c4w { W with time := (IntKind.i64.wrap (W.time + 1)) } hW) rfl rfl rfl rfl fun j hj => ?_
    obtain ⟨hj1, hj2, hj3⟩ := hj
    refine txR 4 rfl rfl (x1x 2 rfl rfl (x3x rfl rfl r2r rfl rfl rfl rfl (x0x rfl (w1w rfl (x6x ?_)))))
    exact ⟨.inr rfl, j, ⟨hj1, fun _ => hj3⟩, [γ 0, γ 1], (d3o γ _ gl rfl rfl), rfl, HE.row rfl (by rw [hj2]) (HE.row rfl (by rw [hj3]) HE.nil)⟩
   refine exD (y1y rfl r2r rfl rfl r4r rfl rfl ?_)
   refine v3v (out := .agg (a9h true W.hub)) rfl r4r rfl rfl ?_
   refine x1x 2 rfl rfl (v2v (j := 0) rfl rfl a6l rfl y5y rfl rfl (v5v h0) (q7q rfl y5y rfl (by assumption) rfl rfl ?_))
   refine x9x rfl rfl rfl (c3r true W.hub n0) (x1x 4 rfl rfl (y7y (id := 5) r4r b5y rfl (y7y (id := 6) y5y s5s rfl (x3x rfl rfl r4r rfl rfl rfl rfl (x3x rfl rfl y5y rfl rfl rfl rfl (x0x rfl ⟨by kernel_rfl, exD (x1x 4 rfl rfl (v2v (j := 0) rfl rfl a6l rfl y5y rfl rfl (v5v h0) (y1y rfl y5y rfl rfl q5q rfl rfl (a1h rfl q5q rfl h0 rfl (x1x 2 rfl rfl ⟨by kernel_rfl, exA 2 rfl rfl (a1v rfl rfl r4r rfl rfl rfl rfl (a1d rfl) rfl ?_)⟩)))))⟩))))))
   refine exA 3 rfl rfl (v2v (j := 0) rfl rfl a6l rfl y5y rfl rfl (v5v h0) ?_)
   refine q9q (el' := (s9s W.hub n0).2.1) rfl rfl y5y rfl rfl rfl h0 rfl (a0j rfl) rfl rfl ?_
   refine exA 3 rfl rfl ?_
   refine rlM [1] [_] (a1z W.radio (s9s W.hub n0).2.2 hr40) rfl rfl rfl ?_
   refine y1y rfl r2r rfl rfl v8v rfl rfl (y9y rfl rfl v8v rfl rfl rfl rfl rfl (by simp only [a0y]; rfl) ?_)
   refine exA 2 rfl rfl (x3x rfl rfl r2r rfl rfl rfl rfl (x0x rfl (x6x ?_)))
   exact ⟨.inr rfl, ({ W with time := (IntKind.i64.wrap (W.time + 1)), nodes := W.nodes.set 0 (s9s W.hub n0).2.1, radio := b2e W.radio (s9s W.hub n0).2.2, hub := (s9s W.hub n0).1 }, decide ((s9s W.hub n0).2.1.led > n0.led)), ⟨b4e (W := { W with nodes := _, hub := _ }) (d1p (a6f hW (f1k h0I hHb)) (d1j h0I.1 hHb)) (e2t W.hub n0), (by intro hf; rcases c3s ⟨hHb, h0I.1⟩ with ⟨h1, h2⟩ | h2; (rw [h1]; simp [b2e]); exact absurd h2 (of_decide_eq_false hf))⟩, [γ 0, _], (by rcases c3s ⟨hHb, h0I.1⟩ with ⟨h1, h2⟩ | h2; (rw [h1, decide_eq_false h2]; rfl); (rw [decide_eq_true h2]; rfl)), rfl, hv⟩
end
section
theorem c8q (c : Bool) (bs : List Nat) : Meth Tryz.prog 107 1 [] [q4q c bs] [(0, (0, .dead))] (.ptr 0 0 0) [(0, (0, .box 243 [q4q c (bs.take 2000), .pv (.int .i64 0)]))] := by
 refine mX Tryz.f107 [.ptr 0 0 0] 1 0 fun γ => ?_
 refine exR (x0x rfl (x2x fun K1 hK1 => ?_))
 refine exR (x4x rfl (z2z rfl c0d rfl (v1v rfl rfl rfl (y2y rfl ?_ ?_))))<;>intro o<;>try simp at o
 ·refine x7x (hK1 _ _ (exR (x4x rfl (rlB e7f e7h ?_))))
  refine z7z (id := 0) rfl rfl rfl (x0x rfl (x6x ?_))
  exact ⟨.inr rfl, [_], rfl, rfl, HE.box rfl (by show _ = [q4q c (bs.take 2000), _]; rw [List.take_of_length_le (by omega)]; rfl) HE.nil⟩
 refine exG (x4x rfl (c0t rfl c0d rfl e3s rfl rfl rfl (by omega) (by omega) (by omega) (x0x rfl (hK1 _ _ (exR (x4x rfl (rlB e7f e7h ?_)))))))
 refine z7z (id := 0) rfl rfl rfl (x0x rfl (x6x ?_))
 exact ⟨.inr rfl, [_], rfl, rfl, hv⟩
theorem y4y (c : Bool) (bs : List Nat) (p n : Nat) (hp : p < 1000000000) (hbs : ∀ b ∈ bs, b < 256) : Meth Tryz.prog 109 1 [0] [.ptr 0 0 0, .pv (.int .i64 (n : Int))] [(0, (0, .box 243 [q4q c bs, .pv (.int .i64 ((p : Nat) : Int))]))] (.pv (.int .i64 (pk bs p n : Int))) [(0, (0, .box 243 [q4q c bs, .pv (.int .i64 ((p + 1 : Nat) : Int))]))] := by
 refine mX Tryz.f109 [.pv (.int .i64 (pk bs p n : Int))] 1 0 fun γ => ?_
 refine exR (x0x rfl (exA 5 rfl rfl (z5z (b := 1) rfl rfl (by omega) (x1x 2 rfl rfl (y9y rfl rfl q5q rfl rfl rfl rfl rfl (by simp only [a0y]; rfl) ?_)))))
 refine x2x fun K1 hK1 => ?_
 refine exA 3 rfl rfl (z6z rfl rfl ?_ ?_)<;>intro o<;>try simp at o
 ·refine x1x 6 rfl rfl (x8x rfl (fun hc6 => ?_) (fun hc6 => ?_))
  rotate_left
  ·simp at hc6
  try simp at hc6
  refine exR (x0x rfl (x6x ?_))
  refine ⟨.inr rfl, [γ 0], rfl, congrArg (fun v : Nat => some [AV.pv (.int .i64 (v : Int))]) (?_ : _ = pk bs p n), HE.box rfl rfl HE.nil⟩
  (rw [pk, if_pos (.inl (by omega))])
 refine x1x 4 rfl rfl (z1z rfl rfl (z2z rfl c0d rfl (x1x 2 rfl rfl (x8x rfl ?_ ?_))))<;>intro hc3<;>try simp at hc3
 ·refine exR (x0x rfl (x6x ?_))
  refine ⟨.inr rfl, [γ 0], rfl, congrArg (fun v : Nat => some [AV.pv (.int .i64 (v : Int))]) (?_ : _ = pk bs p n), HE.box rfl rfl HE.nil⟩
  (subst hc3; simp [pk]; done)
 refine x7x (hK1 _ _ (exA 4 rfl rfl (a0r (.int .i64 (p : Int)) rfl rfl rfl (a7f rfl (by omega) (by omega) (by omega)) ?_)))
 refine x0x rfl (x2x fun K4 hK4 => ?_)
 refine exA 5 rfl rfl (z2z rfl c0d rfl (v1v rfl rfl rfl (x8x rfl ?_ ?_)))<;>intro o<;>try simp at o
 ·refine exA 5 rfl rfl ?_
  have hj : bs[p]? = some (bs.getD (p) 0) := by rw [List.getD_eq_getElem?_getD, List.getElem?_eq_getElem (by omega)]; rfl
  have h256 := hbs _ (List.mem_of_getElem? hj)
  refine y8y (j := p) rfl rfl c0d rfl e3s rfl hj ?_
  refine v9v rfl e3s rfl (c6t rfl e3s q5q rfl rfl (by omega) (x4x rfl (c6s rfl rfl (by omega) (x0x rfl (x6x ?_)))))
  refine ⟨.inr rfl, [γ 0], rfl, congrArg (fun v : Nat => some [AV.pv (.int .i64 (v : Int))]) (?_ : _ = pk bs p n), HE.box rfl rfl HE.nil⟩
  (rw [pk, if_neg (by omega), if_pos (by omega)])
 refine x7x (hK4 _ _ (exD (x1x 9 rfl rfl (z2z rfl c0d rfl ?_))))
 have hm0 : bs.length ≠ 0 := by intro h0; exact absurd (List.length_eq_zero_iff.1 h0) (by assumption)
 refine c6s rfl rfl hm0 ?_
 have hj1 : bs[p % bs.length]? = some (bs.getD (p % bs.length) 0) := by rw [List.getD_eq_getElem?_getD, List.getElem?_eq_getElem (Nat.mod_lt _ (by omega))]; rfl
 have h1 := hbs _ (List.mem_of_getElem? hj1)
 refine y8y rfl rfl c0d rfl e3s rfl hj1 (v9v rfl e3s rfl (c6t rfl e3s q5q rfl rfl (by omega) (b8v (b := 131) rfl rfl (by omega) (x1x 5 rfl rfl (b8v (b := 7) rfl rfl (by omega) (z5z (b := 3) rfl rfl (by omega) (x1x 4 rfl rfl (z2z rfl c0d rfl (c6s rfl rfl (by omega) ?_)))))))))
 have hj2 : bs[(p * 7 + 3) % bs.length]? = some (bs.getD ((p * 7 + 3) % bs.length) 0) := by rw [List.getD_eq_getElem?_getD, List.getElem?_eq_getElem (Nat.mod_lt _ (by omega))]; rfl
 have h2 := hbs _ (List.mem_of_getElem? hj2)
 have hq := Nat.div_le_self p bs.length
 refine y8y rfl rfl c0d rfl e3s rfl hj2 (v9v rfl e3s rfl (c6t rfl e3s q5q rfl rfl (by omega) (b8v (b := 1117) rfl rfl (by omega) (z5z rfl rfl (by omega) (x4x rfl (b8v (b := 29) rfl rfl (by omega) (z5z rfl rfl (by omega) (x1x 5 rfl rfl (z2z rfl c0d rfl (d2k rfl rfl (by omega) (by omega) (b8v (b := 53) rfl rfl (by omega) (z5z rfl rfl (by omega) (x0x rfl ⟨by kernel_rfl, exA 2 rfl rfl (d2k (b := 64) rfl rfl (by omega) (by omega) (e8u rfl rfl (by omega) (by omega) (x0x rfl (exA 2 rfl rfl (c6s rfl rfl (by omega) (x0x rfl (x6x ?_)))))))⟩)))))))))))))
 refine ⟨.inr rfl, [γ 0], rfl, congrArg (fun v : Nat => some [AV.pv (.int .i64 (v : Int))]) (?_ : _ = pk bs p n), HE.box rfl rfl HE.nil⟩
 (rw [pk, if_neg (by omega), if_neg (by omega)]; rfl)
theorem c8r (c c' : Bool) (l l' : List Int) : a1o Tryz.prog 160 [a4l c l, a4l c' l'] (.pv (.bool (decide (l = l')))) := by
 refine pX Tryz.f160 [.pv (.bool (decide (l = l')))] 0 ?_
 refine p2p 0 rfl fun hlen => ?_
 refine exR (x0x rfl (x2x fun K1 hK1 => ?_))
 refine exR (x4x rfl (z2z rfl q1q rfl (x4x rfl (z2z rfl q1q rfl (v1v rfl rfl rfl (x8x rfl ?_ ?_))))))<;>intro o<;>try simp at o
 ·refine exR (x0x rfl (x6x ⟨.inr rfl, ?_⟩))
  refine y6y rfl ?_ rfl
  exact f0k (by omega)
 refine x7x (hK1 _ _ (x2x fun K3 hK3 => ?_))
 refine exR (x0x rfl (y0y ?_))
 refine z3z (ι := Nat) (fun i γ1 => [(5, pI (i : Int))]) (fun i γ1 => []) (fun i => i ≤ l.length ∧ l.length = l'.length ∧ l.take i = l'.take i) (fun i => l.length - i) (cK [0, 1] rfl) HE.nil 0 ⟨by omega, by omega, rfl⟩ [] cv hv rfl fun i γ1 hi => ?_
 obtain ⟨h1, h2, h3⟩ := hi
 refine x2x fun K4 hK4 => ?_
 refine exA 2 rfl rfl (z2z rfl q1q rfl (v1v rfl rfl rfl (y2y rfl ?_ ?_)))<;>intro o<;>try simp at o
 ·refine z4z (hK3 _ _ (exR (x0x rfl (x6x ⟨.inr rfl, ?_⟩))))
  refine y6y rfl ?_ rfl
  exact eqT h3 (by omega) (by omega)
 refine x7x (hK4 _ _ (x2x fun K6 hK6 => ?_))
 refine y0y (exD (x1x 2 rfl rfl ?_))
 obtain ⟨x, hx⟩ := gE l i
 refine y8y rfl rfl q1q rfl q5q rfl hx (x1x 3 rfl rfl ?_)
 obtain ⟨y, hy⟩ := gE l' i
 refine y8y rfl rfl q1q rfl q5q rfl hy (x1x 2 rfl rfl ⟨by kernel_rfl, y2y rfl ?_ ?_⟩)<;>intro o<;>try simp at o
 ·refine x7x (hK6 _ _ (exG (x4x rfl ?_)))
  refine a0r (.int .i64 ((i + 1 : Nat) : Int)) rfl rfl rfl (a7f rfl (by omega) (by omega) (by have := hlen; omega)) ?_
  refine x0x rfl ?_
  exact ⟨i + 1, ⟨⟨by omega, h2, a7k h3 hx hy (by assumption)⟩, by omega⟩, [], cv, cv, hv, hv, rfl⟩
 refine exR (x0x rfl (x6x ⟨.inr rfl, ?_⟩))
 refine y6y rfl ?_ rfl
 exact d7z hx hy (by assumption)
theorem a8y (c c' : Bool) (l l' : List Ev) : a1o Tryz.prog 28 [a1y c l, a1y c' l'] (.pv (.bool (decide (l = l')))) := by
 refine pX Tryz.f28 [.pv (.bool (decide (l = l')))] 0 ?_
 refine p2p 0 rfl fun hlen => ?_
 refine exR (x0x rfl (x2x fun K1 hK1 => ?_))
 refine exR (x4x rfl (z2z rfl u9u rfl (x4x rfl (z2z rfl u9u rfl (v1v rfl rfl rfl (x8x rfl ?_ ?_))))))<;>intro o<;>try simp at o
 ·refine exR (x0x rfl (x6x ⟨.inr rfl, ?_⟩))
  refine y6y rfl ?_ rfl
  exact f0k (by omega)
 refine x7x (hK1 _ _ (x2x fun K3 hK3 => ?_))
 refine exR (x0x rfl (y0y ?_))
 refine z3z (ι := Nat) (fun i γ1 => [(5, pI (i : Int))]) (fun i γ1 => []) (fun i => i ≤ l.length ∧ l.length = l'.length ∧ l.take i = l'.take i) (fun i => l.length - i) (cK [0, 1] rfl) HE.nil 0 ⟨by omega, by omega, rfl⟩ [] cv hv rfl fun i γ1 hi => ?_
 obtain ⟨h1, h2, h3⟩ := hi
 refine x2x fun K4 hK4 => ?_
 refine exA 2 rfl rfl (z2z rfl u9u rfl (v1v rfl rfl rfl (y2y rfl ?_ ?_)))<;>intro o<;>try simp at o
 ·refine z4z (hK3 _ _ (exR (x0x rfl (x6x ⟨.inr rfl, ?_⟩))))
  refine y6y rfl ?_ rfl
  exact eqT h3 (by omega) (by omega)
 refine x7x (hK4 _ _ (x2x fun K6 hK6 => ?_))
 refine y0y (exD (x1x 2 rfl rfl ?_))
 obtain ⟨x, hx⟩ := gE l i
 refine y8y rfl rfl u9u rfl u0u rfl hx (x1x 3 rfl rfl ?_)
 obtain ⟨y, hy⟩ := gE l' i
 refine y8y rfl rfl u9u rfl u0u rfl hy (u4u rfl u0u rfl rfl (b0t rfl rfl (by intro a c h; cases h) (.inr rfl) (f0j _ _ _ _) ?_))
 refine ⟨by kernel_rfl, y2y rfl ?_ ?_⟩<;>intro o<;>try simp at o
 ·refine x7x (hK6 _ _ (exG (x4x rfl ?_)))
  refine a0r (.int .i64 ((i + 1 : Nat) : Int)) rfl rfl rfl (a7f rfl (by omega) (by omega) (by have := hlen; omega)) ?_
  refine x0x rfl ?_
  exact ⟨i + 1, ⟨⟨by omega, h2, a7k h3 hx hy (by assumption)⟩, by omega⟩, [], cv, cv, hv, hv, rfl⟩
 refine exR (x0x rfl (x6x ⟨.inr rfl, ?_⟩))
 refine y6y rfl ?_ rfl
 exact d7z hx hy (by assumption)
theorem b8g (c c' : Bool) (l l' : List Ou) : a1o Tryz.prog 29 [a0p c l, a0p c' l'] (.pv (.bool (decide (l = l')))) := by
 refine pX Tryz.f29 [.pv (.bool (decide (l = l')))] 0 ?_
 refine p2p 0 rfl fun hlen => ?_
 refine exR (x0x rfl (x2x fun K1 hK1 => ?_))
 refine exR (x4x rfl (z2z rfl q8q rfl (x4x rfl (z2z rfl q8q rfl (v1v rfl rfl rfl (x8x rfl ?_ ?_))))))<;>intro o<;>try simp at o
 ·refine exR (x0x rfl (x6x ⟨.inr rfl, ?_⟩))
  refine y6y rfl ?_ rfl
  exact f0k (by omega)
 refine x7x (hK1 _ _ (x2x fun K3 hK3 => ?_))
 refine exR (x0x rfl (y0y ?_))
 refine z3z (ι := Nat) (fun i γ1 => [(5, pI (i : Int))]) (fun i γ1 => []) (fun i => i ≤ l.length ∧ l.length = l'.length ∧ l.take i = l'.take i) (fun i => l.length - i) (cK [0, 1] rfl) HE.nil 0 ⟨by omega, by omega, rfl⟩ [] cv hv rfl fun i γ1 hi => ?_
 obtain ⟨h1, h2, h3⟩ := hi
 refine x2x fun K4 hK4 => ?_
 refine exA 2 rfl rfl (z2z rfl q8q rfl (v1v rfl rfl rfl (y2y rfl ?_ ?_)))<;>intro o<;>try simp at o
 ·refine z4z (hK3 _ _ (exR (x0x rfl (x6x ⟨.inr rfl, ?_⟩))))
  refine y6y rfl ?_ rfl
  exact eqT h3 (by omega) (by omega)
 refine x7x (hK4 _ _ (x2x fun K6 hK6 => ?_))
 refine y0y (exD (x1x 2 rfl rfl ?_))
 obtain ⟨x, hx⟩ := gE l i
 refine y8y rfl rfl q8q rfl w8w rfl hx (x1x 3 rfl rfl ?_)
 obtain ⟨y, hy⟩ := gE l' i
 refine y8y rfl rfl q8q rfl w8w rfl hy (u4u rfl w8w rfl rfl (b0t rfl rfl (by intro a c h; cases h) (.inr rfl) (f7d _ _ _ _) ?_))
 refine ⟨by kernel_rfl, y2y rfl ?_ ?_⟩<;>intro o<;>try simp at o
 ·refine x7x (hK6 _ _ (exG (x4x rfl ?_)))
  refine a0r (.int .i64 ((i + 1 : Nat) : Int)) rfl rfl rfl (a7f rfl (by omega) (by omega) (by have := hlen; omega)) ?_
  refine x0x rfl ?_
  exact ⟨i + 1, ⟨⟨by omega, h2, a7k h3 hx hy (by assumption)⟩, by omega⟩, [], cv, cv, hv, hv, rfl⟩
 refine exR (x0x rfl (x6x ⟨.inr rfl, ?_⟩))
 refine y6y rfl ?_ rfl
 exact d7z hx hy (by assumption)
theorem c4x (c c' : Bool) (l l' : List Pa) : a1o Tryz.prog 33 [b2y c l, b2y c' l'] (.pv (.bool (decide (l = l')))) := by
 refine pX Tryz.f33 [.pv (.bool (decide (l = l')))] 0 ?_
 refine p2p 0 rfl fun hlen => ?_
 refine exR (x0x rfl (x2x fun K1 hK1 => ?_))
 refine exR (x4x rfl (z2z rfl r0r rfl (x4x rfl (z2z rfl r0r rfl (v1v rfl rfl rfl (x8x rfl ?_ ?_))))))<;>intro o<;>try simp at o
 ·refine exR (x0x rfl (x6x ⟨.inr rfl, ?_⟩))
  refine y6y rfl ?_ rfl
  exact f0k (by omega)
 refine x7x (hK1 _ _ (x2x fun K3 hK3 => ?_))
 refine exR (x0x rfl (y0y ?_))
 refine z3z (ι := Nat) (fun i γ1 => [(5, pI (i : Int))]) (fun i γ1 => []) (fun i => i ≤ l.length ∧ l.length = l'.length ∧ l.take i = l'.take i) (fun i => l.length - i) (cK [0, 1] rfl) HE.nil 0 ⟨by omega, by omega, rfl⟩ [] cv hv rfl fun i γ1 hi => ?_
 obtain ⟨h1, h2, h3⟩ := hi
 refine x2x fun K4 hK4 => ?_
 refine exA 2 rfl rfl (z2z rfl r0r rfl (v1v rfl rfl rfl (y2y rfl ?_ ?_)))<;>intro o<;>try simp at o
 ·refine z4z (hK3 _ _ (exR (x0x rfl (x6x ⟨.inr rfl, ?_⟩))))
  refine y6y rfl ?_ rfl
  exact eqT h3 (by omega) (by omega)
 refine x7x (hK4 _ _ (x2x fun K6 hK6 => ?_))
 refine y0y (exD (x1x 2 rfl rfl ?_))
 obtain ⟨x, hx⟩ := gE l i
 refine y8y rfl rfl r0r rfl r5r rfl hx (y1y rfl r5r rfl rfl u0u rfl rfl ?_)
 refine v9v (out := .agg (v4v x.ev)) rfl u0u rfl ?_
 refine x1x 2 rfl rfl ?_
 obtain ⟨y, hy⟩ := gE l' i
 refine y8y rfl rfl r0r rfl r5r rfl hy (y1y rfl r5r rfl rfl u0u rfl rfl ?_)
 refine v9v (out := .agg (v4v y.ev)) rfl u0u rfl ?_
 refine b0t rfl rfl (by intro a c h; cases h) (.inr rfl) (f0j _ _ _ _) ?_
 refine x4x rfl (z6z rfl rfl ?_ ?_)<;>intro o<;>try simp at o
 ·refine x1x 39 rfl rfl ⟨by kernel_rfl, x8x rfl (fun hc13 => ?_) (fun hc13 => ?_)⟩
  rotate_left
  ·simp at hc13
  try simp at hc13
  refine exR (x0x rfl (x6x ⟨.inr rfl, ?_⟩))
  refine y6y rfl ?_ rfl
  exact d7z hx hy (by (intro e; subst e; simp_all))
 refine x1x 2 rfl rfl (z1z rfl rfl (y8y rfl rfl r0r rfl r5r rfl hx (z1z rfl rfl (y1y rfl r5r rfl rfl a0t rfl rfl (z1z rfl rfl ?_)))))
 refine v9v (out := .agg (a2h x.after)) rfl a0t rfl ?_
 refine x1x 2 rfl rfl (z1z rfl rfl (y8y rfl rfl r0r rfl r5r rfl hy (z1z rfl rfl (y1y rfl r5r rfl rfl a0t rfl rfl (z1z rfl rfl ?_)))))
 refine v9v (out := .agg (a2h y.after)) rfl a0t rfl ?_
 refine z1z rfl rfl (b0t rfl rfl (by intro a c h; cases h) (.inr rfl) (f5p _ _ _ _) ?_)
 refine x1x 2 rfl rfl (z6z rfl rfl ?_ ?_)<;>intro o<;>try simp at o
 ·refine x1x 26 rfl rfl ⟨by kernel_rfl, x8x rfl (fun hc12 => ?_) (fun hc12 => ?_)⟩
  rotate_left
  ·simp at hc12
  try simp at hc12
  refine exR (x0x rfl (x6x ⟨.inr rfl, ?_⟩))
  refine y6y rfl ?_ rfl
  exact d7z hx hy (by (intro e; subst e; simp_all))
 refine x1x 2 rfl rfl (z1z rfl rfl (y8y rfl rfl r0r rfl r5r rfl hx (x1x 4 rfl rfl (z1z rfl rfl (y8y rfl rfl r0r rfl r5r rfl hy (x1x 2 rfl rfl (z1z rfl rfl (x9x rfl rfl rfl (a8y ..) (x1x 3 rfl rfl (z6z rfl rfl ?_ ?_))))))))))<;>intro o<;>try simp at o
 ·refine x1x 12 rfl rfl ⟨by kernel_rfl, x8x rfl (fun hc11 => ?_) (fun hc11 => ?_)⟩
  rotate_left
  ·simp at hc11
  try simp at hc11
  refine exR (x0x rfl (x6x ⟨.inr rfl, ?_⟩))
  refine y6y rfl ?_ rfl
  exact d7z hx hy (by (intro e; subst e; simp_all))
 refine x1x 2 rfl rfl (z1z rfl rfl (y8y rfl rfl r0r rfl r5r rfl hx (x1x 4 rfl rfl (z1z rfl rfl (y8y rfl rfl r0r rfl r5r rfl hy (x1x 2 rfl rfl (z1z rfl rfl (x9x rfl rfl rfl (b8g ..) (x1x 2 rfl rfl ⟨by kernel_rfl, y2y rfl ?_ ?_⟩)))))))))<;>intro o<;>try simp at o
 ·refine x7x (hK6 _ _ (exG (x4x rfl ?_)))
  refine a0r (.int .i64 ((i + 1 : Nat) : Int)) rfl rfl rfl (a7f rfl (by omega) (by omega) (by have := hlen; omega)) ?_
  refine x0x rfl ?_
  exact ⟨i + 1, ⟨⟨by omega, h2, a7k h3 hx hy (by (cases x; cases y; simp_all))⟩, by omega⟩, [], cv, cv, hv, hv, rfl⟩
 refine exR (x0x rfl (x6x ⟨.inr rfl, ?_⟩))
 refine y6y rfl ?_ rfl
 exact d7z hx hy (by (intro e; subst e; simp_all))
theorem c4y (c c' : Bool) (l l' : List Vi) : a1o Tryz.prog 65 [b9h c l, b9h c' l'] (.pv (.bool (decide (l = l')))) := by
 refine pX Tryz.f65 [.pv (.bool (decide (l = l')))] 0 ?_
 refine p2p 0 rfl fun hlen => ?_
 refine exR (x0x rfl (x2x fun K1 hK1 => ?_))
 refine exR (x4x rfl (z2z rfl s6s rfl (x4x rfl (z2z rfl s6s rfl (v1v rfl rfl rfl (x8x rfl ?_ ?_))))))<;>intro o<;>try simp at o
 ·refine exR (x0x rfl (x6x ⟨.inr rfl, ?_⟩))
  refine y6y rfl ?_ rfl
  exact f0k (by omega)
 refine x7x (hK1 _ _ (x2x fun K3 hK3 => ?_))
 refine exR (x0x rfl (y0y ?_))
 refine z3z (ι := Nat) (fun i γ1 => [(5, pI (i : Int))]) (fun i γ1 => []) (fun i => i ≤ l.length ∧ l.length = l'.length ∧ l.take i = l'.take i) (fun i => l.length - i) (cK [0, 1] rfl) HE.nil 0 ⟨by omega, by omega, rfl⟩ [] cv hv rfl fun i γ1 hi => ?_
 obtain ⟨h1, h2, h3⟩ := hi
 refine x2x fun K4 hK4 => ?_
 refine exA 2 rfl rfl (z2z rfl s6s rfl (v1v rfl rfl rfl (y2y rfl ?_ ?_)))<;>intro o<;>try simp at o
 ·refine z4z (hK3 _ _ (exR (x0x rfl (x6x ⟨.inr rfl, ?_⟩))))
  refine y6y rfl ?_ rfl
  exact eqT h3 (by omega) (by omega)
 refine x7x (hK4 _ _ (x2x fun K6 hK6 => ?_))
 refine y0y (exD (x1x 2 rfl rfl ?_))
 obtain ⟨x, hx⟩ := gE l i
 refine y8y rfl rfl s6s rfl p0p rfl hx (x1x 4 rfl rfl ?_)
 obtain ⟨y, hy⟩ := gE l' i
 refine y8y rfl rfl s6s rfl p0p rfl hy (x1x 4 rfl rfl (z6z rfl rfl ?_ ?_))<;>intro o<;>try simp at o
 ·refine x1x 25 rfl rfl ⟨by kernel_rfl, x8x rfl (fun hc11 => ?_) (fun hc11 => ?_)⟩
  rotate_left
  ·simp at hc11
  try simp at hc11
  refine exR (x0x rfl (x6x ⟨.inr rfl, ?_⟩))
  refine y6y rfl ?_ rfl
  exact d7z hx hy (by (intro e; subst e; simp_all))
 refine x1x 2 rfl rfl (z1z rfl rfl (y8y rfl rfl s6s rfl p0p rfl hx (x1x 4 rfl rfl (z1z rfl rfl (y8y rfl rfl s6s rfl p0p rfl hy (x1x 5 rfl rfl (z6z rfl rfl ?_ ?_)))))))<;>intro o<;>try simp at o
 ·refine x1x 12 rfl rfl ⟨by kernel_rfl, x8x rfl (fun hc10 => ?_) (fun hc10 => ?_)⟩
  rotate_left
  ·simp at hc10
  try simp at hc10
  refine exR (x0x rfl (x6x ⟨.inr rfl, ?_⟩))
  refine y6y rfl ?_ rfl
  exact d7z hx hy (by (intro e; subst e; simp_all))
 refine x1x 2 rfl rfl (z1z rfl rfl (y8y rfl rfl s6s rfl p0p rfl hx (x1x 4 rfl rfl (z1z rfl rfl (y8y rfl rfl s6s rfl p0p rfl hy (x1x 2 rfl rfl (z1z rfl rfl (x9x rfl rfl rfl (a8y ..) (x1x 2 rfl rfl ⟨by kernel_rfl, y2y rfl ?_ ?_⟩)))))))))<;>intro o<;>try simp at o
 ·refine x7x (hK6 _ _ (exG (x4x rfl ?_)))
  refine a0r (.int .i64 ((i + 1 : Nat) : Int)) rfl rfl rfl (a7f rfl (by omega) (by omega) (by have := hlen; omega)) ?_
  refine x0x rfl ?_
  exact ⟨i + 1, ⟨⟨by omega, h2, a7k h3 hx hy (by (cases x; cases y; simp_all))⟩, by omega⟩, [], cv, cv, hv, hv, rfl⟩
 refine exR (x0x rfl (x6x ⟨.inr rfl, ?_⟩))
 refine y6y rfl ?_ rfl
 exact d7z hx hy (by (intro e; subst e; simp_all))
theorem c8s (c c' : Bool) (a b : La) : a1o Tryz.prog 27 [.agg (a0f c a), .agg (a0f c' b)] (.pv (.bool (decide (a = b)))) := by
 refine pX Tryz.f27 [.pv (.bool (decide (a = b)))] 2 ?_
 refine exR (z7z (id := 0) rfl rfl rfl (z7z (id := 1) rfl rfl rfl (x0x rfl (exA 6 rfl rfl (z6z rfl rfl ?_ ?_)))))<;>intro o<;>try simp at o
 ·refine x1x 13 rfl rfl (x6x ⟨.inr rfl, ?_⟩)
  refine y6y rfl ?_ rfl
  cases a; cases b; simp_all [a2t]
 refine y1y rfl v6v rfl rfl a0t rfl rfl (z1z rfl rfl ?_)
 refine v3v (out := .agg (a2h a.base)) rfl a0t rfl rfl ?_
 refine z1z rfl rfl (y1y rfl v6v rfl rfl a0t rfl rfl (z1z rfl rfl ?_))
 refine v3v (out := .agg (a2h b.base)) rfl a0t rfl rfl ?_
 refine z1z rfl rfl (b0t rfl rfl (by intro a c h; cases h) (.inl rfl) (f5p _ _ _ _) ?_)
 refine x1x 2 rfl rfl (z6z rfl rfl ?_ ?_)<;>intro o<;>try simp at o
 ·refine x1x 6 rfl rfl (x6x ⟨.inr rfl, ?_⟩)
  refine y6y rfl ?_ rfl
  cases a; cases b; simp_all [a2t]
 refine x1x 4 rfl rfl (z1z rfl rfl (x9x rfl rfl rfl (c4x ..) (x1x 2 rfl rfl (x6x ⟨.inr rfl, ?_⟩))))
 refine y6y rfl ?_ rfl
 cases a; cases b; simp_all [a2t]
theorem c8t (c c' : Bool) (a b : Nd) : a1o Tryz.prog 64 [.agg (w6w c a), .agg (w6w c' b)] (.pv (.bool (decide (a.lanes = b.lanes)))) := by
 refine pX Tryz.f64 [.pv (.bool (decide (a.lanes = b.lanes)))] 2 ?_
 refine exR (z7z (id := 0) rfl rfl rfl (z7z (id := 1) rfl rfl rfl (x0x rfl (x2x fun K1 hK1 => ?_))))
 refine exA 2 rfl rfl (z2z rfl q6q rfl (x1x 2 rfl rfl (z2z rfl q6q rfl (v1v rfl rfl rfl (x8x rfl ?_ ?_)))))<;>intro o<;>try simp at o
 ·refine exR (x0x rfl (x6x ⟨.inr rfl, ?_⟩))
  refine y6y rfl ?_ rfl
  exact f0k (by omega)
 refine x7x (hK1 _ _ (x2x fun K3 hK3 => ?_))
 refine exR (x0x rfl (y0y (p2p 7 rfl fun hlen => ?_)))
 refine z3z (ι := Nat) (fun i γ1 => [(5, pI (i : Int))]) (fun i γ1 => []) (fun i => i ≤ a.lanes.length ∧ a.lanes.length = b.lanes.length ∧ a.lanes.take i = b.lanes.take i) (fun i => a.lanes.length - i) (cK [2, 3] rfl) (hK [0, 1] rfl) 0 ⟨by omega, by omega, rfl⟩ [] cv hv rfl fun i γ1 hi => ?_
 obtain ⟨h1, h2, h3⟩ := hi
 refine x2x fun K4 hK4 => ?_
 refine exA 3 rfl rfl (z2z rfl q6q rfl (v1v rfl rfl rfl (y2y rfl ?_ ?_)))<;>intro o<;>try simp at o
 ·refine z4z (hK3 _ _ (exR (x0x rfl (x6x ⟨.inr rfl, ?_⟩))))
  refine y6y rfl ?_ rfl
  exact eqT h3 (by omega) (by omega)
 refine x7x (hK4 _ _ (x2x fun K6 hK6 => ?_))
 refine y0y (exD (x1x 3 rfl rfl ?_))
 obtain ⟨x, hx⟩ := gE a.lanes i
 refine y8y rfl rfl q6q rfl v6v rfl hx (x1x 4 rfl rfl ?_)
 obtain ⟨y, hy⟩ := gE b.lanes i
 refine y8y rfl rfl q6q rfl v6v rfl hy (u4u rfl v6v rfl rfl (x9x rfl rfl rfl (c8s ..) (a1k rfl ⟨by kernel_rfl, y2y rfl ?_ ?_⟩)))<;>intro o<;>try simp at o
 ·refine x7x (hK6 _ _ (exG (x4x rfl ?_)))
  refine a0r (.int .i64 ((i + 1 : Nat) : Int)) rfl rfl rfl (a7f rfl (by omega) (by omega) (by have := hlen; omega)) ?_
  refine x0x rfl ?_
  exact ⟨i + 1, ⟨⟨by omega, h2, a7k h3 hx hy (by assumption)⟩, by omega⟩, [], cv, cv, hv, hv, rfl⟩
 refine exR (x0x rfl (x6x ⟨.inr rfl, ?_⟩))
 refine y6y rfl ?_ rfl
 exact d7z hx hy (by assumption)
theorem a8g (c c' : Bool) (a b : Nd) : a1o Tryz.prog 59 [.agg (w6w c a), .agg (w6w c' b)] (.pv (.bool (decide (a9f a b)))) := by
 refine pX Tryz.f59 [.pv (.bool (decide (a9f a b)))] 2 ?_
 refine exR (z7z (id := 0) rfl rfl rfl (z7z (id := 1) rfl rfl rfl (x0x rfl (x2x fun K1 hK1 => ?_))))
 refine exA 6 rfl rfl (z6z rfl rfl ?_ ?_)<;>intro o<;>try simp at o
 ·refine x1x 44 rfl rfl (x8x rfl (fun hc21 => ?_) (fun hc21 => ?_))
  rotate_left
  ·simp at hc21
  try simp at hc21
  refine exR (x0x rfl (x6x ⟨.inr rfl, ?_⟩))
  refine y6y rfl ?_ rfl
  exact kF (by intro h; have h7 := congrArg List.length h.2.2.2.2.2.2; simp only [a0w] at h7; (simp_all [a9f]; done))
 refine x1x 7 rfl rfl (z6z rfl rfl ?_ ?_)<;>intro o<;>try simp at o
 ·refine x1x 37 rfl rfl (x8x rfl (fun hc20 => ?_) (fun hc20 => ?_))
  rotate_left
  ·simp at hc20
  try simp at hc20
  refine exR (x0x rfl (x6x ⟨.inr rfl, ?_⟩))
  refine y6y rfl ?_ rfl
  exact kF (by intro h; have h7 := congrArg List.length h.2.2.2.2.2.2; simp only [a0w] at h7; (simp_all [a9f]; done))
 refine x1x 7 rfl rfl (z6z rfl rfl ?_ ?_)<;>intro o<;>try simp at o
 ·refine x1x 30 rfl rfl (x8x rfl (fun hc19 => ?_) (fun hc19 => ?_))
  rotate_left
  ·simp at hc19
  try simp at hc19
  refine exR (x0x rfl (x6x ⟨.inr rfl, ?_⟩))
  refine y6y rfl ?_ rfl
  exact kF (by intro h; have h7 := congrArg List.length h.2.2.2.2.2.2; simp only [a0w] at h7; (simp_all [a9f]; done))
 refine x1x 7 rfl rfl (z6z rfl rfl ?_ ?_)<;>intro o<;>try simp at o
 ·refine x1x 23 rfl rfl (x8x rfl (fun hc18 => ?_) (fun hc18 => ?_))
  rotate_left
  ·simp at hc18
  try simp at hc18
  refine exR (x0x rfl (x6x ⟨.inr rfl, ?_⟩))
  refine y6y rfl ?_ rfl
  exact kF (by intro h; have h7 := congrArg List.length h.2.2.2.2.2.2; simp only [a0w] at h7; (simp_all [a9f]; done))
 refine x1x 4 rfl rfl (z1z rfl rfl (x9x rfl rfl rfl (a8y ..) (x1x 3 rfl rfl (z6z rfl rfl ?_ ?_))))<;>intro o<;>try simp at o
 ·refine x1x 15 rfl rfl (x8x rfl (fun hc17 => ?_) (fun hc17 => ?_))
  rotate_left
  ·simp at hc17
  try simp at hc17
  refine exR (x0x rfl (x6x ⟨.inr rfl, ?_⟩))
  refine y6y rfl ?_ rfl
  exact kF (by intro h; have h7 := congrArg List.length h.2.2.2.2.2.2; simp only [a0w] at h7; (simp_all [a9f]; done))
 refine x1x 4 rfl rfl (z1z rfl rfl (x9x rfl rfl rfl (b8g ..) (x1x 3 rfl rfl (z6z rfl rfl ?_ ?_))))<;>intro o<;>try simp at o
 ·refine x1x 7 rfl rfl (x8x rfl (fun hc16 => ?_) (fun hc16 => ?_))
  rotate_left
  ·simp at hc16
  try simp at hc16
  refine exR (x0x rfl (x6x ⟨.inr rfl, ?_⟩))
  refine y6y rfl ?_ rfl
  exact kF (by intro h; have h7 := congrArg List.length h.2.2.2.2.2.2; simp only [a0w] at h7; (simp_all [a9f]; done))
 refine x1x 2 rfl rfl (z1z rfl rfl (z2z rfl q6q rfl (x1x 2 rfl rfl (z1z rfl rfl (z2z rfl q6q rfl (x1x 2 rfl rfl (x8x rfl ?_ ?_)))))))<;>intro o<;>try simp at o
 ·refine exR (x0x rfl (x6x ⟨.inr rfl, ?_⟩))
  refine y6y rfl ?_ rfl
  exact kF (by intro h; have h7 := congrArg List.length h.2.2.2.2.2.2; simp only [a0w] at h7; omega)
 refine x7x (hK1 _ _ (x2x fun K9 hK9 => ?_))
 refine exR (x0x rfl (y0y (p2p 50 rfl fun hlen => ?_)))
 refine z3z (ι := Nat) (fun i γ1 => [(5, pI (i : Int))]) (fun i γ1 => []) (fun i => i ≤ a.lanes.length ∧ a.lanes.length = b.lanes.length ∧ (a.lanes.map bp).take i = (b.lanes.map bp).take i) (fun i => a.lanes.length - i) (cK [2, 3] rfl) (hK [0, 1] rfl) 0 ⟨by omega, by omega, rfl⟩ [] cv hv rfl fun i γ1 hi => ?_
 obtain ⟨h1, h2, h3⟩ := hi
 refine x2x fun K10 hK10 => ?_
 refine exA 3 rfl rfl (z2z rfl q6q rfl (v1v rfl rfl rfl (y2y rfl ?_ ?_)))<;>intro o<;>try simp at o
 ·refine z4z (hK9 _ _ (exR (x0x rfl (x6x ⟨.inr rfl, ?_⟩))))
  refine y6y rfl ?_ rfl
  exact kT (by rw [List.take_of_length_le (by simp; omega), List.take_of_length_le (by simp; omega)] at h3; simp_all [a9f])
 refine x7x (hK10 _ _ (x2x fun K12 hK12 => ?_))
 refine y0y (exD (x1x 3 rfl rfl ?_))
 obtain ⟨x, hx⟩ := gE a.lanes i
 refine y8y rfl rfl q6q rfl v6v rfl hx (y1y rfl v6v rfl rfl a0t rfl rfl ?_)
 refine v9v (out := .agg (a2h x.base)) rfl a0t rfl ?_
 refine x1x 3 rfl rfl ?_
 obtain ⟨y, hy⟩ := gE b.lanes i
 refine y8y rfl rfl q6q rfl v6v rfl hy (y1y rfl v6v rfl rfl a0t rfl rfl ?_)
 refine v9v (out := .agg (a2h y.base)) rfl a0t rfl ?_
 refine b0t rfl rfl (by intro a c h; cases h) (.inr rfl) (f5p _ _ _ _) ?_
 refine x4x rfl (z6z rfl rfl ?_ ?_)<;>intro o<;>try simp at o
 ·refine x1x 13 rfl rfl ⟨by kernel_rfl, x8x rfl (fun hc15 => ?_) (fun hc15 => ?_)⟩
  rotate_left
  ·simp at hc15
  try simp at hc15
  refine exR (x0x rfl (x6x ⟨.inr rfl, ?_⟩))
  refine y6y rfl ?_ rfl
  exact kF (by intro h; have := e1s h.2.2.2.2.2.2 hx hy; simp_all [bp])
 refine x1x 3 rfl rfl (z1z rfl rfl (y8y rfl rfl q6q rfl v6v rfl hx (x1x 5 rfl rfl (z1z rfl rfl (y8y rfl rfl q6q rfl v6v rfl hy (x1x 4 rfl rfl ⟨by kernel_rfl, y2y rfl ?_ ?_⟩))))))<;>intro o<;>try simp at o
 ·refine x7x (hK12 _ _ (exG (x4x rfl ?_)))
  refine a0r (.int .i64 ((i + 1 : Nat) : Int)) rfl rfl rfl (a7f rfl (by omega) (by omega) (by have := hlen; omega)) ?_
  refine x0x rfl ?_
  exact ⟨i + 1, ⟨⟨by omega, h2, a7k h3 (c7z hx) (c7z hy) (by simp_all [bp])⟩, by omega⟩, [], cv, cv, hv, hv, rfl⟩
 refine exR (x0x rfl (x6x ⟨.inr rfl, ?_⟩))
 refine y6y rfl ?_ rfl
 exact kF (by intro h; have := e1s h.2.2.2.2.2.2 hx hy; simp_all [bp])
theorem a8h (c c' : Bool) (a b : Nd) : a1o Tryz.prog 56 [.agg (w6w c a), .agg (w6w c' b)] (.pv (.bool (decide (a = b)))) := by
 refine pX Tryz.f56 [.pv (.bool (decide (a = b)))] 2 ?_
 refine exR (z7z (id := 0) rfl rfl rfl (z7z (id := 1) rfl rfl rfl (x0x rfl (exA 4 rfl rfl (b0t rfl rfl (by intro p q h h'; cases h; cases h'; rfl) (.inl rfl) (e4m Tryz.underlying4 _ _ _ _) ?_)))))
 refine x4x rfl (z6z rfl rfl ?_ ?_)<;>intro o<;>try simp at o
 ·refine x1x 44 rfl rfl (x6x ⟨.inr rfl, ?_⟩)
  refine y6y rfl ?_ rfl
  exact kF (by intro h; subst h; simp_all [a9f, a2t])
 refine x1x 2 rfl rfl (z1z rfl rfl (x9x rfl rfl rfl (a8g ..) (x1x 2 rfl rfl (z6z rfl rfl ?_ ?_))))<;>intro o<;>try simp at o
 ·refine x1x 39 rfl rfl (x6x ⟨.inr rfl, ?_⟩)
  refine y6y rfl ?_ rfl
  exact kF (by intro h; subst h; simp_all [a9f, a2t])
 refine x1x 2 rfl rfl (z1z rfl rfl (x9x rfl rfl rfl (c8t ..) (x1x 2 rfl rfl (z6z rfl rfl ?_ ?_))))<;>intro o<;>try simp at o
 ·refine x1x 34 rfl rfl (x6x ⟨.inr rfl, ?_⟩)
  refine y6y rfl ?_ rfl
  exact kF (by intro h; subst h; simp_all [a9f, a2t])
 refine x1x 7 rfl rfl (z6z rfl rfl ?_ ?_)<;>intro o<;>try simp at o
 ·refine x1x 27 rfl rfl (x6x ⟨.inr rfl, ?_⟩)
  refine y6y rfl ?_ rfl
  exact kF (by intro h; subst h; simp_all [a9f, a2t])
 refine x1x 4 rfl rfl (z1z rfl rfl (x9x rfl rfl rfl (c4y ..) (x1x 2 rfl rfl (z6z rfl rfl ?_ ?_))))<;>intro o<;>try simp at o
 ·refine x1x 20 rfl rfl (x6x ⟨.inr rfl, ?_⟩)
  refine y6y rfl ?_ rfl
  exact kF (by intro h; subst h; simp_all [a9f, a2t])
 refine x1x 4 rfl rfl (z1z rfl rfl (x9x rfl rfl rfl (c8r ..) (x1x 2 rfl rfl (z6z rfl rfl ?_ ?_))))<;>intro o<;>try simp at o
 ·refine x1x 13 rfl rfl (x6x ⟨.inr rfl, ?_⟩)
  refine y6y rfl ?_ rfl
  exact kF (by intro h; subst h; simp_all [a9f, a2t])
 refine x1x 7 rfl rfl (z6z rfl rfl ?_ ?_)<;>intro o<;>try simp at o
 ·refine x1x 6 rfl rfl (x6x ⟨.inr rfl, ?_⟩)
  refine y6y rfl ?_ rfl
  exact kF (by intro h; subst h; simp_all [a9f, a2t])
 refine x1x 7 rfl rfl (x6x ⟨.inr rfl, ?_⟩)
 refine y6y rfl ?_ rfl
 (cases a; cases b; simp_all [a9f, a2t]; rfl)
end
section
theorem v0v (bs : List Nat) (hbs : ∀ b ∈ bs, b < 256) (S : Sm) (c : Nat) (hS : smOk S c) (ek en ep ew : Int) (eb : Bool) (hc : c ≤ 1000000) : MethE Tryz.prog 239 5 [.ptr 0 0 0, .agg [pI ek, pI en, pI ep, pI ew, .pv (.bool eb)]] [(0, (0, .box 171 [.ptr 4 0 0, pI S.w.time, a6k true S.w.apps, .ref 1 0, .ref 2 0, pI S.w.hub.round, r1r true S.w.hub.ones, r1r true S.w.hub.twos, r1r true S.w.hub.outs, a0p true S.w.sink, .ref 3 0])), (1, (0, .row 65 13 ((S.w.nodes).map (w6w true)))), (2, (0, .row 79 11 ((S.w.radio).map (q2q true)))), (3, (0, .row 263 5 ((S.list).map a4v))), (4, (0, .box 243 [q4q true bs, .pv (.int .i64 ((S.p : Nat) : Int))]))] (ι := Sm × Bool) (fun S' => smOk S'.1 (c + 1)) (fun S' => [0, 4]) (fun S' => .pv (.bool (S'.2))) (fun S' => [(0, (0, .box 171 [.ptr 4 0 0, pI S'.1.w.time, a6k true S'.1.w.apps, .ref 1 0, .ref 2 0, pI S'.1.w.hub.round, r1r true S'.1.w.hub.ones, r1r true S'.1.w.hub.twos, r1r true S'.1.w.hub.outs, a0p true S'.1.w.sink, .ref 3 0])), (1, (0, .row 65 13 ((S'.1.w.nodes).map (w6w true)))), (2, (0, .row 79 11 ((S'.1.w.radio).map (q2q true)))), (3, (0, .row 263 5 ((S'.1.list).map a4v))), (4, (0, .box 243 [q4q true bs, .pv (.int .i64 ((S'.1.p : Nat) : Int))]))]) := by
 refine mE (ι := Sm × Bool) Tryz.f239 (fun S' => [.pv (.bool (S'.2))]) 5 4 fun γ => ?_
 have hll := hS.2.1
 refine exR (z7z (id := 5) rfl rfl rfl (x0x rfl (d3h 5 (b5i s3s 0 5 rfl rfl ?_))))
 refine x1x 5 rfl rfl (b5i s3s 9 1 rfl rfl ?_)
 refine y7y (id := 6) r2r b8t rfl (b6o c4g (by rfl) [1, 2] [_, _] (d1q S.w ek en ep ew eb hS.1) rfl rfl rfl rfl (by decide) rfl rfl ihv (fun _ => (by (simp only [pI, a2q, a2r, b8m, gl, nx, a6t, Nat.beq]; rfl))) (fun _ => (by (simp only [pI, a2q, a2r, b8m, gl, nx, a6t, Nat.beq]; rfl))) (S.w, false) ⟨hS.1, fun _ => rfl⟩ fun j hj => ?_)
 obtain ⟨hj1, hj2⟩ := hj
 refine b5j s3s 6 3 rfl rfl ?_
 refine x1x 3 rfl rfl (b5j s3s 10 2 rfl rfl ?_)
 refine x3x rfl rfl r2r rfl rfl rfl rfl (x0x rfl (c3b (by kernel_rfl) ?_))
 refine x2x fun K1 hK1 => ?_
 refine exR (x4x rfl (y2y rfl ?_ ?_))<;>intro hc2<;>try simp at hc2
 ·have hb : j.2 = false := hc2
  obtain ⟨T, b⟩ := j
  obtain rfl : b = false := hb
  refine x7x (hK1 _ _ (exA 2 rfl rfl (x6x ?_)))
  exact ⟨.inr rfl, (⟨{ S.w with nodes := T.nodes }, S.list, S.p⟩, false), ⟨f1s hS.1 hj1, Nat.le_succ_of_le hll, Nat.le_succ_of_le hS.2.2⟩, [γ 0, _, γ 2, γ 3, γ 4], rfl, rfl, HE.box rfl rfl (HE.row rfl rfl (HE.row rfl (congrArg (List.map (q2q true)) (hj2 rfl)) (HE.row rfl rfl (HE.box rfl rfl HE.nil))))⟩
 have hb : j.2 = true := hc2
 obtain ⟨T, b⟩ := j
 obtain rfl : b = true := hb
 refine exA 4 rfl rfl (a1v rfl rfl r2r rfl rfl rfl rfl (a1d rfl) rfl ?_)
 refine exH (x1x 6 rfl rfl (u5u (id := 7) d4h rfl a1u rfl rfl rfl rfl rfl rfl ?_))
 refine u6u (zs := (S.list ++ [(⟨ek, en, ep, ew, eb⟩ : Te)]).map a4v) rfl rfl d4h rfl a1u rfl rfl rfl rfl (by rfl) (w7w a4v S.list (⟨ek, en, ep, ew, eb⟩ : Te)) (by (simp only [a0w, a0q, a0v, a0x, a1t, a3w, T263]; omega)) ?_
 refine x1x 2 rfl rfl (y9y rfl rfl d4h rfl rfl rfl rfl rfl (by simp only [a0y]; rfl) ?_)
 refine ⟨by kernel_rfl, hK1 _ _ (exA 2 rfl rfl (x6x ?_))⟩
 exact ⟨.inr rfl, (⟨T, S.list ++ [(⟨ek, en, ep, ew, eb⟩ : Te)], S.p⟩, true), ⟨hj1, by show (S.list ++ [_]).length ≤ _; rw [List.length_append]; exact Nat.succ_le_succ hll, Nat.le_succ_of_le hS.2.2⟩, [γ 0, _, _, _, γ 4], rfl, rfl, hv⟩
end
section
theorem r3r (bs : List Nat) (hbs : ∀ b ∈ bs, b < 256) (S : Sm) (c : Nat) (hS : smOk S c) (m odd : Nat) (hc : c + 4 * m ≤ 1000000) : MethE Tryz.prog 280 5 [.ptr 0 0 0, .pv (.int .i64 (m : Int)), .pv (.int .i64 (odd : Int))] [(0, (0, .box 171 [.ptr 4 0 0, pI S.w.time, a6k true S.w.apps, .ref 1 0, .ref 2 0, pI S.w.hub.round, r1r true S.w.hub.ones, r1r true S.w.hub.twos, r1r true S.w.hub.outs, a0p true S.w.sink, .ref 3 0])), (1, (0, .row 65 13 ((S.w.nodes).map (w6w true)))), (2, (0, .row 79 11 ((S.w.radio).map (q2q true)))), (3, (0, .row 263 5 ((S.list).map a4v))), (4, (0, .box 243 [q4q true bs, .pv (.int .i64 ((S.p : Nat) : Int))]))] (ι := Sm) (fun S' => smOk S' (c + 4 * m)) (fun S' => [0, 4]) (fun S' => .tup []) (fun S' => [(0, (0, .box 171 [.ptr 4 0 0, pI S'.w.time, a6k true S'.w.apps, .ref 1 0, .ref 2 0, pI S'.w.hub.round, r1r true S'.w.hub.ones, r1r true S'.w.hub.twos, r1r true S'.w.hub.outs, a0p true S'.w.sink, .ref 3 0])), (1, (0, .row 65 13 ((S'.w.nodes).map (w6w true)))), (2, (0, .row 79 11 ((S'.w.radio).map (q2q true)))), (3, (0, .row 263 5 ((S'.list).map a4v))), (4, (0, .box 243 [q4q true bs, .pv (.int .i64 ((S'.p : Nat) : Int))]))]) := by
 refine mE (ι := Sm) Tryz.f280 (fun S' => []) 5 1 fun γ => ?_
 refine exR (x0x rfl (y0y ?_))
 refine z3z (ι := Sm × Nat) (fun p γ1 => [(6, pI (p.2 : Int))]) (fun p γ1 => [(1, ((γ1 1), .row 65 13 ((p.1.w.nodes).map (w6w true)))), (2, ((γ1 2), .row 79 11 ((p.1.w.radio).map (q2q true)))), (3, ((γ1 3), .row 263 5 ((p.1.list).map a4v))), (0, ((γ 0), .box 171 [.ptr 4 (γ 4) 0, pI p.1.w.time, a6k true p.1.w.apps, .ref 1 (γ1 1), .ref 2 (γ1 2), pI p.1.w.hub.round, r1r true p.1.w.hub.ones, r1r true p.1.w.hub.twos, r1r true p.1.w.hub.outs, a0p true p.1.w.sink, .ref 3 (γ1 3)])), (4, ((γ 4), .box 243 [q4q true bs, pI ((p.1.p : Nat) : Int)])), (5, ((γ1 5), .dead))]) (fun p => smOk p.1 (c + 4 * p.2) ∧ p.2 ≤ m) (fun p => m - p.2) (cK [0, 1, 2] rfl) HE.nil (S, 0) ⟨hS, Nat.zero_le _⟩ [0, _, _, _, 0, _] cv hv rfl fun p γ1 hi => ?_
 obtain ⟨S1, i⟩ := p
 obtain ⟨h1, h2⟩ := hi
 dsimp only at h1 h2 ⊢
 have hp := h1.2.2
 refine x2x fun K1 hK1 => ?_
 refine exA 4 rfl rfl (z6z rfl rfl ?_ ?_)<;>intro h<;>try simp at h
 ·refine x1x 7 rfl rfl (x8x rfl (fun hc10 => ?_) (fun hc10 => ?_))
  ·simp at hc10
  try simp at hc10
  refine z4z ?_
  exact ⟨.inl rfl, S1, h1.mono (by omega), [γ 0, _, _, _, γ 4], rfl, rfl, hv⟩
 refine x1x 5 rfl rfl (z1z rfl rfl ?_)
 refine a1l (n := S1.w.radio.length) rfl v8v rfl rfl (List.length_map _) ?_
 refine x1x 2 rfl rfl (y2y rfl ?_ ?_)<;>intro h<;>try simp at h
 ·refine z4z ?_
  exact ⟨.inl rfl, S1, h1.mono (by omega), [γ 0, _, _, _, γ 4], rfl, rfl, hv⟩
 refine x7x (hK1 _ _ (x2x fun K4 hK4 => ?_))
 refine y0y (exR (rlB a1u a3g ?_))
 refine y7y (id := 5) a1u a3g rfl (x3x rfl rfl a1u rfl rfl rfl rfl ?_)
 refine a0k (ι := Nat × Int × Int × Bool) (fun q4 γ2 => []) (fun q4 γ2 => [(4, ((γ 4), .box 243 [q4q true bs, pI ((q4.1 : Nat) : Int)])), (5, ((γ1 5 + 1), .box 263 [pI q4.2.1, pI 0, pI 0, pI q4.2.2.1, .pv (.bool q4.2.2.2)]))]) (fun q4 => q4.1 ≤ c + 4 * i + 3) (cK [0, 1, 2, 6, 7] rfl) (hK [0, 1, 2, 3] rfl) ?_ fun q4 γ2 hi => ?_
 ·refine exA 3 rfl rfl (z6z rfl rfl ?_ ?_)<;>intro h<;>try simp at h
  ·refine x1x 7 rfl rfl (x8x rfl (fun hc9 => ?_) (fun hc9 => ?_))
   ·simp at hc9
   try simp at hc9
   refine x7x ?_
   exact ⟨(S1.p, 4, 0, false), (by show S1.p ≤ c + 4 * i + 3; omega), [], cv, cv, hv, hv, rfl⟩
  refine x1x 5 rfl rfl (z1z rfl rfl ?_)
  refine rlM [4] [_] (y4y true bs (S1.p) (odd) (by have := hp; omega) hbs) rfl rfl rfl ?_
  refine x1x 2 rfl rfl (y2y rfl ?_ ?_)<;>intro h<;>try simp at h
  ·refine x7x ?_
   exact ⟨(S1.p + 1, 4, 0, false), (by show S1.p + 1 ≤ c + 4 * i + 3; omega), [], cv, cv, hv, hv, rfl⟩
  refine exA 4 rfl rfl ?_
  refine rlM [4] [_] (y4y true bs (S1.p + 1) (4) (by have := hp; omega) hbs) rfl rfl rfl ?_
  refine y0y (exA 2 rfl rfl (x8x rfl ?_ ?_))<;>intro h<;>try simp at h
  ·refine exG (y1y rfl a1u rfl rfl q5q rfl rfl (y9y rfl rfl q5q rfl rfl rfl rfl rfl (by simp only [a0y]; rfl) ?_))
   exact ⟨(S1.p + 1 + 1, 5, 0, false), (by show S1.p + 1 + 1 ≤ c + 4 * i + 3; omega), [], cv, cv, hv, hv, rfl⟩
  refine exA 2 rfl rfl (x8x rfl ?_ ?_)<;>intro h<;>try simp at h
  ·refine exG (y1y rfl a1u rfl rfl d7x rfl rfl (y9y rfl rfl d7x rfl rfl rfl rfl rfl (by simp only [a0y]; rfl) ?_))
   exact ⟨(S1.p + 1 + 1, 4, 0, true), (by show S1.p + 1 + 1 ≤ c + 4 * i + 3; omega), [], cv, cv, hv, hv, rfl⟩
  refine exH (x1x 9 rfl rfl ?_)
  refine a1l (n := S1.w.radio.length) rfl v8v rfl rfl (List.length_map _) ?_
  refine rlM [4] [_] (y4y true bs (S1.p + 1 + 1) (S1.w.radio.length) (by have := hp; omega) hbs) rfl rfl rfl ?_
  refine y1y rfl a1u rfl rfl q5q rfl rfl (y9y rfl rfl q5q rfl rfl rfl rfl rfl (by simp only [a0y]; rfl) ?_)
  refine ⟨by kernel_rfl, ?_⟩
  exact ⟨(S1.p + 1 + 1 + 1, 4, (pk bs (S1.p + 1 + 1) S1.w.radio.length : Int), false), (by show S1.p + 1 + 1 + 1 ≤ c + 4 * i + 3; omega), [], cv, cv, hv, hv, rfl⟩
 ·try dsimp only [b3s, b3t]
  obtain ⟨q, ek, ew, eb⟩ := q4
  dsimp only at hi ⊢
  refine a8c fun B X0 w0 => ?_
  refine txR 2 rfl rfl (x1x 2 rfl rfl ?_)
  refine txM [0, 1, 2, 3, 4] [_, _, _, _, _] (v0v bs hbs (pSm S1 q) (c + 4 * i + 3) (a4d h1 (by omega) hi) ek 0 0 ew eb (by omega)) rfl rfl rfl rfl fun J hJ => ?_
  obtain ⟨j, jb⟩ := J
  have hj : smOk j (c + 4 * i + 3 + 1) := hJ
  refine w1w rfl (hK4 _ _ (exG (x4x rfl (z5z (b := 1) rfl rfl (by omega) (x0x rfl ?_)))))
  exact ⟨(j, i + 1), ⟨⟨hj.mono (by show _ ≤ c + 4 * (i + 1); omega), by show i + 1 ≤ m; omega⟩, (by show m - (i + 1) < m - i; omega)⟩, [0, _, _, _, 0, _], cv, cv, hv, hv, rfl⟩
end
section
theorem a6g (bs : List Nat) (hbs : ∀ b ∈ bs, b < 256) (S : Sm) (c : Nat) (hS : smOk S c) (m : Nat) (hm : m ≤ 1000) (hc : c + (2 + m) ≤ 1000000) : MethE Tryz.prog 134 5 [.ptr 0 0 0, .pv (.int .i64 (m : Int))] [(0, (0, .box 171 [.ptr 4 0 0, pI S.w.time, a6k true S.w.apps, .ref 1 0, .ref 2 0, pI S.w.hub.round, r1r true S.w.hub.ones, r1r true S.w.hub.twos, r1r true S.w.hub.outs, a0p true S.w.sink, .ref 3 0])), (1, (0, .row 65 13 ((S.w.nodes).map (w6w true)))), (2, (0, .row 79 11 ((S.w.radio).map (q2q true)))), (3, (0, .row 263 5 ((S.list).map a4v))), (4, (0, .box 243 [q4q true bs, .pv (.int .i64 ((S.p : Nat) : Int))]))] (ι := Sm) (fun S' => smOk S' (c + (2 + m))) (fun S' => [0, 4]) (fun S' => .tup []) (fun S' => [(0, (0, .box 171 [.ptr 4 0 0, pI S'.w.time, a6k true S'.w.apps, .ref 1 0, .ref 2 0, pI S'.w.hub.round, r1r true S'.w.hub.ones, r1r true S'.w.hub.twos, r1r true S'.w.hub.outs, a0p true S'.w.sink, .ref 3 0])), (1, (0, .row 65 13 ((S'.w.nodes).map (w6w true)))), (2, (0, .row 79 11 ((S'.w.radio).map (q2q true)))), (3, (0, .row 263 5 ((S'.list).map a4v))), (4, (0, .box 243 [q4q true bs, .pv (.int .i64 ((S'.p : Nat) : Int))]))]) := by
 refine mE (ι := Sm) Tryz.f134 (fun S' => []) 5 0 fun γ => ?_
 have hp := hS.2.2
 refine exA 4 rfl rfl ?_
 refine rlM [4] [_] (y4y true bs (S.p) (4) (by have := hp; omega) hbs) rfl rfl rfl ?_
 refine x0x rfl ?_
 obtain ⟨Pr, ePr, hPr⟩ : ∃ Pr, pk bs S.p 4 = Pr ∧ Pr ≤ 4 := ⟨_, rfl, b2h _ _ _⟩
 rw [ePr]
 refine exA 5 rfl rfl ?_
 refine rlM [4] [_] (y4y true bs (S.p + 1) (m) (by have := hp; omega) hbs) rfl rfl rfl ?_
 refine x0x rfl ?_
 obtain ⟨N, eN, hN⟩ : ∃ N, pk bs (S.p + 1) m = N ∧ N ≤ m := ⟨_, rfl, b2h _ _ _⟩
 rw [eN]
 refine y0y ?_
 refine z3z (ι := Sm × Nat) (fun p γ1 => [(5, pI (p.2 : Int))]) (fun p γ1 => [(1, ((γ1 1), .row 65 13 ((p.1.w.nodes).map (w6w true)))), (2, ((γ1 2), .row 79 11 ((p.1.w.radio).map (q2q true)))), (3, ((γ1 3), .row 263 5 ((p.1.list).map a4v))), (0, ((γ 0), .box 171 [.ptr 4 (γ 4) 0, pI p.1.w.time, a6k true p.1.w.apps, .ref 1 (γ1 1), .ref 2 (γ1 2), pI p.1.w.hub.round, r1r true p.1.w.hub.ones, r1r true p.1.w.hub.twos, r1r true p.1.w.hub.outs, a0p true p.1.w.sink, .ref 3 (γ1 3)])), (4, ((γ 4), .box 243 [q4q true bs, pI ((p.1.p : Nat) : Int)]))]) (fun p => smOk p.1 (c + 2 + (N - p.2)) ∧ p.2 ≤ N) (fun p => p.2) (cK [0, 4] rfl) HE.nil (pSm S (S.p + 1 + 1), N) ⟨a4d hS (by show _ ≤ c + 2 + (N - N); omega) (by show _ ≤ c + 2 + (N - N); omega), Nat.le_refl _⟩ [0, _, _, _] cv hv rfl fun p γ1 hi => ?_
 obtain ⟨S1, i⟩ := p
 obtain ⟨h1, h2⟩ := hi
 dsimp only at h1 h2 ⊢
 refine x2x fun K1 hK1 => ?_
 refine exA 2 rfl rfl (y2y rfl ?_ ?_)<;>intro h<;>try simp at h
 ·refine z4z ?_
  exact ⟨.inl rfl, S1, h1.mono (by omega), [γ 0, _, _, _, γ 4], rfl, rfl, hv⟩
 obtain ⟨i', rfl⟩ : ∃ i', i = i' + 1 := ⟨i - 1, by omega⟩
 refine x7x (hK1 _ _ (x2x fun K3 hK3 => ?_))
 refine y0y (a8c fun B X0 w0 => ?_)
 refine txR 5 rfl rfl (x1x 2 rfl rfl (x9x rfl rfl rfl (a2n ..) (x4x rfl (rlB a1u a3g ?_))))
 refine txM [0, 1, 2, 3, 4] [_, _, _, _, _] (v0v bs hbs S1 (c + 2 + (N - (i' + 1))) (h1.mono (by omega)) 1 (a1i Pr) Pr 0 false (by omega)) rfl rfl rfl rfl fun J hJ => ?_
 obtain ⟨j, jb⟩ := J
 have hj : smOk j (c + 2 + (N - (i' + 1)) + 1) := hJ
 refine w1w rfl (hK3 _ _ (exG (x4x rfl (a0s (b := 1) rfl rfl (by omega) (by omega) (x0x rfl ?_)))))
 exact ⟨(j, i'), ⟨⟨hj.mono (by show _ ≤ c + 2 + (N - i'); omega), by show i' ≤ N; omega⟩, (by show i' < i' + 1; omega)⟩, [0, _, _, _], cv, cv, hv, hv, rfl⟩
end
section
theorem a2z (bs : List Nat) (hbs : ∀ b ∈ bs, b < 256) (S : Sm) (c : Nat) (hS : smOk S c) (m odd : Nat) (hc : c + 195 * m ≤ 1000000) : MethE Tryz.prog 249 5 [.ptr 0 0 0, .pv (.int .i64 (m : Int)), .pv (.int .i64 (odd : Int))] [(0, (0, .box 171 [.ptr 4 0 0, pI S.w.time, a6k true S.w.apps, .ref 1 0, .ref 2 0, pI S.w.hub.round, r1r true S.w.hub.ones, r1r true S.w.hub.twos, r1r true S.w.hub.outs, a0p true S.w.sink, .ref 3 0])), (1, (0, .row 65 13 ((S.w.nodes).map (w6w true)))), (2, (0, .row 79 11 ((S.w.radio).map (q2q true)))), (3, (0, .row 263 5 ((S.list).map a4v))), (4, (0, .box 243 [q4q true bs, .pv (.int .i64 ((S.p : Nat) : Int))]))] (ι := Sm) (fun S' => smOk S' (c + 195 * m)) (fun S' => [0, 4]) (fun S' => .tup []) (fun S' => [(0, (0, .box 171 [.ptr 4 0 0, pI S'.w.time, a6k true S'.w.apps, .ref 1 0, .ref 2 0, pI S'.w.hub.round, r1r true S'.w.hub.ones, r1r true S'.w.hub.twos, r1r true S'.w.hub.outs, a0p true S'.w.sink, .ref 3 0])), (1, (0, .row 65 13 ((S'.w.nodes).map (w6w true)))), (2, (0, .row 79 11 ((S'.w.radio).map (q2q true)))), (3, (0, .row 263 5 ((S'.list).map a4v))), (4, (0, .box 243 [q4q true bs, .pv (.int .i64 ((S'.p : Nat) : Int))]))]) := by
 refine mE (ι := Sm) Tryz.f249 (fun S' => []) 5 0 fun γ => ?_
 refine exR (x0x rfl (y0y ?_))
 refine z3z (ι := Sm × Nat) (fun p γ1 => [(6, pI (p.2 : Int))]) (fun p γ1 => [(1, ((γ1 1), .row 65 13 ((p.1.w.nodes).map (w6w true)))), (2, ((γ1 2), .row 79 11 ((p.1.w.radio).map (q2q true)))), (3, ((γ1 3), .row 263 5 ((p.1.list).map a4v))), (0, ((γ 0), .box 171 [.ptr 4 (γ 4) 0, pI p.1.w.time, a6k true p.1.w.apps, .ref 1 (γ1 1), .ref 2 (γ1 2), pI p.1.w.hub.round, r1r true p.1.w.hub.ones, r1r true p.1.w.hub.twos, r1r true p.1.w.hub.outs, a0p true p.1.w.sink, .ref 3 (γ1 3)])), (4, ((γ 4), .box 243 [q4q true bs, pI ((p.1.p : Nat) : Int)]))]) (fun p => smOk p.1 (c + 195 * p.2) ∧ p.2 ≤ m) (fun p => m - p.2) (cK [0, 1, 2] rfl) HE.nil (S, 0) ⟨hS, Nat.zero_le _⟩ [0, _, _, _] cv hv rfl fun p γ1 hi => ?_
 obtain ⟨S1, k⟩ := p
 obtain ⟨h1, h2⟩ := hi
 dsimp only at h1 h2 ⊢
 refine x2x fun K1 hK1 => ?_
 refine exA 3 rfl rfl (y2y rfl ?_ ?_)<;>intro h<;>try simp at h
 ·refine z4z ?_
  exact ⟨.inl rfl, S1, h1.mono (by omega), [γ 0, _, _, _, γ 4], rfl, rfl, hv⟩
 refine x7x (hK1 _ _ (x2x fun K3 hK3 => ?_))
 refine y0y (x2x fun K4 hK4 => ?_)
 refine exR (x0x rfl (y0y ?_))
 refine z3z (ι := Sm × Nat) (fun p γ2 => [(7, pI (p.2 : Int))]) (fun p γ2 => [(1, ((γ2 1), .row 65 13 ((p.1.w.nodes).map (w6w true)))), (2, ((γ2 2), .row 79 11 ((p.1.w.radio).map (q2q true)))), (3, ((γ2 3), .row 263 5 ((p.1.list).map a4v))), (0, ((γ 0), .box 171 [.ptr 4 (γ 4) 0, pI p.1.w.time, a6k true p.1.w.apps, .ref 1 (γ2 1), .ref 2 (γ2 2), pI p.1.w.hub.round, r1r true p.1.w.hub.ones, r1r true p.1.w.hub.twos, r1r true p.1.w.hub.outs, a0p true p.1.w.sink, .ref 3 (γ2 3)])), (4, ((γ 4), .box 243 [q4q true bs, pI ((p.1.p : Nat) : Int)]))]) (fun p => smOk p.1 (c + 195 * k + (30 * p.2)) ∧ p.2 ≤ 4) (fun p => 4 - p.2) (cK [0, 1, 2, 6] rfl) HE.nil (S1, 0) ⟨h1, Nat.zero_le _⟩ [0, _, _, _] cv hv rfl fun p γ2 hi => ?_
 obtain ⟨S2, i⟩ := p
 obtain ⟨j1, j2⟩ := hi
 dsimp only at j1 j2 ⊢
 refine x2x fun K5 hK5 => ?_
 refine exA 2 rfl rfl (y2y rfl ?_ ?_)<;>intro h<;>try simp at h
 ·refine z4z (hK4 _ _ (exR (x0x rfl (y0y ?_))))
  refine z3z (ι := Sm × Nat) (fun p γ5 => [(9, pI (p.2 : Int))]) (fun p γ5 => [(1, ((γ5 1), .row 65 13 ((p.1.w.nodes).map (w6w true)))), (2, ((γ5 2), .row 79 11 ((p.1.w.radio).map (q2q true)))), (3, ((γ5 3), .row 263 5 ((p.1.list).map a4v))), (0, ((γ 0), .box 171 [.ptr 4 (γ 4) 0, pI p.1.w.time, a6k true p.1.w.apps, .ref 1 (γ5 1), .ref 2 (γ5 2), pI p.1.w.hub.round, r1r true p.1.w.hub.ones, r1r true p.1.w.hub.twos, r1r true p.1.w.hub.outs, a0p true p.1.w.sink, .ref 3 (γ5 3)])), (4, ((γ 4), .box 243 [q4q true bs, pI ((p.1.p : Nat) : Int)]))]) (fun p => smOk p.1 (c + 195 * k + (120 + 25 * p.2)) ∧ p.2 ≤ 3) (fun p => 3 - p.2) (cK [0, 1, 2, 6] rfl) HE.nil (S2, 0) ⟨j1.mono (by omega), Nat.zero_le _⟩ [0, _, _, _] cv hv rfl fun p γ5 hi => ?_
  obtain ⟨S4, q⟩ := p
  obtain ⟨l1, l2⟩ := hi
  dsimp only at l1 l2 ⊢
  refine x2x fun K12 hK12 => ?_
  refine exA 2 rfl rfl (y2y rfl ?_ ?_)<;>intro h<;>try simp at h
  ·refine z4z (hK3 _ _ (exG (x4x rfl (z5z (b := 1) rfl rfl (by omega) (x0x rfl ?_)))))
   exact ⟨(S4, k + 1), ⟨⟨l1.mono (by show _ ≤ c + 195 * (k + 1); omega), by show k + 1 ≤ m; omega⟩, (by show m - (k + 1) < m - k; omega)⟩, [0, _, _, _], cv, cv, hv, hv, rfl⟩
  refine x7x (hK12 _ _ (x2x fun K14 hK14 => ?_))
  refine y0y (a1b fun B X0 w0 => ?_)
  refine txR 3 rfl rfl (x1x 2 rfl rfl (rlB a1u a3g ?_))
  refine txM [0, 1, 2, 3, 4] [_, _, _, _, _] (v0v bs hbs S4 (c + 195 * k + (120 + 25 * q)) l1 2 q 0 0 false (by omega)) rfl rfl rfl rfl fun J hJ => ?_
  obtain ⟨j, jb⟩ := J
  have hj : smOk j (c + 195 * k + (120 + 25 * q) + 1) := hJ
  refine w1w rfl (a8c fun B X0 w0 => ?_)
  refine txR 2 rfl rfl (x1x 2 rfl rfl ?_)
  refine txM [0, 1, 2, 3, 4] [_, _, _, _, _] (r3r bs hbs j (c + 195 * k + (120 + 25 * q) + 1) hj 6 odd (by omega)) rfl rfl rfl rfl fun r hr => ?_
  refine w1w rfl (hK14 _ _ (exG (x4x rfl (z5z (b := 1) rfl rfl (by omega) (x0x rfl ?_)))))
  exact ⟨(r, q + 1), ⟨⟨hr.mono (by show _ ≤ c + 195 * k + (120 + 25 * (q + 1)); omega), by show q + 1 ≤ 3; omega⟩, (by show 3 - (q + 1) < 3 - q; omega)⟩, [0, _, _, _], cv, cv, hv, hv, rfl⟩
 refine x7x (hK5 _ _ ?_)
 refine a0k (ι := Sm) (fun T γ3 => []) (fun T γ3 => [(1, ((γ3 1), .row 65 13 ((T.w.nodes).map (w6w true)))), (2, ((γ3 2), .row 79 11 ((T.w.radio).map (q2q true)))), (3, ((γ3 3), .row 263 5 ((T.list).map a4v))), (0, ((γ 0), .box 171 [.ptr 4 (γ 4) 0, pI T.w.time, a6k true T.w.apps, .ref 1 (γ3 1), .ref 2 (γ3 2), pI T.w.hub.round, r1r true T.w.hub.ones, r1r true T.w.hub.twos, r1r true T.w.hub.outs, a0p true T.w.sink, .ref 3 (γ3 3)])), (4, ((γ 4), .box 243 [q4q true bs, pI ((T.p : Nat) : Int)]))]) (fun T => smOk T (c + 195 * k + (30 * i + 30))) (cK [0, 1, 2, 6, 7] rfl) HE.nil ?_ fun T γ3 hi => ?_
 ·refine y0y (exR (x0x rfl (y0y ?_)))
  refine z3z (ι := Sm × Nat) (fun p γ4 => [(8, pI (p.2 : Int))]) (fun p γ4 => [(1, ((γ4 1), .row 65 13 ((p.1.w.nodes).map (w6w true)))), (2, ((γ4 2), .row 79 11 ((p.1.w.radio).map (q2q true)))), (3, ((γ4 3), .row 263 5 ((p.1.list).map a4v))), (0, ((γ 0), .box 171 [.ptr 4 (γ 4) 0, pI p.1.w.time, a6k true p.1.w.apps, .ref 1 (γ4 1), .ref 2 (γ4 2), pI p.1.w.hub.round, r1r true p.1.w.hub.ones, r1r true p.1.w.hub.twos, r1r true p.1.w.hub.outs, a0p true p.1.w.sink, .ref 3 (γ4 3)])), (4, ((γ 4), .box 243 [q4q true bs, pI ((p.1.p : Nat) : Int)]))]) (fun p => smOk p.1 (c + 195 * k + (30 * i + p.2)) ∧ p.2 ≤ 30) (fun p => 30 - p.2) (cK [0, 1, 2, 6, 7] rfl) HE.nil (S2, 0) ⟨j1, Nat.zero_le _⟩ [0, _, _, _] cv hv rfl fun p γ4 hi => ?_
  obtain ⟨S3, q⟩ := p
  obtain ⟨k1, k2⟩ := hi
  dsimp only at k1 k2 ⊢
  refine x2x fun K7 hK7 => ?_
  refine a1b fun B X0 w0 => ?_
  refine txR 3 rfl rfl (x1x 3 rfl rfl (f5z 21 rfl ?_ ?_))<;>intro h<;>try simp at h
  rotate_left
  ·refine txR 7 rfl rfl (x1x 7 rfl rfl (w1w rfl (x8x rfl (fun hc11 => ?_) (fun hc11 => ?_))))
   ·simp at hc11
   try simp at hc11
   refine z4z ?_
   exact ⟨S3, (k1.mono (by omega)), [0, _, _, _], cv, cv, hv, hv, rfl⟩
  refine txR 5 rfl rfl (x1x 2 rfl rfl (z1z rfl rfl (x9x rfl rfl rfl (a2n ..) (z1z rfl rfl (x4x rfl (z1z rfl rfl (rlB a1u a3g ?_)))))))
  refine e3j [0, 1, 2, 3, 4] [_, _, _, _, _] (v0v bs hbs S3 (c + 195 * k + (30 * i + q)) k1 1 (a1i i) i 0 false (by omega)) rfl rfl rfl rfl rfl rfl rfl (by decide) rfl rfl ihv (fun _ => (by (simp only [pI, a2q, a2r, b8m, gl, nx, a6t, Nat.beq]; rfl))) (fun _ => (by (simp only [pI, a2q, a2r, b8m, gl, nx, a6t, Nat.beq]; rfl))) fun J hJ => ?_
  obtain ⟨j, jb⟩ := J
  have hj : smOk j (c + 195 * k + (30 * i + q) + 1) := hJ
  refine txR 1 rfl rfl (b1s rfl rfl (w1w rfl (y2y rfl ?_ ?_)))<;>intro h<;>try simp at h
  ·refine z4z ?_
   exact ⟨j, (hj.mono (by omega)), [0, _, _, _], cv, cv, hv, hv, rfl⟩
  refine x7x (hK7 _ _ (x2x fun K10 hK10 => ?_))
  refine y0y (x7x (hK10 _ _ (exG (x4x rfl (z5z (b := 1) rfl rfl (by omega) (x0x rfl ?_))))))
  exact ⟨(j, q + 1), ⟨⟨hj.mono (by show _ ≤ c + 195 * k + (30 * i + (q + 1)); omega), by show q + 1 ≤ 30; omega⟩, (by show 30 - (q + 1) < 30 - q; omega)⟩, [0, _, _, _], cv, cv, hv, hv, rfl⟩
 ·try dsimp only [b3s, b3t]
  refine exG (x4x rfl (z5z (b := 1) rfl rfl (by omega) (x0x rfl ?_)))
  exact ⟨(T, i + 1), ⟨⟨hi.mono (by show _ ≤ c + 195 * k + 30 * (i + 1); omega), by show i + 1 ≤ 4; omega⟩, (by show 4 - (i + 1) < 4 - i; omega)⟩, [0, _, _, _], cv, cv, hv, hv, rfl⟩
end
section
theorem b9o (bs : List Nat) (hbs : ∀ b ∈ bs, b < 256) (S : Sm) (c : Nat) (hS : smOk S c)  (hc : c + 960 ≤ 1000000) : MethE Tryz.prog 289 5 [.ptr 0 0 0] [(0, (0, .box 171 [.ptr 4 0 0, pI S.w.time, a6k true S.w.apps, .ref 1 0, .ref 2 0, pI S.w.hub.round, r1r true S.w.hub.ones, r1r true S.w.hub.twos, r1r true S.w.hub.outs, a0p true S.w.sink, .ref 3 0])), (1, (0, .row 65 13 ((S.w.nodes).map (w6w true)))), (2, (0, .row 79 11 ((S.w.radio).map (q2q true)))), (3, (0, .row 263 5 ((S.list).map a4v))), (4, (0, .box 243 [q4q true bs, .pv (.int .i64 ((S.p : Nat) : Int))]))] (ι := Sm) (fun S' => smOk S' (c + 960)) (fun S' => [0, 4]) (fun S' => .tup []) (fun S' => [(0, (0, .box 171 [.ptr 4 0 0, pI S'.w.time, a6k true S'.w.apps, .ref 1 0, .ref 2 0, pI S'.w.hub.round, r1r true S'.w.hub.ones, r1r true S'.w.hub.twos, r1r true S'.w.hub.outs, a0p true S'.w.sink, .ref 3 0])), (1, (0, .row 65 13 ((S'.w.nodes).map (w6w true)))), (2, (0, .row 79 11 ((S'.w.radio).map (q2q true)))), (3, (0, .row 263 5 ((S'.list).map a4v))), (4, (0, .box 243 [q4q true bs, .pv (.int .i64 ((S'.p : Nat) : Int))]))]) := by
 refine mE (ι := Sm) Tryz.f289 (fun S' => []) 5 0 fun γ => ?_
 refine a1b fun B X0 w0 => ?_
 refine txR 7 rfl rfl (x1x 5 rfl rfl ?_)
 refine rlM [4] [_] (y4y true bs (S.p) (3) (by have := hS.2.2; omega) hbs) rfl rfl rfl ?_
 obtain ⟨N, eN, hN⟩ : ∃ N, pk bs S.p 3 = N ∧ N ≤ 3 := ⟨_, rfl, b2h _ _ _⟩
 rw [eN]
 refine z5z (a := 1) rfl rfl (by omega) ?_
 refine txM [0, 1, 2, 3, 4] [_, _, _, _, _] (a2z bs hbs (pSm S (S.p + 1)) (c + 1) (a4d hS (by omega) (by have := hS.2.2; omega)) (1 + N) 0 (by omega)) rfl rfl rfl rfl fun a ha => ?_
 have ha2 : smOk a (c + 781) := ha.mono (by omega)
 refine w1w rfl (a1b fun B X0 w0 => ?_)
 refine txR 2 rfl rfl (x4x rfl (rlB a1u a3g ?_))
 refine txM [0, 1, 2, 3, 4] [_, _, _, _, _] (v0v bs hbs a (c + 781) ha2 3 0 0 0 false (by omega)) rfl rfl rfl rfl fun J hJ => ?_
 obtain ⟨j, jb⟩ := J
 have hj : smOk j (c + 781 + 1) := hJ
 refine w1w rfl (a1b fun B X0 w0 => ?_)
 refine txR 6 rfl rfl (x1x 5 rfl rfl ?_)
 refine rlM [4] [_] (y4y true bs (j.p) (12) (by have := hj.2.2; omega) hbs) rfl rfl rfl ?_
 refine txM [0, 1, 2, 3, 4] [_, _, _, _, _] (r3r bs hbs (pSm j (j.p + 1)) (c + 783) (a4d hj (by omega) (by have := hj.2.2; omega)) (pk bs j.p 12) 0 (by have := b2h bs j.p 12; omega)) rfl rfl rfl rfl fun b hb => ?_
 have hb2 : smOk b (c + 831) := hb.mono (by have := b2h bs j.p 12; omega)
 refine w1w rfl (exA 4 rfl rfl ?_)
 refine rlM [4] [_] (y4y true bs (b.p) (3) (by have := hb2.2.2; omega) hbs) rfl rfl rfl ?_
 refine x0x rfl ?_
 obtain ⟨Pr, ePr, hPr⟩ : ∃ Pr, pk bs b.p 3 = Pr ∧ Pr ≤ 3 := ⟨_, rfl, b2h _ _ _⟩
 rw [ePr]
 refine a1b fun B X0 w0 => ?_
 refine txR 3 rfl rfl (x1x 2 rfl rfl (rlB a1u a3g ?_))
 refine txM [0, 1, 2, 3, 4] [_, _, _, _, _] (v0v bs hbs (pSm b (b.p + 1)) (c + 832) (a4d hb2 (by omega) (by have := hb2.2.2; omega)) 6 Pr 0 0 false (by omega)) rfl rfl rfl rfl fun J hJ => ?_
 obtain ⟨j, jb⟩ := J
 have hj : smOk j (c + 832 + 1) := hJ
 refine w1w rfl ?_
 refine a0k (ι := Sm) (fun T γ1 => []) (fun T γ1 => [(1, ((γ1 1), .row 65 13 ((T.w.nodes).map (w6w true)))), (2, ((γ1 2), .row 79 11 ((T.w.radio).map (q2q true)))), (3, ((γ1 3), .row 263 5 ((T.list).map a4v))), (0, ((γ 0), .box 171 [.ptr 4 (γ 4) 0, pI T.w.time, a6k true T.w.apps, .ref 1 (γ1 1), .ref 2 (γ1 2), pI T.w.hub.round, r1r true T.w.hub.ones, r1r true T.w.hub.twos, r1r true T.w.hub.outs, a0p true T.w.sink, .ref 3 (γ1 3)])), (4, ((γ 4), .box 243 [q4q true bs, pI ((T.p : Nat) : Int)]))]) (fun T => smOk T (c + 839)) (y3y 0 rfl Cov.nil) HE.nil ?_ fun T γ1 hi => ?_
 ·refine exA 4 rfl rfl ?_
  refine rlM [4] [_] (y4y true bs (j.p) (4) (by have := hj.2.2; omega) hbs) rfl rfl rfl ?_
  refine v1v rfl rfl rfl (y2y rfl ?_ ?_)<;>intro h<;>try simp at h
  ·refine x7x ?_
   exact ⟨(pSm j (j.p + 1)), (a4d hj (by omega) (by have := hj.2.2; omega)), [0, _, _, _], cv, cv, hv, hv, rfl⟩
  refine a1b fun B X0 w0 => ?_
  refine txR 3 rfl rfl (x1x 2 rfl rfl (rlB a1u a3g ?_))
  refine txM [0, 1, 2, 3, 4] [_, _, _, _, _] (v0v bs hbs (pSm j (j.p + 1)) (c + 834) (a4d hj (by omega) (by have := hj.2.2; omega)) 7 Pr 0 0 false (by omega)) rfl rfl rfl rfl fun J hJ => ?_
  obtain ⟨j, jb⟩ := J
  have hj : smOk j (c + 834 + 1) := hJ
  refine w1w rfl (a1b fun B X0 w0 => ?_)
  refine txR 3 rfl rfl (x1x 2 rfl rfl (rlB a1u a3g ?_))
  refine txM [0, 1, 2, 3, 4] [_, _, _, _, _] (v0v bs hbs j (c + 834 + 1) hj 2 Pr 0 0 false (by omega)) rfl rfl rfl rfl fun J hJ => ?_
  obtain ⟨j, jb⟩ := J
  have hj : smOk j (c + 834 + 1 + 1) := hJ
  refine w1w rfl (exA 4 rfl rfl ?_)
  refine rlM [4] [_] (y4y true bs (j.p) (2) (by have := hj.2.2; omega) hbs) rfl rfl rfl ?_
  refine v1v rfl rfl rfl (y2y rfl ?_ ?_)<;>intro h<;>try simp at h
  ·refine x7x ?_
   exact ⟨(pSm j (j.p + 1)), (a4d hj (by omega) (by have := hj.2.2; omega)), [0, _, _, _], cv, cv, hv, hv, rfl⟩
  refine a1b fun B X0 w0 => ?_
  refine txR 9 rfl rfl (x1x 6 rfl rfl ?_)
  refine a1l (n := j.w.radio.length) rfl v8v rfl rfl (List.length_map _) ?_
  have hr40 := hj.1.2.2.2.1
  refine a0r (.int .i64 ((j.w.radio.length : Int) - 1)) rfl rfl rfl (a7f rfl (by omega) (by omega) (by omega)) ?_
  refine rlB a1u a3g ?_
  refine txM [0, 1, 2, 3, 4] [_, _, _, _, _] (v0v bs hbs (pSm j (j.p + 1)) (c + 837) (a4d hj (by omega) (by have := hj.2.2; omega)) 4 0 0 ((j.w.radio.length : Int) - 1) false (by omega)) rfl rfl rfl rfl fun J hJ => ?_
  obtain ⟨j, jb⟩ := J
  have hj : smOk j (c + 837 + 1) := hJ
  refine w1w rfl (a8c fun B X0 w0 => ?_)
  refine txR 9 rfl rfl (x1x 6 rfl rfl ?_)
  refine a1l (n := j.w.radio.length) rfl v8v rfl rfl (List.length_map _) ?_
  have hr40 := hj.1.2.2.2.1
  refine a0r (.int .i64 ((j.w.radio.length : Int) - 1)) rfl rfl rfl (a7f rfl (by omega) (by omega) (by omega)) ?_
  refine rlB a1u a3g ?_
  refine txM [0, 1, 2, 3, 4] [_, _, _, _, _] (v0v bs hbs j (c + 837 + 1) hj 4 0 0 ((j.w.radio.length : Int) - 1) false (by omega)) rfl rfl rfl rfl fun J hJ => ?_
  obtain ⟨j, jb⟩ := J
  have hj : smOk j (c + 837 + 1 + 1) := hJ
  refine w1w rfl ?_
  exact ⟨j, (hj.mono (by omega)), [0, _, _, _], cv, cv, hv, hv, rfl⟩
 ·try dsimp only [b3s, b3t]
  refine a8c fun B X0 w0 => ?_
  refine txR 1 rfl rfl (x4x rfl ?_)
  refine txM [0, 1, 2, 3, 4] [_, _, _, _, _] (r3r bs hbs T (c + 839) hi 30 6 (by omega)) rfl rfl rfl rfl fun r hr => ?_
  refine w1w rfl ?_
  exact ⟨.inl rfl, r, hr.mono (by omega), [γ 0, _, _, _, γ 4], rfl, rfl, hv⟩
end
section
theorem a8z (bs : List Nat) (hbs : ∀ b ∈ bs, b < 256) (S : Sm) (c : Nat) (hS : smOk S c) (odd : Nat) (hc : c + 281 ≤ 1000000) : MethE Tryz.prog 215 5 [.ptr 0 0 0, .pv (.int .i64 (odd : Int))] [(0, (0, .box 171 [.ptr 4 0 0, pI S.w.time, a6k true S.w.apps, .ref 1 0, .ref 2 0, pI S.w.hub.round, r1r true S.w.hub.ones, r1r true S.w.hub.twos, r1r true S.w.hub.outs, a0p true S.w.sink, .ref 3 0])), (1, (0, .row 65 13 ((S.w.nodes).map (w6w true)))), (2, (0, .row 79 11 ((S.w.radio).map (q2q true)))), (3, (0, .row 263 5 ((S.list).map a4v))), (4, (0, .box 243 [q4q true bs, .pv (.int .i64 ((S.p : Nat) : Int))]))] (ι := Sm) (fun S' => smOk S' (c + 281)) (fun S' => [0, 4]) (fun S' => .tup []) (fun S' => [(0, (0, .box 171 [.ptr 4 0 0, pI S'.w.time, a6k true S'.w.apps, .ref 1 0, .ref 2 0, pI S'.w.hub.round, r1r true S'.w.hub.ones, r1r true S'.w.hub.twos, r1r true S'.w.hub.outs, a0p true S'.w.sink, .ref 3 0])), (1, (0, .row 65 13 ((S'.w.nodes).map (w6w true)))), (2, (0, .row 79 11 ((S'.w.radio).map (q2q true)))), (3, (0, .row 263 5 ((S'.list).map a4v))), (4, (0, .box 243 [q4q true bs, .pv (.int .i64 ((S'.p : Nat) : Int))]))]) := by
 refine mE (ι := Sm) Tryz.f215 (fun S' => []) 5 0 fun γ => ?_
 refine x2x fun K1 hK1 => ?_
 refine exR (x0x rfl (y0y ?_))
 refine z3z (ι := Sm × Nat) (fun p γ1 => [(4, pI (p.2 : Int))]) (fun p γ1 => [(1, ((γ1 1), .row 65 13 ((p.1.w.nodes).map (w6w true)))), (2, ((γ1 2), .row 79 11 ((p.1.w.radio).map (q2q true)))), (3, ((γ1 3), .row 263 5 ((p.1.list).map a4v))), (0, ((γ 0), .box 171 [.ptr 4 (γ 4) 0, pI p.1.w.time, a6k true p.1.w.apps, .ref 1 (γ1 1), .ref 2 (γ1 2), pI p.1.w.hub.round, r1r true p.1.w.hub.ones, r1r true p.1.w.hub.twos, r1r true p.1.w.hub.outs, a0p true p.1.w.sink, .ref 3 (γ1 3)])), (4, ((γ 4), .box 243 [q4q true bs, pI ((p.1.p : Nat) : Int)]))]) (fun p => smOk p.1 (c + 7 * p.2) ∧ p.2 ≤ 4) (fun p => 4 - p.2) (cK [0, 1] rfl) HE.nil (S, 0) ⟨hS, Nat.zero_le _⟩ [0, _, _, _] cv hv rfl fun p γ1 hi => ?_
 obtain ⟨S1, k⟩ := p
 obtain ⟨h1, h2⟩ := hi
 dsimp only at h1 h2 ⊢
 have hp := h1.2.2
 refine x2x fun K2 hK2 => ?_
 refine exA 2 rfl rfl (x8x rfl ?_ ?_)<;>intro h<;>try simp at h
 ·refine x7x (hK2 _ _ (x2x fun K4 hK4 => ?_))
  refine y0y (exA 4 rfl rfl ?_)
  refine rlM [4] [_] (y4y true bs (S1.p) (6) (by have := hp; omega) hbs) rfl rfl rfl ?_
  refine x0x rfl ?_
  obtain ⟨N, eN, hN⟩ : ∃ N, pk bs S1.p 6 = N ∧ N ≤ 6 := ⟨_, rfl, b2h _ _ _⟩
  rw [eN]
  refine y0y ?_
  refine z3z (ι := Sm × Nat) (fun p γ2 => [(5, pI (p.2 : Int))]) (fun p γ2 => [(1, ((γ2 1), .row 65 13 ((p.1.w.nodes).map (w6w true)))), (2, ((γ2 2), .row 79 11 ((p.1.w.radio).map (q2q true)))), (3, ((γ2 3), .row 263 5 ((p.1.list).map a4v))), (0, ((γ 0), .box 171 [.ptr 4 (γ 4) 0, pI p.1.w.time, a6k true p.1.w.apps, .ref 1 (γ2 1), .ref 2 (γ2 2), pI p.1.w.hub.round, r1r true p.1.w.hub.ones, r1r true p.1.w.hub.twos, r1r true p.1.w.hub.outs, a0p true p.1.w.sink, .ref 3 (γ2 3)])), (4, ((γ 4), .box 243 [q4q true bs, pI ((p.1.p : Nat) : Int)]))]) (fun p => smOk p.1 (c + 7 * k + 1 + (N - p.2)) ∧ p.2 ≤ N) (fun p => p.2) (cK [0, 1, 4] rfl) HE.nil (pSm S1 (S1.p + 1), N) ⟨a4d h1 (by show _ ≤ c + 7 * k + 1 + (N - N); omega) (by show _ ≤ c + 7 * k + 1 + (N - N); omega), Nat.le_refl _⟩ [0, _, _, _] cv hv rfl fun p γ2 hi => ?_
  obtain ⟨S2, i⟩ := p
  obtain ⟨j1, j2⟩ := hi
  dsimp only at j1 j2 ⊢
  refine x2x fun K5 hK5 => ?_
  refine exA 2 rfl rfl (y2y rfl ?_ ?_)<;>intro h<;>try simp at h
  ·refine z4z (hK4 _ _ (exG (x4x rfl (z5z (b := 1) rfl rfl (by omega) (x0x rfl ?_)))))
   exact ⟨(S2, k + 1), ⟨⟨j1.mono (by show _ ≤ c + 7 * (k + 1); omega), by show k + 1 ≤ 4; omega⟩, (by show 4 - (k + 1) < 4 - k; omega)⟩, [0, _, _, _], cv, cv, hv, hv, rfl⟩
  obtain ⟨i', rfl⟩ : ∃ i', i = i' + 1 := ⟨i - 1, by omega⟩
  refine x7x (hK5 _ _ (x2x fun K7 hK7 => ?_))
  refine y0y (a8c fun B X0 w0 => ?_)
  refine txR 5 rfl rfl (x1x 2 rfl rfl (x9x rfl rfl rfl (a2n ..) (x4x rfl (rlB a1u a3g ?_))))
  refine txM [0, 1, 2, 3, 4] [_, _, _, _, _] (v0v bs hbs S2 (c + 7 * k + 1 + (N - (i' + 1))) (j1.mono (by omega)) 1 (a1i k) k 0 false (by omega)) rfl rfl rfl rfl fun J hJ => ?_
  obtain ⟨j, jb⟩ := J
  have hj : smOk j (c + 7 * k + 1 + (N - (i' + 1)) + 1) := hJ
  refine w1w rfl (hK7 _ _ (exG (x4x rfl (a0s (b := 1) rfl rfl (by omega) (by omega) (x0x rfl ?_)))))
  exact ⟨(j, i'), ⟨⟨hj.mono (by show _ ≤ c + 7 * k + 1 + (N - i'); omega), by show i' ≤ N; omega⟩, (by show i' < i' + 1; omega)⟩, [0, _, _, _], cv, cv, hv, hv, rfl⟩
 refine z4z (hK1 _ _ (x2x fun K8 hK8 => ?_))
 refine exR (x0x rfl (y0y ?_))
 refine z3z (ι := Sm × Nat) (fun p γ3 => [(6, pI (p.2 : Int))]) (fun p γ3 => [(1, ((γ3 1), .row 65 13 ((p.1.w.nodes).map (w6w true)))), (2, ((γ3 2), .row 79 11 ((p.1.w.radio).map (q2q true)))), (3, ((γ3 3), .row 263 5 ((p.1.list).map a4v))), (0, ((γ 0), .box 171 [.ptr 4 (γ 4) 0, pI p.1.w.time, a6k true p.1.w.apps, .ref 1 (γ3 1), .ref 2 (γ3 2), pI p.1.w.hub.round, r1r true p.1.w.hub.ones, r1r true p.1.w.hub.twos, r1r true p.1.w.hub.outs, a0p true p.1.w.sink, .ref 3 (γ3 3)])), (4, ((γ 4), .box 243 [q4q true bs, pI ((p.1.p : Nat) : Int)]))]) (fun p => smOk p.1 (c + 28 + p.2) ∧ p.2 ≤ 3) (fun p => 3 - p.2) (cK [0, 1] rfl) HE.nil (S1, 0) ⟨h1.mono (by omega), Nat.zero_le _⟩ [0, _, _, _] cv hv rfl fun p γ3 hi => ?_
 obtain ⟨S3, q⟩ := p
 obtain ⟨k1, k2⟩ := hi
 dsimp only at k1 k2 ⊢
 refine x2x fun K9 hK9 => ?_
 refine exA 2 rfl rfl (x8x rfl ?_ ?_)<;>intro h<;>try simp at h
 ·refine x7x (hK9 _ _ (x2x fun K11 hK11 => ?_))
  refine y0y (a8c fun B X0 w0 => ?_)
  refine txR 3 rfl rfl (x1x 2 rfl rfl (rlB a1u a3g ?_))
  refine txM [0, 1, 2, 3, 4] [_, _, _, _, _] (v0v bs hbs S3 (c + 28 + q) k1 2 q 0 0 false (by omega)) rfl rfl rfl rfl fun J hJ => ?_
  obtain ⟨j, jb⟩ := J
  have hj : smOk j (c + 28 + q + 1) := hJ
  refine w1w rfl (hK11 _ _ (exG (x4x rfl (z5z (b := 1) rfl rfl (by omega) (x0x rfl ?_)))))
  exact ⟨(j, q + 1), ⟨⟨hj.mono (by show _ ≤ c + 28 + (q + 1); omega), by show q + 1 ≤ 3; omega⟩, (by show 3 - (q + 1) < 3 - q; omega)⟩, [0, _, _, _], cv, cv, hv, hv, rfl⟩
 refine z4z (hK8 _ _ (a1b fun B X0 w0 => ?_))
 refine txR 1 rfl rfl (x4x rfl ?_)
 refine txM [0, 1, 2, 3, 4] [_, _, _, _, _] (r3r bs hbs S3 (c + 28 + 3) (k1.mono (by omega)) 30 0 (by omega)) rfl rfl rfl rfl fun b hb => ?_
 refine w1w rfl (a1b fun B X0 w0 => ?_)
 refine txR 2 rfl rfl (x4x rfl (rlB a1u a3g ?_))
 refine txM [0, 1, 2, 3, 4] [_, _, _, _, _] (v0v bs hbs b (c + 28 + 3 + 4 * 30) hb 3 0 0 0 false (by omega)) rfl rfl rfl rfl fun J hJ => ?_
 obtain ⟨j, jb⟩ := J
 have hj : smOk j (c + 28 + 3 + 4 * 30 + 1) := hJ
 refine w1w rfl (a8c fun B X0 w0 => ?_)
 refine txR 8 rfl rfl (x1x 5 rfl rfl ?_)
 refine rlM [4] [_] (y4y true bs (j.p) (30) (by have := hj.2.2; omega) hbs) rfl rfl rfl ?_
 obtain ⟨N, eN, hN⟩ : ∃ N, pk bs j.p 30 = N ∧ N ≤ 30 := ⟨_, rfl, b2h _ _ _⟩
 rw [eN]
 refine z5z (a := 2) rfl rfl (by omega) (x4x rfl ?_)
 refine txM [0, 1, 2, 3, 4] [_, _, _, _, _] (r3r bs hbs (pSm j (j.p + 1)) (c + 28 + 3 + 4 * 30 + 1 + 1) (a4d hj (by omega) (by have := hj.2.2; omega)) (2 + N) odd (by omega)) rfl rfl rfl rfl fun r hr => ?_
 refine w1w rfl ?_
 exact ⟨.inl rfl, r, hr.mono (by omega), [γ 0, _, _, _, γ 4], rfl, rfl, hv⟩
end
section
theorem b8h (bs : List Nat) (hbs : ∀ b ∈ bs, b < 256) (S : Sm) (c : Nat) (hS : smOk S c)  (hc : c + 1030 ≤ 1000000) : MethE Tryz.prog 288 5 [.ptr 0 0 0] [(0, (0, .box 171 [.ptr 4 0 0, pI S.w.time, a6k true S.w.apps, .ref 1 0, .ref 2 0, pI S.w.hub.round, r1r true S.w.hub.ones, r1r true S.w.hub.twos, r1r true S.w.hub.outs, a0p true S.w.sink, .ref 3 0])), (1, (0, .row 65 13 ((S.w.nodes).map (w6w true)))), (2, (0, .row 79 11 ((S.w.radio).map (q2q true)))), (3, (0, .row 263 5 ((S.list).map a4v))), (4, (0, .box 243 [q4q true bs, .pv (.int .i64 ((S.p : Nat) : Int))]))] (ι := Sm) (fun S' => smOk S' (c + 1030)) (fun S' => [0, 4]) (fun S' => .tup []) (fun S' => [(0, (0, .box 171 [.ptr 4 0 0, pI S'.w.time, a6k true S'.w.apps, .ref 1 0, .ref 2 0, pI S'.w.hub.round, r1r true S'.w.hub.ones, r1r true S'.w.hub.twos, r1r true S'.w.hub.outs, a0p true S'.w.sink, .ref 3 0])), (1, (0, .row 65 13 ((S'.w.nodes).map (w6w true)))), (2, (0, .row 79 11 ((S'.w.radio).map (q2q true)))), (3, (0, .row 263 5 ((S'.list).map a4v))), (4, (0, .box 243 [q4q true bs, .pv (.int .i64 ((S'.p : Nat) : Int))]))]) := by
 refine mE (ι := Sm) Tryz.f288 (fun S' => []) 5 0 fun γ => ?_
 refine a1b fun B X0 w0 => ?_
 refine txR 7 rfl rfl (x1x 5 rfl rfl ?_)
 refine rlM [4] [_] (y4y true bs (S.p) (2) (by have := hS.2.2; omega) hbs) rfl rfl rfl ?_
 obtain ⟨N, eN, hN⟩ : ∃ N, pk bs S.p 2 = N ∧ N ≤ 2 := ⟨_, rfl, b2h _ _ _⟩
 rw [eN]
 refine z5z (a := 1) rfl rfl (by omega) ?_
 refine txM [0, 1, 2, 3, 4] [_, _, _, _, _] (a2z bs hbs (pSm S (S.p + 1)) (c + 1) (a4d hS (by omega) (by have := hS.2.2; omega)) (1 + N) 0 (by omega)) rfl rfl rfl rfl fun a ha => ?_
 have ha2 : smOk a (c + 586) := ha.mono (by omega)
 refine w1w rfl (a1b fun B X0 w0 => ?_)
 refine txR 1 rfl rfl (x4x rfl ?_)
 refine txM [0, 1, 2, 3, 4] [_, _, _, _, _] (a8z bs hbs a (c + 586) ha2 0 (by omega)) rfl rfl rfl rfl fun b hb => ?_
 refine w1w rfl (a1b fun B X0 w0 => ?_)
 refine txR 2 rfl rfl (x4x rfl (rlB a1u a3g ?_))
 refine txM [0, 1, 2, 3, 4] [_, _, _, _, _] (v0v bs hbs b (c + 586 + 281) hb 3 0 0 0 false (by omega)) rfl rfl rfl rfl fun J hJ => ?_
 obtain ⟨j, jb⟩ := J
 have hj : smOk j (c + 586 + 281 + 1) := hJ
 refine w1w rfl (exA 5 rfl rfl ?_)
 refine a1l (n := j.w.radio.length) rfl v8v rfl rfl (List.length_map _) ?_
 refine x0x rfl (x2x fun K1 hK1 => ?_)
 refine exA 2 rfl rfl (x8x rfl ?_ ?_)<;>intro h<;>try simp at h
 ·refine x6x ?_
  exact ⟨.inr rfl, j, hj.mono (by omega), [γ 0, _, _, _, γ 4], rfl, rfl, hv⟩
 have hr40 := hj.1.2.2.2.1
 refine x7x (hK1 _ _ (exR (x4x rfl (a0s (b := 2) rfl rfl (by omega) (by omega) (x1x 4 rfl rfl ?_)))))
 refine rlM [4] [_] (y4y true bs (j.p) (2) (by have := hj.2.2; omega) hbs) rfl rfl rfl ?_
 obtain ⟨X, eX, hX⟩ : ∃ X, pk bs j.p 2 = X ∧ X < 2 := ⟨_, rfl, a4t _ _ _ (by omega)⟩
 rw [eX]
 refine z5z rfl rfl (by have := hj.1.2.2.2.1; omega) ?_
 refine x0x rfl ?_
 obtain ⟨z, ez, hz⟩ : ∃ z, j.w.radio.length - 2 + X = z ∧ z < j.w.radio.length := ⟨_, rfl, by omega⟩
 rw [ez]
 obtain ⟨x, hx⟩ := gE j.w.radio z
 refine exA 6 rfl rfl ?_
 refine v2v (j := z) rfl rfl v8v rfl v7v rfl rfl hz ?_
 refine y1y rfl v7v rfl rfl q5q rfl rfl (a1h rfl q5q rfl hx rfl (x0x rfl (a1b fun B X0 w0 => ?_)))
 refine txR 3 rfl rfl (x1x 2 rfl rfl (rlB a1u a3g ?_))
 refine txM [0, 1, 2, 3, 4] [_, _, _, _, _] (v0v bs hbs (pSm j (j.p + 1)) (c + 869) (a4d hj (by omega) (by have := hj.2.2; omega)) 4 0 0 z true (by omega)) rfl rfl rfl rfl fun J hJ => ?_
 obtain ⟨j, jb⟩ := J
 have hj : smOk j (c + 869 + 1) := hJ
 refine w1w rfl ?_
 refine a0k (ι := Sm) (fun T γ1 => []) (fun T γ1 => [(1, ((γ1 1), .row 65 13 ((T.w.nodes).map (w6w true)))), (2, ((γ1 2), .row 79 11 ((T.w.radio).map (q2q true)))), (3, ((γ1 3), .row 263 5 ((T.list).map a4v))), (0, ((γ 0), .box 171 [.ptr 4 (γ 4) 0, pI T.w.time, a6k true T.w.apps, .ref 1 (γ1 1), .ref 2 (γ1 2), pI T.w.hub.round, r1r true T.w.hub.ones, r1r true T.w.hub.twos, r1r true T.w.hub.outs, a0p true T.w.sink, .ref 3 (γ1 3)])), (4, ((γ 4), .box 243 [q4q true bs, pI ((T.p : Nat) : Int)]))]) (fun T => smOk T (c + 892)) (cK [0, 4] rfl) HE.nil ?_ fun T γ1 hi => ?_
 ·refine exR (x0x rfl (y0y ?_))
  refine z3z (ι := Sm × Nat) (fun p γ2 => [(5, pI (p.2 : Int))]) (fun p γ2 => [(1, ((γ2 1), .row 65 13 ((p.1.w.nodes).map (w6w true)))), (2, ((γ2 2), .row 79 11 ((p.1.w.radio).map (q2q true)))), (3, ((γ2 3), .row 263 5 ((p.1.list).map a4v))), (0, ((γ 0), .box 171 [.ptr 4 (γ 4) 0, pI p.1.w.time, a6k true p.1.w.apps, .ref 1 (γ2 1), .ref 2 (γ2 2), pI p.1.w.hub.round, r1r true p.1.w.hub.ones, r1r true p.1.w.hub.twos, r1r true p.1.w.hub.outs, a0p true p.1.w.sink, .ref 3 (γ2 3)])), (4, ((γ 4), .box 243 [q4q true bs, pI ((p.1.p : Nat) : Int)]))]) (fun p => smOk p.1 (c + 870 + 2 * p.2) ∧ p.2 ≤ 10) (fun p => 10 - p.2) (cK [0, 3, 4] rfl) HE.nil (j, 0) ⟨hj.mono (by omega), Nat.zero_le _⟩ [0, _, _, _] cv hv rfl fun p γ2 hi => ?_
  obtain ⟨S1, i⟩ := p
  obtain ⟨h1, h2⟩ := hi
  dsimp only at h1 h2 ⊢
  refine x2x fun K3 hK3 => ?_
  refine exA 5 rfl rfl ?_
  refine rlM [4] [_] (y4y true bs (S1.p) (4) (by have := h1.2.2; omega) hbs) rfl rfl rfl ?_
  obtain ⟨N6, eN6, hN6⟩ : ∃ N6, pk bs S1.p 4 = N6 ∧ N6 ≤ 4 := ⟨_, rfl, b2h _ _ _⟩
  rw [eN6]
  refine z5z (a := 6) rfl rfl (by omega) (x1x 2 rfl rfl (z6z rfl rfl ?_ ?_))<;>intro h<;>try simp at h
  ·refine x1x 9 rfl rfl (x8x rfl (fun hc7 => ?_) (fun hc7 => ?_))
   ·simp at hc7
   try simp at hc7
   refine z4z ?_
   exact ⟨(pSm S1 (S1.p + 1)), (a4d h1 (by omega) (by have := h1.2.2; omega)), [0, _, _, _], cv, cv, hv, hv, rfl⟩
  refine x1x 5 rfl rfl (z1z rfl rfl ?_)
  refine a1l (n := S1.w.radio.length) rfl v8v rfl rfl (List.length_map _) ?_
  refine z1z rfl rfl (x4x rfl (z1z rfl rfl (z5z (b := 1) rfl rfl (by omega) (x1x 2 rfl rfl (y2y rfl ?_ ?_)))))<;>intro h<;>try simp at h
  ·refine z4z ?_
   exact ⟨(pSm S1 (S1.p + 1)), (a4d h1 (by omega) (by have := h1.2.2; omega)), [0, _, _, _], cv, cv, hv, hv, rfl⟩
  refine x7x (hK3 _ _ (x2x fun K6 hK6 => ?_))
  refine y0y (a8c fun B X0 w0 => ?_)
  refine txR 4 rfl rfl (x1x 2 rfl rfl (z5z (b := 1) rfl rfl (by omega) (rlB a1u a3g ?_)))
  refine txM [0, 1, 2, 3, 4] [_, _, _, _, _] (v0v bs hbs (pSm S1 (S1.p + 1)) (c + 870 + 2 * i + 1) (a4d h1 (by omega) (by have := h1.2.2; omega)) 4 0 0 ((z + 1 : Nat) : Int) false (by omega)) rfl rfl rfl rfl fun J hJ => ?_
  obtain ⟨j, jb⟩ := J
  have hj : smOk j (c + 870 + 2 * i + 1 + 1) := hJ
  refine w1w rfl (hK6 _ _ (exG (x4x rfl (z5z (b := 1) rfl rfl (by omega) (x0x rfl ?_)))))
  exact ⟨(j, i + 1), ⟨⟨hj.mono (by show _ ≤ c + 870 + 2 * (i + 1); omega), by show i + 1 ≤ 10; omega⟩, (by show 10 - (i + 1) < 10 - i; omega)⟩, [0, _, _, _], cv, cv, hv, hv, rfl⟩
 ·try dsimp only [b3s, b3t]
  refine a1b fun B X0 w0 => ?_
  refine txR 3 rfl rfl (x1x 2 rfl rfl (rlB a1u a3g ?_))
  refine txM [0, 1, 2, 3, 4] [_, _, _, _, _] (v0v bs hbs T (c + 892) hi 6 x.to 0 0 false (by omega)) rfl rfl rfl rfl fun J hJ => ?_
  obtain ⟨j, jb⟩ := J
  have hj : smOk j (c + 892 + 1) := hJ
  refine w1w rfl (a1b fun B X0 w0 => ?_)
  refine txR 3 rfl rfl (x1x 2 rfl rfl (rlB a1u a3g ?_))
  refine txM [0, 1, 2, 3, 4] [_, _, _, _, _] (v0v bs hbs j (c + 892 + 1) hj 7 x.to 0 0 false (by omega)) rfl rfl rfl rfl fun J hJ => ?_
  obtain ⟨j, jb⟩ := J
  have hj : smOk j (c + 892 + 1 + 1) := hJ
  refine w1w rfl (a1b fun B X0 w0 => ?_)
  refine txR 1 rfl rfl (x4x rfl ?_)
  refine txM [0, 1, 2, 3, 4] [_, _, _, _, _] (a6g bs hbs j (c + 892 + 1 + 1) hj 4 (by omega) (by omega)) rfl rfl rfl rfl fun u hu => ?_
  refine w1w rfl (a1b fun B X0 w0 => ?_)
  refine txR 1 rfl rfl (x4x rfl ?_)
  refine txM [0, 1, 2, 3, 4] [_, _, _, _, _] (a6g bs hbs u (c + 892 + 1 + 1 + (2 + 4)) hu 4 (by omega) (by omega)) rfl rfl rfl rfl fun v hv => ?_
  refine w1w rfl (a8c fun B X0 w0 => ?_)
  refine txR 1 rfl rfl (x4x rfl ?_)
  refine txM [0, 1, 2, 3, 4] [_, _, _, _, _] (r3r bs hbs v (c + 892 + 1 + 1 + (2 + 4) + (2 + 4)) hv 30 0 (by omega)) rfl rfl rfl rfl fun r hr => ?_
  refine w1w rfl ?_
  exact ⟨.inl rfl, r, hr.mono (by omega), [γ 0, _, _, _, γ 4], rfl, rfl, HE.box rfl rfl (HE.row rfl rfl (HE.row rfl rfl (HE.row rfl rfl (HE.box rfl rfl HE.nil))))⟩
end
section
theorem b8i (bs : List Nat) (hbs : ∀ b ∈ bs, b < 256) (S : Sm) (c : Nat) (hS : smOk S c) (odd : Nat) (hc : c + 1040 ≤ 1000000) : MethE Tryz.prog 238 5 [.ptr 0 0 0, .pv (.int .i64 (odd : Int))] [(0, (0, .box 171 [.ptr 4 0 0, pI S.w.time, a6k true S.w.apps, .ref 1 0, .ref 2 0, pI S.w.hub.round, r1r true S.w.hub.ones, r1r true S.w.hub.twos, r1r true S.w.hub.outs, a0p true S.w.sink, .ref 3 0])), (1, (0, .row 65 13 ((S.w.nodes).map (w6w true)))), (2, (0, .row 79 11 ((S.w.radio).map (q2q true)))), (3, (0, .row 263 5 ((S.list).map a4v))), (4, (0, .box 243 [q4q true bs, .pv (.int .i64 ((S.p : Nat) : Int))]))] (ι := Sm) (fun S' => smOk S' (c + 1040)) (fun S' => [0, 4]) (fun S' => .tup []) (fun S' => [(0, (0, .box 171 [.ptr 4 0 0, pI S'.w.time, a6k true S'.w.apps, .ref 1 0, .ref 2 0, pI S'.w.hub.round, r1r true S'.w.hub.ones, r1r true S'.w.hub.twos, r1r true S'.w.hub.outs, a0p true S'.w.sink, .ref 3 0])), (1, (0, .row 65 13 ((S'.w.nodes).map (w6w true)))), (2, (0, .row 79 11 ((S'.w.radio).map (q2q true)))), (3, (0, .row 263 5 ((S'.list).map a4v))), (4, (0, .box 243 [q4q true bs, .pv (.int .i64 ((S'.p : Nat) : Int))]))]) := by
 refine mE (ι := Sm) Tryz.f238 (fun S' => []) 5 0 fun γ => ?_
 refine exA 4 rfl rfl ?_
 refine rlM [4] [_] (y4y true bs (S.p) (3) (by have := hS.2.2; omega) hbs) rfl rfl rfl ?_
 refine x0x rfl ?_
 obtain ⟨Pr, ePr, hPr⟩ : ∃ Pr, pk bs S.p 3 = Pr ∧ Pr ≤ 3 := ⟨_, rfl, b2h _ _ _⟩
 rw [ePr]
 refine exA 4 rfl rfl ?_
 refine rlM [4] [_] (y4y true bs (S.p + 1) (20) (by have := hS.2.2; omega) hbs) rfl rfl rfl ?_
 obtain ⟨X, eX, hX⟩ : ∃ X, pk bs (S.p + 1) 20 = X ∧ X ≤ 20 := ⟨_, rfl, b2h _ _ _⟩
 rw [eX]
 have hp2 : S.p + 1 + 1 ≤ c + 2 := by have := hS.2.2; omega
 have hS2 : smOk (pSm S (S.p + 1 + 1)) (c + 2) := a4d hS (by omega) (by have := hS.2.2; omega)
 refine y0y ?_
 refine a0k (ι := Bool) (fun b γ1 => [(27, .pv (.bool (b)))]) (fun b γ1 => []) (fun b => True) (cK [0, 1, 4, 14] rfl) (hK [0, 1, 2, 3, 4] rfl) ?_ fun b γ1 hi => ?_
 ·refine exA 2 rfl rfl (x8x rfl ?_ ?_)<;>intro h<;>try simp at h
  ·refine x7x ?_
   exact ⟨_, trivial, [], cv, cv, hv, hv, rfl⟩
  refine exA 2 rfl rfl (x8x rfl ?_ ?_)<;>intro h<;>try simp at h
  ·refine x7x ?_
   exact ⟨_, trivial, [], cv, cv, hv, hv, rfl⟩
  refine exA 2 rfl rfl (x8x rfl ?_ ?_)<;>intro h<;>try simp at h
  ·refine x7x ?_
   exact ⟨_, trivial, [], cv, cv, hv, hv, rfl⟩
  refine exA 2 rfl rfl (x8x rfl ?_ ?_)<;>intro h<;>try simp at h
  ·refine x7x ?_
   exact ⟨_, trivial, [], cv, cv, hv, hv, rfl⟩
  refine exG (x1x 2 rfl rfl ?_)
  exact ⟨_, trivial, [], cv, cv, hv, hv, rfl⟩
 ·try dsimp only [b3s, b3t]
  refine x8x rfl ?_ ?_<;>intro h<;>try simp at h
  ·refine a8c fun B X0 w0 => ?_
   refine txR 1 rfl rfl (x4x rfl ?_)
   refine txM [0, 1, 2, 3, 4] [_, _, _, _, _] (a6g bs hbs (pSm S (S.p + 1 + 1)) (c + 2) hS2 8 (by omega) (by omega)) rfl rfl rfl rfl fun r hr => ?_
   refine w1w rfl ?_
   exact ⟨.inl rfl, r, hr.mono (by omega), [γ 0, _, _, _, γ 4], rfl, rfl, hv⟩
  refine a0k (ι := Bool) (fun b γ2 => [(35, .pv (.bool (b)))]) (fun b γ2 => []) (fun b => True) (cK [0, 1, 4, 14] rfl) (hK [0, 1, 2, 3, 4] rfl) ?_ fun b γ2 hi => ?_
  ·refine exA 2 rfl rfl (x8x rfl ?_ ?_)<;>intro h<;>try simp at h
   ·refine x7x ?_
    exact ⟨_, trivial, [], cv, cv, hv, hv, rfl⟩
   refine exA 2 rfl rfl (x8x rfl ?_ ?_)<;>intro h<;>try simp at h
   ·refine x7x ?_
    exact ⟨_, trivial, [], cv, cv, hv, hv, rfl⟩
   refine exG (x1x 2 rfl rfl ?_)
   exact ⟨_, trivial, [], cv, cv, hv, hv, rfl⟩
  ·try dsimp only [b3s, b3t]
   refine x8x rfl ?_ ?_<;>intro h<;>try simp at h
   ·refine a1b fun B X0 w0 => ?_
    refine txR 3 rfl rfl (x1x 2 rfl rfl (rlB a1u a3g ?_))
    refine txM [0, 1, 2, 3, 4] [_, _, _, _, _] (v0v bs hbs (pSm S (S.p + 1 + 1)) (c + 2) hS2 2 Pr 0 0 false (by omega)) rfl rfl rfl rfl fun J hJ => ?_
    obtain ⟨j, jb⟩ := J
    have hj : smOk j (c + 2 + 1) := hJ
    refine w1w rfl (a8c fun B X0 w0 => ?_)
    refine txR 7 rfl rfl (x1x 5 rfl rfl ?_)
    refine rlM [4] [_] (y4y true bs (j.p) (6) (by have := hj.2.2; omega) hbs) rfl rfl rfl ?_
    obtain ⟨N, eN, hN⟩ : ∃ N, pk bs j.p 6 = N ∧ N ≤ 6 := ⟨_, rfl, b2h _ _ _⟩
    rw [eN]
    refine x4x rfl ?_
    refine txM [0, 1, 2, 3, 4] [_, _, _, _, _] (r3r bs hbs (pSm j (j.p + 1)) (c + 4) (a4d hj (by omega) (by have := hj.2.2; omega)) N odd (by omega)) rfl rfl rfl rfl fun r hr => ?_
    refine w1w rfl ?_
    exact ⟨.inl rfl, r, hr.mono (by omega), [γ 0, _, _, _, γ 4], rfl, rfl, hv⟩
   refine a0k (ι := Bool) (fun b γ3 => [(51, .pv (.bool (b)))]) (fun b γ3 => []) (fun b => True) (cK [0, 1, 4, 14] rfl) (hK [0, 1, 2, 3, 4] rfl) ?_ fun b γ3 hi => ?_
   ·refine exA 2 rfl rfl (x8x rfl ?_ ?_)<;>intro h<;>try simp at h
    ·refine x7x ?_
     exact ⟨_, trivial, [], cv, cv, hv, hv, rfl⟩
    refine exG (x1x 2 rfl rfl ?_)
    exact ⟨_, trivial, [], cv, cv, hv, hv, rfl⟩
   ·try dsimp only [b3s, b3t]
    refine x8x rfl ?_ ?_<;>intro h<;>try simp at h
    ·refine a8c fun B X0 w0 => ?_
     refine txR 8 rfl rfl (x1x 5 rfl rfl ?_)
     refine rlM [4] [_] (y4y true bs (S.p + 1 + 1) (20) (by have := hp2; omega) hbs) rfl rfl rfl ?_
     obtain ⟨N, eN, hN⟩ : ∃ N, pk bs (S.p + 1 + 1) 20 = N ∧ N ≤ 20 := ⟨_, rfl, b2h _ _ _⟩
     rw [eN]
     refine z5z (a := 1) rfl rfl (by omega) (x4x rfl ?_)
     refine txM [0, 1, 2, 3, 4] [_, _, _, _, _] (r3r bs hbs (pSm S (S.p + 1 + 1 + 1)) (c + 3) (a4d hS (by omega) (by omega)) (1 + N) odd (by omega)) rfl rfl rfl rfl fun r hr => ?_
     refine w1w rfl ?_
     exact ⟨.inl rfl, r, hr.mono (by omega), [γ 0, _, _, _, γ 4], rfl, rfl, hv⟩
    refine a0k (ι := Bool) (fun b γ4 => [(63, .pv (.bool (b)))]) (fun b γ4 => []) (fun b => True) (cK [0, 1, 4, 14] rfl) (hK [0, 1, 2, 3, 4] rfl) ?_ fun b γ4 hi => ?_
    ·refine exA 2 rfl rfl (x8x rfl ?_ ?_)<;>intro h<;>try simp at h
     ·refine x7x ?_
      exact ⟨_, trivial, [], cv, cv, hv, hv, rfl⟩
     refine exG (x1x 2 rfl rfl ?_)
     exact ⟨_, trivial, [], cv, cv, hv, hv, rfl⟩
    ·try dsimp only [b3s, b3t]
     refine x8x rfl ?_ ?_<;>intro h<;>try simp at h
     ·refine a1b fun B X0 w0 => ?_
      refine txR 2 rfl rfl (x4x rfl (rlB a1u a3g ?_))
      refine txM [0, 1, 2, 3, 4] [_, _, _, _, _] (v0v bs hbs (pSm S (S.p + 1 + 1)) (c + 2) hS2 3 0 0 0 false (by omega)) rfl rfl rfl rfl fun J hJ => ?_
      obtain ⟨j, jb⟩ := J
      have hj : smOk j (c + 2 + 1) := hJ
      refine w1w rfl (a8c fun B X0 w0 => ?_)
      refine txR 7 rfl rfl (x1x 5 rfl rfl ?_)
      refine rlM [4] [_] (y4y true bs (j.p) (20) (by have := hj.2.2; omega) hbs) rfl rfl rfl ?_
      obtain ⟨N, eN, hN⟩ : ∃ N, pk bs j.p 20 = N ∧ N ≤ 20 := ⟨_, rfl, b2h _ _ _⟩
      rw [eN]
      refine x4x rfl ?_
      refine txM [0, 1, 2, 3, 4] [_, _, _, _, _] (r3r bs hbs (pSm j (j.p + 1)) (c + 4) (a4d hj (by omega) (by have := hj.2.2; omega)) N odd (by omega)) rfl rfl rfl rfl fun r hr => ?_
      refine w1w rfl ?_
      exact ⟨.inl rfl, r, hr.mono (by omega), [γ 0, _, _, _, γ 4], rfl, rfl, hv⟩
     refine exA 2 rfl rfl (x8x rfl ?_ ?_)<;>intro h<;>try simp at h
     ·refine a8c fun B X0 w0 => ?_
      refine txR 8 rfl rfl (x1x 5 rfl rfl ?_)
      refine rlM [4] [_] (y4y true bs (S.p + 1 + 1) (2) (by have := hp2; omega) hbs) rfl rfl rfl ?_
      obtain ⟨N, eN, hN⟩ : ∃ N, pk bs (S.p + 1 + 1) 2 = N ∧ N ≤ 2 := ⟨_, rfl, b2h _ _ _⟩
      rw [eN]
      refine z5z (a := 1) rfl rfl (by omega) (x4x rfl ?_)
      refine txM [0, 1, 2, 3, 4] [_, _, _, _, _] (a2z bs hbs (pSm S (S.p + 1 + 1 + 1)) (c + 3) (a4d hS (by omega) (by omega)) (1 + N) odd (by omega)) rfl rfl rfl rfl fun r hr => ?_
      refine w1w rfl ?_
      exact ⟨.inl rfl, r, hr.mono (by omega), [γ 0, _, _, _, γ 4], rfl, rfl, hv⟩
     refine a0k (ι := Bool) (fun b γ5 => [(88, .pv (.bool (b)))]) (fun b γ5 => []) (fun b => True) (cK [0, 1, 4, 14] rfl) (hK [0, 1, 2, 3, 4] rfl) ?_ fun b γ5 hi => ?_
     ·refine exA 2 rfl rfl (x8x rfl ?_ ?_)<;>intro h<;>try simp at h
      ·refine x7x ?_
       exact ⟨_, trivial, [], cv, cv, hv, hv, rfl⟩
      refine exG (x1x 2 rfl rfl ?_)
      exact ⟨_, trivial, [], cv, cv, hv, hv, rfl⟩
     ·try dsimp only [b3s, b3t]
      refine x8x rfl ?_ ?_<;>intro h<;>try simp at h
      ·refine a8c fun B X0 w0 => ?_
       refine txR 2 rfl rfl (x1x 2 rfl rfl ?_)
       refine txM [0, 1, 2, 3, 4] [_, _, _, _, _] (a8z bs hbs (pSm S (S.p + 1 + 1)) (c + 2) hS2 odd (by omega)) rfl rfl rfl rfl fun r hr => ?_
       refine w1w rfl ?_
       exact ⟨.inl rfl, r, hr.mono (by omega), [γ 0, _, _, _, γ 4], rfl, rfl, hv⟩
      refine exA 2 rfl rfl (x8x rfl ?_ ?_)<;>intro h<;>try simp at h
      ·refine a8c fun B X0 w0 => ?_
       refine txR 3 rfl rfl (x1x 2 rfl rfl (rlB a1u a3g ?_))
       refine txM [0, 1, 2, 3, 4] [_, _, _, _, _] (v0v bs hbs (pSm S (S.p + 1 + 1)) (c + 2) hS2 6 Pr 0 0 false (by omega)) rfl rfl rfl rfl fun J hJ => ?_
       obtain ⟨j, jb⟩ := J
       have hj : smOk j (c + 2 + 1) := hJ
       refine w1w rfl ?_
       exact ⟨.inl rfl, j, hj.mono (by omega), [γ 0, _, _, _, γ 4], rfl, rfl, hv⟩
      refine exA 2 rfl rfl (x8x rfl ?_ ?_)<;>intro h<;>try simp at h
      ·refine a8c fun B X0 w0 => ?_
       refine txR 3 rfl rfl (x1x 2 rfl rfl (rlB a1u a3g ?_))
       refine txM [0, 1, 2, 3, 4] [_, _, _, _, _] (v0v bs hbs (pSm S (S.p + 1 + 1)) (c + 2) hS2 7 Pr 0 0 false (by omega)) rfl rfl rfl rfl fun J hJ => ?_
       obtain ⟨j, jb⟩ := J
       have hj : smOk j (c + 2 + 1) := hJ
       refine w1w rfl ?_
       exact ⟨.inl rfl, j, hj.mono (by omega), [γ 0, _, _, _, γ 4], rfl, rfl, hv⟩
      refine exA 2 rfl rfl (x8x rfl ?_ ?_)<;>intro h<;>try simp at h
      ·refine a8c fun B X0 w0 => ?_
       refine txR 2 rfl rfl (x4x rfl (rlB a1u a3g ?_))
       refine txM [0, 1, 2, 3, 4] [_, _, _, _, _] (v0v bs hbs (pSm S (S.p + 1 + 1)) (c + 2) hS2 8 0 0 0 false (by omega)) rfl rfl rfl rfl fun J hJ => ?_
       obtain ⟨j, jb⟩ := J
       have hj : smOk j (c + 2 + 1) := hJ
       refine w1w rfl ?_
       exact ⟨.inl rfl, j, hj.mono (by omega), [γ 0, _, _, _, γ 4], rfl, rfl, hv⟩
      refine exA 2 rfl rfl (x8x rfl ?_ ?_)<;>intro h<;>try simp at h
      ·refine exA 4 rfl rfl ?_
       refine rlM [4] [_] (y4y true bs (S.p + 1 + 1) (2) (by have := hp2; omega) hbs) rfl rfl rfl ?_
       refine v1v rfl rfl rfl (x8x rfl ?_ ?_)<;>intro h<;>try simp at h
       ·refine a8c fun B X0 w0 => ?_
        refine txR 1 rfl rfl (x4x rfl ?_)
        refine txM [0, 1, 2, 3, 4] [_, _, _, _, _] (b8h bs hbs (pSm S (S.p + 1 + 1 + 1)) (c + 3) (a4d hS (by omega) (by omega))  (by omega)) rfl rfl rfl rfl fun r hr => ?_
        refine w1w rfl ?_
        exact ⟨.inl rfl, r, hr.mono (by omega), [γ 0, _, _, _, γ 4], rfl, rfl, hv⟩
       refine a8c fun B X0 w0 => ?_
       refine txR 1 rfl rfl (x4x rfl ?_)
       refine txM [0, 1, 2, 3, 4] [_, _, _, _, _] (b9o bs hbs (pSm S (S.p + 1 + 1 + 1)) (c + 3) (a4d hS (by omega) (by omega))  (by omega)) rfl rfl rfl rfl fun r hr => ?_
       refine w1w rfl ?_
       exact ⟨.inl rfl, r, hr.mono (by omega), [γ 0, _, _, _, γ 4], rfl, rfl, hv⟩
      refine a1b fun B X0 w0 => ?_
      refine txR 1 rfl rfl (x4x rfl ?_)
      refine txM [0, 1, 2, 3, 4] [_, _, _, _, _] (a2z bs hbs (pSm S (S.p + 1 + 1)) (c + 2) hS2 3 0 (by omega)) rfl rfl rfl rfl fun a ha => ?_
      refine w1w rfl (a1b fun B X0 w0 => ?_)
      refine txR 2 rfl rfl (x4x rfl (rlB a1u a3g ?_))
      refine txM [0, 1, 2, 3, 4] [_, _, _, _, _] (v0v bs hbs a (c + 2 + 195 * 3) ha 3 0 0 0 false (by omega)) rfl rfl rfl rfl fun J hJ => ?_
      obtain ⟨j, jb⟩ := J
      have hj : smOk j (c + 2 + 195 * 3 + 1) := hJ
      refine w1w rfl (a1b fun B X0 w0 => ?_)
      refine txR 1 rfl rfl (x4x rfl ?_)
      refine txM [0, 1, 2, 3, 4] [_, _, _, _, _] (r3r bs hbs j (c + 2 + 195 * 3 + 1) hj 30 0 (by omega)) rfl rfl rfl rfl fun b hb => ?_
      refine w1w rfl (a1b fun B X0 w0 => ?_)
      refine txR 1 rfl rfl (x4x rfl ?_)
      refine txM [0, 1, 2, 3, 4] [_, _, _, _, _] (a2z bs hbs b (c + 2 + 195 * 3 + 1 + 4 * 30) hb 1 0 (by omega)) rfl rfl rfl rfl fun d hd => ?_
      refine w1w rfl (a8c fun B X0 w0 => ?_)
      refine txR 2 rfl rfl (x4x rfl (rlB a1u a3g ?_))
      refine txM [0, 1, 2, 3, 4] [_, _, _, _, _] (v0v bs hbs d (c + 2 + 195 * 3 + 1 + 4 * 30 + 195 * 1) hd 8 0 0 0 false (by omega)) rfl rfl rfl rfl fun J hJ => ?_
      obtain ⟨j, jb⟩ := J
      have hj : smOk j (c + 2 + 195 * 3 + 1 + 4 * 30 + 195 * 1 + 1) := hJ
      refine w1w rfl ?_
      exact ⟨.inl rfl, j, hj.mono (by omega), [γ 0, _, _, _, γ 4], rfl, rfl, hv⟩
end
section
theorem d1r (bs : List Nat) (hbs : ∀ b ∈ bs, b < 256) (p0 : Nat) (hp : p0 + 5 ≤ 1000000) : MethE Tryz.prog 287 1 [.ptr 0 0 0] [(0, (0, .box 243 [q4q true bs, .pv (.int .i64 ((p0 : Nat) : Int))]))] (ι := Op_ × Nat) (fun S' => b2a S'.1 ∧ S'.2 ≤ p0 + 5) (fun S' => [0]) (fun S' => .agg (b8c S'.1)) (fun S' => [(0, (0, .box 243 [q4q true bs, .pv (.int .i64 ((S'.2 : Nat) : Int))]))]) := by
 refine mE (ι := Op_ × Nat) Tryz.f287 (fun S' => [.agg (b8c S'.1)]) 1 1 fun γ => ?_
 refine exR (y7y (id := 1) a1r b7i rfl (x2x fun K1 hK1 => ?_))
 refine exR (x4x rfl ?_)
 refine rlM [0] [_] (y4y true bs (p0) (10) (by have := hp; omega) hbs) rfl rfl rfl ?_
 refine y0y (exA 2 rfl rfl (x8x rfl ?_ ?_))<;>intro h<;>try simp at h
 ·refine exR (x4x rfl ?_)
  refine rlM [0] [_] (y4y true bs (p0 + 1) (2) (by have := hp; omega) hbs) rfl rfl rfl ?_
  refine x4x rfl ?_
  refine rlM [0] [_] (y4y true bs (p0 + 1 + 1) (20) (by have := hp; omega) hbs) rfl rfl rfl ?_
  refine rlB a1r b7i ?_
  refine x3x rfl rfl a1r rfl rfl rfl rfl (x6x ?_)
  exact ⟨.inr rfl, (⟨1, (pk bs (p0 + 1) 2 : Int), (pk bs (p0 + 1 + 1) 20 : Int), 0, 0⟩, p0 + 1 + 1 + 1), ⟨(by have h0 := a4t bs (p0 + 1) 2 (by omega); have h1 := a4t bs (p0 + 1 + 1) 20 (by omega); unfold b2a a4e b5h; dsimp only; omega), (by show p0 + 1 + 1 + 1 ≤ p0 + 5; omega)⟩, [γ 0], rfl, rfl, hv⟩
 refine exA 2 rfl rfl (x8x rfl ?_ ?_)<;>intro h<;>try simp at h
 ·refine exR (x4x rfl ?_)
  refine rlM [0] [_] (y4y true bs (p0 + 1) (2) (by have := hp; omega) hbs) rfl rfl rfl ?_
  refine x4x rfl ?_
  refine rlM [0] [_] (y4y true bs (p0 + 1 + 1) (2) (by have := hp; omega) hbs) rfl rfl rfl ?_
  refine rlB a1r b7i ?_
  refine x3x rfl rfl a1r rfl rfl rfl rfl (x6x ?_)
  exact ⟨.inr rfl, (⟨2, (pk bs (p0 + 1) 2 : Int), (pk bs (p0 + 1 + 1) 2 : Int), 0, 0⟩, p0 + 1 + 1 + 1), ⟨(by have h0 := a4t bs (p0 + 1) 2 (by omega); have h1 := a4t bs (p0 + 1 + 1) 2 (by omega); unfold b2a a4e b5h; dsimp only; omega), (by show p0 + 1 + 1 + 1 ≤ p0 + 5; omega)⟩, [γ 0], rfl, rfl, hv⟩
 refine exA 2 rfl rfl (x8x rfl ?_ ?_)<;>intro h<;>try simp at h
 ·refine exR (x4x rfl ?_)
  refine rlM [0] [_] (y4y true bs (p0 + 1) (2) (by have := hp; omega) hbs) rfl rfl rfl ?_
  refine x4x rfl ?_
  refine rlM [0] [_] (y4y true bs (p0 + 1 + 1) (9) (by have := hp; omega) hbs) rfl rfl rfl ?_
  have q9 := a4t bs (p0 + 1 + 1) 9 (by omega)
  refine z5z (a := 1) rfl rfl (by omega) (rlB a1r b7i ?_)
  refine x3x rfl rfl a1r rfl rfl rfl rfl (x6x ?_)
  exact ⟨.inr rfl, (⟨3, (pk bs (p0 + 1) 2 : Int), ((1 + pk bs (p0 + 1 + 1) 9 : Nat) : Int), 0, 0⟩, p0 + 1 + 1 + 1), ⟨(by have h0 := a4t bs (p0 + 1) 2 (by omega); have h1 := a4t bs (p0 + 1 + 1) 9 (by omega); unfold b2a a4e b5h; dsimp only; omega), (by show p0 + 1 + 1 + 1 ≤ p0 + 5; omega)⟩, [γ 0], rfl, rfl, hv⟩
 refine exA 2 rfl rfl (x8x rfl ?_ ?_)<;>intro h<;>try simp at h
 ·refine exR (x4x rfl ?_)
  refine rlM [0] [_] (y4y true bs (p0 + 1) (2) (by have := hp; omega) hbs) rfl rfl rfl ?_
  refine rlB a1r b7i ?_
  refine x3x rfl rfl a1r rfl rfl rfl rfl (x6x ?_)
  exact ⟨.inr rfl, (⟨4, (pk bs (p0 + 1) 2 : Int), 0, 0, 0⟩, p0 + 1 + 1), ⟨(by have h0 := a4t bs (p0 + 1) 2 (by omega); unfold b2a a4e b5h; dsimp only; omega), (by show p0 + 1 + 1 ≤ p0 + 5; omega)⟩, [γ 0], rfl, rfl, hv⟩
 refine exA 2 rfl rfl (x8x rfl ?_ ?_)<;>intro h<;>try simp at h
 ·refine exR (x4x rfl ?_)
  refine rlM [0] [_] (y4y true bs (p0 + 1) (2) (by have := hp; omega) hbs) rfl rfl rfl ?_
  refine x4x rfl ?_
  refine rlM [0] [_] (y4y true bs (p0 + 1 + 1) (60) (by have := hp; omega) hbs) rfl rfl rfl ?_
  refine x4x rfl ?_
  refine rlM [0] [_] (y4y true bs (p0 + 1 + 1 + 1) (2) (by have := hp; omega) hbs) rfl rfl rfl ?_
  have q9 := a4t bs (p0 + 1 + 1 + 1) 2 (by omega)
  refine z5z (a := 1) rfl rfl (by omega) (rlB a1r b7i ?_)
  refine x3x rfl rfl a1r rfl rfl rfl rfl (x6x ?_)
  exact ⟨.inr rfl, (⟨5, (pk bs (p0 + 1) 2 : Int), (pk bs (p0 + 1 + 1) 60 : Int), ((1 + pk bs (p0 + 1 + 1 + 1) 2 : Nat) : Int), 0⟩, p0 + 1 + 1 + 1 + 1), ⟨(by have h0 := a4t bs (p0 + 1) 2 (by omega); have h1 := a4t bs (p0 + 1 + 1) 60 (by omega); have h2 := a4t bs (p0 + 1 + 1 + 1) 2 (by omega); unfold b2a a4e b5h; dsimp only; omega), (by show p0 + 1 + 1 + 1 + 1 ≤ p0 + 5; omega)⟩, [γ 0], rfl, rfl, hv⟩
 refine a0k (ι := Bool) (fun b γ1 => [(42, .pv (.bool (b)))]) (fun b γ1 => []) (fun b => True) (cK [0, 2] rfl) (hK [0, 1] rfl) ?_ fun b γ1 hi => ?_
 ·refine exA 2 rfl rfl (x8x rfl ?_ ?_)<;>intro h<;>try simp at h
  ·refine x7x ?_
   exact ⟨_, trivial, [], cv, cv, hv, hv, rfl⟩
  refine exA 2 rfl rfl (x8x rfl ?_ ?_)<;>intro h<;>try simp at h
  ·refine x7x ?_
   exact ⟨_, trivial, [], cv, cv, hv, hv, rfl⟩
  refine exG (x1x 2 rfl rfl ?_)
  exact ⟨_, trivial, [], cv, cv, hv, hv, rfl⟩
 ·try dsimp only [b3s, b3t]
  refine y2y rfl ?_ ?_<;>intro h<;>try simp at h
  ·refine x7x (hK1 _ _ (exR (x4x rfl ?_)))
   refine rlM [0] [_] (y4y true bs (p0 + 1) (2) (by have := hp; omega) hbs) rfl rfl rfl ?_
   refine rlB a1r b7i ?_
   refine x3x rfl rfl a1r rfl rfl rfl rfl (x6x ?_)
   exact ⟨.inr rfl, (⟨7, (pk bs (p0 + 1) 2 : Int), 0, 0, 0⟩, p0 + 1 + 1), ⟨(by have h0 := a4t bs (p0 + 1) 2 (by omega); unfold b2a a4e b5h; dsimp only; omega), (by show p0 + 1 + 1 ≤ p0 + 5; omega)⟩, [γ 0], rfl, rfl, hv⟩
  refine exR (x4x rfl ?_)
  refine rlM [0] [_] (y4y true bs (p0 + 1) (4) (by have := hp; omega) hbs) rfl rfl rfl ?_
  refine x4x rfl ?_
  refine rlM [0] [_] (y4y true bs (p0 + 1 + 1) (3) (by have := hp; omega) hbs) rfl rfl rfl ?_
  refine x4x rfl ?_
  refine rlM [0] [_] (y4y true bs (p0 + 1 + 1 + 1) (7) (by have := hp; omega) hbs) rfl rfl rfl ?_
  have q9 := a4t bs (p0 + 1 + 1 + 1) 7 (by omega)
  refine z5z (a := 1) rfl rfl (by omega) (x4x rfl ?_)
  refine rlM [0] [_] (y4y true bs (p0 + 1 + 1 + 1 + 1) (2) (by have := hp; omega) hbs) rfl rfl rfl ?_
  refine rlB a1r b7i ?_
  refine x3x rfl rfl a1r rfl rfl rfl rfl (x6x ?_)
  exact ⟨.inr rfl, (⟨6, (pk bs (p0 + 1) 4 : Int), (pk bs (p0 + 1 + 1) 3 : Int), ((1 + pk bs (p0 + 1 + 1 + 1) 7 : Nat) : Int), (pk bs (p0 + 1 + 1 + 1 + 1) 2 : Int)⟩, p0 + 1 + 1 + 1 + 1 + 1), ⟨(by have h0 := a4t bs (p0 + 1) 4 (by omega); have h1 := a4t bs (p0 + 1 + 1) 3 (by omega); have h2 := a4t bs (p0 + 1 + 1 + 1) 7 (by omega); have h3 := a4t bs (p0 + 1 + 1 + 1 + 1) 2 (by omega); unfold b2a a4e b5h; dsimp only; omega), (by show p0 + 1 + 1 + 1 + 1 + 1 ≤ p0 + 5; omega)⟩, [γ 0], rfl, rfl, hv⟩
end
section
theorem c4z (bs : List Nat) (hbs : ∀ b ∈ bs, b < 256) (p0 : Nat) (hp : p0 + 500 ≤ 1000000) : MethE Tryz.prog 237 1 [.ptr 0 0 0] [(0, (0, .box 243 [q4q true bs, .pv (.int .i64 ((p0 : Nat) : Int))]))] (ι := List Ap × Nat) (fun S' => a7l S'.1 ∧ S'.2 ≤ p0 + 500) (fun S' => [0]) (fun S' => a6k true S'.1) (fun S' => [(0, (0, .box 243 [q4q true bs, .pv (.int .i64 ((S'.2 : Nat) : Int))]))]) := by
 refine mE (ι := List Ap × Nat) Tryz.f237 (fun S' => [a6k true S'.1]) 1 16 fun γ => ?_
 refine exR (x0x rfl (exR (z8z (id := 1) b3c rfl a2f rfl (x0x rfl (x2x fun K1 hK1 => ?_)))))
 refine exR (x0x rfl (y0y ?_))
 refine z3z (ι := List Ap × Nat) (fun p γ1 => [(3, .ref 1 (γ1 1)), (4, pI (p.1.length : Int))]) (fun p γ1 => [(1, ((γ1 1), .row 121 1 ((p.1).map (c0h true)))), (15, ((γ1 15), .dead)), (16, ((γ1 16), .dead)), (0, ((γ 0), .box 243 [q4q true bs, pI ((p.2 : Nat) : Int)])), (2, ((γ1 2), .dead)), (3, ((γ1 3), .dead)), (4, ((γ1 4), .dead)), (5, ((γ1 5), .dead)), (6, ((γ1 6), .dead)), (7, ((γ1 7), .dead)), (8, ((γ1 8), .dead)), (9, ((γ1 9), .dead)), (10, ((γ1 10), .dead)), (11, ((γ1 11), .dead)), (12, ((γ1 12), .dead)), (13, ((γ1 13), .dead)), (14, ((γ1 14), .dead))]) (fun p => p.1.length ≤ 4 ∧ (∀ a ∈ p.1, e2c a) ∧ p.2 ≤ p0 + 120 * p.1.length) (fun p => 4 - p.1.length) (y3y 0 rfl Cov.nil) HE.nil ([], p0) ⟨Nat.zero_le _, fun a h => (by cases h), Nat.le_refl _⟩ [0, _, _, _, _, _, _, _, _, _, _, _, _, _, _, _, _] cv (HE.row rfl (by rfl) (HE.kill rfl (HE.kill rfl (HE.box rfl rfl (HE.kill rfl (HE.kill rfl (HE.kill rfl (HE.kill rfl (HE.kill rfl (HE.kill rfl (HE.kill rfl (HE.kill rfl (HE.kill rfl (HE.kill rfl (HE.kill rfl (HE.kill rfl (HE.kill rfl HE.nil))))))))))))))))) rfl fun p γ1 hi => ?_
 obtain ⟨l, q⟩ := p
 obtain ⟨h1, h2, h3⟩ := hi
 dsimp only at h1 h2 h3 ⊢
 refine x2x fun K2 hK2 => ?_
 refine exA 2 rfl rfl (y2y rfl ?_ ?_)<;>intro o<;>try simp at o
 ·have h4 : l.length = 4 := by omega
  have hT : a7l l := ⟨h4, h2⟩
  refine z4z (hK1 _ _ ?_)
  refine a1e (f := c0h true) 3 rfl rfl (fun _ => rfl) ?_
  refine exA 2 rfl rfl (x6x ?_)
  exact ⟨.inr rfl, (l, q), ⟨hT, by show q ≤ p0 + 500; omega⟩, [γ 0], rfl, rfl, hv⟩
 have h1l : l.length < 4 := by omega
 refine x7x (hK2 _ _ (x2x fun K4 hK4 => ?_))
 refine y0y (exR (rlB a2f b5c ?_))
 refine y7y (id := 2) a2f b5c rfl (x3x rfl rfl a2f rfl rfl rfl rfl (x2x fun K5 hK5 => ?_))
 refine exR (x0x rfl (y0y (a0d 2 0 15 232 2 rfl rfl rfl rfl rfl ?_)))
 refine z3z (ι := List Ru × Nat) (fun p γ2 => [(6, pI (p.1.length : Int))]) (fun p γ2 => [(15, ((γ2 15), .row 232 2 ((p.1).map (d3f true)))), (16, ((γ2 16), .dead)), (0, ((γ 0), .box 243 [q4q true bs, pI ((p.2 : Nat) : Int)])), (2, ((γ1 2 + 1), .box 121 [.ref 15 (γ2 15)])), (3, ((γ2 3), .dead)), (4, ((γ2 4), .dead)), (5, ((γ2 5), .dead)), (6, ((γ2 6), .dead)), (7, ((γ2 7), .dead)), (8, ((γ2 8), .dead)), (9, ((γ2 9), .dead)), (10, ((γ2 10), .dead)), (11, ((γ2 11), .dead)), (12, ((γ2 12), .dead))]) (fun p => p.1.length ≤ 3 ∧ f4v p.1 ∧ p.2 ≤ q + 40 * p.1.length) (fun p => 3 - p.1.length) (cK [0, 3, 4, 5] rfl) (hK [1, 13, 14] rfl) ([], q) ⟨Nat.zero_le _, fun i r h => (by simp at h), Nat.le_refl _⟩ [0, 0, 0, _, _, _, _, _, _, _, _, _, _, 0, 0, _, _] cv (HE.row rfl (by rfl) (HE.kill rfl (HE.box rfl rfl (HE.box rfl rfl (HE.kill rfl (HE.kill rfl (HE.kill rfl (HE.kill rfl (HE.kill rfl (HE.kill rfl (HE.kill rfl (HE.kill rfl (HE.kill rfl (HE.kill rfl HE.nil)))))))))))))) rfl fun p γ2 hi => ?_
 obtain ⟨rs, q1⟩ := p
 obtain ⟨k1, k2, k3⟩ := hi
 dsimp only at k1 k2 k3 ⊢
 refine x2x fun K6 hK6 => ?_
 refine exA 2 rfl rfl (y2y rfl ?_ ?_)<;>intro o<;>try simp at o
 ·refine z4z (hK5 _ _ ?_)
  refine w9w (b := f0q true rs) 2 0 rfl rfl rfl (.ref rfl (Le.ow_map _ (fun _ => rfl) (fun _ => rfl)) .nil) rfl rfl rfl rfl ?_
  refine exG (x1x 2 rfl rfl (u5u (id := 13) b3c rfl a2f rfl rfl rfl rfl rfl rfl ?_))
  refine u6u (zs := ((l ++ [(⟨rs⟩ : Ap)]).map (c0h true))) rfl rfl b3c rfl a2f rfl rfl rfl rfl (by rfl) (w7w (c0h true) l ⟨rs⟩) (by (simp only [a0w, a0q, a0v, a0x, a1t, a3w, T121]; omega)) ?_
  refine x0x rfl (hK4 _ _ (exG (x4x rfl (z5z (b := 1) rfl rfl (by omega) (x0x rfl ?_)))))
  exact ⟨(l ++ [⟨rs⟩], q1), ⟨(f4n h2 (f4l k1 k2) h1l h3 k3 k1), (by show 4 - (l ++ [_]).length < 4 - l.length; rw [List.length_append]; show 4 - (l.length + 1) < _; omega)⟩, [0, _, _, _, _, _, _, _, _, _, _, _, _, _, _, _, _], (y3y 3 rfl (Cov.cons' (t := 4) rfl ((by rw [List.length_append]; rfl)) Cov.nil)), cv, (HE.row rfl (by rfl) (HE.kill rfl (HE.kill rfl (HE.box rfl rfl (HE.kill rfl (HE.kill rfl (HE.kill rfl (HE.kill rfl (HE.kill rfl (HE.kill rfl (HE.kill rfl (HE.kill rfl (HE.kill rfl (HE.kill rfl (HE.kill rfl (HE.kill rfl (HE.kill rfl HE.nil))))))))))))))))), hv, rfl⟩
 have k1l : rs.length < 3 := by omega
 refine x7x (hK6 _ _ (x2x fun K8 hK8 => ?_))
 refine y0y (exR (x4x rfl (rlB a5x d4j ?_)))
 refine y7y (id := 3) a5x d4j rfl (x3x rfl rfl a5x rfl rfl rfl rfl (x2x fun K9 hK9 => ?_))
 refine exR (x4x rfl ?_)
 refine rlM [0] [_] (y4y true bs (q1) (5) (by have := k3; omega) hbs) rfl rfl rfl ?_
 obtain ⟨N, eN, hN⟩ : ∃ N, pk bs q1 5 = N ∧ N ≤ 5 := ⟨_, rfl, b2h _ _ _⟩
 rw [eN]
 refine z5z (a := 2) rfl rfl (by omega) (x0x rfl (y0y (a0d 3 1 16 297 5 rfl rfl rfl rfl rfl ?_)))
 refine z3z (ι := List Op_ × Nat × Nat) (fun p γ3 => [(8, pI (p.2.2 : Int))]) (fun p γ3 => [(16, ((γ3 16), .row 297 5 ((p.1).map b8c))), (0, ((γ 0), .box 243 [q4q true bs, pI ((p.2.1 : Nat) : Int)])), (3, ((γ2 3 + 1), .box 232 [pI (rs.length : Int), .ref 16 (γ3 16)])), (4, ((γ3 4), .dead)), (5, ((γ3 5), .dead)), (6, ((γ3 6), .dead)), (7, ((γ3 7), .dead)), (8, ((γ3 8), .dead)), (9, ((γ3 9), .dead)), (10, ((γ3 10), .dead))]) (fun p => c8z ⟨(rs.length : Int), p.1⟩ ∧ p.2.1 + 5 * p.2.2 ≤ q1 + 1 + 5 * (2 + N)) (fun p => p.2.2) (cK [0, 3, 4, 5, 6, 7] rfl) (hK [1, 2, 11, 12, 13, 14, 15] rfl) ([], q1 + 1, 2 + N) ⟨ru0, by show q1 + 1 + 5 * (2 + N) ≤ _; omega⟩ [0, 0, 0, 0, _, _, _, _, _, _, _, 0, 0, 0, 0, 0, _] cv (HE.row rfl (by rfl) (HE.box rfl rfl (HE.box rfl rfl (HE.kill rfl (HE.kill rfl (HE.kill rfl (HE.kill rfl (HE.kill rfl (HE.kill rfl (HE.kill rfl HE.nil)))))))))) rfl fun p γ3 hi => ?_
 obtain ⟨ops, q2, n⟩ := p
 obtain ⟨l1, l2⟩ := hi
 dsimp only at l1 l2 ⊢
 refine x2x fun K10 hK10 => ?_
 refine exA 2 rfl rfl (y2y rfl ?_ ?_)<;>intro o<;>try simp at o
 ·refine z4z (hK9 _ _ ?_)
  refine w9w (b := f4s true ops) 3 1 rfl rfl rfl (.ref rfl (Le.ow_map _ (fun _ => rfl) (fun _ => rfl)) .nil) rfl rfl rfl rfl ?_
  refine exG (x1x 3 rfl rfl (u5u (id := 11) a5l rfl a5x rfl rfl rfl rfl rfl rfl ?_))
  refine u6u (zs := ((rs ++ [(⟨(rs.length : Int), ops⟩ : Ru)]).map (d3f true))) rfl rfl a5l rfl a5x rfl rfl rfl rfl (by rfl) (w7w (d3f true) rs (⟨(rs.length : Int), ops⟩ : Ru)) (by (simp only [a0w, a0q, a0v, a0x, a1t, a3w, T232]; omega)) ?_
  refine y1y rfl a2f rfl rfl a5l rfl rfl (y9y rfl rfl a5l rfl rfl rfl rfl rfl (by simp only [a0y]; rfl) ?_)
  refine hK8 _ _ (exG (x4x rfl (z5z (b := 1) rfl rfl (by omega) (x0x rfl ?_))))
  exact ⟨(rs ++ [(⟨(rs.length : Int), ops⟩ : Ru)], q2), ⟨(f4m k2 l1 k1l k3 (by omega)), (by show 3 - (rs ++ [_]).length < 3 - rs.length; rw [List.length_append]; show 3 - (rs.length + 1) < _; omega)⟩, [0, 0, 0, _, _, _, _, _, _, _, _, _, _, 0, 0, _, _], (Cov.cons' (t := 6) rfl ((by rw [List.length_append]; rfl)) Cov.nil), cv, (HE.row rfl (by rfl) (HE.kill rfl (HE.box rfl rfl (HE.box rfl rfl (HE.kill rfl (HE.kill rfl (HE.kill rfl (HE.kill rfl (HE.kill rfl (HE.kill rfl (HE.kill rfl (HE.kill rfl (HE.kill rfl (HE.kill rfl HE.nil)))))))))))))), hv, rfl⟩
 obtain ⟨n', rfl⟩ : ∃ n', n = n' + 1 := ⟨n - 1, by omega⟩
 refine x7x (hK10 _ _ ?_)
 refine a0k (ι := List Op_ × Nat) (fun os γ4 => []) (fun os γ4 => [(16, ((γ4 16), .row 297 5 ((os.1).map b8c))), (0, ((γ 0), .box 243 [q4q true bs, pI ((os.2 : Nat) : Int)])), (3, ((γ2 3 + 1), .box 232 [pI (rs.length : Int), .ref 16 (γ4 16)])), (4, ((γ4 4), .dead)), (5, ((γ4 5), .dead)), (6, ((γ4 6), .dead)), (7, ((γ4 7), .dead)), (8, ((γ4 8), .dead)), (9, ((γ4 9), .dead)), (10, ((γ4 10), .dead))]) (fun os => c8z ⟨(rs.length : Int), os.1⟩ ∧ os.2 ≤ q2 + 5) (cK [0, 3, 4, 5, 6, 7, 8] rfl) (hK [1, 2, 11, 12, 13, 14, 15] rfl) ?_ fun os γ4 hi => ?_
 ·refine y0y (a1b fun B X0 w0 => ?_)
  refine txR 1 rfl rfl (x4x rfl ?_)
  refine txM [0] [_] (d1r bs hbs q2 (by omega)) rfl rfl rfl rfl fun j hj => ?_
  obtain ⟨hj1, hj2⟩ := hj
  have hol : ops.length ≤ 8 := l1.2.1
  refine txR 2 rfl rfl (y7y (id := 4) a1r b7i rfl (x3x rfl rfl a1r rfl rfl rfl rfl (w1w rfl (exD (x4x rfl (z8z (id := 5) a5w rfl a1r rfl (x1x 2 rfl rfl ?_)))))))
  refine u6u (zs := (ops.map b8c)) rfl rfl a5w rfl a1r rfl rfl rfl rfl (w3w (fun _ => rfl) _) rfl (by (simp only [a0w, a0q, a0v, a0x, a1t, a3w, T297]; omega)) ?_
  refine x5x rfl a1r rfl rfl rfl (u5u (id := 7) a5w rfl a1r rfl rfl rfl rfl rfl rfl ?_)
  refine u6u (zs := ((ops ++ [j.1]).map b8c)) rfl rfl a5w rfl a1r rfl rfl rfl rfl (by rfl) (w7w b8c ops j.1) (by (simp only [a0w, a0q, a0v, a0x, a1t, a3w, T297]; omega)) ?_
  refine rlB a5x d4j ?_
  refine b6c rfl rfl rfl (.agg rfl (.cl rfl (.ref rfl (Le.ow_map _ nf (fun _ => rfl)) .nil)) .nil) (b3x false (⟨(rs.length : Int), ops ++ [j.1]⟩ : Ru) (by show (ops ++ [j.1]).length ≤ _; rw [List.length_append]; show ops.length + 1 ≤ _; have : ops.length ≤ 8 := hol; omega)) (.pv _) ?_
  refine ⟨by kernel_rfl, y2y rfl ?_ ?_⟩<;>intro hc12<;>try simp at hc12
  ·refine x7x ?_
   exact ⟨(ops, j.2), ⟨l1, hj2⟩, [0, 0, 0, 0, _, _, _, _, _, _, _, 0, 0, 0, 0, 0, _], cv, cv, hv, hv, rfl⟩
  have hru : c8z (⟨(rs.length : Int), ops ++ [j.1]⟩ : Ru) := a1x.1 (by simpa using hc12)
  refine exG (x1x 3 rfl rfl (u5u (id := 9) a5w rfl a1r rfl rfl rfl rfl rfl rfl ?_))
  refine u6u (zs := ((ops ++ [j.1]).map b8c)) rfl rfl a5w rfl a1r rfl rfl rfl rfl (by rfl) (w7w b8c ops j.1) (by (simp only [a0w, a0q, a0v, a0x, a1t, a3w, T297]; omega)) ?_
  refine y1y rfl a5x rfl rfl a5w rfl rfl (y9y rfl rfl a5w rfl rfl rfl rfl rfl (by simp only [a0y]; rfl) ?_)
  exact ⟨(ops ++ [j.1], j.2), ⟨hru, hj2⟩, [0, 0, 0, 0, _, _, _, _, _, _, _, 0, 0, 0, 0, 0, _], cv, cv, hv, hv, rfl⟩
 ·try dsimp only [b3s, b3t]
  refine exG (x4x rfl (a0s (b := 1) rfl rfl (by omega) (by omega) (x0x rfl ?_)))
  exact ⟨(os.1, os.2, n'), ⟨⟨hi.1, by have := hi.2; show os.2 + 5 * n' ≤ _; omega⟩, (by show n' < n' + 1; omega)⟩, [0, 0, 0, 0, _, _, _, _, _, _, _, 0, 0, 0, 0, 0, _], cv, cv, hv, hv, rfl⟩
end
section
theorem c5a (c : Bool) (l : List Ap) (hA : a7l l) : a1o Tryz.prog 88 [a6k c l] (a6k true l) := by
 refine pX Tryz.f88 [a6k true l] 9 ?_
 have hl4 := hA.1
 refine exR (x0x rfl (exR (z8z (id := 0) b3c rfl a2f rfl (x0x rfl (x2x fun K1 hK1 => ?_)))))
 refine exR (x0x rfl (y0y ?_))
 refine z3z (ι := Nat) (fun i γ1 => [(3, .ref 0 (γ1 0)), (4, pI (i : Int))]) (fun i γ1 => [(0, ((γ1 0), .row 121 1 ((l.take i).map (c0h true)))), (8, ((γ1 8), .dead)), (1, ((γ1 1), .dead)), (2, ((γ1 2), .dead)), (3, ((γ1 3), .dead)), (4, ((γ1 4), .dead)), (5, ((γ1 5), .dead)), (6, ((γ1 6), .dead)), (7, ((γ1 7), .dead))]) (fun i => i ≤ l.length) (fun i => l.length - i) (y3y 0 rfl Cov.nil) HE.nil 0 (by omega) [_, _, _, _, _, _, _, _, _] cv (HE.row rfl (by rw [List.take_zero]; rfl) (HE.kill rfl (HE.kill rfl (HE.kill rfl (HE.kill rfl (HE.kill rfl (HE.kill rfl (HE.kill rfl (HE.kill rfl HE.nil))))))))) rfl fun i γ1 hi => ?_
 refine x2x fun K2 hK2 => ?_
 refine exA 2 rfl rfl (z2z rfl b3c rfl (v1v rfl rfl rfl (y2y rfl ?_ ?_)))<;>intro h<;>try simp at h
 ·obtain rfl : i = l.length := by omega
  refine z4z (hK1 _ _ (exA 2 rfl rfl (x6x ⟨.inr rfl, ?_⟩)))
  refine a5h rfl rfl (fun _ => rfl) ?_
  rw [List.take_length]
 obtain ⟨a, ha⟩ := gE l i
 have hap := hA.2 a (List.mem_of_getElem? ha)
 have har := hap.1
 refine x7x (hK2 _ _ (x2x fun K4 hK4 => ?_))
 refine y0y (exR (rlB a2f b5c ?_))
 refine y7y (id := 1) a2f b5c rfl (x3x rfl rfl a2f rfl rfl rfl rfl (x2x fun K5 hK5 => ?_))
 refine exR (x0x rfl (y0y (a0d 1 0 8 232 2 rfl rfl rfl rfl rfl ?_)))
 refine z3z (ι := Nat) (fun k γ2 => [(6, pI (k : Int))]) (fun k γ2 => [(8, ((γ2 8), .row 232 2 ((a.rules.take k).map (d3f true)))), (1, ((γ1 1 + 1), .box 121 [.ref 8 (γ2 8)])), (2, ((γ2 2), .dead)), (3, ((γ2 3), .dead)), (4, ((γ2 4), .dead)), (5, ((γ2 5), .dead))]) (fun k => k ≤ a.rules.length) (fun k => a.rules.length - k) (cK [0, 3, 4, 5] rfl) (hK [0, 6, 7] rfl) 0 (by omega) [0, 0, _, _, _, _, 0, 0, _] cv (HE.row rfl (by rw [List.take_zero]; rfl) (HE.box rfl rfl (HE.kill rfl (HE.kill rfl (HE.kill rfl (HE.kill rfl HE.nil)))))) rfl fun k γ2 hi => ?_
 refine x2x fun K6 hK6 => ?_
 refine exA 3 rfl rfl (y8y rfl rfl b3c rfl a2f rfl ha (x1x 2 rfl rfl (z2z rfl a5l rfl (v1v rfl rfl rfl (y2y rfl ?_ ?_)))))<;>intro h<;>try simp at h
 ·obtain rfl : k = a.rules.length := by omega
  rw [List.take_length]
  refine z4z (hK5 _ _ ?_)
  refine w9w (b := f0q true a.rules) 1 0 rfl rfl rfl (.ref rfl (Le.ow_map _ (fun _ => rfl) (fun _ => rfl)) .nil) rfl rfl rfl rfl ?_
  refine exG (x1x 2 rfl rfl (u5u (id := 6) b3c rfl a2f rfl rfl rfl rfl rfl rfl ?_))
  refine u6u (zs := (l.take i ++ [a]).map (c0h true)) rfl rfl b3c rfl a2f rfl rfl rfl rfl (by rfl) (w7w _ _ _) (by (simp only [a0w, a0q, a0v, a0x, a1t, T121]; omega)) ?_
  refine x0x rfl (hK4 _ _ (exG (x4x rfl (p7p rfl rfl rfl (x0x rfl ?_)))))
  exact ⟨i + 1, ⟨by omega, by omega⟩, [_, _, _, _, _, _, _, _, _], (y3y 3 rfl (Cov.cons' (t := 4) rfl (by rw [u2u (by omega) (by omega)]; rfl) Cov.nil)), cv, (HE.row rfl (by rw [w0w ha]) (HE.kill rfl (HE.kill rfl (HE.kill rfl (HE.kill rfl (HE.kill rfl (HE.kill rfl (HE.kill rfl (HE.kill rfl HE.nil))))))))), hv, rfl⟩
 obtain ⟨r, hr⟩ := gE a.rules k
 have hro := (hap.2 k r hr).2.1.2.1
 refine x7x (hK6 _ _ (x2x fun K8 hK8 => ?_))
 refine y0y (exH (x1x 4 rfl rfl (y8y rfl rfl b3c rfl a2f rfl ha (x1x 3 rfl rfl (y8y rfl rfl a5l rfl a5x rfl hr (x1x 2 rfl rfl (z8z (id := 2) a5w rfl a1r rfl (x1x 2 rfl rfl (y8y rfl rfl b3c rfl a2f rfl ha (x1x 3 rfl rfl (y8y rfl rfl a5l rfl a5x rfl hr (x1x 2 rfl rfl ?_))))))))))))
 refine a2o s3s (zs := r.ops.map b8c) rfl rfl a5w rfl a1r rfl rfl rfl (w3w (fun _ => rfl) _) rfl (by (simp only [a0w, a0q, a0v, a0x, a1t, T297]; omega)) (Le.ow_map _ (fun _ => rfl) (fun _ => rfl)) ?_
 refine rlB a5x d4j ?_
 refine u5u (id := 4) a5l rfl a5x rfl rfl rfl rfl rfl rfl ?_
 refine u6u (zs := (a.rules.take k ++ [r]).map (d3f true)) rfl rfl a5l rfl a5x rfl rfl rfl rfl (by rfl) (w7w _ _ _) (by (simp only [a0w, a0q, a0v, a0x, a1t, T232]; omega)) ?_
 refine y1y rfl a2f rfl rfl a5l rfl rfl (y9y rfl rfl a5l rfl rfl rfl rfl rfl (by simp only [a0y]; rfl) ?_)
 refine ⟨by kernel_rfl, hK8 _ _ (exG (x4x rfl (p7p rfl rfl rfl (x0x rfl ?_))))⟩
 exact ⟨k + 1, ⟨by omega, by omega⟩, [0, 0, _, _, _, _, 0, 0, _], (Cov.cons' (t := 6) rfl (by rw [u2u (by omega) (by omega)]; rfl) Cov.nil), cv, (HE.row rfl (by rw [w0w hr]) (HE.box rfl rfl (HE.kill rfl (HE.kill rfl (HE.kill rfl (HE.kill rfl HE.nil)))))), hv, rfl⟩
end
section
theorem b8j (l : List Ap) (fA : a7l l) : Meth Tryz.prog 16 1 [] [a6k true l] [(0, (0, .dead))] (.agg [pI 0, a6k true l, .ref 0 0, .pv (.slice none 0 0), pI 0, .pv (.slice none 0 0), .pv (.slice none 0 0), .pv (.slice none 0 0), .pv (.slice none 0 0)]) [(0, (0, .row 65 13 ((a9z 3).map (w6w true))))] := by
 refine mX Tryz.f16 [.agg [pI 0, a6k true l, .ref 0 0, .pv (.slice none 0 0), pI 0, .pv (.slice none 0 0), .pv (.slice none 0 0), .pv (.slice none 0 0), .pv (.slice none 0 0)]] 1 4 fun γ => ?_
 have hb : ∀ a ∈ l, ∀ r ∈ a.rules, r.ops.length ≤ 1048576 := fun a ha r hr => by obtain ⟨i, hi⟩ := List.getElem?_of_mem hr; have := ((fA.2 a ha).2 i r hi).2.1.2.1; omega
 refine exR (y7y (id := 1) r2r b8t rfl (x2x fun K1 hK1 => ?_))
 refine exR (x4x rfl (x9x rfl rfl rfl (a9p true l hb) (a1k rfl (x8x rfl ?_ ?_))))<;>intro hc2<;>try simp at hc2
 ·exact absurd fA (a0z (by simpa using hc2))
 refine x7x (hK1 _ _ (exR (x4x rfl (x9x rfl rfl rfl (c5a true l fA) (rlB r2r b8t ?_)))))
 refine y7y (id := 2) r2r b8t rfl (x3x rfl rfl r2r rfl rfl rfl rfl (x2x fun K3 hK3 => ?_))
 refine exR (x0x rfl (y0y (a0d 2 2 0 65 13 rfl rfl rfl rfl rfl ?_)))
 refine z3z (ι := Nat) (fun i γ1 => [(4, pI (i : Int))]) (fun i γ1 => [(0, ((γ1 0), .row 65 13 ((a9z i).map (w6w true)))), (2, ((0 + 1), .box 31 [pI 0, a6k true l, .ref 0 (γ1 0), .pv (.slice none 0 0), pI 0, .pv (.slice none 0 0), .pv (.slice none 0 0), .pv (.slice none 0 0), .pv (.slice none 0 0)])), (3, ((γ1 3), .dead)), (4, ((γ1 4), .dead))]) (fun i => i ≤ 3) (fun i => 3 - i) (cK [2, 3] rfl) (z0z 1 rfl HE.nil) 0 (by omega) [_, 0, 0, _, _] cv (HE.row rfl (by rfl) (HE.box rfl rfl (HE.kill rfl (HE.kill rfl HE.nil)))) rfl fun i γ1 hi => ?_
 refine x2x fun K4 hK4 => ?_
 refine exA 2 rfl rfl (y2y rfl ?_ ?_)<;>intro h<;>try simp at h
 ·obtain rfl : i = 3 := by omega
  refine z4z (hK3 _ _ (exR (x5x rfl r2r rfl rfl rfl (x3x rfl rfl r2r rfl rfl rfl rfl (x6x ?_)))))
  exact ⟨.inr rfl, [_], rfl, rfl, hv⟩
 refine x7x (hK4 _ _ (x2x fun K6 hK6 => ?_))
 refine y0y (exH (x1x 3 rfl rfl (x9x rfl rfl rfl (c0j (i : Int)) ?_)))
 refine u5u (id := 3) a6l rfl y5y rfl rfl rfl rfl rfl rfl ?_
 refine u6u (zs := (a9z i ++ [a2w (i : Int)]).map (w6w true)) rfl rfl a6l rfl y5y rfl rfl rfl rfl (by rfl) (w7w _ _ _) (by (simp only [a0w, a0q, a0v, a0x, a1t, a9z, a3w, T65]; omega)) ?_
 refine y1y rfl r2r rfl rfl a6l rfl rfl (y9y rfl rfl a6l rfl rfl rfl rfl rfl (by simp only [a0y]; rfl) ?_)
 refine ⟨by kernel_rfl, hK6 _ _ (exG (x4x rfl (p7p rfl rfl rfl (x0x rfl ?_))))⟩
 exact ⟨i + 1, ⟨by omega, by omega⟩, [_, 0, 0, _, _], (Cov.cons' (t := 4) rfl (by rw [u2u (by omega) (by omega)]; rfl) Cov.nil), cv, (HE.row rfl (by rw [d0z]) (HE.box rfl rfl (HE.kill rfl (HE.kill rfl HE.nil)))), hv, rfl⟩
end
section
theorem c5b (bs : List Nat) (hbs : ∀ b ∈ bs, b < 256) (p0 most : Nat) (hp : p0 + 502 + 1040 * most ≤ 1000000) : MethE Tryz.prog 133 5 [.ptr 4 0 0, .pv (.int .i64 (most : Int))] [(0, (0, .dead)), (1, (0, .dead)), (2, (0, .dead)), (3, (0, .dead)), (4, (0, .box 243 [q4q true bs, .pv (.int .i64 ((p0 : Nat) : Int))]))] (ι := Sm) (fun S' => smOk S' (p0 + 502 + 1040 * most)) (fun S' => [4]) (fun S' => .ptr 0 0 0) (fun S' => [(0, (0, .box 171 [.ptr 4 0 0, pI S'.w.time, a6k true S'.w.apps, .ref 1 0, .ref 2 0, pI S'.w.hub.round, r1r true S'.w.hub.ones, r1r true S'.w.hub.twos, r1r true S'.w.hub.outs, a0p true S'.w.sink, .ref 3 0])), (1, (0, .row 65 13 ((S'.w.nodes).map (w6w true)))), (2, (0, .row 79 11 ((S'.w.radio).map (q2q true)))), (3, (0, .row 263 5 ((S'.list).map a4v))), (4, (0, .box 243 [q4q true bs, .pv (.int .i64 ((S'.p : Nat) : Int))]))]) := by
 refine mE (ι := Sm) Tryz.f133 (fun S' => [.ptr 0 0 0]) 5 1 fun γ => ?_
 refine exR (x0x rfl (a1b fun B X0 w0 => ?_))
 refine txR 2 rfl rfl (x1x 2 rfl rfl ?_)
 refine txM [4] [_] (c4z bs hbs p0 (by omega)) rfl rfl rfl rfl fun A hA => ?_
 obtain ⟨hA1, hA2⟩ := hA
 refine txR 4 rfl rfl ?_
 refine rlM [1] [_] (b8j A.1 hA1) rfl rfl rfl ?_
 refine rlB f2h f2l ?_
 refine z7z (id := 0) rfl rfl rfl (x0x rfl (w1w rfl (a0d 0 4 2 79 11 rfl rfl rfl rfl rfl (a0d 0 10 3 263 5 rfl rfl rfl rfl rfl ?_))))
 refine e7m 0 rfl (.same (.same (.same (.same (.same (.same (.le (b := r1r true ([] : List Wo)) rfl .nil rfl (.le (b := r1r true ([] : List Wo)) rfl .nil rfl (.le (b := r1r true ([] : List Wo)) rfl .nil rfl (.le (b := a0p true ([] : List Ou)) rfl .nil rfl (LeCs.refl _))))))))))) ?_
 refine exR ?_
 refine a0l (id := 5) q1q rfl q5q rfl rfl rfl rfl (.val rfl rfl (.val rfl rfl (.val rfl rfl (.val rfl rfl (.val rfl rfl .nil))))) rfl (a1d rfl) (a1d rfl) (a1d rfl) rfl rfl ?_
 refine x4x rfl ?_
 refine rlM [4] [_] (y4y true bs (A.2) (5) (by have := hA2; omega) hbs) rfl rfl rfl ?_
 obtain ⟨z, ez, hz⟩ : ∃ z, pk bs A.2 5 = z ∧ z < 5 := ⟨_, rfl, a4t _ _ _ (by omega)⟩
 rw [ez]
 obtain ⟨odd, hodd⟩ : ∃ x, [0, 0, 3, 6, 12][z]? = some x := ⟨_, List.getElem?_eq_getElem hz⟩
 refine v2v (f := fun x : Nat => [pI (x : Int)]) (l := [0, 0, 3, 6, 12]) (j := z) rfl rfl q1q rfl q5q rfl rfl hz ?_
 refine a1h (f := fun x : Nat => [pI (x : Int)]) (l := [0, 0, 3, 6, 12]) rfl q5q rfl hodd rfl ?_
 refine x0x rfl (x2x fun K1 hK1 => ?_)
 refine exA 2 rfl rfl ?_
 refine rlM [4] [_] (y4y true bs (A.2 + 1) (most) (by have := hA2; omega) hbs) rfl rfl rfl ?_
 refine x0x rfl ?_
 obtain ⟨N, eN, hN⟩ : ∃ N, pk bs (A.2 + 1) most = N ∧ N ≤ most := ⟨_, rfl, b2h _ _ _⟩
 rw [eN]
 refine y0y ?_
 refine z3z (ι := Sm × Nat) (fun p γ1 => [(7, pI (p.2 : Int))]) (fun p γ1 => [(1, ((γ1 1), .row 65 13 ((p.1.w.nodes).map (w6w true)))), (2, ((γ1 2), .row 79 11 ((p.1.w.radio).map (q2q true)))), (3, ((γ1 3), .row 263 5 ((p.1.list).map a4v))), (0, ((γ 0 + 1), .box 171 [.ptr 4 (γ 4) 0, pI p.1.w.time, a6k true p.1.w.apps, .ref 1 (γ1 1), .ref 2 (γ1 2), pI p.1.w.hub.round, r1r true p.1.w.hub.ones, r1r true p.1.w.hub.twos, r1r true p.1.w.hub.outs, a0p true p.1.w.sink, .ref 3 (γ1 3)])), (4, ((γ 4), .box 243 [q4q true bs, pI ((p.1.p : Nat) : Int)]))]) (fun p => smOk p.1 (p0 + 502 + 1040 * (N - p.2)) ∧ p.2 ≤ N) (fun p => p.2) (cK [5, 6] rfl) (z0z 5 rfl HE.nil) ((⟨⟨0, A.1, a9z 3, [], hb0, []⟩, [], A.2 + 1 + 1⟩ : Sm), N) ⟨e6t hA1 (by show A.2 + 1 + 1 ≤ p0 + 502 + 1040 * (N - N); omega), Nat.le_refl _⟩ [0, _, _, _] cv hv rfl fun p γ1 hi => ?_
 obtain ⟨S1, i⟩ := p
 obtain ⟨h1, h2⟩ := hi
 dsimp only at h1 h2 ⊢
 refine x2x fun K2 hK2 => ?_
 refine exA 2 rfl rfl (y2y rfl ?_ ?_)<;>intro h<;>try simp at h
 ·refine z4z (hK1 _ _ (exA 2 rfl rfl (x6x ?_)))
  exact ⟨.inr rfl, S1, h1.mono (by omega), [_, _, _, _, γ 4], rfl, rfl, hv⟩
 obtain ⟨i', rfl⟩ : ∃ i', i = i' + 1 := ⟨i - 1, by omega⟩
 refine x7x (hK2 _ _ (x2x fun K4 hK4 => ?_))
 refine y0y (a8c fun B X0 w0 => ?_)
 refine txR 2 rfl rfl (x1x 2 rfl rfl ?_)
 refine txM [0, 1, 2, 3, 4] [_, _, _, _, _] (b8i bs hbs S1 (p0 + 502 + 1040 * (N - (i' + 1))) h1 odd (by omega)) rfl rfl rfl rfl fun j hj => ?_
 refine w1w rfl (hK4 _ _ (exG (x4x rfl (a0s (b := 1) rfl rfl (by omega) (by omega) (x0x rfl ?_)))))
 exact ⟨(j, i'), ⟨⟨hj.mono (by show _ ≤ p0 + 502 + 1040 * (N - i'); omega), by show i' ≤ N; omega⟩, (by show i' < i' + 1; omega)⟩, [0, _, _, _], cv, cv, hv, hv, rfl⟩
end
section
theorem c5d (bs : List Nat) (hbs : ∀ b ∈ bs, b < 256) (p0 : Nat) (hp : p0 + 502 + 1040 * 14 ≤ 1000000) : MethE Tryz.prog 225 1 [.ptr 0 0 0] [(0, (0, .box 243 [q4q true bs, .pv (.int .i64 ((p0 : Nat) : Int))]))] (ι := Sm × Nd) (fun S' => smOk S'.1 (p0 + 503 + 1040 * 14) ∧ S'.2 ∈ S'.1.w.nodes) (fun S' => [0]) (fun S' => .tup [.agg (e5v true S'.1.w), .agg (w6w true S'.2)]) (fun S' => [(0, (0, .box 243 [q4q true bs, .pv (.int .i64 ((S'.1.p : Nat) : Int))]))]) := by
 refine mE (ι := Sm × Nd) Tryz.f225 (fun S' => [.agg (e5v true S'.1.w), .agg (w6w true S'.2)]) 1 7 fun γ => ?_
 refine exR (y7y (id := 1) r2r b8t rfl (y7y (id := 2) y5y s5s rfl (a1b fun B X0 w0 => ?_)))
 refine txR 1 rfl rfl (x4x rfl ?_)
 refine txM [4, 5, 6, 7, 0] [_, _, _, _, _] (c5b bs hbs p0 14 hp) rfl rfl rfl rfl fun S hS => ?_
 refine txR 5 rfl rfl (x1x 3 rfl rfl (y7y (id := 3) r2r b8t rfl (x3x rfl rfl r2r rfl rfl rfl rfl (w1w rfl (exD (x1x 4 rfl rfl ?_))))))
 refine rlM [0] [_] (y4y true bs (S.p) (3) (by have := hS.2.2; omega) hbs) rfl rfl rfl ?_
 obtain ⟨z, ez, hz⟩ : ∃ z, pk bs S.p 3 = z ∧ z < 3 := ⟨_, rfl, a4t _ _ _ (by omega)⟩
 rw [ez]
 obtain ⟨n, hnd, hnI⟩ := b4d hS.1 (i := z) (by omega)
 refine v2v (j := z) rfl rfl a6l rfl y5y rfl rfl (v5v hnd) ?_
 refine q7q rfl y5y rfl (by assumption) rfl rfl ?_
 refine x3x rfl rfl r2r rfl rfl rfl rfl (x3x rfl rfl y5y rfl rfl rfl rfl ⟨by kernel_rfl, ?_⟩)
 refine w9w (b := f6h true S.w.nodes) 1 2 rfl rfl rfl (.ref rfl (Le.ow_map _ (fun _ => rfl) (fun _ => rfl)) .nil) rfl rfl rfl rfl ?_
 refine w9w (b := r1r true S.w.radio) 1 3 rfl rfl rfl (.ref rfl (Le.ow_map _ (fun _ => rfl) (fun _ => rfl)) .nil) rfl rfl rfl rfl ?_
 refine x6x ?_
 exact ⟨.inr rfl, (pSm S (S.p + 1), n), ⟨a4d hS (by omega) (by have := hS.2.2; omega), List.mem_of_getElem? hnd⟩, [γ 0], rfl, rfl, hv⟩
end
section
theorem a9b (bs : List Nat) (hbs : ∀ b ∈ bs, b < 256) (p0 : Nat) (hp : p0 + 10 ≤ 100000000) : MethE Tryz.prog 216 1 [.ptr 0 0 0] [(0, (0, .box 243 [q4q true bs, .pv (.int .i64 ((p0 : Nat) : Int))]))] (ι := Ev × Nat) (fun S' => S'.2 ≤ p0 + 10) (fun S' => [0]) (fun S' => .agg (v4v S'.1)) (fun S' => [(0, (0, .box 243 [q4q true bs, .pv (.int .i64 ((S'.2 : Nat) : Int))]))]) := by
 refine mE (ι := Ev × Nat) Tryz.f216 (fun S' => [.agg (v4v S'.1)]) 1 5 fun γ => ?_
 refine exR (y7y (id := 1) u0u a9t rfl (exR (x4x rfl ?_)))
 refine rlM [0] [_] (y4y true bs (p0) (41) (by have := hp; omega) hbs) rfl rfl rfl ?_
 refine x4x rfl ?_
 refine rlM [0] [_] (y4y true bs (p0 + 1) (4) (by have := hp; omega) hbs) rfl rfl rfl ?_
 refine x4x rfl ?_
 refine rlM [0] [_] (y4y true bs (p0 + 1 + 1) (5) (by have := hp; omega) hbs) rfl rfl rfl ?_
 have h5 := a4t bs (p0 + 1 + 1) 5 (by omega)
 refine a0r (.int .i64 ((pk bs (p0 + 1 + 1) 5 : Int) - 1)) rfl rfl rfl (a7f rfl (by omega) (by omega) (by omega)) ?_
 refine x4x rfl ?_
 refine rlM [0] [_] (y4y true bs (p0 + 1 + 1 + 1) (13) (by have := hp; omega) hbs) rfl rfl rfl ?_
 refine x4x rfl ?_
 refine rlM [0] [_] (y4y true bs (p0 + 1 + 1 + 1 + 1) (3) (by have := hp; omega) hbs) rfl rfl rfl ?_
 refine x4x rfl ?_
 refine rlM [0] [_] (y4y true bs (p0 + 1 + 1 + 1 + 1 + 1) (3) (by have := hp; omega) hbs) rfl rfl rfl ?_
 refine x4x rfl ?_
 refine rlM [0] [_] (y4y true bs (p0 + 1 + 1 + 1 + 1 + 1 + 1) (40) (by have := hp; omega) hbs) rfl rfl rfl ?_
 refine rlB u0u a9t ?_
 refine y7y (id := 2) u0u a9t rfl (x3x rfl rfl u0u rfl rfl rfl rfl ?_)
 refine a0k (ι := Ev × Nat) (fun s γ1 => []) (fun s γ1 => [(0, ((γ 0), .box 243 [q4q true bs, pI ((s.2 : Nat) : Int)])), (2, ((0 + 1), .box 56 (v4v s.1))), (3, ((γ1 3), .dead)), (4, ((γ1 4), .dead)), (5, ((γ1 5), .dead))]) (fun s => s.2 ≤ p0 + 10) (cK [2, 3] rfl) (z0z 1 rfl HE.nil) ?_ fun s γ1 hi => ?_
 ·refine exR (x4x rfl ?_)
  refine rlM [0] [_] (y4y true bs (p0 + 1 + 1 + 1 + 1 + 1 + 1 + 1) (20) (by have := hp; omega) hbs) rfl rfl rfl ?_
  refine y0y (exA 2 rfl rfl (x8x rfl ?_ ?_))<;>intro h<;>try simp at h
  ·refine exG ?_
   refine a0l (id := 3) q1q rfl q5q rfl rfl rfl rfl (.val rfl rfl (.val rfl rfl (.val rfl rfl .nil))) rfl (a1d rfl) (a1d rfl) (a1d rfl) rfl rfl ?_
   refine x4x rfl ?_
   refine rlM [0] [_] (y4y true bs (p0 + 1 + 1 + 1 + 1 + 1 + 1 + 1 + 1) (3) (by have := hp; omega) hbs) rfl rfl rfl ?_
   obtain ⟨z, ez, hz⟩ : ∃ z, pk bs (p0 + 1 + 1 + 1 + 1 + 1 + 1 + 1 + 1) 3 = z ∧ z < 3 := ⟨_, rfl, a4t _ _ _ (by omega)⟩
   rw [ez]
   obtain ⟨v, hv⟩ : ∃ x, ([-1, 40, 41] : List Int)[z]? = some x := ⟨_, List.getElem?_eq_getElem hz⟩
   refine v2v (f := fun x : Int => [pI x]) (l := [-1, 40, 41]) (j := z) rfl rfl q1q rfl q5q rfl rfl hz ?_
   refine a1h (f := fun x : Int => [pI x]) (l := [-1, 40, 41]) rfl q5q rfl hv rfl ?_
   refine y1y rfl u0u rfl rfl q5q rfl rfl ?_
   refine y9y rfl rfl q5q rfl rfl rfl rfl rfl (by simp only [a0y]; rfl) ?_
   exact ⟨({ (⟨(pk bs (p0) 41 : Int), (pk bs (p0 + 1) 4 : Int), (pk bs (p0 + 1 + 1) 5 : Int) - 1, (pk bs (p0 + 1 + 1 + 1) 13 : Int), (pk bs (p0 + 1 + 1 + 1 + 1) 3 : Int), (pk bs (p0 + 1 + 1 + 1 + 1 + 1) 3 : Int), (pk bs (p0 + 1 + 1 + 1 + 1 + 1 + 1) 40 : Int)⟩ : Ev) with time := v }, p0 + 1 + 1 + 1 + 1 + 1 + 1 + 1 + 1 + 1), (by show p0 + 1 + 1 + 1 + 1 + 1 + 1 + 1 + 1 + 1 ≤ _; omega), [0, 0, 0, _, _, _], Cov.nil, (y3y 2 rfl (y3y 3 rfl Cov.nil)), (HE.box rfl rfl (HE.box rfl rfl (HE.kill rfl (HE.kill rfl (HE.kill rfl HE.nil))))), (z0z 1 rfl HE.nil), rfl⟩
  refine exA 2 rfl rfl (x8x rfl ?_ ?_)<;>intro h<;>try simp at h
  ·refine exG ?_
   refine a0l (id := 4) q1q rfl q5q rfl rfl rfl rfl (.val rfl rfl (.val rfl rfl .nil)) rfl (a1d rfl) (a1d rfl) (a1d rfl) rfl rfl ?_
   refine x4x rfl ?_
   refine rlM [0] [_] (y4y true bs (p0 + 1 + 1 + 1 + 1 + 1 + 1 + 1 + 1) (2) (by have := hp; omega) hbs) rfl rfl rfl ?_
   obtain ⟨z, ez, hz⟩ : ∃ z, pk bs (p0 + 1 + 1 + 1 + 1 + 1 + 1 + 1 + 1) 2 = z ∧ z < 2 := ⟨_, rfl, a4t _ _ _ (by omega)⟩
   rw [ez]
   obtain ⟨v, hv⟩ : ∃ x, ([-1, 4] : List Int)[z]? = some x := ⟨_, List.getElem?_eq_getElem hz⟩
   refine v2v (f := fun x : Int => [pI x]) (l := [-1, 4]) (j := z) rfl rfl q1q rfl q5q rfl rfl hz ?_
   refine a1h (f := fun x : Int => [pI x]) (l := [-1, 4]) rfl q5q rfl hv rfl ?_
   refine y1y rfl u0u rfl rfl q5q rfl rfl ?_
   refine y9y rfl rfl q5q rfl rfl rfl rfl rfl (by simp only [a0y]; rfl) ?_
   exact ⟨({ (⟨(pk bs (p0) 41 : Int), (pk bs (p0 + 1) 4 : Int), (pk bs (p0 + 1 + 1) 5 : Int) - 1, (pk bs (p0 + 1 + 1 + 1) 13 : Int), (pk bs (p0 + 1 + 1 + 1 + 1) 3 : Int), (pk bs (p0 + 1 + 1 + 1 + 1 + 1) 3 : Int), (pk bs (p0 + 1 + 1 + 1 + 1 + 1 + 1) 40 : Int)⟩ : Ev) with to := v }, p0 + 1 + 1 + 1 + 1 + 1 + 1 + 1 + 1 + 1), (by show p0 + 1 + 1 + 1 + 1 + 1 + 1 + 1 + 1 + 1 ≤ _; omega), [0, 0, 0, _, _, _], Cov.nil, (y3y 2 rfl (y3y 3 rfl Cov.nil)), (HE.box rfl rfl (HE.box rfl rfl (HE.kill rfl (HE.kill rfl (HE.kill rfl HE.nil))))), (z0z 1 rfl HE.nil), rfl⟩
  refine exA 2 rfl rfl (y2y rfl ?_ ?_)<;>intro h<;>try simp at h
  ·refine x7x ?_
   exact ⟨((⟨(pk bs (p0) 41 : Int), (pk bs (p0 + 1) 4 : Int), (pk bs (p0 + 1 + 1) 5 : Int) - 1, (pk bs (p0 + 1 + 1 + 1) 13 : Int), (pk bs (p0 + 1 + 1 + 1 + 1) 3 : Int), (pk bs (p0 + 1 + 1 + 1 + 1 + 1) 3 : Int), (pk bs (p0 + 1 + 1 + 1 + 1 + 1 + 1) 40 : Int)⟩ : Ev), p0 + 1 + 1 + 1 + 1 + 1 + 1 + 1 + 1), (by show p0 + 1 + 1 + 1 + 1 + 1 + 1 + 1 + 1 ≤ _; omega), [0, 0, 0, _, _, _], cv, cv, hv, hv, rfl⟩
  refine exG ?_
  refine a0l (id := 5) q1q rfl q5q rfl rfl rfl rfl (.val rfl rfl (.val rfl rfl (.val rfl rfl .nil))) rfl (a1d rfl) (a1d rfl) (a1d rfl) rfl rfl ?_
  refine x4x rfl ?_
  refine rlM [0] [_] (y4y true bs (p0 + 1 + 1 + 1 + 1 + 1 + 1 + 1 + 1) (3) (by have := hp; omega) hbs) rfl rfl rfl ?_
  obtain ⟨z, ez, hz⟩ : ∃ z, pk bs (p0 + 1 + 1 + 1 + 1 + 1 + 1 + 1 + 1) 3 = z ∧ z < 3 := ⟨_, rfl, a4t _ _ _ (by omega)⟩
  rw [ez]
  obtain ⟨v, hv⟩ : ∃ x, ([-1, 999, 1000] : List Int)[z]? = some x := ⟨_, List.getElem?_eq_getElem hz⟩
  refine v2v (f := fun x : Int => [pI x]) (l := [-1, 999, 1000]) (j := z) rfl rfl q1q rfl q5q rfl rfl hz ?_
  refine a1h (f := fun x : Int => [pI x]) (l := [-1, 999, 1000]) rfl q5q rfl hv rfl ?_
  refine y1y rfl u0u rfl rfl q5q rfl rfl ?_
  refine y9y rfl rfl q5q rfl rfl rfl rfl rfl (by simp only [a0y]; rfl) ?_
  exact ⟨({ (⟨(pk bs (p0) 41 : Int), (pk bs (p0 + 1) 4 : Int), (pk bs (p0 + 1 + 1) 5 : Int) - 1, (pk bs (p0 + 1 + 1 + 1) 13 : Int), (pk bs (p0 + 1 + 1 + 1 + 1) 3 : Int), (pk bs (p0 + 1 + 1 + 1 + 1 + 1) 3 : Int), (pk bs (p0 + 1 + 1 + 1 + 1 + 1 + 1) 40 : Int)⟩ : Ev) with arg := v }, p0 + 1 + 1 + 1 + 1 + 1 + 1 + 1 + 1 + 1), (by show p0 + 1 + 1 + 1 + 1 + 1 + 1 + 1 + 1 + 1 ≤ _; omega), [0, 0, 0, _, _, _], Cov.nil, (y3y 2 rfl (y3y 3 rfl Cov.nil)), (HE.box rfl rfl (HE.box rfl rfl (HE.kill rfl (HE.kill rfl (HE.kill rfl HE.nil))))), (z0z 1 rfl HE.nil), rfl⟩
 ·try dsimp only [b3s, b3t]
  refine exR (x5x rfl u0u rfl rfl rfl (x3x rfl rfl u0u rfl rfl rfl rfl (x6x ?_)))
  exact ⟨.inr rfl, s, hi, [γ 0], rfl, rfl, hv⟩
theorem c8u (bs : List Nat) (hbs : ∀ b ∈ bs, b < 256) (p0 : Nat) (hp : p0 + 10 ≤ 100000000) : MethE Tryz.prog 226 1 [.ptr 0 0 0] [(0, (0, .box 243 [q4q true bs, .pv (.int .i64 ((p0 : Nat) : Int))]))] (ι := Ou × Nat) (fun S' => S'.2 ≤ p0 + 5) (fun S' => [0]) (fun S' => .agg (a0c S'.1)) (fun S' => [(0, (0, .box 243 [q4q true bs, .pv (.int .i64 ((S'.2 : Nat) : Int))]))]) := by
 refine mE (ι := Ou × Nat) Tryz.f226 (fun S' => [.agg (a0c S'.1)]) 1 1 fun γ => ?_
 refine exR (y7y (id := 1) w8w c5n rfl (exR (x4x rfl ?_)))
 refine rlM [0] [_] (y4y true bs (p0) (6) (by have := hp; omega) hbs) rfl rfl rfl ?_
 refine x4x rfl ?_
 refine rlM [0] [_] (y4y true bs (p0 + 1) (4) (by have := hp; omega) hbs) rfl rfl rfl ?_
 refine x4x rfl ?_
 refine rlM [0] [_] (y4y true bs (p0 + 1 + 1) (3) (by have := hp; omega) hbs) rfl rfl rfl ?_
 refine x4x rfl ?_
 refine rlM [0] [_] (y4y true bs (p0 + 1 + 1 + 1) (2) (by have := hp; omega) hbs) rfl rfl rfl ?_
 refine x4x rfl ?_
 refine rlM [0] [_] (y4y true bs (p0 + 1 + 1 + 1 + 1) (4) (by have := hp; omega) hbs) rfl rfl rfl ?_
 refine rlB w8w c5n ?_
 refine x3x rfl rfl w8w rfl rfl rfl rfl (x6x ?_)
 exact ⟨.inr rfl, ((⟨(pk bs (p0) 6 : Int), (pk bs (p0 + 1) 4 : Int), (pk bs (p0 + 1 + 1) 3 : Int), (pk bs (p0 + 1 + 1 + 1) 2 : Int), (pk bs (p0 + 1 + 1 + 1 + 1) 4 : Int)⟩ : Ou), p0 + 1 + 1 + 1 + 1 + 1), (by show p0 + 1 + 1 + 1 + 1 + 1 ≤ _; omega), [γ 0], rfl, rfl, hv⟩
theorem c0n (bs : List Nat) (hbs : ∀ b ∈ bs, b < 256) (p0 m : Nat) (hm : m ≤ 1000) (hp : p0 + 1 + 13 * m ≤ 100000000) : MethE Tryz.prog 227 1 [.ptr 0 0 0, .pv (.int .i64 (m : Int))] [(0, (0, .box 243 [q4q true bs, .pv (.int .i64 ((p0 : Nat) : Int))]))] (ι := List Ev × Nat) (fun S' => S'.1.length ≤ m ∧ S'.2 ≤ p0 + 1 + 13 * m) (fun S' => [0]) (fun S' => a1y true S'.1) (fun S' => [(0, (0, .box 243 [q4q true bs, .pv (.int .i64 ((S'.2 : Nat) : Int))]))]) := by
 refine mE (ι := List Ev × Nat) Tryz.f227 (fun S' => [a1y true S'.1]) 1 4 fun γ => ?_
 refine exR (x0x rfl (exR (z8z (id := 1) u9u rfl u0u rfl (x0x rfl (x2x fun K1 hK1 => ?_)))))
 refine exA 2 rfl rfl ?_
 refine rlM [0] [_] (y4y true bs (p0) (m) (by have := hp; omega) hbs) rfl rfl rfl ?_
 refine x0x rfl ?_
 obtain ⟨N, eN, hN⟩ : ∃ N, pk bs p0 m = N ∧ N ≤ m := ⟨_, rfl, b2h _ _ _⟩
 rw [eN]
 refine y0y ?_
 refine z3z (ι := List Ev × Nat × Nat) (fun p γ1 => [(5, .ref 1 (γ1 1)), (6, pI (p.2.2 : Int))]) (fun p γ1 => [(1, ((γ1 1), .row 56 7 ((p.1).map v4v))), (0, ((γ 0), .box 243 [q4q true bs, pI ((p.2.1 : Nat) : Int)])), (2, ((γ1 2), .dead)), (3, ((γ1 3), .dead)), (4, ((γ1 4), .dead))]) (fun p => p.1.length + p.2.2 ≤ N ∧ p.2.1 + 13 * p.2.2 ≤ p0 + 1 + 13 * N) (fun p => p.2.2) (y3y 0 rfl Cov.nil) HE.nil ([], p0 + 1, N) ⟨Nat.le_of_eq (Nat.zero_add _), Nat.le_refl _⟩ [0, _, _, _, _] cv (HE.row rfl (by rfl) (HE.box rfl rfl (HE.kill rfl (HE.kill rfl (HE.kill rfl HE.nil))))) rfl fun p γ1 hi => ?_
 obtain ⟨l, q, n⟩ := p
 obtain ⟨h1, h2⟩ := hi
 dsimp only at h1 h2 ⊢
 refine x2x fun K2 hK2 => ?_
 refine exA 2 rfl rfl (y2y rfl ?_ ?_)<;>intro h<;>try simp at h
 ·refine z4z (hK1 _ _ ?_)
  refine a1e (f := v4v) 5 rfl rfl (fun _ => rfl) ?_
  refine exA 2 rfl rfl (x6x ?_)
  exact ⟨.inr rfl, (l, q), ⟨by show l.length ≤ m; omega, by show q ≤ p0 + 1 + 13 * m; omega⟩, [γ 0], rfl, rfl, hv⟩
 obtain ⟨n', rfl⟩ : ∃ n', n = n' + 1 := ⟨n - 1, by omega⟩
 refine x7x (hK2 _ _ (x2x fun K4 hK4 => ?_))
 refine y0y (a1b fun B X0 w0 => ?_)
 refine txR 1 rfl rfl (x4x rfl ?_)
 refine txM [0] [_] (a9b bs hbs q (by omega)) rfl rfl rfl rfl fun e he => ?_
 refine txR 2 rfl rfl (y7y (id := 2) u0u a9t rfl (x3x rfl rfl u0u rfl rfl rfl rfl (w1w rfl ?_)))
 refine a0k (ι := Ev × Nat) (fun s γ2 => []) (fun s γ2 => [(0, ((γ 0), .box 243 [q4q true bs, pI ((s.2 : Nat) : Int)])), (2, ((γ1 2 + 1), .box 56 (v4v s.1)))]) (fun s => s.2 ≤ q + 13) (cK [0, 5, 6, 7] rfl) (hK [1, 3, 4] rfl) ?_ fun s γ2 hi => ?_
 ·refine exR (x4x rfl ?_)
  refine a1l (n := l.length) rfl u9u rfl rfl (List.length_map _) ?_
  refine x1x 2 rfl rfl (z6z rfl rfl ?_ ?_)<;>intro h<;>try simp at h
  ·refine x1x 3 rfl rfl (x8x rfl (fun hc7 => ?_) (fun hc7 => ?_))
   ·simp at hc7
   try simp at hc7
   refine x7x ?_
   exact ⟨(e.1, e.2), (by show e.2 ≤ _; omega), [], cv, cv, hv, hv, rfl⟩
  refine x4x rfl (z1z rfl rfl ?_)
  refine rlM [0] [_] (y4y true bs (e.2) (4) (by have := he; omega) hbs) rfl rfl rfl ?_
  refine x1x 2 rfl rfl (y2y rfl ?_ ?_)<;>intro h<;>try simp at h
  ·refine x7x ?_
   exact ⟨(e.1, e.2 + 1), (by show e.2 + 1 ≤ _; omega), [], cv, cv, hv, hv, rfl⟩
  refine exA 3 rfl rfl ?_
  refine a1l (n := l.length) rfl u9u rfl rfl (List.length_map _) ?_
  refine rlM [0] [_] (y4y true bs (e.2 + 1) (l.length) (by have := he; omega) hbs) rfl rfl rfl ?_
  obtain ⟨z, ez, hz⟩ : ∃ z, pk bs (e.2 + 1) l.length = z ∧ z < l.length := ⟨_, rfl, a4t _ _ _ (by omega)⟩
  rw [ez]
  obtain ⟨v, hv⟩ : ∃ v, l[z]? = some v := ⟨_, List.getElem?_eq_getElem hz⟩
  refine v2v (j := z) rfl rfl u9u rfl u0u rfl rfl hz ?_
  refine q7q rfl u0u rfl (by assumption) rfl rfl ?_
  refine x3x rfl rfl u0u rfl rfl rfl rfl (exG (x4x rfl ?_))
  refine rlM [0] [_] (y4y true bs (e.2 + 1 + 1) (3) (by have := he; omega) hbs) rfl rfl rfl ?_
  refine y1y rfl u0u rfl rfl q5q rfl rfl ?_
  refine y9y rfl rfl q5q rfl rfl rfl rfl rfl (by simp only [a0y]; rfl) ?_
  exact ⟨({ v with n := (pk bs (e.2 + 1 + 1) 3 : Int) }, e.2 + 1 + 1 + 1), (by show e.2 + 1 + 1 + 1 ≤ _; omega), [], Cov.nil, (y3y 0 rfl (y3y 5 rfl (y3y 6 rfl (y3y 7 rfl Cov.nil)))), (HE.box rfl rfl (HE.box rfl rfl HE.nil)), (z0z 1 rfl (z0z 3 rfl (z0z 4 rfl HE.nil))), rfl⟩
 ·try dsimp only [b3s, b3t]
  refine exG (x1x 2 rfl rfl (u5u (id := 3) u9u rfl u0u rfl rfl rfl rfl rfl rfl ?_))
  refine u6u (zs := (l ++ [s.1]).map v4v) rfl rfl u9u rfl u0u rfl rfl rfl rfl (by rfl) (w7w v4v l s.1) (by (simp only [a0w, a0q, a0v, a0x, a1t, a3w, T56]; omega)) ?_
  refine x0x rfl (hK4 _ _ (exG (x4x rfl (a0s (b := 1) rfl rfl (by omega) (by omega) (x0x rfl ?_)))))
  exact ⟨(l ++ [s.1], s.2, n'), ⟨⟨by show (l ++ [s.1]).length + n' ≤ N; rw [List.length_append]; show l.length + 1 + n' ≤ N; omega, by show s.2 + 13 * n' ≤ _; omega⟩, (by show n' < n' + 1; omega)⟩, [0, _, _, _, _], cv, cv, (HE.row rfl (by rfl) (HE.box rfl rfl (HE.kill rfl (HE.kill rfl (HE.kill rfl HE.nil))))), hv, rfl⟩
end
section
def a5q (a : La) : List AV := [pI a.proc, pI a.base.x, pI a.base.y, pI a.base.count, .row .ow 58 12 (a.done.map (a3l true))]
theorem d1s (a : La) : LeL true (a5q a) (a0f true a) := .cons (.cl rfl) (.cons (.cl rfl) (.cons (.cl rfl) (.cons (.cl rfl) (.cons (Le.ow_map _ (fun h => h) (fun _ => rfl)) .nil))))
theorem a6z (l : List La) : Le true (.row .ow 44 5 (l.map a5q)) (b8a true l) := Le.ow_map2 l (fun h => h) d1s

def d7s (e : Ev) : List AV := [pI e.time, pI e.to, pI e.from', pI e.count, pI e.n, pI e.kind, pI e.arg, pI 0, pI 0, pI 0, .pv (.slice none 0 0), .pv (.slice none 0 0)]
def d7t (e : Ev) : Pa := ⟨e, ⟨0, 0, 0⟩, [], []⟩
theorem e6u (ds : List Pa) (e : Ev) : Le true (.row .ow 58 12 (ds.map (a3l true) ++ [d7s e])) (b2y true (ds ++ [d7t e])) := by
 have h := Le.ow_map2 (f := fun x : Sum Pa Ev => match x with | .inl p => a3l true p | .inr e => d7s e) (f' := fun x : Sum Pa Ev => match x with | .inl p => a3l true p | .inr e => a3l true (d7t e)) (ty := 58) (sz := 12) (k := true) (c := true) (ds.map .inl ++ [.inr e]) (fun h => h)
  (fun x => match x with | .inl p => .cons (.cl rfl) (.cons (.cl rfl) (.cons (.cl rfl) (.cons (.cl rfl) (.cons (.cl rfl) (.cons (.cl rfl) (.cons (.cl rfl) (.cons (.cl rfl) (.cons (.cl rfl) (.cons (.cl rfl) (.cons (.cl rfl) (.cons (.cl rfl) .nil))))))))))) | .inr e => .cons (.cl rfl) (.cons (.cl rfl) (.cons (.cl rfl) (.cons (.cl rfl) (.cons (.cl rfl) (.cons (.cl rfl) (.cons (.cl rfl) (.cons (.cl rfl) (.cons (.cl rfl) (.cons (.cl rfl) (.cons .nil (.cons .nil .nil))))))))))))
 simp only [List.map_append, List.map_map, List.map_cons, List.map_nil, Function.comp_def] at h
 unfold b2y
 rw [List.map_append]
 exact h
def e3n (l : La) (e : Ev) : List AV := [pI l.proc, pI l.base.x, pI l.base.y, pI l.base.count, .row .ow 58 12 (l.done.map (a3l true) ++ [d7s e])]
theorem e6v (l : La) (e : Ev) (r : List La) : Le true (.row .ow 44 5 (e3n l e :: r.map a5q)) (b8a true (⟨l.proc, l.base, l.done ++ [d7t e]⟩ :: r)) := by
 have h := Le.ow_map2 (f := fun x : Sum La Unit => match x with | .inl p => a5q p | .inr _ => e3n l e) (f' := fun x : Sum La Unit => match x with | .inl p => a0f true p | .inr _ => a0f true ⟨l.proc, l.base, l.done ++ [d7t e]⟩) (ty := 44) (sz := 5) (k := true) (c := true) (.inr () :: r.map .inl) (fun h => h)
  (fun x => match x with | .inl p => d1s p | .inr _ => .cons (.cl rfl) (.cons (.cl rfl) (.cons (.cl rfl) (.cons (.cl rfl) (.cons (e6u _ _) .nil)))))
 simp only [List.map_map, List.map_cons, Function.comp_def] at h
 exact h
theorem e6w (ds : List Pa) (e : Ev) : d6k (ds.map (a3l true) ++ [d7s e]) := fun x hx c hc => by
 rcases List.mem_append.1 hx with h | h
 ·exact a0n (fun _ => rfl) x h c hc
 ·rw [List.mem_singleton.1 h] at hc
  exact List.all_eq_true.1 (show ((d7s e).all AV.flat) = true from rfl) c hc
theorem e3o (h : a2p n) : 0 < n.lanes.length := by
 rw [h.2.2.2.2.1]
 have h1 := h.1.1
 have : n.id = 0 ∨ n.id = 1 ∨ n.id = 2 := by omega
 rcases this with e | e | e <;> rw [e] <;> decide
theorem e3p (h : c3g n) (hl : n.lanes = l :: r) (e : Ev) : c3g { n with lanes := ⟨l.proc, l.base, l.done ++ [d7t e]⟩ :: r } := fun m hm p hp => by
 rcases List.mem_cons.1 hm with rfl | hm
 ·rcases List.mem_append.1 hp with hp | hp
  ·exact h l (by rw [hl]; exact List.mem_cons_self ..) p hp
  ·rw [List.mem_singleton.1 hp]; exact fun q hq => by cases hq
 ·exact h m (by rw [hl]; exact List.mem_cons_of_mem _ hm) p hp
end
section
theorem b9p (c : Bool) (n : Nd) (hl : n.lanes.length ≤ 1000000) (hk : n.kept.length ≤ 1000000) (ho : n.outs.length ≤ 1000000) (hd : ∀ l ∈ n.lanes, lb l) : Meth Tryz.prog 155 5 [] [.agg (w6w c n)] [(0, (0, .dead)), (1, (0, .dead)), (2, (0, .dead)), (3, (0, .dead)), (4, (0, .dead))] (.agg [pI n.id, .pv (.bool n.up), pI n.inc, pI n.g, .ref 0 0, .ref 3 0, .ref 4 0, pI n.led, pI 0, .ref 1 0, .ref 2 0, pI 0, pI 41]) [(0, (0, .row 44 5 ((n.lanes.map p1p).map (a0f true)))), (1, (0, .row 190 3 ([vi0, vi0, vi0].map (a4g true)))), (2, (0, .row 3 1 ([0, 0, 0].map a6c))), (3, (0, .row 56 7 ((n.kept).map v4v))), (4, (0, .row 141 5 ((n.outs).map a0c)))] := by
 refine mX Tryz.f155 [.agg [pI n.id, .pv (.bool n.up), pI n.inc, pI n.g, .ref 0 0, .ref 3 0, .ref 4 0, pI n.led, pI 0, .ref 1 0, .ref 2 0, pI 0, pI 41]] 5 11 fun γ => ?_
 refine exR (z7z (id := 5) rfl rfl rfl (y7y (id := 6) y5y s5s rfl (exD (x1x 8 rfl rfl (z8z (id := 3) u9u rfl u0u rfl (x1x 2 rfl rfl ?_))))))
 refine s1s (zs := (n.kept).map v4v) rfl rfl u9u rfl u0u rfl rfl rfl (w3w (fun _ => rfl) _) rfl (by (simp only [a0w, a0q, a0v, a0x, a1t, a3w, b3r, T56]; omega)) ?_
 refine z8z (id := 4) q8q rfl w8w rfl (x1x 2 rfl rfl ?_)
 refine s1s (zs := (n.outs).map a0c) rfl rfl q8q rfl w8w rfl rfl rfl (w3w (fun _ => rfl) _) rfl (by (simp only [a0w, a0q, a0v, a0x, a1t, a3w, b3r, T141]; omega)) ?_
 refine x1x 2 rfl rfl (rlB y5y s5s ?_)
 refine y7y (id := 9) y5y s5s rfl (x3x rfl rfl y5y rfl rfl rfl rfl ⟨by kernel_rfl, x2x fun K1 hK1 => ?_⟩)
 refine exR (x0x rfl (y0y (a0d 9 4 0 44 5 rfl rfl rfl rfl rfl ?_)))
 refine z3z (ι := Nat) (fun i γ1 => [(4, pI (i : Int))]) (fun i γ1 => [(0, ((γ1 0), .row 44 5 (((n.lanes.take i).map p1p).map (a0f true)))), (9, ((0 + 1), .box 65 [pI n.id, .pv (.bool n.up), pI n.inc, pI n.g, .ref 0 (γ1 0), .ref 3 (γ 3 + 1 + 1), .ref 4 (γ 4 + 1 + 1), pI n.led, pI 0, .pv (.slice none 0 0), .pv (.slice none 0 0), pI 0, pI 41])), (10, ((γ1 10), .dead)), (11, ((γ1 11), .dead))]) (fun i => i ≤ n.lanes.length) (fun i => n.lanes.length - i) (cK [1, 2, 3] rfl) (hK [1, 2, 3, 4, 5, 6, 7, 8, 12, 13, 14, 15] rfl) 0 (by omega) [_, 0, 0, 0, 0, 0, 0, 0, 0, 0, _, _] cv (HE.row rfl (by rw [List.take_zero]; rfl) (HE.box rfl rfl (HE.kill rfl (HE.kill rfl HE.nil)))) rfl fun i γ1 hi => ?_
 refine x2x fun K2 hK2 => ?_
 refine exA 3 rfl rfl (z2z rfl q6q rfl (v1v rfl rfl rfl (x8x rfl ?_ ?_)))<;>intro o<;>try simp at o
 ·obtain ⟨a, ha⟩ := gE n.lanes i
  have had := hd a (List.mem_of_getElem? ha)
  refine x7x (hK2 _ _ (x2x fun K4 hK4 => ?_))
  refine y0y (exH (x1x 5 rfl rfl (y8y rfl rfl q6q rfl v6v rfl ha (u4u rfl v6v rfl rfl (x9x rfl rfl rfl (a3x c a 0 0 had.1 (by omega) (by omega) had.2) ?_)))))
  refine u5u (id := 10) q6q rfl v6v rfl rfl rfl rfl rfl rfl ?_
  refine u6u (zs := ((n.lanes.take i).map p1p ++ [p1p a]).map (a0f true)) rfl rfl q6q rfl v6v rfl rfl rfl rfl (by rfl) (w7w _ _ _) (by (simp only [a0w, a0q, a0v, a0x, a1t, a3w, b3r, T44]; omega)) ?_
  refine y1y rfl y5y rfl rfl q6q rfl rfl (y9y rfl rfl q6q rfl rfl rfl rfl rfl (by simp only [a0y]; rfl) ?_)
  refine ⟨by kernel_rfl, hK4 _ _ (exG (x4x rfl (p7p rfl rfl rfl (x0x rfl ?_))))⟩
  exact ⟨i + 1, ⟨by omega, by omega⟩, [_, 0, 0, 0, 0, 0, 0, 0, 0, 0, _, _], (Cov.cons' (t := 4) rfl (by rw [u2u (by omega) (by omega)]; rfl) Cov.nil), cv, (HE.row rfl (by simp only [w0w ha, List.map_append, List.map_cons, List.map_nil]) (HE.box rfl rfl (HE.kill rfl (HE.kill rfl HE.nil)))), hv, rfl⟩
 obtain rfl : i = n.lanes.length := by omega
 refine z4z (hK1 _ _ (x2x fun K5 hK5 => ?_))
 refine exR (x0x rfl (y0y (a0d 9 9 1 190 3 rfl rfl rfl rfl rfl (a0d 9 10 2 3 1 rfl rfl rfl rfl rfl ?_))))
 refine z3z (ι := Nat) (fun i γ2 => [(5, pI (i : Int))]) (fun i γ2 => [(1, ((γ2 1), .row 190 3 ((List.range i).map fun _ => a7j))), (2, ((γ2 2), .row 3 1 ((List.range i).map fun _ => a6c 0))), (9, ((0 + 1), .box 65 [pI n.id, .pv (.bool n.up), pI n.inc, pI n.g, .ref 0 (γ1 0), .ref 3 (γ 3 + 1 + 1), .ref 4 (γ 4 + 1 + 1), pI n.led, pI 0, .ref 1 (γ2 1), .ref 2 (γ2 2), pI 0, pI 41])), (12, ((γ2 12), .dead)), (13, ((γ2 13), .dead)), (14, ((γ2 14), .dead)), (15, ((γ2 15), .dead))]) (fun i => i ≤ 3) (fun i => 3 - i) (cK [2, 3] rfl) (hK [0, 3, 4, 5, 6, 7, 8, 10, 11] rfl) 0 (by omega) [0, _, _, 0, 0, 0, 0, 0, 0, 0, 0, 0, _, _, _, _] cv hv rfl fun i γ2 hi => ?_
 refine x2x fun K6 hK6 => ?_
 refine exA 2 rfl rfl (y2y rfl ?_ ?_)<;>intro o<;>try simp at o
 ·obtain rfl : i = 3 := by omega
  rw [List.take_length]
  refine z4z (hK5 _ _ (exR (x5x rfl y5y rfl rfl rfl (x3x rfl rfl y5y rfl rfl rfl rfl ?_))))
  refine c5s (f := fun _ => a7j) (f' := fun _ => a4g true vi0) (l := List.range 3) 1 rfl (fun _ => .same (.same (.le rfl .nil rfl .nil))) ?_
  refine x6x ?_
  exact ⟨.inr rfl, [_, _, _, _, _], rfl, rfl, hv⟩
 refine x7x (hK6 _ _ (x2x fun K8 hK8 => ?_))
 refine y0y (exA 2 rfl rfl (rlB p0p a7w ?_))
 refine u5u (id := 12) s6s rfl p0p rfl rfl rfl rfl rfl rfl ?_
 refine u6u (zs := (List.range i).map (fun _ => a7j) ++ [a7j]) rfl rfl s6s rfl p0p rfl rfl rfl rfl (by rfl) rfl (by (simp only [a0w, a0q, a0v, a0x, a1t, a3w, b3r, T190]; omega)) ?_
 refine y1y rfl y5y rfl rfl s6s rfl rfl (y9y rfl rfl s6s rfl rfl rfl rfl rfl (by simp only [a0y]; rfl) ?_)
 refine exG (x1x 2 rfl rfl (b0s (id := 14) q1q rfl q5q rfl rfl rfl rfl rfl ?_))
 refine u6u (zs := (List.range i).map (fun _ => a6c 0) ++ [a6c 0]) rfl rfl q1q rfl q5q rfl rfl rfl rfl (by rfl) rfl (by (simp only [a0w, a0q, a0v, a0x, a1t, a3w, b3r, T3]; omega)) ?_
 refine y1y rfl y5y rfl rfl q1q rfl rfl (y9y rfl rfl q1q rfl rfl rfl rfl rfl (by simp only [a0y]; rfl) ?_)
 refine hK8 _ _ (exG (x4x rfl (p7p rfl rfl rfl (x0x rfl ?_))))
 exact ⟨i + 1, ⟨by omega, by omega⟩, [0, _, _, 0, 0, 0, 0, 0, 0, 0, 0, 0, _, _, _, _], (Cov.cons' (t := 5) rfl (by rw [u2u (by omega) (by omega)]; rfl) Cov.nil), cv, (HE.row rfl (by rw [List.range_succ, List.map_append]; rfl) (HE.row rfl (by rw [List.range_succ, List.map_append]; rfl) (HE.box rfl rfl (HE.kill rfl (HE.kill rfl (HE.kill rfl (HE.kill rfl HE.nil))))))), hv, rfl⟩
theorem c0o (c : Bool) (n : Nd) (h : nb n) : Meth Tryz.prog 161 5 [] [.agg (w6w c n)] [(0, (0, .dead)), (1, (0, .dead)), (2, (0, .dead)), (3, (0, .dead)), (4, (0, .dead))] (.agg [pI n.id, .pv (.bool n.up), pI n.inc, pI n.g, .ref 0 0, .ref 3 0, .ref 4 0, pI n.led, pI n.version, .ref 1 0, .ref 2 0, pI n.round, pI n.low]) [(0, (0, .row 44 5 ((n.lanes).map a5q))), (1, (0, .row 190 3 ((n.views).map (a4g true)))), (2, (0, .row 3 1 (n.known.map a6c))), (3, (0, .row 56 7 ((n.kept).map v4v))), (4, (0, .row 141 5 ((n.outs).map a0c)))] := by
 refine mX Tryz.f161 [.agg [pI n.id, .pv (.bool n.up), pI n.inc, pI n.g, .ref 0 0, .ref 3 0, .ref 4 0, pI n.led, pI n.version, .ref 1 0, .ref 2 0, pI n.round, pI n.low]] 5 11 fun γ => ?_
 obtain ⟨b1, b2, b3, b4, b5, b6, b7⟩ := h
 refine exR (z7z (id := 5) rfl rfl rfl (y7y (id := 6) y5y s5s rfl (exR (x5x rfl y5y rfl rfl rfl ?_))))
 refine rlM [0, 13, 14, 3, 4] [_, _, _, _, _] (b9p c n b1 b2 b3 b4) rfl rfl rfl ?_
 refine y7y (id := 7) y5y s5s rfl (x3x rfl rfl y5y rfl rfl rfl rfl (x2x fun K1 hK1 => ?_))
 refine exR (x0x rfl (y0y ?_))
 refine z3z (ι := Nat) (fun i γ1 => [(4, pI (i : Int))]) (fun i γ1 => [(15, ((γ1 15), .dead)), (0, ((γ 0 + 1), .row 44 5 ((n.lanes.take i).map a5q ++ ((n.lanes.drop i).map p1p).map (a0f true))))]) (fun i => i ≤ n.lanes.length) (fun i => n.lanes.length - i) (cK [1, 2, 3] rfl) (hK [1, 2, 3, 4, 5, 6, 7, 8, 9, 10, 11, 12, 13, 14] rfl) 0 (by omega) [0, 0, 0, 0, 0, 0, 0, 0, 0, 0, 0, 0, 0, 0, 0, _] cv (HE.kill rfl (HE.row rfl (by rw [List.take_zero, List.drop_zero]; rfl) HE.nil)) rfl fun i γ1 hi => ?_
 refine x2x fun K2 hK2 => ?_
 refine exA 3 rfl rfl (z2z rfl q6q rfl (v1v rfl rfl rfl (x8x rfl ?_ ?_)))<;>intro o<;>try simp at o
 ·obtain ⟨p, hp⟩ := gE n.lanes i
  have hpl := b4 p (List.mem_of_getElem? hp)
  have hAl : ((n.lanes.take i).map a5q).length = i := by rw [List.length_map, List.length_take]; omega
  rw [s2s hp, List.map_cons, List.map_cons]
  refine x7x (hK2 _ _ (x2x fun K4 hK4 => ?_))
  refine y0y (exH (x1x 6 rfl rfl (y8y rfl rfl q6q rfl v6v rfl hp (x1x 4 rfl rfl (y8y rfl rfl q6q rfl v6v rfl hp (x1x 2 rfl rfl (z2z rfl r0r rfl ?_)))))))
  refine rlM [15] [_] (b2n c p 0 p.done.length hpl.1 (by omega) hpl.1 hpl.2) rfl rfl rfl ?_
  refine b3e rfl rfl q6q rfl v6v rfl rfl hAl (b0u hAl rfl rfl v6v rfl rfl rfl rfl (.val rfl rfl (.val rfl rfl (.val rfl rfl (.val rfl rfl (.ref rfl (a0n fun _ => rfl) .nil rfl rfl))))) rfl ?_)
  refine ⟨by kernel_rfl, hK4 _ _ (exG (x4x rfl (p7p rfl rfl rfl (x0x rfl ?_))))⟩
  exact ⟨i + 1, ⟨by omega, by omega⟩, [0, 0, 0, 0, 0, 0, 0, 0, 0, 0, 0, 0, 0, 0, 0, _], (Cov.cons' (t := 4) rfl (by rw [u2u (by omega) (by omega)]; rfl) Cov.nil), cv, (HE.kill rfl (HE.row rfl (by rw [b6i]; simp only [w0w hp, List.map_append, List.append_assoc]; rfl) HE.nil)), hv, rfl⟩
 obtain rfl : i = n.lanes.length := by omega
 rw [List.take_length, List.drop_length, List.map_nil, List.map_nil, List.append_nil]
 refine z4z (hK1 _ _ (exA 3 rfl rfl (y9y rfl rfl q5q rfl rfl rfl rfl rfl (by simp only [a0y]; rfl) ?_)))
 refine exA 3 rfl rfl (y9y rfl rfl q5q rfl rfl rfl rfl rfl (by simp only [a0y]; rfl) ?_)
 refine exA 3 rfl rfl (y9y rfl rfl q5q rfl rfl rfl rfl rfl (by simp only [a0y]; rfl) ?_)
 refine exR (z8z (id := 1) s6s rfl p0p rfl (y1y rfl y5y rfl rfl s6s rfl rfl (y9y rfl rfl s6s rfl rfl rfl rfl rfl (by simp only [a0y]; rfl) ?_)))
 refine x2x fun K5 hK5 => ?_
 refine exR (x0x rfl (y0y ?_))
 refine z3z (ι := Nat) (fun j γ2 => [(5, pI (j : Int))]) (fun j γ2 => [(1, ((γ2 1), .row 190 3 ((n.views.take j).map (a4g true)))), (7, ((0 + 1), .box 65 [pI n.id, .pv (.bool n.up), pI n.inc, pI n.g, .ref 0 (γ 0 + 1), .ref 3 (γ 3 + 1), .ref 4 (γ 4 + 1), pI n.led, pI n.version, .ref 1 (γ2 1), .ref 14 (0 + 1), pI n.round, pI n.low])), (8, ((γ2 8), .dead)), (9, ((γ2 9), .dead)), (10, ((γ2 10), .dead)), (11, ((γ2 11), .dead))]) (fun j => j ≤ n.views.length) (fun j => n.views.length - j) (cK [1, 2, 3] rfl) (hK [0, 2, 3, 4, 5, 6, 12, 13, 14, 15] rfl) 0 (by omega) [0, _, 0, 0, 0, 0, 0, 0, _, _, _, _] cv (HE.row rfl (by rw [List.take_zero]; rfl) (HE.box rfl rfl (HE.kill rfl (HE.kill rfl (HE.kill rfl (HE.kill rfl HE.nil)))))) rfl fun j γ2 hi => ?_
 refine x2x fun K6 hK6 => ?_
 refine exA 3 rfl rfl (z2z rfl s6s rfl (v1v rfl rfl rfl (y2y rfl ?_ ?_)))<;>intro o<;>try simp at o
 ·obtain rfl : j = n.views.length := by omega
  rw [List.take_length]
  refine z4z (hK5 _ _ (exR (z8z (id := 2) q1q rfl q5q rfl (x1x 2 rfl rfl ?_))))
  refine s1s (zs := n.known.map a6c) rfl rfl q1q rfl q5q rfl rfl rfl (w3w (fun _ => rfl) _) rfl (by (simp only [a0w, a0q, a0v, a0x, a1t, a3w, b3r, T3]; omega)) ?_
  refine y1y rfl y5y rfl rfl q1q rfl rfl (y9y rfl rfl q1q rfl rfl rfl rfl rfl (by simp only [a0y]; rfl) ?_)
  refine exR (x5x rfl y5y rfl rfl rfl (x3x rfl rfl y5y rfl rfl rfl rfl (x6x ?_)))
  exact ⟨.inr rfl, [_, _, _, _, _], rfl, rfl, hv⟩
 obtain ⟨v, hv⟩ := gE n.views j
 have hve := b6 v (List.mem_of_getElem? hv)
 refine x7x (hK6 _ _ (x2x fun K8 hK8 => ?_))
 refine y0y (exH (x1x 5 rfl rfl (y8y rfl rfl s6s rfl p0p rfl hv (x1x 5 rfl rfl (y8y rfl rfl s6s rfl p0p rfl hv (x1x 2 rfl rfl (z8z (id := 8) u9u rfl u0u rfl (x1x 3 rfl rfl (y8y rfl rfl s6s rfl p0p rfl hv (x1x 2 rfl rfl ?_))))))))))
 refine a2o s3s (zs := (v.events).map v4v) rfl rfl u9u rfl u0u rfl rfl rfl (w3w (fun _ => rfl) _) rfl (by (simp only [a0w, a0q, a0v, a0x, a1t, a3w, b3r, T56]; omega)) (Le.ow_map _ (fun _ => rfl) (fun _ => rfl)) ?_
 refine rlB p0p a7w ?_
 refine u5u (id := 10) s6s rfl p0p rfl rfl rfl rfl rfl rfl ?_
 refine u6u (zs := (n.views.take j ++ [v]).map (a4g true)) rfl rfl s6s rfl p0p rfl rfl rfl rfl (by rfl) (w7w _ _ _) (by (simp only [a0w, a0q, a0v, a0x, a1t, a3w, b3r, T190]; omega)) ?_
 refine y1y rfl y5y rfl rfl s6s rfl rfl (y9y rfl rfl s6s rfl rfl rfl rfl rfl (by simp only [a0y]; rfl) ?_)
 refine ⟨by kernel_rfl, hK8 _ _ (exG (x4x rfl (p7p rfl rfl rfl (x0x rfl ?_))))⟩
 exact ⟨j + 1, ⟨by omega, by omega⟩, [0, _, 0, 0, 0, 0, 0, 0, _, _, _, _], (Cov.cons' (t := 5) rfl (by rw [u2u (by omega) (by omega)]; rfl) Cov.nil), (y3y 1 rfl (y3y 2 rfl (y3y 3 rfl Cov.nil))), (HE.row rfl (by rw [w0w hv]) (HE.box rfl rfl (HE.kill rfl (HE.kill rfl (HE.kill rfl (HE.kill rfl HE.nil)))))), (z0z 0 rfl (z0z 2 rfl (z0z 3 rfl (z0z 4 rfl (z0z 5 rfl (z0z 6 rfl (z0z 12 rfl (z0z 13 rfl (z0z 14 rfl (z0z 15 rfl HE.nil)))))))))), rfl⟩
end
section
theorem b9q (bs : List Nat) (hbs : ∀ b ∈ bs, b < 256) (p0 : Nat) (hp : p0 + 502 + 1040 * 14 ≤ 1000000) : MethE Tryz.prog 122 1 [.ptr 0 0 0] [(0, (0, .box 243 [q4q true bs, .pv (.int .i64 ((p0 : Nat) : Int))]))] (ι := Tw × Nd × Nat) (fun S' => b9l S'.1 ∧ c3g S'.2.1 ∧ S'.2.2 ≤ p0 + 15200) (fun S' => [0]) (fun S' => .tup [.agg (e5v true S'.1), .agg (w6w true S'.2.1)]) (fun S' => [(0, (0, .box 243 [q4q true bs, .pv (.int .i64 ((S'.2.2 : Nat) : Int))]))]) := by
 refine b5z s3s (fn := Tryz.f122) (by kernel_rfl) (by kernel_rfl) rfl (ι := Tw × Nd × Nat) (OF := fun S' => [.agg (e5v true S'.1), .agg (w6w true S'.2.1)]) 1 20 (a1d rfl) (by rfl) (fun _ _ => by rfl) (by repeat (first | exact BndH.nil | refine BndH.box rfl ?_)) (fun _ _ => (by repeat (first | exact BndH.nil | refine BndH.box rfl ?_))) (fun _ _ => by rfl) fun γ => ?_
 show Ex Tryz.prog _ _ [(0, .ptr 0 (γ 0) 0)] [(0, ((γ 0), .box 243 [q4q true bs, .pv (.int .i64 ((p0 : Nat) : Int))])), (20, (0, .dead)), (19, (0, .dead)), (18, (0, .dead)), (17, (0, .dead)), (16, (0, .dead)), (15, (0, .dead)), (14, (0, .dead)), (13, (0, .dead)), (12, (0, .dead)), (11, (0, .dead)), (10, (0, .dead)), (9, (0, .dead)), (8, (0, .dead)), (7, (0, .dead)), (6, (0, .dead)), (5, (0, .dead)), (4, (0, .dead)), (3, (0, .dead)), (2, (0, .dead)), (1, (0, .dead))] _
 refine exR (y7y (id := 1) r2r b8t rfl (y7y (id := 2) y5y s5s rfl (a1b fun B X0 w0 => ?_)))
 refine txR 1 rfl rfl (x4x rfl ?_)
 refine txM [0] [_] (c5d bs hbs p0 hp) rfl rfl rfl rfl fun j hj => ?_
 obtain ⟨hj1, hj2⟩ := hj
 have hq : j.1.p ≤ p0 + 503 + 1040 * 14 := hj1.2.2
 have hI := hj1.1.2.2.1 j.2 hj2
 have fS := hI.1.1
 have fb := b9d fS
 have fB := r8r fS
 obtain ⟨g1, g2, g3, g4, g5, g6⟩ := fB
 refine txR 7 rfl rfl (x1x 3 rfl rfl (y7y (id := 3) r2r b8t rfl (y7y (id := 4) y5y s5s rfl (x3x rfl rfl r2r rfl rfl rfl rfl (x3x rfl rfl y5y rfl rfl rfl rfl (w1w rfl (exR (x5x rfl y5y rfl rfl rfl ?_))))))))
 refine rlM [15, 16, 17, 18, 19] [_, _, _, _, _] (c0o true j.2 fb) rfl rfl rfl ?_
 refine x3x rfl rfl y5y rfl rfl rfl rfl ?_
 refine a0k (ι := Nd × Nat × List (List AV)) (fun s γ1 => []) (fun s γ1 => [(15, ((γ1 15), .row 44 5 (s.2.2))), (16, ((γ1 16), .row 190 3 ((s.1.views).map (a4g true)))), (17, ((γ1 17), .row 3 1 ((s.1.known).map a6c))), (18, ((γ1 18), .row 56 7 ((s.1.kept).map v4v))), (19, ((γ1 19), .row 141 5 ((s.1.outs).map a0c))), (20, ((γ1 20), .dead)), (0, ((γ 0), .box 243 [q4q true bs, pI ((s.2.1 : Nat) : Int)])), (4, ((0 + 1), .box 65 [pI s.1.id, .pv (.bool s.1.up), pI s.1.inc, pI s.1.g, .ref 15 (γ1 15), .ref 18 (γ1 18), .ref 19 (γ1 19), pI s.1.led, pI s.1.version, .ref 16 (γ1 16), .ref 17 (γ1 17), pI s.1.round, pI s.1.low])), (5, ((γ1 5), .dead)), (6, ((γ1 6), .dead)), (7, ((γ1 7), .dead)), (8, ((γ1 8), .dead)), (9, ((γ1 9), .dead)), (10, ((γ1 10), .dead)), (11, ((γ1 11), .dead)), (12, ((γ1 12), .dead)), (13, ((γ1 13), .dead)), (14, ((γ1 14), .dead))]) (fun s => c3g s.1 ∧ s.2.1 ≤ p0 + 15200 ∧ Le true (.row .ow 44 5 s.2.2) (b8a true s.1.lanes)) (cK [2, 3, 4, 5] rfl) (hK [1, 2, 3] rfl) ?_ fun s γ1 hi => ?_
 ·refine exR (x4x rfl ?_)
  refine rlM [0] [_] (y4y true bs (j.1.p) (24) (by have := hq; omega) hbs) rfl rfl rfl ?_
  refine y0y (exA 2 rfl rfl (x8x rfl ?_ ?_))<;>intro u<;>try simp at u
  ·refine exG (x4x rfl ?_)
   refine rlM [0] [_] (y4y true bs (j.1.p + 1) (5) (by have := hq; omega) hbs) rfl rfl rfl ?_
   have h5 := a4t bs (j.1.p + 1) 5 (by omega)
   refine a0r (.int .i64 ((pk bs (j.1.p + 1) 5 : Int) - 1)) rfl rfl rfl (a7f rfl (by omega) (by omega) (by omega)) ?_
   refine y1y rfl y5y rfl rfl q5q rfl rfl (y9y rfl rfl q5q rfl rfl rfl rfl rfl (by simp only [a0y]; rfl) ?_)
   exact ⟨({ j.2 with id := (pk bs (j.1.p + 1) 5 : Int) - 1 }, j.1.p + 1 + 1, j.2.lanes.map a5q), (by exact ⟨hI.2, by show j.1.p + 1 + 1 ≤ p0 + 15200; omega, (a6z _)⟩), [0, 0, 0, 0, 0, _, _, _, _, _, _, _, _, _, _, _, _, _, _, _, _], cv, cv, hv, hv, rfl⟩
  refine exA 2 rfl rfl (x8x rfl ?_ ?_)<;>intro u<;>try simp at u
  ·refine exG (x9x rfl rfl rfl (w5w ..) (x9x rfl rfl rfl (w5w ..) (a0r (.int .i64 10000) rfl rfl rfl rfl ?_)))
   refine a0l (id := 5) q1q rfl q5q rfl rfl rfl rfl (.val rfl rfl (.val rfl rfl (.val rfl rfl .nil))) rfl (a1d rfl) (a1d rfl) (a1d rfl) rfl rfl ?_
   refine x4x rfl ?_
   refine rlM [0] [_] (y4y true bs (j.1.p + 1) (3) (by have := hq; omega) hbs) rfl rfl rfl ?_
   obtain ⟨z, ez, hz⟩ : ∃ z, pk bs (j.1.p + 1) 3 = z ∧ z < 3 := ⟨_, rfl, a4t _ _ _ (by omega)⟩
   rw [ez]
   obtain ⟨v, hv⟩ : ∃ x, ([0, 9999, 10000] : List Int)[z]? = some x := ⟨_, List.getElem?_eq_getElem hz⟩
   refine v2v (f := fun x : Int => [pI x]) (l := [0, 9999, 10000]) (j := z) rfl rfl q1q rfl q5q rfl rfl hz ?_
   refine a1h (f := fun x : Int => [pI x]) (l := [0, 9999, 10000]) rfl q5q rfl hv rfl ?_
   refine y1y rfl y5y rfl rfl q5q rfl rfl ?_
   refine y9y rfl rfl q5q rfl rfl rfl rfl rfl (by simp only [a0y]; rfl) ?_
   exact ⟨({ j.2 with inc := v }, j.1.p + 1 + 1, j.2.lanes.map a5q), (by exact ⟨hI.2, by show j.1.p + 1 + 1 ≤ p0 + 15200; omega, (a6z _)⟩), [0, 0, 0, 0, 0, _, _, _, _, _, _, _, _, _, _, _, _, _, _, _, _], Cov.nil, (y3y 2 rfl (y3y 3 rfl (y3y 4 rfl (y3y 5 rfl Cov.nil)))), (HE.row rfl rfl (HE.row rfl rfl (HE.row rfl rfl (HE.row rfl rfl (HE.row rfl rfl (HE.kill rfl (HE.box rfl rfl (HE.box rfl rfl (HE.kill rfl (HE.kill rfl (HE.kill rfl (HE.kill rfl (HE.kill rfl (HE.kill rfl (HE.kill rfl (HE.kill rfl (HE.kill rfl (HE.kill rfl HE.nil)))))))))))))))))), (z0z 1 rfl (z0z 2 rfl (z0z 3 rfl HE.nil))), rfl⟩
  refine exA 2 rfl rfl (x8x rfl ?_ ?_)<;>intro u<;>try simp at u
  ·refine exG ?_
   refine a0l (id := 6) q1q rfl q5q rfl rfl rfl rfl (.val rfl rfl (.val rfl rfl (.val rfl rfl (.val rfl rfl .nil)))) rfl (a1d rfl) (a1d rfl) (a1d rfl) rfl rfl ?_
   refine x4x rfl ?_
   refine rlM [0] [_] (y4y true bs (j.1.p + 1) (4) (by have := hq; omega) hbs) rfl rfl rfl ?_
   obtain ⟨z, ez, hz⟩ : ∃ z, pk bs (j.1.p + 1) 4 = z ∧ z < 4 := ⟨_, rfl, a4t _ _ _ (by omega)⟩
   rw [ez]
   obtain ⟨v, hv⟩ : ∃ x, ([-1, 41, 42, 3] : List Int)[z]? = some x := ⟨_, List.getElem?_eq_getElem hz⟩
   refine v2v (f := fun x : Int => [pI x]) (l := [-1, 41, 42, 3]) (j := z) rfl rfl q1q rfl q5q rfl rfl hz ?_
   refine a1h (f := fun x : Int => [pI x]) (l := [-1, 41, 42, 3]) rfl q5q rfl hv rfl ?_
   refine y1y rfl y5y rfl rfl q5q rfl rfl ?_
   refine y9y rfl rfl q5q rfl rfl rfl rfl rfl (by simp only [a0y]; rfl) ?_
   exact ⟨({ j.2 with g := v }, j.1.p + 1 + 1, j.2.lanes.map a5q), (by exact ⟨hI.2, by show j.1.p + 1 + 1 ≤ p0 + 15200; omega, (a6z _)⟩), [0, 0, 0, 0, 0, _, _, _, _, _, _, _, _, _, _, _, _, _, _, _, _], Cov.nil, (y3y 2 rfl (y3y 3 rfl (y3y 4 rfl (y3y 5 rfl Cov.nil)))), (HE.row rfl rfl (HE.row rfl rfl (HE.row rfl rfl (HE.row rfl rfl (HE.row rfl rfl (HE.kill rfl (HE.box rfl rfl (HE.box rfl rfl (HE.kill rfl (HE.kill rfl (HE.kill rfl (HE.kill rfl (HE.kill rfl (HE.kill rfl (HE.kill rfl (HE.kill rfl (HE.kill rfl (HE.kill rfl HE.nil)))))))))))))))))), (z0z 1 rfl (z0z 2 rfl (z0z 3 rfl HE.nil))), rfl⟩
  refine exA 2 rfl rfl (x8x rfl ?_ ?_)<;>intro u<;>try simp at u
  ·refine d5o 3 (b5i s3s 0 3 rfl rfl ?_)
   refine x1x 3 rfl rfl (b6o c4g (by rfl) [0] [_] (a9b bs hbs (j.1.p + 1) (by omega)) rfl rfl rfl rfl (by decide) rfl rfl ihv (fun _ => (by (simp only [pI, a2q, a2r, b8m, gl, nx, a6t, Nat.beq]; rfl))) (fun _ => (by (simp only [pI, a2q, a2r, b8m, gl, nx, a6t, Nat.beq]; rfl))) (⟨0, 0, 0, 0, 0, 0, 0⟩, j.1.p + 1) (by show j.1.p + 1 ≤ _; omega) fun e he => ?_)
   refine b5j s3s 4 4 rfl rfl ?_
   refine u5u (id := 7) u9u rfl u0u rfl rfl rfl rfl rfl rfl ?_
   refine u6u (zs := (j.2.kept ++ [e.1]).map v4v) rfl rfl u9u rfl u0u rfl rfl rfl rfl (by rfl) (w7w v4v j.2.kept e.1) (by (simp only [a0w, a0q, a0v, a0x, a1t, a3w, T56]; omega)) ?_
   refine y1y rfl y5y rfl rfl u9u rfl rfl (y9y rfl rfl u9u rfl rfl rfl rfl rfl (by simp only [a0y]; rfl) ?_)
   refine c3b (by kernel_rfl) ?_
   exact ⟨({ j.2 with kept := j.2.kept ++ [e.1] }, e.2, j.2.lanes.map a5q), (by exact ⟨hI.2, by show e.2 ≤ p0 + 15200; omega, (a6z _)⟩), [0, 0, 0, 0, 0, _, _, _, _, _, _, _, _, _, _, _, _, _, _, _, _], cv, cv, hv, hv, rfl⟩
  refine exA 2 rfl rfl (x8x rfl ?_ ?_)<;>intro u<;>try simp at u
  ·refine d5o 3 (b5i s3s 0 3 rfl rfl ?_)
   refine x1x 3 rfl rfl (b6o c4g (by rfl) [0] [_] (c8u bs hbs (j.1.p + 1) (by omega)) rfl rfl rfl rfl (by decide) rfl rfl ihv (fun _ => (by (simp only [pI, a2q, a2r, b8m, gl, nx, a6t, Nat.beq]; rfl))) (fun _ => (by (simp only [pI, a2q, a2r, b8m, gl, nx, a6t, Nat.beq]; rfl))) (⟨0, 0, 0, 0, 0⟩, j.1.p + 1) (by show j.1.p + 1 ≤ _; omega) fun o ho => ?_)
   refine b5j s3s 4 4 rfl rfl ?_
   refine u5u (id := 9) q8q rfl w8w rfl rfl rfl rfl rfl rfl ?_
   refine u6u (zs := (j.2.outs ++ [o.1]).map a0c) rfl rfl q8q rfl w8w rfl rfl rfl rfl (by rfl) (w7w a0c j.2.outs o.1) (by (simp only [a0w, a0q, a0v, a0x, a1t, a3w, T141]; omega)) ?_
   refine y1y rfl y5y rfl rfl q8q rfl rfl (y9y rfl rfl q8q rfl rfl rfl rfl rfl (by simp only [a0y]; rfl) ?_)
   refine c3b (by kernel_rfl) ?_
   exact ⟨({ j.2 with outs := j.2.outs ++ [o.1] }, o.2, j.2.lanes.map a5q), (by exact ⟨hI.2, by show o.2 ≤ p0 + 15200; omega, (a6z _)⟩), [0, 0, 0, 0, 0, _, _, _, _, _, _, _, _, _, _, _, _, _, _, _, _], cv, cv, hv, hv, rfl⟩
  refine exA 2 rfl rfl (x8x rfl ?_ ?_)<;>intro u<;>try simp at u
  ·refine exG (x9x rfl rfl rfl (w5w ..) (x9x rfl rfl rfl (w5w ..) (a0r (.int .i64 10000) rfl rfl rfl rfl ?_)))
   refine a0l (id := 11) q1q rfl q5q rfl rfl rfl rfl (.val rfl rfl (.val rfl rfl (.val rfl rfl .nil))) rfl (a1d rfl) (a1d rfl) (a1d rfl) rfl rfl ?_
   refine x4x rfl ?_
   refine rlM [0] [_] (y4y true bs (j.1.p + 1) (3) (by have := hq; omega) hbs) rfl rfl rfl ?_
   obtain ⟨z, ez, hz⟩ : ∃ z, pk bs (j.1.p + 1) 3 = z ∧ z < 3 := ⟨_, rfl, a4t _ _ _ (by omega)⟩
   rw [ez]
   obtain ⟨v, hv⟩ : ∃ x, ([-1, 9999, 10000] : List Int)[z]? = some x := ⟨_, List.getElem?_eq_getElem hz⟩
   refine v2v (f := fun x : Int => [pI x]) (l := [-1, 9999, 10000]) (j := z) rfl rfl q1q rfl q5q rfl rfl hz ?_
   refine a1h (f := fun x : Int => [pI x]) (l := [-1, 9999, 10000]) rfl q5q rfl hv rfl ?_
   refine y1y rfl y5y rfl rfl q5q rfl rfl ?_
   refine y9y rfl rfl q5q rfl rfl rfl rfl rfl (by simp only [a0y]; rfl) ?_
   exact ⟨({ j.2 with version := v }, j.1.p + 1 + 1, j.2.lanes.map a5q), (by exact ⟨hI.2, by show j.1.p + 1 + 1 ≤ p0 + 15200; omega, (a6z _)⟩), [0, 0, 0, 0, 0, _, _, _, _, _, _, _, _, _, _, _, _, _, _, _, _], Cov.nil, (y3y 2 rfl (y3y 3 rfl (y3y 4 rfl (y3y 5 rfl Cov.nil)))), (HE.row rfl rfl (HE.row rfl rfl (HE.row rfl rfl (HE.row rfl rfl (HE.row rfl rfl (HE.kill rfl (HE.box rfl rfl (HE.box rfl rfl (HE.kill rfl (HE.kill rfl (HE.kill rfl (HE.kill rfl (HE.kill rfl (HE.kill rfl (HE.kill rfl (HE.kill rfl (HE.kill rfl (HE.kill rfl HE.nil)))))))))))))))))), (z0z 1 rfl (z0z 2 rfl (z0z 3 rfl HE.nil))), rfl⟩
  refine exA 2 rfl rfl (x8x rfl ?_ ?_)<;>intro u<;>try simp at u
  ·refine d5o 5 (b5i s3s 0 5 rfl rfl ?_)
   refine x1x 3 rfl rfl ?_
   refine rlM [0] [_] (y4y true bs (j.1.p + 1) (3) (by have := hq; omega) hbs) rfl rfl rfl ?_
   refine x4x rfl (b6o c4g (by rfl) [0] [_] (c0n bs hbs (j.1.p + 1 + 1) 3 (by omega) (by omega)) rfl rfl rfl rfl (by decide) rfl rfl ihv (fun _ => (by (simp only [pI, a2q, a2r, b8m, gl, nx, a6t, Nat.beq]; rfl))) (fun _ => (by (simp only [pI, a2q, a2r, b8m, gl, nx, a6t, Nat.beq]; rfl))) ([], j.1.p + 1 + 1) ⟨Nat.zero_le _, by show j.1.p + 1 + 1 ≤ _; omega⟩ fun l hl => ?_)
   refine b5j s3s 6 3 rfl rfl ?_
   have h3v : j.2.views.length = 3 := fS.2.2.2.2.2.1
   obtain ⟨z, ez, hz⟩ : ∃ z, pk bs (j.1.p + 1) 3 = z ∧ z < 3 := ⟨_, rfl, a4t _ _ _ (by omega)⟩
   rw [ez]
   obtain ⟨v, hv⟩ := gE j.2.views z
   refine v2v (j := z) rfl rfl s6s rfl p0p rfl rfl (v5v hv) ?_
   refine y1y rfl p0p rfl rfl u9u rfl rfl ?_
   refine b4n { v with events := l.1 } rfl rfl u9u rfl rfl rfl hv rfl (by decide) (.val rfl rfl .nil) rfl rfl ?_
   refine c3b (by kernel_rfl) ?_
   exact ⟨({ j.2 with views := j.2.views.set z { v with events := l.1 } }, l.2, j.2.lanes.map a5q), (by exact ⟨hI.2, by show l.2 ≤ p0 + 15200; omega, (a6z _)⟩), [0, 0, 0, 0, 0, _, _, _, _, _, _, _, _, _, _, _, _, _, _, _, _], Cov.nil, (y3y 2 rfl (y3y 3 rfl (y3y 4 rfl (y3y 5 rfl Cov.nil)))), (HE.row rfl rfl (HE.row rfl rfl (HE.row rfl rfl (HE.row rfl rfl (HE.row rfl rfl (HE.kill rfl (HE.box rfl rfl (HE.box rfl rfl (HE.kill rfl (HE.kill rfl (HE.kill rfl (HE.kill rfl (HE.kill rfl (HE.kill rfl (HE.kill rfl (HE.kill rfl (HE.kill rfl (HE.kill rfl HE.nil)))))))))))))))))), (z0z 1 rfl (z0z 2 rfl (z0z 3 rfl HE.nil))), rfl⟩
  refine exA 2 rfl rfl (x8x rfl ?_ ?_)<;>intro u<;>try simp at u
  ·obtain ⟨l0, rest, hl⟩ : ∃ l0 rest, j.2.lanes = l0 :: rest := by have h := e3o fS; match hm : j.2.lanes with | [] => (rw [hm] at h; cases h) | a :: r => exact ⟨a, r, rfl⟩
   have hld := (fb.2.2.2.1 l0 (by rw [hl]; exact List.mem_cons_self ..)).1
   rw [hl]
   refine d9p (A := []) (B := rest.map a5q) (cs := a5q l0) (j := 0) 15 4 20 rfl rfl rfl rfl rfl rfl ?_
   refine d5o 8 (b5i s3s 0 8 rfl rfl ?_)
   refine x1x 4 rfl rfl ?_
   refine b3e (A := []) (j := 0) rfl rfl q6q rfl v6v rfl rfl rfl ?_
   refine y1y rfl v6v rfl rfl r0r rfl rfl ?_
   refine e4q (A := []) rfl rfl r0r rfl rfl ?_
   refine x4x rfl (b6o c4g (by rfl) [0] [_] (a9b bs hbs (j.1.p + 1) (by omega)) rfl rfl rfl rfl (by decide) rfl rfl ihv (fun _ => (by (simp only [pI, a2q, a2r, b8m, gl, nx, a6t, Nat.beq]; rfl))) (fun _ => (by (simp only [pI, a2q, a2r, b8m, gl, nx, a6t, Nat.beq]; rfl))) (⟨0, 0, 0, 0, 0, 0, 0⟩, j.1.p + 1) (by show j.1.p + 1 ≤ _; omega) fun e he => ?_)
   refine b5j s3s 9 6 rfl rfl ?_
   refine rlB r5r c0e ?_
   refine u5u (id := 12) r0r rfl r5r rfl rfl rfl rfl rfl rfl ?_
   refine u6u (zs := l0.done.map (a3l true) ++ [d7s e.1]) rfl rfl r0r rfl r5r rfl rfl rfl rfl rfl rfl (by (simp only [a0w, a0q, a0v, a0x, a1t, a3w, T58]; omega)) ?_
   refine b3e (A := []) (j := 0) rfl rfl q6q rfl v6v rfl rfl rfl ?_
   refine y1y rfl v6v rfl rfl r0r rfl rfl (a7g rfl rfl r0r rfl rfl rfl (Nat.succ_pos _) (a1d rfl) (.ref rfl (e6w _ _) .nil rfl rfl) rfl ?_)
   refine c3b (by kernel_rfl) ?_
   exact ⟨({ j.2 with lanes := ⟨l0.proc, l0.base, l0.done ++ [d7t e.1]⟩ :: rest }, e.2, e3n l0 e.1 :: rest.map a5q), (by exact ⟨e3p hI.2 hl e.1, by show e.2 ≤ p0 + 15200; omega, e6v _ _ _⟩), [0, 0, 0, 0, 0, _, _, _, _, _, _, _, _, _, _, _, _, _, _, _, _], cv, cv, hv, hv, rfl⟩
  refine exA 2 rfl rfl (x8x rfl ?_ ?_)<;>intro u<;>try simp at u
  ·refine exG (x9x rfl rfl rfl (w5w ..) (x9x rfl rfl rfl (w5w ..) (a0r (.int .i64 10000) rfl rfl rfl rfl ?_)))
   refine a0l (id := 14) q1q rfl q5q rfl rfl rfl rfl (.val rfl rfl (.val rfl rfl (.val rfl rfl .nil))) rfl (a1d rfl) (a1d rfl) (a1d rfl) rfl rfl ?_
   refine x4x rfl ?_
   refine rlM [0] [_] (y4y true bs (j.1.p + 1) (3) (by have := hq; omega) hbs) rfl rfl rfl ?_
   obtain ⟨z, ez, hz⟩ : ∃ z, pk bs (j.1.p + 1) 3 = z ∧ z < 3 := ⟨_, rfl, a4t _ _ _ (by omega)⟩
   rw [ez]
   obtain ⟨v, hv⟩ : ∃ x, ([-1, 9999, 10000] : List Int)[z]? = some x := ⟨_, List.getElem?_eq_getElem hz⟩
   refine v2v (f := fun x : Int => [pI x]) (l := [-1, 9999, 10000]) (j := z) rfl rfl q1q rfl q5q rfl rfl hz ?_
   refine a1h (f := fun x : Int => [pI x]) (l := [-1, 9999, 10000]) rfl q5q rfl hv rfl ?_
   refine y1y rfl y5y rfl rfl q5q rfl rfl ?_
   refine y9y rfl rfl q5q rfl rfl rfl rfl rfl (by simp only [a0y]; rfl) ?_
   exact ⟨({ j.2 with round := v }, j.1.p + 1 + 1, j.2.lanes.map a5q), (by exact ⟨hI.2, by show j.1.p + 1 + 1 ≤ p0 + 15200; omega, (a6z _)⟩), [0, 0, 0, 0, 0, _, _, _, _, _, _, _, _, _, _, _, _, _, _, _, _], Cov.nil, (y3y 2 rfl (y3y 3 rfl (y3y 4 rfl (y3y 5 rfl Cov.nil)))), (HE.row rfl rfl (HE.row rfl rfl (HE.row rfl rfl (HE.row rfl rfl (HE.row rfl rfl (HE.kill rfl (HE.box rfl rfl (HE.box rfl rfl (HE.kill rfl (HE.kill rfl (HE.kill rfl (HE.kill rfl (HE.kill rfl (HE.kill rfl (HE.kill rfl (HE.kill rfl (HE.kill rfl (HE.kill rfl HE.nil)))))))))))))))))), (z0z 1 rfl (z0z 2 rfl (z0z 3 rfl HE.nil))), rfl⟩
  refine exA 2 rfl rfl (y2y rfl ?_ ?_)<;>intro u<;>try simp at u
  ·refine x7x ?_
   exact ⟨(j.2, j.1.p + 1, j.2.lanes.map a5q), (by exact ⟨hI.2, by show j.1.p + 1 ≤ p0 + 15200; omega, (a6z _)⟩), [0, 0, 0, 0, 0, _, _, _, _, _, _, _, _, _, _, _, _, _, _, _, _], cv, cv, hv, hv, rfl⟩
  refine exG (x1x 4 rfl rfl (y9y rfl rfl d7x rfl rfl rfl rfl rfl (by simp only [a0y]; rfl) ?_))
  exact ⟨({ j.2 with up := !j.2.up }, j.1.p + 1, j.2.lanes.map a5q), (by exact ⟨hI.2, by show j.1.p + 1 ≤ p0 + 15200; omega, (a6z _)⟩), [0, 0, 0, 0, 0, _, _, _, _, _, _, _, _, _, _, _, _, _, _, _, _], cv, cv, hv, hv, rfl⟩
 ·try dsimp only [b3s, b3t]
  refine w9w (b := b8a true s.1.lanes) 4 4 rfl rfl rfl (.ref rfl hi.2.2 .nil) rfl rfl rfl rfl ?_
  refine w9w (b := b9h true s.1.views) 4 9 rfl rfl rfl (.ref rfl (Le.ow_map _ (fun _ => rfl) (fun _ => rfl)) .nil) rfl rfl rfl rfl ?_
  refine w9w (b := a4l true s.1.known) 4 10 rfl rfl rfl (.ref rfl (Le.ow_map _ (fun _ => rfl) (fun _ => rfl)) .nil) rfl rfl rfl rfl ?_
  refine w9w (b := a1y true s.1.kept) 4 5 rfl rfl rfl (.ref rfl (Le.ow_map _ (fun _ => rfl) (fun _ => rfl)) .nil) rfl rfl rfl rfl ?_
  refine w9w (b := a0p true s.1.outs) 4 6 rfl rfl rfl (.ref rfl (Le.ow_map _ (fun _ => rfl) (fun _ => rfl)) .nil) rfl rfl rfl rfl ?_
  refine exD (x1x 2 rfl rfl (x3x rfl rfl r2r rfl rfl rfl rfl (x3x rfl rfl y5y rfl rfl rfl rfl ⟨by kernel_rfl, x6x ?_⟩)))
  exact ⟨.inr rfl, (j.1.w, s.1, s.2.1), ⟨hj1.1, hi.1, hi.2.1⟩, [γ 0], rfl, rfl, hv⟩
end
section
theorem b9r (bs : List Nat) (hbs : ∀ b ∈ bs, b < 256)  : MethE Tryz.prog 140 0 [q4q true bs] [] (ι := Nd) (fun S' => c3g S') (fun S' => []) (fun S' => .agg (w6w true S')) (fun S' => []) := by
 refine mE (ι := Nd) Tryz.f140 (fun S' => [.agg (w6w true S')]) 0 4 fun γ => ?_
 refine exR (y7y (id := 0) y5y s5s rfl (a1b fun B X0 w0 => ?_))
 refine txR 2 rfl rfl (x4x rfl ?_)
 refine rlM [3] [_] (c8q true bs) rfl rfl rfl ?_
 refine txM [3] [_] (b9q (bs.take 2000) (fun b hb => hbs b (List.mem_of_mem_take hb)) (0) (by omega)) rfl rfl rfl rfl fun j hj => ?_
 refine txR 7 rfl rfl (x1x 3 rfl rfl (y7y (id := 1) r2r b8t rfl (y7y (id := 2) y5y s5s rfl (x3x rfl rfl r2r rfl rfl rfl rfl (x3x rfl rfl y5y rfl rfl rfl rfl (w1w rfl (exR (x5x rfl y5y rfl rfl rfl (x3x rfl rfl y5y rfl rfl rfl rfl (x6x ?_))))))))))
 exact ⟨.inr rfl, j.2.1, hj.2.1, [], rfl, rfl, hv⟩
theorem b6u (bs : List Nat) (hbs : ∀ b ∈ bs, b < 256)  : MethE Tryz.prog 53 0 [q4q true bs] [] (ι := Nd) (fun S' => c3g S') (fun S' => []) (fun S' => .agg (w6w true S')) (fun S' => []) := by
 refine mE (ι := Nd) Tryz.f53 (fun S' => [.agg (w6w true S')]) 0 1 fun γ => ?_
 refine exR (y7y (id := 0) y5y s5s rfl (a1b fun B X0 w0 => ?_))
 refine txR 1 rfl rfl (x4x rfl ?_)
 refine txM [] [] (b9r bs hbs) rfl rfl rfl rfl fun n hn => ?_
 refine txR 1 rfl rfl (x3x rfl rfl y5y rfl rfl rfl rfl (w1w rfl (x6x ?_)))
 exact ⟨.inr rfl, n, hn, [], rfl, rfl, hv⟩
end
section
theorem b2i (c : Bool) (n : Nd) (hl : n.lanes.length ≤ 1048576) : Meth Tryz.prog 158 1 [] [.agg (w6w c n)] [(0, (0, .dead))] (.agg [pI n.id, pI n.inc, pI n.g, pI n.led, .ref 0 0, a1y c n.kept, a0p c n.outs]) [(0, (0, .row 41 3 ((n.lanes).map fun l => a2h l.base)))] := by
 refine mX Tryz.f158 [.agg [pI n.id, pI n.inc, pI n.g, pI n.led, .ref 0 0, a1y c n.kept, a0p c n.outs]] 1 6 fun γ => ?_
 refine exR (z7z (id := 1) rfl rfl rfl (y7y (id := 2) b9w d8u rfl (exA 12 rfl rfl (rlB b9w d8u ?_))))
 refine y7y (id := 3) b9w d8u rfl (x3x rfl rfl b9w rfl rfl rfl rfl (x2x fun K1 hK1 => ?_))
 refine exA 2 rfl rfl (z2z rfl q6q rfl (x4x rfl (y0y (a0d 3 4 0 41 3 rfl rfl rfl rfl rfl ?_))))
 refine z3z (ι := Nat) (fun i γ1 => [(22, pI (i : Int))]) (fun i γ1 => [(0, ((γ1 0), .row 41 3 ((n.lanes.take i).map fun l => a2h l.base))), (3, ((0 + 1), .box 160 [pI n.id, pI n.inc, pI n.g, pI n.led, .ref 0 (γ1 0), a1y c n.kept, a0p c n.outs])), (4, ((γ1 4), .dead)), (5, ((γ1 5), .dead)), (6, ((γ1 6), .dead))]) (fun i => i ≤ n.lanes.length) (fun i => n.lanes.length - i) (cK [2, 3, 20, 21] rfl) (hK [1, 2] rfl) 0 (by omega) [_, 0, 0, 0, _, _, _] cv (HE.row rfl (by rw [List.take_zero]; rfl) (HE.box rfl rfl (HE.kill rfl (HE.kill rfl (HE.kill rfl HE.nil))))) rfl fun i γ1 hi => ?_
 refine exR (v1v rfl rfl rfl (x2x fun K2 hK2 => ?_))
 refine y2y rfl ?_ ?_<;>intro o<;>try simp at o
 ·obtain rfl : i = n.lanes.length := by omega
  refine z4z (hK1 _ _ (exR (x5x rfl b9w rfl rfl rfl (x3x rfl rfl b9w rfl rfl rfl rfl (x6x ?_)))))
  exact ⟨.inr rfl, [_], rfl, rfl, HE.row rfl (by rw [List.take_length]) HE.nil⟩
 obtain ⟨p, hp⟩ := gE n.lanes i
 refine x7x (hK2 _ _ (x2x fun K4 hK4 => ?_))
 refine y0y (exR (y8y rfl rfl q6q rfl v6v rfl (by assumption) ?_))
 refine u4u rfl v6v rfl rfl (y7y (id := 4) v6v a7p rfl (x3x rfl rfl v6v rfl rfl rfl rfl (exG (x1x 3 rfl rfl ?_))))
 refine v3v (out := .agg (a2h p.base)) rfl a0t rfl rfl ?_
 refine u5u (id := 5) b9v rfl a0t rfl rfl rfl rfl rfl rfl ?_
 refine u6u (zs := (n.lanes.take i ++ [p]).map fun l => a2h l.base) rfl rfl b9v rfl a0t rfl rfl rfl rfl (by rfl) (w7w _ _ _) (by (simp only [a0w, a0q, a0v, a0x, a1t, a3w, T41]; omega)) ?_
 refine y1y rfl b9w rfl rfl b9v rfl rfl (y9y rfl rfl b9v rfl rfl rfl rfl rfl (by simp only [a0y]; rfl) ?_)
 refine hK4 _ _ (exG (p7p rfl rfl rfl (x4x rfl ?_)))
 exact ⟨i + 1, ⟨by omega, by omega⟩, [_, 0, 0, 0, _, _, _], (Cov.cons' (t := 22) rfl (by rw [u2u (by omega) (by omega)]; rfl) Cov.nil), cv, (HE.row rfl (by rw [w0w hp]) (HE.box rfl rfl (HE.kill rfl (HE.kill rfl (HE.kill rfl HE.nil))))), hv, rfl⟩
theorem b0f (c : Bool) (n : Nd) (hl : n.lanes.length ≤ 1048576) : Meth Tryz.prog 157 5 [0] [.agg [pI n.id, pI n.inc, pI n.g, pI n.led, .ref 0 0, a1y c n.kept, a0p c n.outs]] [(0, (0, .row 41 3 ((n.lanes).map fun l => a2h l.base))), (1, (0, .dead)), (2, (0, .dead)), (3, (0, .dead)), (4, (0, .dead))] (.ptr 4 0 0) [(4, (0, .box 164 [pI n.id, pI n.inc, pI n.g, pI n.led, .ref 0 0, a1y c n.kept, a0p c n.outs, .pv (.bool false), .ref 1 0, pI 0, .mp 2 0, .ref 3 0, pI 0, pI 41])), (1, (0, .row 42 1 ((n.lanes).map fun _ => [b2y c []]))), (2, (0, .map [])), (3, (0, .row 3 1 ([0, 0, 0].map a6c)))] := by
 refine mX Tryz.f157 [.ptr 4 0 0] 5 1 fun γ => ?_
 refine exR (z7z (id := 5) rfl rfl rfl (x0x rfl (exD (x1x 3 rfl rfl (a1l rfl b9v rfl rfl (List.length_map _) ?_)))))
 refine c1o (id := 1) b9x rfl r0r f5j rfl rfl rfl rfl (by (simp only [a0w, a0q, a0v, a0x, a1t, a3w, T42]; omega)) rfl ?_
 refine c5q (id := 2) rfl ?_
 refine c1o (n := 3) (id := 3) q1q rfl q5q f7a rfl rfl rfl rfl (by (simp only [a0w, a0q, a0v, a0x, a1t, a3w, T3]; omega)) rfl ?_
 refine rlB f2g f2k ?_
 refine z7z (id := 4) rfl rfl rfl (x0x rfl ⟨by kernel_rfl, ?_⟩)
 refine b3f 1 (xs' := n.lanes.map fun _ => [.pv (.slice none 0 0)]) rfl (by simp [List.map_const', T42]) ?_
 refine c5s (f := fun _ => [.pv (.slice none 0 0)]) (f' := fun _ => [b2y c []]) (l := n.lanes) 1 rfl (fun _ => .le rfl .nil rfl .nil) ?_
 refine x6x ?_
 exact ⟨.inr rfl, [γ 0, _, _, _, _], rfl, rfl, HE.box rfl rfl (HE.row rfl rfl (HE.map rfl rfl (HE.row rfl rfl (HE.same rfl HE.nil))))⟩
theorem c8v (c : Bool) (n : Nd) (hl : n.lanes.length ≤ 1048576) (hv : n.views.length ≤ 1048576) (hk3 : n.known.length = 3) : Meth Tryz.prog 125 5 [] [.agg (w6w c n)] [(0, (0, .dead)), (1, (0, .dead)), (2, (0, .dead)), (3, (0, .dead)), (4, (0, .dead))] (.ptr 4 0 0) [(0, (0, .row 41 3 ((n.lanes).map fun l => a2h l.base))), (1, (0, .row 42 1 ((n.lanes).map fun l => [b2y c l.done]))), (2, (0, .map (c6h c n.views))), (3, (0, .row 3 1 (n.known.map a6c))), (4, (0, .box 164 [pI n.id, pI n.inc, pI n.g, pI n.led, .ref 0 0, a1y c n.kept, a0p c n.outs, .pv (.bool n.up), .ref 1 0, pI n.version, .mp 2 0, .ref 3 0, pI n.round, pI n.low]))] := by
 refine a3u s3s (fn := Tryz.f125) (by kernel_rfl) (by kernel_rfl) rfl (O0 := [.ptr 4 0 0]) 5 3 (a1d rfl) (by rfl) (by repeat (first | exact BndH.nil | refine BndH.dead ?_ )) (by repeat (first | exact BndH.nil | refine BndH.box rfl ?_ | refine BndH.row (a0n fun _ => rfl) ?_ | refine BndH.map (b4c _ _) ?_ )) (by rfl) fun γ => ?_
 show Ex Tryz.prog _ _ [(0, .agg (w6w c n))] [(0, ((γ 0), .dead)), (1, ((γ 1), .dead)), (2, ((γ 2), .dead)), (3, ((γ 3), .dead)), (4, ((γ 4), .dead)), (7, (0, .dead)), (6, (0, .dead)), (5, (0, .dead))] _
 refine exR (z7z (id := 5) rfl rfl rfl (x0x rfl (exR (x5x rfl y5y rfl rfl rfl ?_))))
 refine rlM [0] [_] (b2i c n hl) rfl rfl rfl ?_
 refine rlM [0, 1, 2, 3, 4] [_, _, _, _, _] (b0f c n hl) rfl rfl rfl ?_
 refine x0x rfl (x2x fun K1 hK1 => ?_)
 refine exA 2 rfl rfl (z2z rfl q6q rfl (x4x rfl (y0y ?_)))
 refine z3z (ι := Nat) (fun i γ1 => [(14, pI (i : Int))]) (fun i γ1 => [(1, ((γ 1 + 1), .row 42 1 ((n.lanes.take i).map (fun l => [b2y c l.done]) ++ (n.lanes.drop i).map fun _ => [b2y c []]))), (6, ((γ1 6), .dead))]) (fun i => i ≤ n.lanes.length) (fun i => n.lanes.length - i) (cK [1, 3, 12, 13] rfl) (hK [0, 2, 3, 4, 5, 7] rfl) 0 (by omega) [0, 0, 0, 0, 0, 0, _] cv (HE.row rfl (by rw [List.take_zero, List.drop_zero]; rfl) (HE.kill rfl HE.nil)) rfl fun i γ1 hi => ?_
 refine exR (v1v rfl rfl rfl (x2x fun K2 hK2 => ?_))
 refine x8x rfl ?_ ?_<;>intro o<;>try simp at o
 ·obtain ⟨p, hp⟩ := gE n.lanes i
  have hAl : ((n.lanes.take i).map fun l => [b2y c l.done]).length = i := by rw [List.length_map, List.length_take]; omega
  rw [s2s hp, List.map_cons]
  refine x7x (hK2 _ _ (x2x fun K4 hK4 => ?_))
  refine y0y (exR (x4x rfl (y8y rfl rfl q6q rfl v6v rfl (by assumption) ?_)))
  refine u4u rfl v6v rfl rfl (y7y (id := 6) v6v a7p rfl (x0x rfl (x3x rfl rfl v6v rfl rfl rfl rfl (exH (x1x 7 rfl rfl (b3e rfl rfl b9x rfl r0r rfl rfl hAl (d9o hAl rfl rfl r0r rfl rfl rfl rfl rfl rfl rfl rfl ⟨by kernel_rfl, hK4 _ _ (exG (p7p rfl rfl rfl (x4x rfl ?_)))⟩)))))))
  exact ⟨i + 1, ⟨by omega, by omega⟩, [0, 0, 0, 0, 0, 0, _], (Cov.cons' (t := 14) rfl (by rw [u2u (by omega) (by omega)]; rfl) Cov.nil), (y3y 1 rfl (y3y 3 rfl (y3y 12 rfl (y3y 13 rfl Cov.nil)))), (HE.row rfl (by rw [w0w hp, List.map_append, List.append_assoc]; rfl) (HE.kill rfl HE.nil)), (z0z 0 rfl (z0z 2 rfl (z0z 3 rfl (z0z 4 rfl (z0z 5 rfl (z0z 7 rfl HE.nil)))))), rfl⟩
 obtain rfl : i = n.lanes.length := by omega
 refine z4z (hK1 _ _ (x2x fun K5 hK5 => ?_))
 refine exA 2 rfl rfl (z2z rfl s6s rfl (x4x rfl (y0y ?_)))
 refine z3z (ι := Nat) (fun j γ2 => [(31, pI (j : Int))]) (fun j γ2 => [(2, ((γ 2 + 1), .map (c6h c (n.views.take j)))), (7, ((γ2 7), .dead))]) (fun j => j ≤ n.views.length) (fun j => n.views.length - j) (cK [1, 3, 29, 30] rfl) (hK [0, 1, 3, 4, 5, 6] rfl) 0 (by omega) [0, 0, 0, 0, 0, 0, 0, _] cv (HE.map rfl (by rw [List.take_zero]; rfl) (HE.kill rfl HE.nil)) rfl fun j γ2 hi => ?_
 refine exR (v1v rfl rfl rfl (x2x fun K6 hK6 => ?_))
 refine x8x rfl ?_ ?_<;>intro o<;>try simp at o
 ·obtain ⟨q, hq⟩ := gE n.views j
  have hjl : (n.views.take j).length = j := by rw [List.length_take]; omega
  refine x7x (hK6 _ _ (x2x fun K8 hK8 => ?_))
  refine y0y (exR (x4x rfl (y8y rfl rfl s6s rfl p0p rfl (by assumption) ?_)))
  refine u4u rfl p0p rfl rfl (y7y (id := 7) p0p a7w rfl (x0x rfl (x3x rfl rfl p0p rfl rfl rfl rfl (exH (x1x 6 rfl rfl ?_)))))
  refine c9t (κ := Int) (enc := fun n => .int .i64 n) (ks := c4t j) (k := (j : Int)) (es' := c6h c (n.views.take j ++ [q])) Tryz.underlying162 (c1q Tryz.underlying3) rfl rfl rfl (fun _ _ _ h => e8x h) rfl (by rw [d1o, hjl]) (.inr ⟨e6p j, by rw [e3g, hjl]; try rfl⟩) ?_
  refine ⟨by kernel_rfl, hK8 _ _ (exG (p7p rfl rfl rfl (x4x rfl ?_)))⟩
  exact ⟨j + 1, ⟨by omega, by omega⟩, [0, 0, 0, 0, 0, 0, 0, _], (Cov.cons' (t := 31) rfl (by rw [u2u (by omega) (by omega)]; rfl) Cov.nil), (y3y 1 rfl (y3y 3 rfl (y3y 29 rfl (y3y 30 rfl Cov.nil)))), (HE.map rfl (by rw [w0w hq]) (HE.kill rfl HE.nil)), (z0z 0 rfl (z0z 1 rfl (z0z 3 rfl (z0z 4 rfl (z0z 5 rfl (z0z 6 rfl HE.nil)))))), rfl⟩
 obtain rfl : j = n.views.length := by omega
 refine z4z (hK5 _ _ (exD (x1x 6 rfl rfl ?_)))
 refine e4s s3s (l := n.known) q1q rfl q5q rfl rfl rfl rfl (by rw [hk3]; rfl) ?_
 refine ⟨by kernel_rfl, exD (x1x 14 rfl rfl (y9y rfl rfl d7x rfl rfl rfl rfl rfl (by simp only [a0y]; rfl) ?_))⟩
 refine x1x 2 rfl rfl (y9y rfl rfl q5q rfl rfl rfl rfl rfl (by simp only [a0y]; rfl) ?_)
 refine x1x 2 rfl rfl (y9y rfl rfl q5q rfl rfl rfl rfl rfl (by simp only [a0y]; rfl) ?_)
 refine x1x 2 rfl rfl (y9y rfl rfl q5q rfl rfl rfl rfl rfl (by simp only [a0y]; rfl) ?_)
 refine ⟨by kernel_rfl, exA 2 rfl rfl (x6x ?_)⟩
 exact ⟨.inr rfl, [_, _, _, _, _], rfl, rfl, HE.row rfl rfl (HE.row rfl (by rw [List.take_length, List.drop_length, List.map_nil, List.append_nil]) (HE.map rfl (by rw [List.take_length]) (HE.row rfl rfl (HE.box rfl rfl HE.nil))))⟩
end
section
def b0g (l : List Ev) : List (Value × AV) := (s7s l).map fun k => (c3z (evN k), pI (l.count k : Nat))
def a4w (l : List Ev) (e : Ev) : Nat := (a7q (s7s l) e).getD (s7s l).length
def b6v (l : List Ev) (e : Ev) : List (Value × AV) := if e ∈ l then b0g l else b0g l ++ [(c3z (evN e), pI (l.count e : Nat))]
theorem a3b (l : List Ev) : (b0g l).map (·.1) = (s7s l).map fun k => c3z (evN k) := by
 rw [b0g, List.map_map]; rfl
variable {l : List Ev} {e : Ev}
theorem d6g {j : Nat} (h : a7q (s7s l) e = some j) : (b0g l)[j]? = some (c3z (evN e), pI (l.count e : Nat)) := by
 rw [b0g, List.getElem?_map, b6d h]; rfl
theorem c8w (h : a7q (s7s l) e = none) : e ∉ l ∧ l.count e = 0 := by
 have := b3d.1 h
 rw [a2v] at this
 exact ⟨this, List.count_eq_zero.2 this⟩
variable {tt : TT} {et : TypeId} {S : TS}
theorem b9s (hs : tt et = some S) (hz : b8w S = pI 0) (l : List Ev) (e : Ev) : (∃ j kv, a7q (s7s l) e = some j ∧ (b0g l)[j]? = some (kv, pI (l.count e : Nat))) ∨ (a7q (s7s l) e = none ∧ ∃ S, tt et = some S ∧ pI (l.count e : Nat) = b8w S) := by
 cases h : a7q (s7s l) e with
 | some j => exact .inl ⟨j, _, rfl, d6g h⟩
 | none => exact .inr ⟨rfl, S, hs, by rw [hz, (c8w h).2]; rfl⟩
theorem a5j (hs : tt et = some S) (hz : b8w S = pI 0) (l : List Ev) (e : Ev) :
  (a7q (s7s l) e = some (a4w l e) ∧ (b0g l)[a4w l e]? = some (c3z (evN e), pI (l.count e : Nat)) ∧ b6v l e = b0g l) ∨
   (a7q (s7s l) e = none ∧ a4w l e = (b0g l).length ∧ b6v l e = b0g l ++ [(c3z (evN e), pI (l.count e : Nat))] ∧ ∃ S, tt et = some S ∧ pI (l.count e : Nat) = b8w S) := by
 cases h : a7q (s7s l) e with
 | some j =>
  have hm : e ∈ l := by
   rw [← a2v]; exact List.mem_of_getElem? (b6d h)
  have hp : a4w l e = j := by rw [a4w, h]; rfl
  exact .inl ⟨by rw [hp], by rw [hp]; exact d6g h, if_pos hm⟩
 | none =>
  have hn := c8w h
  exact .inr ⟨rfl, by rw [a4w, h, b0g, List.length_map]; rfl, if_neg hn.1, S, hs, by rw [hz, hn.2]; rfl⟩
theorem a3c (l : List Ev) (e : Ev) : (b6v l e)[a4w l e]? = some (c3z (evN e), pI (l.count e : Nat)) := by
 rcases a5j (tt := fun _ => some ⟨.oth, 1, 8, [.int .i64 0]⟩) (et := 0) rfl rfl l e with ⟨h1, h2, h3⟩ | ⟨h1, h2, h3, _⟩
 ·rw [h3]; exact h2
 ·rw [h3, h2, List.getElem?_append_right (Nat.le_refl _), Nat.sub_self]; rfl
def e6x (l : List Ev) (e : Ev) : List Ev := if e ∈ l then s7s l else s7s l ++ [e]
theorem b4w (l : List Ev) (e : Ev) : (b6v l e).map (·.1) = (e6x l e).map fun k => c3z (evN k) := by
 unfold b6v e6x
 split
 ·exact a3b l
 ·rw [List.map_append, List.map_append, a3b]; rfl
theorem d1t {κ : Type} [DecidableEq κ] {k : κ} : ∀ {ks : List κ}, a7q ks k = none → a7q (ks ++ [k]) k = some ks.length
 | [], _ => by simp [a7q]
 | a :: r, h => by
  simp only [a7q] at h
  split at h
  ·cases h
  ·rename_i hne
   simp only [List.cons_append, a7q, if_neg hne, List.length_cons]
   rw [d1t (by simpa using h)]; rfl
theorem b4x (l : List Ev) (e : Ev) : (∃ j kv, a7q (e6x l e) e = some j ∧ (b6v l e)[j]? = some (kv, pI (l.count e : Nat))) ∨ (a7q (e6x l e) e = none ∧ ∃ S, tt et = some S ∧ pI (l.count e : Nat) = b8w S) := by
 refine .inl ⟨a4w l e, _, ?_, a3c l e⟩
 unfold e6x
 cases h : a7q (s7s l) e with
 | some j =>
  have hm : e ∈ l := by rw [← a2v]; exact List.mem_of_getElem? (b6d h)
  rw [if_pos hm, a4w, h]; rfl
 | none => rw [if_neg (c8w h).1, d1t h, a4w, h]; rfl
theorem a3r (l : List Ev) (e : Ev) : (b6v l e).set (a4w l e) (c3z (evN e), pI ((l.count e + 1 : Nat) : Int)) = b0g (l ++ [e]) := by
 have hc : ∀ k, k ≠ e → (l ++ [e]).count k = l.count k := fun k hk => by
  rw [List.count_append, List.count_singleton]
  simp [Ne.symm hk]
 have hce : (l ++ [e]).count e = l.count e + 1 := by
  rw [List.count_append, List.count_singleton]; simp
 by_cases hm : e ∈ l
 ·have ho : s7s (l ++ [e]) = s7s l := by rw [b1v, if_pos ((a2v e l).2 hm)]
  obtain ⟨j, hj⟩ := c9r ((a2v e l).2 hm)
  have hp : a4w l e = j := by rw [a4w, hj]; rfl
  have hg := b6d hj
  rw [b6v, if_pos hm, hp, b0g, b0g, ho]
  apply List.ext_getElem?
  intro i
  rw [List.getElem?_set, List.getElem?_map, List.length_map]
  by_cases hi : j = i
  ·subst hi
   rw [if_pos rfl, if_pos (List.getElem?_eq_some_iff.1 hg).1, List.getElem?_map, hg]
   simp only [Option.map_some, hce]
  ·rw [if_neg hi, List.getElem?_map]
   cases hk : (s7s l)[i]? with
   | none => rfl
   | some k =>
    have hne : k ≠ e := fun h => by
     subst h
     exact hi ((List.getElem?_inj (List.getElem?_eq_some_iff.1 hg).1 (c0a l)).1 (hg.trans hk.symm))
    simp only [Option.map_some, hc k hne]
 ·have h0 : a7q (s7s l) e = none := b3d.2 (by rw [a2v]; exact hm)
  have ho : s7s (l ++ [e]) = s7s l ++ [e] := by rw [b1v, if_neg (by rw [a2v]; exact hm)]
  have hp : a4w l e = (b0g l).length := by rw [a4w, h0, b0g, List.length_map]; rfl
  rw [b6v, if_neg hm, hp, List.set_append_right _ _ (Nat.le_refl _), Nat.sub_self, List.set_cons_zero, b0g, b0g, ho, List.map_append]
  congr 1
  ·refine List.map_congr_left fun k hk => ?_
   rw [hc k (fun h => hm ((a2v e l).1 (h ▸ hk)))]
  ·simp only [List.map_cons, List.map_nil, hce]
theorem d3p : (l ++ [e]).count e = 1 → b4z a3m (s7s (l ++ [e])) = c0f a3m (b4z a3m (s7s l)) e := fun h => by
 have : e ∉ l := by
  rw [List.count_append, List.count_singleton] at h
  exact List.count_eq_zero.1 (by simpa using h)
 rw [b1v, if_neg (by rw [a2v]; exact this), d7f]
theorem d3q : ¬ (l ++ [e]).count e = 1 → s7s (l ++ [e]) = s7s l := fun h => by
 have : e ∈ l := by
  rw [List.count_append, List.count_singleton] at h
  refine Classical.byContradiction fun hn => h ?_
  rw [List.count_eq_zero.2 hn]; simp
 rw [b1v, if_pos (by rw [a2v]; exact this)]
end
end Go.Proofs.YtlgknoapdbpojaaGreat.Am
