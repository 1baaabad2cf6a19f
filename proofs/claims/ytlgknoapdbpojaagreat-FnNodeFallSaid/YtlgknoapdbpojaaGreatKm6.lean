/- Part 6 of the texts that the proof of LawFnNodeFall leans on, merged by program. -/
import Derived.Test.YtlgknoapdbpojaaGreatKm5
set_option linter.unusedVariables false
set_option linter.unusedSimpArgs false
set_option maxHeartbeats 4000000
set_option autoImplicit true
set_option relaxedAutoImplicit true
namespace Go.Proofs.YtlgknoapdbpojaaGreat.Am
open Go Go.RowKit
section
theorem a7n (l : List Ev) (x : Ev) (hl : l.length ≤ 1000000000) : Meth Tryz.prog 275 2 [0] [.ptr 0 0 0, .agg (v4v x)] [(0, (0, .box 303 [.ref 1 0, .fn (.func 127) [] []])), (1, (0, .row 153 7 ((l).map v4v)))] (.tup []) [(0, (0, .box 303 [.ref 1 0, .fn (.func 127) [] []])), (1, (0, .row 153 7 ((c0f a3m l x).map v4v)))] := by
 refine mX Tryz.f275 [] 2 3 fun γ => ?_
 refine exR (z7z (id := 2) rfl rfl rfl (exD (x1x 6 rfl rfl (u5u (id := 3) a1s rfl q0q rfl rfl rfl rfl rfl rfl (u6u rfl rfl a1s rfl q0q rfl rfl rfl rfl (by rfl) (w7w _ _ _) (by (simp only [a0w, a0q, a0v, a0x, T153]; omega)) ?_)))))
 refine x1x 2 rfl rfl (y9y rfl rfl a1s rfl rfl rfl rfl rfl (by simp only [a0y]; rfl) ?_)
 refine ⟨by kernel_rfl, exA 4 rfl rfl (a1l rfl a1s rfl rfl (List.length_map _) ?_)⟩
 refine a0s (b := 1) rfl rfl (by (simp; done)) (by (simp; omega)) ?_
 refine x0x rfl (y0y ?_)
 refine z3z (ι := Nat × List Ev) (fun i γ1 => [(4, pI (i.1 : Int))]) (fun i γ1 => [(1, ((γ1 1), .row 153 7 ((i.2).map v4v))), (0, ((γ 0), .box 303 [.ref 1 (γ1 1), .fn (.func 127) [] []]))]) (fun i => a9n a3m i.2 i.1 = c0f a3m l x ∧ i.1 < i.2.length ∧ i.2.length = l.length + 1) (fun i => i.1) (y3y 0 rfl Cov.nil) (hK [2, 3, 4] rfl) (l.length, l ++ [x]) ⟨rfl, by simp, by simp⟩ [0, _] (Cov.cons' (t := 4) rfl (by simp) Cov.nil) hv rfl fun i γ1 hi => ?_
 obtain ⟨k, m⟩ := i
 obtain ⟨h1, h2, h3⟩ := hi
 dsimp only at h1 h2 h3 ⊢
 refine x2x fun K1 hK1 => ?_
 refine exA 2 rfl rfl (y2y rfl ?_ ?_)<;>intro h<;>try simp at h
 ·have hk : k = 0 := by omega
  subst hk
  have hfin := siftUp_zero.symm.trans h1
  refine z4z ?_
  exact ⟨.inl rfl, [γ 0, _], rfl, rfl, HE.box rfl rfl (HE.row rfl (by rw [← hfin]) HE.nil)⟩
 obtain ⟨a, ha⟩ := gE m k
 obtain ⟨b, hb⟩ := gE m ((k - 1) / 2)
 have hp : (k - 1) / 2 < k := by omega
 refine x7x (hK1 _ _ (y0y (exR (x4x rfl (a0s (b := 1) rfl rfl (by omega) (by omega) (d2k (b := 2) rfl rfl (by omega) (by omega) (x0x rfl (x2x fun K3 hK3 => ?_))))))))
 refine exD (x1x 9 rfl rfl ?_)
 refine v2v (j := k) rfl rfl a1s rfl q0q rfl rfl (by omega) ?_
 refine q7q rfl q0q rfl ha rfl rfl (x1x 5 rfl rfl ?_)
 refine v2v (j := (k - 1) / 2) rfl rfl a1s rfl q0q rfl rfl (by omega) ?_
 refine q7q rfl q0q rfl hb rfl rfl (x9x rfl rfl rfl (a6x _ _) (a1k rfl ⟨by kernel_rfl, x8x rfl ?_ ?_⟩))<;>intro hc4<;>try simp at hc4
 ·have hfin := (c1y ha hb hc4).symm.trans h1
  refine z4z ?_
  exact ⟨.inl rfl, [γ 0, _], rfl, rfl, HE.box rfl rfl (HE.row rfl (by rw [← hfin]) HE.nil)⟩
 have hg := hc4
 refine x7x (hK3 _ _ (exD (x1x 15 rfl rfl ?_)))
 refine v2v (j := (k - 1) / 2) rfl rfl a1s rfl q0q rfl rfl (by omega) ?_
 refine q7q rfl q0q rfl hb rfl rfl (x1x 5 rfl rfl ?_)
 refine v2v (j := k) rfl rfl a1s rfl q0q rfl rfl (by omega) ?_
 refine q7q rfl q0q rfl ha rfl rfl ?_
 refine v2v (j := k) rfl rfl a1s rfl q0q rfl rfl (by omega) ?_
 refine q9q (el' := b) rfl rfl q0q rfl rfl rfl ha rfl (a6v _) rfl rfl ?_
 refine v2v (j := (k - 1) / 2) rfl rfl a1s rfl q0q rfl rfl (by rw [List.length_set]; omega) ?_
 refine q9q (el' := a) rfl rfl q0q rfl rfl rfl (by rw [List.getElem?_set_ne (by omega)]; exact hb) rfl (a6v _) rfl rfl ?_
 refine ⟨by kernel_rfl, exG (x1x 2 rfl rfl ?_)⟩
 exact ⟨((k - 1) / 2, sw m k ((k - 1) / 2)), ⟨⟨by rw [← h1, c1x (by omega) ha hb hg], by rw [b5e]; dsimp only; omega, by rw [b5e]; exact h3⟩, (by dsimp only; omega)⟩, [0, _], cv, cv, (HE.row rfl (by rw [e9h ha hb]) (HE.box rfl rfl HE.nil)), hv, rfl⟩
theorem a7v (m : Ev) (r : List Ev) (hl : r.length ≤ 1000000000) : Meth Tryz.prog 305 2 [0] [.ptr 0 0 0] [(0, (0, .box 303 [.ref 1 0, .fn (.func 127) [] []])), (1, (0, .row 153 7 ((m :: r).map v4v)))] (.agg (v4v m)) [(0, (0, .box 303 [.ref 1 0, .fn (.func 127) [] []])), (1, (0, .row 153 7 ((b6g a3m (m :: r)).map v4v)))] := by
 refine a3u s3s (fn := Tryz.f305) (by kernel_rfl) (by kernel_rfl) rfl (O0 := [.agg (v4v m)]) 2 2 (a1d rfl) (by rfl) (by repeat (first | exact BndH.nil | refine BndH.box rfl ?_ | refine BndH.row (a0n fun _ => rfl) ?_)) (by repeat (first | exact BndH.nil | refine BndH.box rfl ?_ | refine BndH.row (a0n fun _ => rfl) ?_)) (by rfl) fun γ => ?_
 show Ex Tryz.prog _ _ [(0, .ptr 0 (γ 0) 0)] [(0, ((γ 0), .box 303 [.ref 1 (γ 1), .fn (.func 127) [] []])), (1, ((γ 1), .row 153 7 ((m :: r).map v4v))), (3, (0, .dead)), (2, (0, .dead))] _
 obtain ⟨T0, hT⟩ : ∃ T0, T0 = ((m :: r).set 0 ((m :: r).getLast (by simp))).take r.length := ⟨_, rfl⟩
 have hres : b6g a3m (m :: r) = a3j a3m T0 0 := by rw [hT]; rfl
 have hTl : T0.length = r.length := by rw [hT]; simp
 have hlast : (m :: r)[(m :: r).length - 1]? = some ((m :: r).getLast (by simp)) := by rw [← List.getLast?_eq_getElem?, List.getLast?_eq_some_getLast]
 refine exR ?_
 refine y7y (id := 2) q0q c5o rfl ?_
 refine exA 4 rfl rfl ?_
 refine v2v (j := 0) rfl rfl a1s rfl q0q rfl rfl (by simp) ?_
 refine q7q rfl q0q rfl (show (m :: r)[0]? = some m from rfl) rfl rfl ?_
 refine y7y (id := 3) q0q c5o rfl (x3x rfl rfl q0q rfl rfl rfl rfl (exA 4 rfl rfl (a1l rfl a1s rfl rfl (List.length_map _) ?_)))
 refine a0s (b := 1) rfl rfl (by (simp; done)) (by (simp; omega)) ?_
 refine x0x rfl (exD (x1x 9 rfl rfl ?_))
 refine v2v (j := (m :: r).length - 1) rfl rfl a1s rfl q0q rfl rfl (by simp) ?_
 refine q7q rfl q0q rfl hlast rfl rfl ?_
 refine v2v (j := 0) rfl rfl a1s rfl q0q rfl rfl (by simp) ?_
 refine q9q (el' := ((m :: r).getLast (by simp))) rfl rfl q0q rfl rfl rfl (show (m :: r)[0]? = some m from rfl) rfl (a6v _) rfl rfl ?_
 refine ⟨by kernel_rfl, exA 6 rfl rfl ?_⟩
 refine e4n s3s (u := (m :: r).length - 1) (ys := T0.map v4v) rfl a1s rfl q0q rfl rfl rfl (by (simp; done)) (by rw [hT, List.map_take]; rfl) ?_
 refine x1x 2 rfl rfl (y9y rfl rfl a1s rfl rfl rfl rfl rfl (by simp only [a0y]; rfl) ?_)
 refine exR (x0x rfl (y0y ?_))
 refine z3z (ι := Nat × List Ev) (fun i γ1 => [(5, pI (i.1 : Int))]) (fun i γ1 => [(1, ((γ1 1), .row 153 7 ((i.2).map v4v))), (0, ((γ 0), .box 303 [.ref 1 (γ1 1), .fn (.func 127) [] []]))]) (fun i => a3j a3m i.2 i.1 = b6g a3m (m :: r) ∧ i.2.length = r.length ∧ i.1 ≤ r.length) (fun i => i.2.length - i.1) (cK [0, 2, 3, 4] rfl) (hK [2, 3] rfl) (0, T0) ⟨hres.symm, hTl, by omega⟩ [0, _] cv hv rfl fun i γ1 hi => ?_
 obtain ⟨k, t⟩ := i
 obtain ⟨h1, h2, h3⟩ := hi
 dsimp only at h1 h2 h3 ⊢
 refine y0y (exR (x4x rfl (b8v (a := 2) rfl rfl (by omega) (z5z (b := 1) rfl rfl (by omega) (x0x rfl (x2x fun K1 hK1 => ?_))))))
 refine exA 3 rfl rfl (x8x rfl ?_ ?_)<;>intro h<;>try simp at h
 ·have hfin := (a7z (lt := a3m) (l := t) (k := k) (by omega)).symm.trans h1
  refine exR (x5x rfl q0q rfl rfl rfl (x3x rfl rfl q0q rfl rfl rfl rfl (x6x ?_)))
  exact ⟨.inr rfl, [γ 0, _], rfl, rfl, HE.box rfl rfl (HE.row rfl (by rw [← hfin]) HE.nil)⟩
 have hlt : 2 * k + 1 < t.length := by omega
 refine x7x (hK1 _ _ ?_)
 refine a0k (ι := Unit) (fun _i γ2 => [(6, pI (a5r a3m t k : Int))]) (fun _i γ2 => []) (fun _i => True) (cK [0, 2, 3, 4, 5] rfl) (hK [0, 1, 2, 3] rfl) ?_ fun _i γ2 hi => ?_
 ·refine exD (x4x rfl (z5z (b := 1) rfl rfl (by omega) (x1x 3 rfl rfl (z6z rfl rfl ?_ ?_))))<;>intro h<;>try simp at h
  ·have hlt2 : ¬ 2 * k + 2 < t.length := by omega
   refine x1x 20 rfl rfl ⟨by kernel_rfl, x8x rfl (fun hc5 => ?_) (fun hc5 => ?_)⟩
   ·simp at hc5
   try simp at hc5
   try have hl1 := hc5
   refine x7x ?_
   exact ⟨(), trivial, [], (Cov.cons' (t := 6) rfl (by rw [e9k (by omega)]) Cov.nil), cv, hv, hv, rfl⟩
  have hlt2 : 2 * k + 1 + 1 < t.length := by omega
  obtain ⟨c1, hc1⟩ := gE t (2 * k + 1 + 1)
  obtain ⟨d1, hd1⟩ := gE t (2 * k + 1)
  refine x1x 9 rfl rfl (z1z rfl rfl (z5z (b := 1) rfl rfl (by omega) (z1z rfl rfl ?_)))
  refine v2v (j := 2 * k + 1 + 1) rfl rfl a1s rfl q0q rfl rfl (by omega) ?_
  refine z1z rfl rfl (q7q rfl q0q rfl hc1 rfl rfl (x1x 5 rfl rfl (z1z rfl rfl ?_)))
  refine v2v (j := 2 * k + 1) rfl rfl a1s rfl q0q rfl rfl (by omega) ?_
  refine z1z rfl rfl (q7q rfl q0q rfl hd1 rfl rfl (z1z rfl rfl (x9x rfl rfl rfl (a6x _ _) (b1s rfl rfl ⟨by kernel_rfl, y2y rfl ?_ ?_⟩))))<;>intro hc4<;>try simp at hc4
  ·try have hl1 := hc4
   refine x7x ?_
   exact ⟨(), trivial, [], (Cov.cons' (t := 6) rfl (by rw [e9j hc1 hd1 hl1]) Cov.nil), cv, hv, hv, rfl⟩
  have hl1 := hc4
  refine exG (x4x rfl (z5z (b := 1) rfl rfl (by omega) (x0x rfl ?_)))
  exact ⟨(), trivial, [], (Cov.cons' (t := 6) rfl (by rw [e9i hc1 hd1 hl1]) Cov.nil), cv, hv, hv, rfl⟩
 ·try dsimp only [b3s, b3t]
  have hch := b4p (lt := a3m) t k
  obtain ⟨a, ha⟩ := gE t (a5r a3m t k)
  obtain ⟨b, hb⟩ := gE t k
  refine x2x fun K6 hK6 => ?_
  refine exD (x1x 9 rfl rfl ?_)
  refine v2v (j := a5r a3m t k) rfl rfl a1s rfl q0q rfl rfl (by omega) ?_
  refine q7q rfl q0q rfl ha rfl rfl (x1x 5 rfl rfl ?_)
  refine v2v (j := k) rfl rfl a1s rfl q0q rfl rfl (by omega) ?_
  refine q7q rfl q0q rfl hb rfl rfl (x9x rfl rfl rfl (a6x _ _) (a1k rfl ⟨by kernel_rfl, x8x rfl ?_ ?_⟩))<;>intro hc7<;>try simp at hc7
  ·have hfin := (b7q ha hb hc7).symm.trans h1
   refine exR (x5x rfl q0q rfl rfl rfl (x3x rfl rfl q0q rfl rfl rfl rfl (x6x ?_)))
   exact ⟨.inr rfl, [γ 0, _], rfl, rfl, HE.box rfl rfl (HE.row rfl (by rw [← hfin]) HE.nil)⟩
  have hg := hc7
  refine x7x (hK6 _ _ (exD (x1x 15 rfl rfl ?_)))
  refine v2v (j := a5r a3m t k) rfl rfl a1s rfl q0q rfl rfl (by omega) ?_
  refine q7q rfl q0q rfl ha rfl rfl (x1x 5 rfl rfl ?_)
  refine v2v (j := k) rfl rfl a1s rfl q0q rfl rfl (by omega) ?_
  refine q7q rfl q0q rfl hb rfl rfl ?_
  refine v2v (j := k) rfl rfl a1s rfl q0q rfl rfl (by omega) ?_
  refine q9q (el' := a) rfl rfl q0q rfl rfl rfl hb rfl (a6v _) rfl rfl ?_
  refine v2v (j := a5r a3m t k) rfl rfl a1s rfl q0q rfl rfl (by rw [List.length_set]; omega) ?_
  refine q9q (el' := b) rfl rfl q0q rfl rfl rfl (by rw [List.getElem?_set_ne (by omega)]; exact ha) rfl (a6v _) rfl rfl ?_
  refine ⟨by kernel_rfl, exG (x1x 2 rfl rfl ?_)⟩
  exact ⟨(a5r a3m t k, sw t (a5r a3m t k) k), ⟨⟨by rw [← h1, b7p (by omega) ha hb hg], by rw [b5e]; exact h2, by dsimp only; omega⟩, (by dsimp only; rw [b5e]; omega)⟩, [0, _], cv, cv, (HE.row rfl (by rw [e9h ha hb, List.set_comm _ _ (by omega)]) (HE.box rfl rfl HE.nil)), hv, rfl⟩
theorem a6r (l : List Ev) (hl : l.length ≤ 1000000000) : Meth Tryz.prog 276 2 [0] [.ptr 0 0 0] [(0, (0, .box 303 [.ref 1 0, .fn (.func 127) [] []])), (1, (0, .row 153 7 ((l).map v4v)))] (.row (.rd true) 153 7 ((a8p a3m l.length l).map v4v)) [(0, (0, .box 303 [.ref 1 0, .fn (.func 127) [] []])), (1, (0, .row 153 7 ((([] : List Ev)).map v4v)))] := by
 refine mX Tryz.f276 [.row (.rd true) 153 7 ((a8p a3m l.length l).map v4v)] 2 3 fun γ => ?_
 refine exR (x0x rfl (exA 4 rfl rfl (a1l rfl a1s rfl rfl (List.length_map _) ?_)))
 refine d4m s3s (id := 2) a1s rfl q0q rfl rfl (by (simp only [a0w, a0q, a0v, a0x, T153]; omega)) (by (unfold maxLen; omega)) rfl ?_
 refine x0x rfl (x2x fun K1 hK1 => ?_)
 refine y0y ?_
 refine z3z (ι := List Ev × List Ev) (fun i γ1 => [(3, .ref 2 (γ1 2))]) (fun i γ1 => [(1, ((γ1 1), .row 153 7 ((i.1).map v4v))), (2, ((γ1 2), .row 153 7 ((i.2).map v4v))), (0, ((γ 0), .box 303 [.ref 1 (γ1 1), .fn (.func 127) [] []])), (3, ((γ1 3), .dead)), (4, ((γ1 4), .dead))]) (fun i => i.2 ++ a8p a3m i.1.length i.1 = a8p a3m l.length l ∧ i.1.length + i.2.length = l.length) (fun i => i.1.length) (y3y 0 rfl Cov.nil) HE.nil (l, []) ⟨rfl, rfl⟩ [0, _, _, _, _] cv hv rfl fun i γ1 hi => ?_
 obtain ⟨ls, o⟩ := i
 obtain ⟨h1, h2⟩ := hi
 dsimp only at h1 h2 ⊢
 refine x2x fun K2 hK2 => ?_
 refine exA 4 rfl rfl (a1l rfl a1s rfl rfl (List.length_map _) ?_)
 refine v1v rfl rfl rfl (y2y rfl ?_ ?_)<;>intro hc3<;>try simp at hc3
 ·obtain rfl : ls = [] := hc3
  have ho : o = a8p a3m l.length l := by rw [← h1]; simp [a8p]
  subst ho
  refine z4z (hK1 _ _ (a1e 3 rfl rfl (fun _ => rfl) ?_))
  refine exA 2 rfl rfl (x6x ?_)
  exact ⟨.inr rfl, [γ 0, _], rfl, rfl, hv⟩
 obtain ⟨m, r, rfl⟩ : ∃ m r, ls = m :: r := by cases ls with | nil => simp at hc3 | cons m r => exact ⟨m, r, rfl⟩
 simp only [a0v] at h2
 refine x7x (hK2 _ _ (y0y (exG (x1x 2 rfl rfl ?_))))
 refine rlM [0, 1] [_, _] (a7v m r (by omega)) rfl rfl rfl ?_
 refine u5u (id := 3) a1s rfl q0q rfl rfl rfl rfl rfl rfl (u6u rfl rfl a1s rfl q0q rfl rfl rfl rfl (by rfl) (w7w _ _ _) (by (simp only [a0w, a0q, a0v, a0x, T153]; omega)) ?_)
 refine x0x rfl ?_
 exact ⟨(b6g a3m (m :: r), o ++ [m]), ⟨⟨by rw [← h1, b7r, List.append_assoc]; rfl, by rw [b7r, List.length_append]; simp only [a0v, a0x] at h2 ⊢; omega⟩, (by dsimp only; rw [b7r]; simp)⟩, [0, _, _, _, _], cv, cv, (HE.row rfl rfl (HE.row rfl (by simp) (HE.box rfl rfl (HE.kill rfl (HE.kill rfl HE.nil))))), hv, rfl⟩
end
section
theorem c0p (c : Bool) (l : List Ev) (hl : l.length ≤ 1000000000) : Meth Tryz.prog 210 1 [] [a1y c l] [(0, (0, .dead))] (.ref 0 0) [(0, (0, .row 56 7 ((p8p l).map v4v)))] := by
 refine mX Tryz.f210 [.ref 0 0] 1 8 fun γ => ?_
 refine exR (x0x rfl (exR (rlB d8t e7i ?_)))
 refine y7y (id := 1) d8t e7i rfl (x3x rfl rfl d8t rfl rfl rfl rfl (exR (c5q (id := 2) rfl (x0x rfl (x2x fun K1 hK1 => ?_)))))
 refine exR (x4x rfl (z2z rfl u9u rfl (x4x rfl (y0y (a0d 1 0 7 153 7 rfl rfl rfl rfl rfl ?_)))))
 refine z3z (ι := Nat) (fun i γ1 => [(15, pI (i : Int))]) (fun i γ1 => [(7, ((γ1 7), .row 153 7 ((b4z a3m (s7s (l.take i))).map v4v))), (1, ((0 + 1), .box 303 [.ref 7 (γ1 7), .fn (.func 127) [] []])), (2, ((0 + 1), .map (b0g (l.take i)))), (3, ((γ1 3), .dead)), (4, ((γ1 4), .dead))]) (fun i => i ≤ l.length) (fun i => l.length - i) (cK [3, 4, 13, 14] rfl) (hK [0, 5, 6, 8] rfl) 0 (by omega) [0, 0, 0, _, _, 0, 0, _] cv (HE.row rfl (by rw [List.take_zero]; try rfl) (HE.box rfl rfl (HE.map rfl (by rw [List.take_zero]; try rfl) (HE.kill rfl (HE.kill rfl HE.nil))))) rfl fun i γ1 hi => ?_
 refine exR (v1v rfl rfl rfl (x2x fun K2 hK2 => ?_))
 refine y2y rfl ?_ ?_<;>intro o<;>try simp at o
 ·obtain rfl : i = l.length := by omega
  obtain ⟨H, hH⟩ : ∃ H, H = b4z a3m (s7s (l.take l.length)) := ⟨_, rfl⟩
  rw [← hH]
  have hhl : H.length ≤ 1000000000 := by rw [hH, b7s]; exact Nat.le_trans (b9a _) (by rw [List.length_take]; omega)
  refine z4z (hK1 _ _ (exA 2 rfl rfl (a1l rfl a1s rfl rfl (List.length_map _) ?_)))
  refine d4m s3s (id := 0) u9u rfl u0u rfl rfl (by (simp only [a0w, a0q, a0v, a0x, T56]; omega)) (by (unfold maxLen; omega)) rfl ?_
  refine x0x rfl (x2x fun K6 hK6 => ?_)
  refine exR ?_
  refine rlM [1, 7] [_, _] (a6r _ hhl) rfl rfl rfl ?_
  refine z2z rfl a1s rfl (x4x rfl (y0y ?_))
  obtain ⟨D, hD⟩ : ∃ D, D = a8p a3m H.length H := ⟨_, rfl⟩
  rw [← hD]
  have hDl : D.length ≤ 1000000000 := Nat.le_trans (by rw [hD]; exact c2a _ _) hhl
  refine z3z (ι := Nat) (fun i γ3 => [(8, .ref 0 (γ3 0)), (40, pI (i : Int))]) (fun i γ3 => [(0, ((γ3 0), .row 56 7 ((D.take i).map v4v))), (5, ((γ3 5), .dead)), (6, ((γ3 6), .dead)), (7, ((γ3 7), .dead))]) (fun i => i ≤ D.length) (fun i => D.length - i) (cK [38, 39] rfl) (hK [1, 2, 3, 4, 8] rfl) 0 (by omega) [_, 0, 0, 0, 0, _, _, _] cv (HE.row rfl (by rw [List.take_zero]; try rfl) (HE.kill rfl (HE.kill rfl (HE.kill rfl HE.nil)))) rfl fun i γ3 hi => ?_
  refine exR (v1v rfl rfl rfl (x2x fun K7 hK7 => ?_))
  refine y2y rfl ?_ ?_<;>intro o<;>try simp at o
  ·refine z4z (hK6 _ _ (exA 2 rfl rfl (x6x ?_)))
   exact ⟨.inr rfl, [_], rfl, rfl, HE.row rfl (by rw [List.take_of_length_le (by omega), hD, hH, List.take_length, b7s, c2d]) HE.nil⟩
  obtain ⟨k1, hk1⟩ := gE D i
  have hDi : (D.take i).length ≤ 1000000000 := by rw [List.length_take]; omega
  refine x7x (hK7 _ _ (x2x fun K9 hK9 => ?_))
  refine y0y (exR (y8y rfl rfl a1s rfl q0q rfl (by assumption) ?_))
  refine u4u rfl q0q rfl rfl (y7y (id := 5) q0q c5o rfl (x3x rfl rfl q0q rfl rfl rfl rfl (exG (x1x 2 rfl rfl (x9x rfl rfl rfl (b3w ..) (u5u (id := 6) u9u rfl u0u rfl rfl rfl rfl rfl rfl (u6u rfl rfl u9u rfl u0u rfl rfl rfl rfl (by rfl) (w7w _ _ _) (by (simp only [a0w, a0q, a0v, a0x, T56]; omega)) ?_)))))))
  refine x0x rfl (hK9 _ _ (exG (z5z (b := 1) rfl rfl (by omega) (x4x rfl ?_))))
  exact ⟨i + 1, ⟨by omega, by omega⟩, [_, 0, 0, 0, 0, _, _, _], cv, cv, (HE.row rfl (by rw [w0w hk1]) (HE.kill rfl (HE.kill rfl (HE.kill rfl HE.nil)))), hv, rfl⟩
 obtain ⟨e, he⟩ := gE l i
 have hcnt : (l.take i).count e ≤ 1000000000 := Nat.le_trans List.count_le_length (by rw [List.length_take]; omega)
 refine x7x (hK2 _ _ (x2x fun K4 hK4 => ?_))
 refine y0y (exR (y8y rfl rfl u9u rfl u0u rfl (by assumption) ?_))
 refine u4u rfl u0u rfl rfl (y7y (id := 3) u0u a9t rfl (x3x rfl rfl u0u rfl rfl rfl rfl (exR (x5x rfl u0u rfl rfl rfl (x9x rfl rfl rfl (b3v ..) (y7y (id := 4) q0q c5o rfl (x3x rfl rfl q0q rfl rfl rfl rfl ?_)))))))
 refine a0k (ι := Unit) (fun _i γ2 => []) (fun _i γ2 => [(2, ((0 + 1), .map (b0g (l.take i ++ [e]))))]) (fun _i => True) (cK [3, 4, 7, 13, 14, 15] rfl) (hK [0, 1, 3, 4, 5, 6, 7, 8] rfl) ?_ fun _i γ2 hi => ?_
 ·refine c4j c4g rfl fun B X0 w0 => ?_
  refine w2w s3s (l := [0, 1]) (by kernel_rfl) (by decide) ?_
  refine .cons rfl rfl rfl ?_ ?_
  ·refine x4x rfl (p9p ?_)
   refine w2w s3s (l := [1]) (by kernel_rfl) (by decide) ?_
   refine .cons rfl rfl rfl ?_ ?_
   ·refine x5x rfl q0q rfl rfl rfl (p9p ?_)
    refine w2w s3s (l := [2, 4]) (by kernel_rfl) (by decide) ?_
    refine .cons rfl rfl rfl ?_ ?_
    ·refine a5y s3s (ks := s7s (l.take i)) (k := e) Tryz.underlying304 evF rfl rfl (fun _ _ _ h => a6n h) rfl (a3b (l.take i)) (b9s q5q rfl (l.take i) e) ?_
     refine p9p ?_
     refine w2w s3s (l := [3, 4]) (by kernel_rfl) (by decide) ?_
     refine .cons rfl rfl rfl ?_ ?_
     ·refine z5z (b := 1) rfl rfl (by omega) (p9p ?_)
      refine w2w s3s (l := [4]) (by kernel_rfl) (by decide) ?_
      refine .cons rfl rfl rfl ?_ ?_
      ·refine a6m s3s (es' := b6v (l.take i) e) (j := a4w (l.take i) e) (out := pI ((l.take i).count e : Nat)) (ks := s7s (l.take i)) (k := e) Tryz.underlying304 evF rfl rfl (fun _ _ _ h => a6n h) rfl (a3b _) (a5j q5q rfl _ _) ?_
       refine p9p ?_
       refine w2w s3s (l := [5]) (by kernel_rfl) (by decide) ?_
       refine .cons rfl rfl rfl ?_ ?_
       ·refine a2i rfl rfl (p9p ?_)
        refine w2w s3s (l := [6]) (by kernel_rfl) (by decide) ?_
        refine .cons rfl rfl rfl ?_ ?_
        ·refine a0m (j := a4w (l.take i) e) rfl rfl rfl rfl (a3c _ _) (a3r _ _) ?_
         refine p9p (a3p (by kernel_rfl) ?_)
         exact ⟨(), trivial, [], cv, cv, (HE.map rfl rfl HE.nil), hv, rfl⟩
        exact .nil
       exact .nil
      exact .nil
     refine .cons rfl rfl rfl ?_ ?_
     ·refine a6m s3s (es' := b6v (l.take i) e) (j := a4w (l.take i) e) (out := pI ((l.take i).count e : Nat)) (ks := s7s (l.take i)) (k := e) Tryz.underlying304 evF rfl rfl (fun _ _ _ h => a6n h) rfl (a3b _) (a5j q5q rfl _ _) ?_
      refine p9p ?_
      refine w2w s3s (l := [3, 5]) (by kernel_rfl) (by decide) ?_
      refine .cons rfl rfl rfl ?_ ?_
      ·refine z5z (b := 1) rfl rfl (by omega) (p9p ?_)
       refine w2w s3s (l := [5]) (by kernel_rfl) (by decide) ?_
       refine .cons rfl rfl rfl ?_ ?_
       ·refine a2i rfl rfl (p9p ?_)
        refine w2w s3s (l := [6]) (by kernel_rfl) (by decide) ?_
        refine .cons rfl rfl rfl ?_ ?_
        ·refine a0m (j := a4w (l.take i) e) rfl rfl rfl rfl (a3c _ _) (a3r _ _) ?_
         refine p9p (a3p (by kernel_rfl) ?_)
         exact ⟨(), trivial, [], cv, cv, (HE.map rfl rfl HE.nil), hv, rfl⟩
        exact .nil
       exact .nil
      refine .cons rfl rfl rfl ?_ ?_
      ·refine a2i rfl rfl (p9p ?_)
       refine w2w s3s (l := [3]) (by kernel_rfl) (by decide) ?_
       refine .cons rfl rfl rfl ?_ ?_
       ·refine z5z (b := 1) rfl rfl (by omega) (p9p ?_)
        refine w2w s3s (l := [6]) (by kernel_rfl) (by decide) ?_
        refine .cons rfl rfl rfl ?_ ?_
        ·refine a0m (j := a4w (l.take i) e) rfl rfl rfl rfl (a3c _ _) (a3r _ _) ?_
         refine p9p (a3p (by kernel_rfl) ?_)
         exact ⟨(), trivial, [], cv, cv, (HE.map rfl rfl HE.nil), hv, rfl⟩
        exact .nil
       exact .nil
      exact .nil
     exact .nil
    refine .cons rfl rfl rfl ?_ ?_
    ·refine a6m s3s (es' := b6v (l.take i) e) (j := a4w (l.take i) e) (out := pI ((l.take i).count e : Nat)) (ks := s7s (l.take i)) (k := e) Tryz.underlying304 evF rfl rfl (fun _ _ _ h => a6n h) rfl (a3b _) (a5j q5q rfl _ _) ?_
     refine p9p ?_
     refine w2w s3s (l := [2, 5]) (by kernel_rfl) (by decide) ?_
     refine .cons rfl rfl rfl ?_ ?_
     ·refine a5y s3s (ks := e6x (l.take i) e) (k := e) Tryz.underlying304 evF rfl rfl (fun _ _ _ h => a6n h) rfl (b4w (l.take i) e) (b4x (l.take i) e) ?_
      refine p9p ?_
      refine w2w s3s (l := [3, 5]) (by kernel_rfl) (by decide) ?_
      refine .cons rfl rfl rfl ?_ ?_
      ·refine z5z (b := 1) rfl rfl (by omega) (p9p ?_)
       refine w2w s3s (l := [5]) (by kernel_rfl) (by decide) ?_
       refine .cons rfl rfl rfl ?_ ?_
       ·refine a2i rfl rfl (p9p ?_)
        refine w2w s3s (l := [6]) (by kernel_rfl) (by decide) ?_
        refine .cons rfl rfl rfl ?_ ?_
        ·refine a0m (j := a4w (l.take i) e) rfl rfl rfl rfl (a3c _ _) (a3r _ _) ?_
         refine p9p (a3p (by kernel_rfl) ?_)
         exact ⟨(), trivial, [], cv, cv, (HE.map rfl rfl HE.nil), hv, rfl⟩
        exact .nil
       exact .nil
      refine .cons rfl rfl rfl ?_ ?_
      ·refine a2i rfl rfl (p9p ?_)
       refine w2w s3s (l := [3]) (by kernel_rfl) (by decide) ?_
       refine .cons rfl rfl rfl ?_ ?_
       ·refine z5z (b := 1) rfl rfl (by omega) (p9p ?_)
        refine w2w s3s (l := [6]) (by kernel_rfl) (by decide) ?_
        refine .cons rfl rfl rfl ?_ ?_
        ·refine a0m (j := a4w (l.take i) e) rfl rfl rfl rfl (a3c _ _) (a3r _ _) ?_
         refine p9p (a3p (by kernel_rfl) ?_)
         exact ⟨(), trivial, [], cv, cv, (HE.map rfl rfl HE.nil), hv, rfl⟩
        exact .nil
       exact .nil
      exact .nil
     refine .cons rfl rfl rfl ?_ ?_
     ·refine a2i rfl rfl (p9p ?_)
      refine w2w s3s (l := [2]) (by kernel_rfl) (by decide) ?_
      refine .cons rfl rfl rfl ?_ ?_
      ·refine a5y s3s (ks := e6x (l.take i) e) (k := e) Tryz.underlying304 evF rfl rfl (fun _ _ _ h => a6n h) rfl (b4w (l.take i) e) (b4x (l.take i) e) ?_
       refine p9p ?_
       refine w2w s3s (l := [3]) (by kernel_rfl) (by decide) ?_
       refine .cons rfl rfl rfl ?_ ?_
       ·refine z5z (b := 1) rfl rfl (by omega) (p9p ?_)
        refine w2w s3s (l := [6]) (by kernel_rfl) (by decide) ?_
        refine .cons rfl rfl rfl ?_ ?_
        ·refine a0m (j := a4w (l.take i) e) rfl rfl rfl rfl (a3c _ _) (a3r _ _) ?_
         refine p9p (a3p (by kernel_rfl) ?_)
         exact ⟨(), trivial, [], cv, cv, (HE.map rfl rfl HE.nil), hv, rfl⟩
        exact .nil
       exact .nil
      exact .nil
     exact .nil
    exact .nil
   exact .nil
  refine .cons rfl rfl rfl ?_ ?_
  ·refine x5x rfl q0q rfl rfl rfl (p9p ?_)
   refine w2w s3s (l := [0]) (by kernel_rfl) (by decide) ?_
   refine .cons rfl rfl rfl ?_ ?_
   ·refine x4x rfl (p9p ?_)
    refine w2w s3s (l := [2, 4]) (by kernel_rfl) (by decide) ?_
    refine .cons rfl rfl rfl ?_ ?_
    ·refine a5y s3s (ks := s7s (l.take i)) (k := e) Tryz.underlying304 evF rfl rfl (fun _ _ _ h => a6n h) rfl (a3b (l.take i)) (b9s q5q rfl (l.take i) e) ?_
     refine p9p ?_
     refine w2w s3s (l := [3, 4]) (by kernel_rfl) (by decide) ?_
     refine .cons rfl rfl rfl ?_ ?_
     ·refine z5z (b := 1) rfl rfl (by omega) (p9p ?_)
      refine w2w s3s (l := [4]) (by kernel_rfl) (by decide) ?_
      refine .cons rfl rfl rfl ?_ ?_
      ·refine a6m s3s (es' := b6v (l.take i) e) (j := a4w (l.take i) e) (out := pI ((l.take i).count e : Nat)) (ks := s7s (l.take i)) (k := e) Tryz.underlying304 evF rfl rfl (fun _ _ _ h => a6n h) rfl (a3b _) (a5j q5q rfl _ _) ?_
       refine p9p ?_
       refine w2w s3s (l := [5]) (by kernel_rfl) (by decide) ?_
       refine .cons rfl rfl rfl ?_ ?_
       ·refine a2i rfl rfl (p9p ?_)
        refine w2w s3s (l := [6]) (by kernel_rfl) (by decide) ?_
        refine .cons rfl rfl rfl ?_ ?_
        ·refine a0m (j := a4w (l.take i) e) rfl rfl rfl rfl (a3c _ _) (a3r _ _) ?_
         refine p9p (a3p (by kernel_rfl) ?_)
         exact ⟨(), trivial, [], cv, cv, (HE.map rfl rfl HE.nil), hv, rfl⟩
        exact .nil
       exact .nil
      exact .nil
     refine .cons rfl rfl rfl ?_ ?_
     ·refine a6m s3s (es' := b6v (l.take i) e) (j := a4w (l.take i) e) (out := pI ((l.take i).count e : Nat)) (ks := s7s (l.take i)) (k := e) Tryz.underlying304 evF rfl rfl (fun _ _ _ h => a6n h) rfl (a3b _) (a5j q5q rfl _ _) ?_
      refine p9p ?_
      refine w2w s3s (l := [3, 5]) (by kernel_rfl) (by decide) ?_
      refine .cons rfl rfl rfl ?_ ?_
      ·refine z5z (b := 1) rfl rfl (by omega) (p9p ?_)
       refine w2w s3s (l := [5]) (by kernel_rfl) (by decide) ?_
       refine .cons rfl rfl rfl ?_ ?_
       ·refine a2i rfl rfl (p9p ?_)
        refine w2w s3s (l := [6]) (by kernel_rfl) (by decide) ?_
        refine .cons rfl rfl rfl ?_ ?_
        ·refine a0m (j := a4w (l.take i) e) rfl rfl rfl rfl (a3c _ _) (a3r _ _) ?_
         refine p9p (a3p (by kernel_rfl) ?_)
         exact ⟨(), trivial, [], cv, cv, (HE.map rfl rfl HE.nil), hv, rfl⟩
        exact .nil
       exact .nil
      refine .cons rfl rfl rfl ?_ ?_
      ·refine a2i rfl rfl (p9p ?_)
       refine w2w s3s (l := [3]) (by kernel_rfl) (by decide) ?_
       refine .cons rfl rfl rfl ?_ ?_
       ·refine z5z (b := 1) rfl rfl (by omega) (p9p ?_)
        refine w2w s3s (l := [6]) (by kernel_rfl) (by decide) ?_
        refine .cons rfl rfl rfl ?_ ?_
        ·refine a0m (j := a4w (l.take i) e) rfl rfl rfl rfl (a3c _ _) (a3r _ _) ?_
         refine p9p (a3p (by kernel_rfl) ?_)
         exact ⟨(), trivial, [], cv, cv, (HE.map rfl rfl HE.nil), hv, rfl⟩
        exact .nil
       exact .nil
      exact .nil
     exact .nil
    refine .cons rfl rfl rfl ?_ ?_
    ·refine a6m s3s (es' := b6v (l.take i) e) (j := a4w (l.take i) e) (out := pI ((l.take i).count e : Nat)) (ks := s7s (l.take i)) (k := e) Tryz.underlying304 evF rfl rfl (fun _ _ _ h => a6n h) rfl (a3b _) (a5j q5q rfl _ _) ?_
     refine p9p ?_
     refine w2w s3s (l := [2, 5]) (by kernel_rfl) (by decide) ?_
     refine .cons rfl rfl rfl ?_ ?_
     ·refine a5y s3s (ks := e6x (l.take i) e) (k := e) Tryz.underlying304 evF rfl rfl (fun _ _ _ h => a6n h) rfl (b4w (l.take i) e) (b4x (l.take i) e) ?_
      refine p9p ?_
      refine w2w s3s (l := [3, 5]) (by kernel_rfl) (by decide) ?_
      refine .cons rfl rfl rfl ?_ ?_
      ·refine z5z (b := 1) rfl rfl (by omega) (p9p ?_)
       refine w2w s3s (l := [5]) (by kernel_rfl) (by decide) ?_
       refine .cons rfl rfl rfl ?_ ?_
       ·refine a2i rfl rfl (p9p ?_)
        refine w2w s3s (l := [6]) (by kernel_rfl) (by decide) ?_
        refine .cons rfl rfl rfl ?_ ?_
        ·refine a0m (j := a4w (l.take i) e) rfl rfl rfl rfl (a3c _ _) (a3r _ _) ?_
         refine p9p (a3p (by kernel_rfl) ?_)
         exact ⟨(), trivial, [], cv, cv, (HE.map rfl rfl HE.nil), hv, rfl⟩
        exact .nil
       exact .nil
      refine .cons rfl rfl rfl ?_ ?_
      ·refine a2i rfl rfl (p9p ?_)
       refine w2w s3s (l := [3]) (by kernel_rfl) (by decide) ?_
       refine .cons rfl rfl rfl ?_ ?_
       ·refine z5z (b := 1) rfl rfl (by omega) (p9p ?_)
        refine w2w s3s (l := [6]) (by kernel_rfl) (by decide) ?_
        refine .cons rfl rfl rfl ?_ ?_
        ·refine a0m (j := a4w (l.take i) e) rfl rfl rfl rfl (a3c _ _) (a3r _ _) ?_
         refine p9p (a3p (by kernel_rfl) ?_)
         exact ⟨(), trivial, [], cv, cv, (HE.map rfl rfl HE.nil), hv, rfl⟩
        exact .nil
       exact .nil
      exact .nil
     refine .cons rfl rfl rfl ?_ ?_
     ·refine a2i rfl rfl (p9p ?_)
      refine w2w s3s (l := [2]) (by kernel_rfl) (by decide) ?_
      refine .cons rfl rfl rfl ?_ ?_
      ·refine a5y s3s (ks := e6x (l.take i) e) (k := e) Tryz.underlying304 evF rfl rfl (fun _ _ _ h => a6n h) rfl (b4w (l.take i) e) (b4x (l.take i) e) ?_
       refine p9p ?_
       refine w2w s3s (l := [3]) (by kernel_rfl) (by decide) ?_
       refine .cons rfl rfl rfl ?_ ?_
       ·refine z5z (b := 1) rfl rfl (by omega) (p9p ?_)
        refine w2w s3s (l := [6]) (by kernel_rfl) (by decide) ?_
        refine .cons rfl rfl rfl ?_ ?_
        ·refine a0m (j := a4w (l.take i) e) rfl rfl rfl rfl (a3c _ _) (a3r _ _) ?_
         refine p9p (a3p (by kernel_rfl) ?_)
         exact ⟨(), trivial, [], cv, cv, (HE.map rfl rfl HE.nil), hv, rfl⟩
        exact .nil
       exact .nil
      exact .nil
     exact .nil
    exact .nil
   exact .nil
  exact .nil
 ·try dsimp only [b3s, b3t]
  refine exA 2 rfl rfl ?_
  refine a5y s3s (ks := s7s (l.take i ++ [e])) (k := e) Tryz.underlying304 evF rfl rfl (fun _ _ _ h => a6n h) rfl (a3b (l.take i ++ [e])) (b9s q5q rfl (l.take i ++ [e]) e) ?_
  refine v1v rfl rfl rfl (y2y rfl ?_ ?_)<;>intro hc5<;>try simp at hc5
  ·have hq : ¬ (l.take i ++ [e]).count e = 1 := by (have := hc5; simp at this ⊢; omega)
   refine x7x (hK4 _ _ (exG (z5z (b := 1) rfl rfl (by omega) (x4x rfl ?_))))
   exact ⟨i + 1, ⟨by omega, by omega⟩, [0, 0, 0, _, _, 0, 0, _], cv, cv, (HE.row rfl (by rw [w0w he, d3q hq]) (HE.box rfl rfl (HE.map rfl (by rw [w0w he]) (HE.kill rfl (HE.kill rfl HE.nil))))), hv, rfl⟩
  have hq : (l.take i ++ [e]).count e = 1 := by (have := hc5; simp at this ⊢; omega)
  have hpl : (b4z a3m (s7s (l.take i))).length ≤ 1000000000 := by rw [b7s]; exact Nat.le_trans (b9a _) (by rw [List.length_take]; omega)
  refine exG (x5x rfl q0q rfl rfl rfl ?_)
  refine rlM [1, 7] [_, _] (a7n _ e hpl) rfl rfl rfl ?_
  refine hK4 _ _ (exG (z5z (b := 1) rfl rfl (by omega) (x4x rfl ?_)))
  exact ⟨i + 1, ⟨by omega, by omega⟩, [0, 0, 0, _, _, 0, 0, _], cv, cv, (HE.row rfl (by rw [w0w he, d3p hq]) (HE.box rfl rfl (HE.map rfl (by rw [w0w he]) (HE.kill rfl (HE.kill rfl HE.nil))))), hv, rfl⟩
end
section
theorem a3z (c : Bool) (a : Ev) (l : List Ev) (hl : (a :: l).length ≤ 10000000) : Meth Tryz.prog 245 1 [] [a1y c (a :: l)] [(0, (0, .dead))] (.ref 0 0) [(0, (0, .row 56 7 ((a :: l).map v4v)))] := by
 refine mX Tryz.f245 [.ref 0 0] 1 1 fun γ => ?_
 refine exR (x0x rfl (x2x fun K1 hK1 => ?_))
 refine exR (x4x rfl (b0t rfl rfl (by (intro p q h; cases h)) (.inl rfl) (d2n Tryz.underlying47 _ _ (by simp)) ?_))
 refine x8x rfl (fun hc2 => ?_) (fun hc2 => ?_)
 ·simp [a2t] at hc2
 try simp at hc2
 refine x7x (hK1 _ _ (exR (z8z (id := 0) u9u rfl u0u rfl (x4x rfl ?_))))
 refine s1s (zs := (a :: l).map v4v) rfl rfl u9u rfl u0u rfl rfl rfl (w3w (fun _ => rfl) _) rfl (by (simp only [a0w, a0q, a0v, a0x, a1t, T56] at *; omega)) ?_
 refine x0x rfl (x6x ?_)
 exact ⟨.inr rfl, [_], rfl, rfl, hv⟩
theorem a4f (c : Bool) : Meth Tryz.prog 245 1 [] [a1y c []] [(0, (0, .dead))] (.ref 0 0) [(0, (0, .row 56 7 (([] : List Ev).map v4v)))] := by
 refine mX Tryz.f245 [.ref 0 0] 1 1 fun γ => ?_
 refine c6y 0 rfl fun A0 cap hcap => ?_
 refine exR (x0x rfl (x2x fun K1 hK1 => ?_))
 refine exR (x4x rfl (b0t rfl rfl (by (intro p q h h2; cases h; cases h2; rfl)) (.inl rfl) (c1u Tryz.underlying47 _ _ _ _ _) ?_))
 refine x8x rfl ?_ ?_<;>intro j<;>try simp at j
 ·refine exR (x0x rfl (a7d 2 0 56 7 rfl rfl (x6x ?_)))
  exact ⟨.inr rfl, [_], rfl, rfl, hv⟩
 refine x7x (hK1 _ _ (d9q 0 56 7 rfl hcap (exR (z8z (id := 0) u9u rfl u0u rfl (x4x rfl ?_)))))
 refine s1s (zs := ([] : List Ev).map v4v) rfl rfl u9u rfl u0u rfl rfl rfl (by rfl) rfl (by (simp only [a0w, a0q, a0v, a0x, a1t, T56] at *; omega)) ?_
 refine x0x rfl (x6x ?_)
 exact ⟨.inr rfl, [_], rfl, rfl, hv⟩
theorem s0s (c : Bool) (l : List Ev) (hl : l.length ≤ 10000000) : Meth Tryz.prog 245 1 [] [a1y c l] [(0, (0, .dead))] (.ref 0 0) [(0, (0, .row 56 7 (l.map v4v)))] := by
 cases l with
 | nil => exact a4f c
 | cons a l => exact a3z c a l hl
theorem a4x (c : Bool) (a : Ou) (l : List Ou) (hl : (a :: l).length ≤ 10000000) : Meth Tryz.prog 152 1 [] [a0p c (a :: l)] [(0, (0, .dead))] (.ref 0 0) [(0, (0, .row 141 5 ((a :: l).map a0c)))] := by
 refine mX Tryz.f152 [.ref 0 0] 1 1 fun γ => ?_
 refine exR (x0x rfl (x2x fun K1 hK1 => ?_))
 refine exR (x4x rfl (b0t rfl rfl (by (intro p q h; cases h)) (.inl rfl) (d2n Tryz.underlying29 _ _ (by simp)) ?_))
 refine x8x rfl (fun hc2 => ?_) (fun hc2 => ?_)
 ·simp [a2t] at hc2
 try simp at hc2
 refine x7x (hK1 _ _ (exR (z8z (id := 0) q8q rfl w8w rfl (x4x rfl ?_))))
 refine s1s (zs := (a :: l).map a0c) rfl rfl q8q rfl w8w rfl rfl rfl (w3w (fun _ => rfl) _) rfl (by (simp only [a0w, a0q, a0v, a0x, a1t, T141] at *; omega)) ?_
 refine x0x rfl (x6x ?_)
 exact ⟨.inr rfl, [_], rfl, rfl, hv⟩
theorem a5f (c : Bool) : Meth Tryz.prog 152 1 [] [a0p c []] [(0, (0, .dead))] (.ref 0 0) [(0, (0, .row 141 5 (([] : List Ou).map a0c)))] := by
 refine mX Tryz.f152 [.ref 0 0] 1 1 fun γ => ?_
 refine c6y 0 rfl fun A0 cap hcap => ?_
 refine exR (x0x rfl (x2x fun K1 hK1 => ?_))
 refine exR (x4x rfl (b0t rfl rfl (by (intro p q h h2; cases h; cases h2; rfl)) (.inl rfl) (c1u Tryz.underlying29 _ _ _ _ _) ?_))
 refine x8x rfl ?_ ?_<;>intro j<;>try simp at j
 ·refine exR (x0x rfl (a7d 2 0 141 5 rfl rfl (x6x ?_)))
  exact ⟨.inr rfl, [_], rfl, rfl, hv⟩
 refine x7x (hK1 _ _ (d9q 0 141 5 rfl hcap (exR (z8z (id := 0) q8q rfl w8w rfl (x4x rfl ?_)))))
 refine s1s (zs := ([] : List Ou).map a0c) rfl rfl q8q rfl w8w rfl rfl rfl (by rfl) rfl (by (simp only [a0w, a0q, a0v, a0x, a1t, T56] at *; omega)) ?_
 refine x0x rfl (x6x ?_)
 exact ⟨.inr rfl, [_], rfl, rfl, hv⟩
theorem a2s (c : Bool) (l : List Ou) (hl : l.length ≤ 10000000) : Meth Tryz.prog 152 1 [] [a0p c l] [(0, (0, .dead))] (.ref 0 0) [(0, (0, .row 141 5 (l.map a0c)))] := by
 cases l with
 | nil => exact a5f c
 | cons a l => exact a4x c a l hl
theorem a9c (c : Bool) (a : Int) (l : List Int) (hl : (a :: l).length ≤ 10000000) : Meth Tryz.prog 248 1 [] [a4l c (a :: l)] [(0, (0, .dead))] (.ref 0 0) [(0, (0, .row 3 1 ((a :: l).map a6c)))] := by
 refine mX Tryz.f248 [.ref 0 0] 1 1 fun γ => ?_
 refine exR (x0x rfl (x2x fun K1 hK1 => ?_))
 refine exR (x4x rfl (b0t rfl rfl (by (intro p q h; cases h)) (.inl rfl) (d2n Tryz.underlying63 _ _ (by simp)) ?_))
 refine x8x rfl (fun hc2 => ?_) (fun hc2 => ?_)
 ·simp [a2t] at hc2
 try simp at hc2
 refine x7x (hK1 _ _ (exR (z8z (id := 0) q1q rfl q5q rfl (x4x rfl ?_))))
 refine s1s (zs := (a :: l).map a6c) rfl rfl q1q rfl q5q rfl rfl rfl (w3w (fun _ => rfl) _) rfl (by (simp only [a0w, a0q, a0v, a0x, a1t, T3] at *; omega)) ?_
 refine x0x rfl (x6x ?_)
 exact ⟨.inr rfl, [_], rfl, rfl, hv⟩
theorem a9i (c : Bool) : Meth Tryz.prog 248 1 [] [a4l c []] [(0, (0, .dead))] (.ref 0 0) [(0, (0, .row 3 1 (([] : List Int).map a6c)))] := by
 refine mX Tryz.f248 [.ref 0 0] 1 1 fun γ => ?_
 refine c6y 0 rfl fun A0 cap hcap => ?_
 refine exR (x0x rfl (x2x fun K1 hK1 => ?_))
 refine exR (x4x rfl (b0t rfl rfl (by (intro p q h h2; cases h; cases h2; rfl)) (.inl rfl) (c1u Tryz.underlying63 _ _ _ _ _) ?_))
 refine x8x rfl ?_ ?_<;>intro j<;>try simp at j
 ·refine exR (x0x rfl (a7d 2 0 3 1 rfl rfl (x6x ?_)))
  exact ⟨.inr rfl, [_], rfl, rfl, hv⟩
 refine x7x (hK1 _ _ (d9q 0 3 1 rfl hcap (exR (z8z (id := 0) q1q rfl q5q rfl (x4x rfl ?_)))))
 refine s1s (zs := ([] : List Int).map a6c) rfl rfl q1q rfl q5q rfl rfl rfl (by rfl) rfl (by (simp only [a0w, a0q, a0v, a0x, a1t, T56] at *; omega)) ?_
 refine x0x rfl (x6x ?_)
 exact ⟨.inr rfl, [_], rfl, rfl, hv⟩
theorem b2x (c : Bool) (l : List Int) (hl : l.length ≤ 10000000) : Meth Tryz.prog 248 1 [] [a4l c l] [(0, (0, .dead))] (.ref 0 0) [(0, (0, .row 3 1 (l.map a6c)))] := by
 cases l with
 | nil => exact a9i c
 | cons a l => exact a9c c a l hl
end
section
theorem c0q (c : Bool) (n : Nd) (hs : (a2c n).length ≤ 5000000) (hlen : n.lanes.length ≤ 1048576) : Meth Tryz.prog 229 6 [0, 1, 2, 3, 4] [.ptr 4 0 0] [(0, (0, .row 41 3 ((n.lanes).map fun l => a2h l.base))), (1, (0, .row 42 1 ((n.lanes).map fun l => [b2y c l.done]))), (2, (0, .map (c6h c n.views))), (3, (0, .row 3 1 (n.known.map a6c))), (4, (0, .box 164 [pI n.id, pI n.inc, pI n.g, pI n.led, .ref 0 0, a1y c n.kept, a0p c n.outs, .pv (.bool n.up), .ref 1 0, pI n.version, .mp 2 0, .ref 3 0, pI n.round, pI n.low])), (5, (0, .dead))] (.ref 5 0) [(5, (0, .row 56 7 ((a2c n).map v4v)))] := by
 refine a3u s3s (fn := Tryz.f229) (by kernel_rfl) (by kernel_rfl) rfl (O0 := [.ref 5 0]) 6 2 (a1d rfl) (by rfl) (by repeat (first | exact BndH.nil | refine BndH.dead ?_ | refine BndH.box rfl ?_ | refine BndH.row (a0n fun _ => rfl) ?_ | refine BndH.map (b4c _ _) ?_ )) (by repeat (first | exact BndH.nil | refine BndH.row (a0n fun _ => rfl) ?_ )) (by rfl) fun γ => ?_
 show Ex Tryz.prog _ _ [(0, .ptr 4 (γ 4) 0)] [(0, ((γ 0), .row 41 3 ((n.lanes).map fun l => a2h l.base))), (1, ((γ 1), .row 42 1 ((n.lanes).map fun l => [b2y c l.done]))), (2, ((γ 2), .map (c6h c n.views))), (3, ((γ 3), .row 3 1 (n.known.map a6c))), (4, ((γ 4), .box 164 [pI n.id, pI n.inc, pI n.g, pI n.led, .ref 0 (γ 0), a1y c n.kept, a0p c n.outs, .pv (.bool n.up), .ref 1 (γ 1), pI n.version, .mp 2 (γ 2), .ref 3 (γ 3), pI n.round, pI n.low])), (5, ((γ 5), .dead)), (7, (0, .dead)), (6, (0, .dead))] _
 have hkl : n.kept.length ≤ 5000000 := by simp only [a2c, a0q] at hs; omega
 refine exR (x0x rfl (exA 5 rfl rfl ?_))
 refine rlM [5] [_] (s0s c n.kept (by omega)) rfl rfl rfl ?_
 refine x0x rfl (x2x fun K1 hK1 => ?_)
 refine exA 4 rfl rfl (a1l rfl b9x rfl rfl (List.length_map _) ?_)
 refine x4x rfl (y0y ?_)
 refine z3z (ι := Nat) (fun i γ1 => [(3, .ref 5 (γ1 5)), (19, pI (i : Int))]) (fun i γ1 => [(5, ((γ1 5), .row 56 7 ((n.kept ++ (n.lanes.take i).flatMap b0y).map v4v))), (6, ((γ1 6), .dead)), (7, ((γ1 7), .dead))]) (fun i => i ≤ n.lanes.length) (fun i => n.lanes.length - i) (cK [17, 18] rfl) (hK [0, 1, 2, 3, 4] rfl) 0 (by omega) [0, 0, 0, 0, 0, _, _, _] cv (HE.row rfl (by simp) (HE.kill rfl (HE.kill rfl HE.nil))) rfl fun i γ1 hi => ?_
 refine exR (v1v rfl rfl rfl (x2x fun K2 hK2 => ?_))
 refine y2y rfl ?_ ?_<;>intro o<;>try simp at o
 ·obtain rfl : i = n.lanes.length := by omega
  refine z4z (hK1 _ _ (exA 2 rfl rfl (x6x ?_)))
  exact ⟨.inr rfl, [γ 0, γ 1, γ 2, γ 3, γ 4, _], rfl, rfl, HE.row rfl (by rw [List.take_length]; rfl) (hK [0, 1, 2, 3, 4] rfl)⟩
 obtain ⟨p, hp⟩ := gE n.lanes i
 refine x7x (hK2 _ _ (x2x fun K4 hK4 => ?_))
 refine y0y (exR ?_)
 refine v2v (j := i) rfl rfl b9x rfl r0r rfl rfl (v5v hp) ?_
 refine a1h rfl r0r rfl hp rfl (x0x rfl (exR (x4x rfl (z2z rfl r0r rfl (x4x rfl (y0y (p2p 23 rfl fun hlen2 => ?_)))))))
 refine z3z (ι := Nat) (fun j γ2 => [(3, .ref 5 (γ2 5)), (25, pI (j : Int))]) (fun j γ2 => [(5, ((γ2 5), .row 56 7 ((n.kept ++ (n.lanes.take i).flatMap b0y ++ (p.done.take j).flatMap Pa.sends).map v4v))), (6, ((γ2 6), .dead)), (7, ((γ2 7), .dead))]) (fun j => j ≤ p.done.length) (fun j => p.done.length - j) (cK [17, 18, 19, 23, 24] rfl) (hK [0, 1, 2, 3, 4] rfl) 0 (by omega) [0, 0, 0, 0, 0, _, _, _] cv (HE.row rfl (by simp) (HE.kill rfl (HE.kill rfl HE.nil))) rfl fun j γ2 hi => ?_
 refine exR (v1v rfl rfl rfl (x2x fun K5 hK5 => ?_))
 refine y2y rfl ?_ ?_<;>intro o<;>try simp at o
 ·obtain rfl : j = p.done.length := by omega
  refine z4z (hK4 _ _ (exG (p7p rfl rfl rfl (x4x rfl ?_))))
  exact ⟨i + 1, ⟨by omega, by omega⟩, [0, 0, 0, 0, 0, _, _, _], (y3y 3 rfl (Cov.cons' (t := 19) rfl (by rw [u2u (by omega) (by omega)]; rfl) Cov.nil)), cv, (HE.row rfl (by simp only [a6b hp, List.append_assoc, b0y, List.take_length]) (HE.kill rfl (HE.kill rfl HE.nil))), hv, rfl⟩
 obtain ⟨q, hq⟩ := gE p.done j
 have hsp := d0h hp hq
 refine x7x (hK5 _ _ (x2x fun K7 hK7 => ?_))
 refine y0y (exR (y8y rfl rfl r0r rfl r5r rfl (by assumption) ?_))
 refine u4u rfl r5r rfl rfl (y7y (id := 6) r5r c0e rfl (x3x rfl rfl r5r rfl rfl rfl rfl (exG (x1x 3 rfl rfl ?_))))
 refine s1s (zs := (n.kept ++ (n.lanes.take i).flatMap b0y ++ (p.done.take j).flatMap Pa.sends ++ q.sends).map v4v) rfl rfl u9u rfl u0u rfl rfl rfl (w3w (fun _ => rfl) _) (a9u _ _ _) (by have hb56 : T56.bytes = 56 := rfl; rw [List.length_map, hb56]; omega) ?_
 refine x0x rfl (hK7 _ _ (exG (p7p rfl rfl rfl (x4x rfl ?_))))
 exact ⟨j + 1, ⟨by omega, by omega⟩, [0, 0, 0, 0, 0, _, _, _], (y3y 3 rfl (Cov.cons' (t := 25) rfl (by rw [u2u (by omega) (by omega)]; rfl) Cov.nil)), cv, (HE.row rfl (by simp only [a6b hq, List.append_assoc]) (HE.kill rfl (HE.kill rfl HE.nil))), hv, rfl⟩
theorem b8k (c : Bool) (n : Nd) (proc : Int) (e : Ev) : Meth Tryz.prog 231 7 [0, 1, 2, 3, 4, 5, 6] [.agg (v4v e), .ptr 5 0 0, .ptr 6 0 0] [(0, (0, .row 41 3 ((n.lanes).map fun l => a2h l.base))), (1, (0, .row 42 1 ((n.lanes).map fun l => [b2y c l.done]))), (2, (0, .map (c6h c n.views))), (3, (0, .row 3 1 (n.known.map a6c))), (4, (0, .box 164 [pI n.id, pI n.inc, pI n.g, pI n.led, .ref 0 0, a1y c n.kept, a0p c n.outs, .pv (.bool n.up), .ref 1 0, pI n.version, .mp 2 0, .ref 3 0, pI n.round, pI n.low])), (5, (0, .box 3 [pI proc])), (6, (0, .box 148 [.ptr 4 0 0]))] (.pv (.bool (a8r proc n.g e))) [] := by
 refine a3u s3s (fn := Tryz.f231) (by kernel_rfl) (by kernel_rfl) rfl (O0 := [.pv (.bool (a8r proc n.g e))]) 7 1 (a1d rfl) (by rfl) (by repeat (first | exact BndH.nil | refine BndH.box rfl ?_ | refine BndH.row (a0n fun _ => rfl) ?_ | refine BndH.map (b4c _ _) ?_ )) (by repeat (exact BndH.nil )) (by rfl) fun γ => ?_
 show Ex Tryz.prog _ _ [(0, .agg (v4v e)), (1, .ptr 5 (γ 5) 0), (2, .ptr 6 (γ 6) 0)] [(0, ((γ 0), .row 41 3 ((n.lanes).map fun l => a2h l.base))), (1, ((γ 1), .row 42 1 ((n.lanes).map fun l => [b2y c l.done]))), (2, ((γ 2), .map (c6h c n.views))), (3, ((γ 3), .row 3 1 (n.known.map a6c))), (4, ((γ 4), .box 164 [pI n.id, pI n.inc, pI n.g, pI n.led, .ref 0 (γ 0), a1y c n.kept, a0p c n.outs, .pv (.bool n.up), .ref 1 (γ 1), pI n.version, .mp 2 (γ 2), .ref 3 (γ 3), pI n.round, pI n.low])), (5, ((γ 5), .box 3 [pI proc])), (6, ((γ 6), .box 148 [.ptr 4 (γ 4) 0])), (7, (0, .dead))] _
 refine exR (z7z (id := 7) rfl rfl rfl (x0x rfl (exD (x1x 5 rfl rfl (z6z rfl rfl ?_ ?_)))))<;>intro o<;>try simp at o
 ·refine x1x 9 rfl rfl ⟨by kernel_rfl, x6x ?_⟩
  exact ⟨.inr rfl, [γ 0, γ 1, γ 2, γ 3, γ 4, γ 5, γ 6], rfl, congrArg (fun b : Bool => some [AV.pv (.bool b)]) ((decide_eq_false (by omega)).symm), hv⟩
 refine x1x 10 rfl rfl ⟨by kernel_rfl, x6x ?_⟩
 exact ⟨.inr rfl, [γ 0, γ 1, γ 2, γ 3, γ 4, γ 5, γ 6], rfl, congrArg (fun b : Bool => some [AV.pv (.bool b)]) (decide_eq_decide.2 (by omega)), hv⟩
theorem a9d (c : Bool) (n : Nd) (proc : Int) (l : List Ev) (hl : l.length ≤ 10000000) : Meth Tryz.prog 230 7 [0, 1, 2, 3, 4, 5, 6] [a1y true l, .fn (.func 231) [] [.ptr 5 0 0, .ptr 6 0 0]] [(0, (0, .row 41 3 ((n.lanes).map fun l => a2h l.base))), (1, (0, .row 42 1 ((n.lanes).map fun l => [b2y c l.done]))), (2, (0, .map (c6h c n.views))), (3, (0, .row 3 1 (n.known.map a6c))), (4, (0, .box 164 [pI n.id, pI n.inc, pI n.g, pI n.led, .ref 0 0, a1y c n.kept, a0p c n.outs, .pv (.bool n.up), .ref 1 0, pI n.version, .mp 2 0, .ref 3 0, pI n.round, pI n.low])), (5, (0, .box 3 [pI proc])), (6, (0, .box 148 [.ptr 4 0 0]))] (a1y true (l.filter (a8r proc n.g))) [] := by
 refine a3u s3s (fn := Tryz.f230) (by kernel_rfl) (by kernel_rfl) rfl (O0 := [a1y true (l.filter (a8r proc n.g))]) 7 4 (a1d rfl) (by rfl) (by repeat (first | exact BndH.nil | refine BndH.box rfl ?_ | refine BndH.row (a0n fun _ => rfl) ?_ | refine BndH.map (b4c _ _) ?_ )) (by repeat (exact BndH.nil )) (by rfl) fun γ => ?_
 show Ex Tryz.prog _ _ [(0, a1y true l), (1, .fn (.func 231) [] [.ptr 5 (γ 5) 0, .ptr 6 (γ 6) 0])] [(0, ((γ 0), .row 41 3 ((n.lanes).map fun l => a2h l.base))), (1, ((γ 1), .row 42 1 ((n.lanes).map fun l => [b2y c l.done]))), (2, ((γ 2), .map (c6h c n.views))), (3, ((γ 3), .row 3 1 (n.known.map a6c))), (4, ((γ 4), .box 164 [pI n.id, pI n.inc, pI n.g, pI n.led, .ref 0 (γ 0), a1y c n.kept, a0p c n.outs, .pv (.bool n.up), .ref 1 (γ 1), pI n.version, .mp 2 (γ 2), .ref 3 (γ 3), pI n.round, pI n.low])), (5, ((γ 5), .box 3 [pI proc])), (6, ((γ 6), .box 148 [.ptr 4 (γ 4) 0])), (10, (0, .dead)), (9, (0, .dead)), (8, (0, .dead)), (7, (0, .dead))] _
 refine exR (x0x rfl (exR (x0x rfl (x2x fun K1 hK1 => ?_))))
 refine exR (x4x rfl (z2z rfl u9u rfl (x4x rfl (y0y (a7d 5 10 56 7 rfl rfl ?_)))))
 refine z3z (ι := Nat) (fun i γ1 => [(5, .ref 10 (γ1 10)), (10, pI (i : Int))]) (fun i γ1 => [(10, ((γ1 10), .row 56 7 (((l.take i).filter (a8r proc n.g)).map v4v))), (7, ((γ1 7), .dead)), (8, ((γ1 8), .dead)), (9, ((γ1 9), .dead))]) (fun i => i ≤ l.length) (fun i => l.length - i) (cK [1, 8, 9] rfl) (hK [0, 1, 2, 3, 4, 5, 6] rfl) 0 (by omega) [0, 0, 0, 0, 0, 0, 0, _, _, _, _] cv (HE.row rfl (by rw [List.take_zero]; rfl) (HE.kill rfl (HE.kill rfl (HE.kill rfl HE.nil)))) rfl fun i γ1 hi => ?_
 refine exR (v1v rfl rfl rfl (x2x fun K2 hK2 => ?_))
 refine y2y rfl ?_ ?_<;>intro o<;>try simp at o
 ·obtain rfl : i = l.length := by omega
  rw [List.take_length]
  refine z4z (hK1 _ _ (a1e 5 rfl rfl (fun _ => rfl) ?_))
  refine exA 2 rfl rfl (x6x ?_)
  exact ⟨.inr rfl, [γ 0, γ 1, γ 2, γ 3, γ 4, γ 5, γ 6], rfl, rfl, hv⟩
 obtain ⟨p, hp⟩ := gE l i
 have hfl : ((l.take i).filter (a8r proc n.g)).length ≤ 10000000 := Nat.le_trans (List.length_filter_le _ _) (by rw [List.length_take]; omega)
 refine x7x (hK2 _ _ (x2x fun K4 hK4 => ?_))
 refine y0y (exR (y8y rfl rfl u9u rfl u0u rfl (by assumption) ?_))
 refine u4u rfl u0u rfl rfl (y7y (id := 7) u0u a9t rfl (x3x rfl rfl u0u rfl rfl rfl rfl (exA 2 rfl rfl ?_)))
 refine rlM [0, 1, 2, 3, 4, 5, 6] [_, _, _, _, _, _, _] (b8k c n proc p) rfl rfl rfl ?_
 refine y2y rfl ?_ ?_<;>intro hc5<;>try simp at hc5
 ·have hw : ¬ a8r proc n.g p = true := by rw [hc5]; decide
  refine x7x (hK4 _ _ (exG (p7p rfl rfl rfl (x4x rfl ?_))))
  exact ⟨i + 1, ⟨by omega, by omega⟩, [0, 0, 0, 0, 0, 0, 0, _, _, _, _], (y3y 5 rfl (Cov.cons' (t := 10) rfl (by rw [u2u (by omega) (by omega)]; rfl) Cov.nil)), cv, (HE.row rfl (by rw [a1m hp]; rw [if_neg hw, List.append_nil]) (HE.kill rfl (HE.kill rfl (HE.kill rfl HE.nil)))), hv, rfl⟩
 have hw : a8r proc n.g p = true := hc5
 refine exG (x1x 2 rfl rfl (u5u (id := 8) u9u rfl u0u rfl rfl rfl rfl rfl rfl ?_))
 refine u6u (zs := ((l.take i).filter (a8r proc n.g) ++ [p]).map v4v) rfl rfl u9u rfl u0u rfl rfl rfl rfl (by rfl) (w7w _ _ _) (by (simp only [a0w, a0q, a0v, a0x, a1t, a3w, T56]; omega)) ?_
 refine x0x rfl (hK4 _ _ (exG (p7p rfl rfl rfl (x4x rfl ?_))))
 exact ⟨i + 1, ⟨by omega, by omega⟩, [0, 0, 0, 0, 0, 0, 0, _, _, _, _], (y3y 5 rfl (Cov.cons' (t := 10) rfl (by rw [u2u (by omega) (by omega)]; rfl) Cov.nil)), cv, (HE.row rfl (by rw [a1m hp]; rw [if_pos hw]) (HE.kill rfl (HE.kill rfl (HE.kill rfl HE.nil)))), hv, rfl⟩
theorem c0r (c : Bool) (n : Nd) (proc : Int) (hs : (a2c n).length + (a1g n 3).length ≤ 5000000) (hlen : n.lanes.length ≤ 1048576) (hv3 : n.views.length = 3) : Meth Tryz.prog 126 6 [0, 1, 2, 3, 4] [.ptr 4 0 0, .pv (.int .i64 proc)] [(0, (0, .row 41 3 ((n.lanes).map fun l => a2h l.base))), (1, (0, .row 42 1 ((n.lanes).map fun l => [b2y c l.done]))), (2, (0, .map (c6h c n.views))), (3, (0, .row 3 1 (n.known.map a6c))), (4, (0, .box 164 [pI n.id, pI n.inc, pI n.g, pI n.led, .ref 0 0, a1y c n.kept, a0p c n.outs, .pv (.bool n.up), .ref 1 0, pI n.version, .mp 2 0, .ref 3 0, pI n.round, pI n.low])), (5, (0, .dead))] (.ref 5 0) [(5, (0, .row 56 7 ((a2m n proc).map v4v)))] := by
 refine a3u s3s (fn := Tryz.f126) (by kernel_rfl) (by kernel_rfl) rfl (O0 := [.ref 5 0]) 6 4 (a1d rfl) (by rfl) (by repeat (first | exact BndH.nil | refine BndH.dead ?_ | refine BndH.box rfl ?_ | refine BndH.row (a0n fun _ => rfl) ?_ | refine BndH.map (b4c _ _) ?_ )) (by repeat (first | exact BndH.nil | refine BndH.row (a0n fun _ => rfl) ?_ )) (by rfl) fun γ => ?_
 show Ex Tryz.prog _ _ [(0, .ptr 4 (γ 4) 0), (1, .pv (.int .i64 proc))] [(0, ((γ 0), .row 41 3 ((n.lanes).map fun l => a2h l.base))), (1, ((γ 1), .row 42 1 ((n.lanes).map fun l => [b2y c l.done]))), (2, ((γ 2), .map (c6h c n.views))), (3, ((γ 3), .row 3 1 (n.known.map a6c))), (4, ((γ 4), .box 164 [pI n.id, pI n.inc, pI n.g, pI n.led, .ref 0 (γ 0), a1y c n.kept, a0p c n.outs, .pv (.bool n.up), .ref 1 (γ 1), pI n.version, .mp 2 (γ 2), .ref 3 (γ 3), pI n.round, pI n.low])), (5, ((γ 5), .dead)), (9, (0, .dead)), (8, (0, .dead)), (7, (0, .dead)), (6, (0, .dead))] _
 refine exR (d8v (id := 6) rfl rfl rfl rfl (d8v (id := 7) rfl rfl rfl rfl (x0x rfl (exR (v3v rfl f2c rfl rfl ?_)))))
 refine rlM [0, 1, 2, 3, 4, 9] [_, _, _, _, _, _] (c0q c n (by omega) hlen) rfl rfl rfl ?_
 refine x0x rfl (x2x fun K1 hK1 => ?_)
 refine exR (x4x rfl (y0y ?_))
 refine z3z (ι := Nat) (fun i γ1 => [(5, .ref 9 (γ1 9)), (9, pI (i : Int))]) (fun i γ1 => [(9, ((γ1 9), .row 56 7 ((a2c n ++ a1g n i).map v4v))), (8, ((γ1 8), .dead))]) (fun i => i ≤ 3) (fun i => 3 - i) (cK [2, 3] rfl) (hK [0, 1, 2, 3, 4, 5, 6, 7] rfl) 0 (by omega) [0, 0, 0, 0, 0, 0, 0, 0, _, _] cv (HE.row rfl (by simp [a1g]) (HE.kill rfl HE.nil)) rfl fun i γ1 hi => ?_
 refine exR (v1v rfl rfl rfl (x2x fun K2 hK2 => ?_))
 refine y2y rfl ?_ ?_<;>intro o<;>try simp at o
 ·obtain rfl : i = 3 := by omega
  refine z4z (hK1 _ _ (a1e 5 rfl rfl (fun _ => rfl) ?_))
  refine exR (x4x rfl (d2o rfl rfl ?_))
  refine rlM [0, 1, 2, 3, 4, 7, 6] [_, _, _, _, _, _, _] (a9d c n proc _ (by rw [List.length_append]; omega)) rfl rfl rfl ?_
  refine rlM [5] [_] (c0p true _ (Nat.le_trans (List.length_filter_le _ _) (by rw [List.length_append]; omega))) rfl rfl rfl ?_
  refine x0x rfl (x6x ?_)
  exact ⟨.inr rfl, [γ 0, γ 1, γ 2, γ 3, γ 4, _], rfl, rfl, hv⟩
 obtain ⟨v, hv⟩ := gE n.views i
 have hg : n.views.getD i vi0 = v := by rw [List.getD_eq_getElem?_getD, hv]; rfl
 have hol := d0i n (i := i + 1) (by omega)
 rw [a3k] at hol
 refine x7x (hK2 _ _ (x2x fun K4 hK4 => ?_))
 refine y0y (exA 2 rfl rfl (exA 7 rfl rfl (y2y rfl ?_ ?_)))<;>intro hc5<;>try simp at hc5
 ·have hve : b3i n i = [] := by rw [b3i, if_pos hc5]
  refine x7x (hK4 _ _ (exG (p7p rfl rfl rfl (x4x rfl ?_))))
  exact ⟨i + 1, ⟨by omega, by omega⟩, [0, 0, 0, 0, 0, 0, 0, 0, _, _], (y3y 5 rfl (Cov.cons' (t := 9) rfl (by rw [u2u (by omega) (by omega)]; rfl) Cov.nil)), (y3y 2 rfl (y3y 3 rfl Cov.nil)), (HE.row rfl (by rw [a3k, hve]; simp) (HE.kill rfl HE.nil)), (z0z 0 rfl (z0z 1 rfl (z0z 2 rfl (z0z 3 rfl (z0z 4 rfl (z0z 5 rfl (z0z 6 rfl (z0z 7 rfl HE.nil)))))))), rfl⟩
 have hve : b3i n i = v.events := by rw [b3i, if_neg hc5, hg]
 rw [hve] at hol
 simp only [a0q] at hol
 refine exG (x1x 6 rfl rfl ?_)
 refine a5y (κ := Int) (enc := fun n => .int .i64 n) (ks := c4t n.views.length) (k := (i : Int)) (out := .agg (a4g c v)) s3s Tryz.underlying162 (c1q Tryz.underlying3) rfl rfl (fun _ _ _ h => e8x h) rfl (d1o _ _) (e3h hv) ?_
 refine e4i rfl p0p rfl rfl u9u rfl ?_
 refine s1s (zs := (a2c n ++ a1g n i ++ v.events).map v4v) rfl rfl u9u rfl u0u rfl rfl rfl (w3w (fun _ => rfl) _) (a9u _ _ _) (by have hb56 : T56.bytes = 56 := rfl; rw [List.length_map, hb56]; simp only [a0q]; omega) ?_
 refine x0x rfl (hK4 _ _ (exG (p7p rfl rfl rfl (x4x rfl ?_))))
 exact ⟨i + 1, ⟨by omega, by omega⟩, [0, 0, 0, 0, 0, 0, 0, 0, _, _], (y3y 5 rfl (Cov.cons' (t := 9) rfl (by rw [u2u (by omega) (by omega)]; rfl) Cov.nil)), (y3y 2 rfl (y3y 3 rfl Cov.nil)), (HE.row rfl (by rw [a3k, hve]; simp) (HE.kill rfl HE.nil)), (z0z 0 rfl (z0z 1 rfl (z0z 2 rfl (z0z 3 rfl (z0z 4 rfl (z0z 5 rfl (z0z 6 rfl (z0z 7 rfl HE.nil)))))))), rfl⟩
end
section
theorem c0s (c : Bool) (p : Pa) (ps : List Pa) : Meth Tryz.prog 236 1 [0] [.ptr 0 0 0, .agg (a3l c p)] [(0, (0, .chn 256 259 ((ps).map (a3l c))))] (.tup []) [(0, (0, .chn 256 259 ((ps ++ [p]).map (a3l c))))] := by
 refine a3u s3s (fn := Tryz.f236) (by kernel_rfl) (by kernel_rfl) rfl (O0 := []) 1 2 (a1d rfl) (by rfl) (by repeat (first | exact BndH.nil | refine BndH.chn ?_)) (by repeat (first | exact BndH.nil | refine BndH.chn ?_)) (by rfl) fun γ => ?_
 show Ex Tryz.prog _ _ [(0, .ptr 0 (γ 0) 0), (1, .agg (a3l c p))] [(0, ((γ 0), .chn 256 259 ((ps).map (a3l c)))), (2, (0, .dead)), (1, (0, .dead))] _
 refine e9b (e7l 0 rfl fun b0 bs hbl hbn => ?_)
 have hbl2 : bs.length = ps.length := by rw [hbl, List.length_map]
 refine exR (z7z (id := 1) rfl rfl rfl (exR (x5x rfl r5r rfl rfl rfl (rlB d4i f2n ?_))))
 refine z7z (id := 2) rfl rfl rfl (x0x rfl (x2x fun K1 hK1 => ?_))
 refine e0b 4 0 2 rfl rfl (by intro h; cases h) rfl rfl rfl fun bn hbn2 => ?_
 refine exA 3 rfl rfl ?_
 refine c7d s3s (out := .pv (b4y bs.getLast?)) rfl b2j rfl rfl ?_
 refine b0t rfl rfl (by intro a c h h2; cases h; cases h2; rfl) (.inl rfl) (d9s (by kernel_rfl) _ _ _) ?_
 refine x8x rfl ?_ ?_<;>intro hc2<;>try simp at hc2
 ·obtain rfl : bs = [] := by cases bs with | nil => rfl | cons b r => (simp [List.getLast?_cons, a2t] at hc2)
  obtain rfl : ps = [] := List.eq_nil_of_length_eq_zero (by simpa using hbl2.symm)
  refine exG (x1x 4 rfl rfl (c1v s3s rfl rfl b2j rfl rfl rfl rfl rfl (hK1 _ _ (exG (x1x 4 rfl rfl (c1v s3s rfl rfl b2j rfl rfl rfl rfl rfl (Conv.step (c7a 0 b0 256 259 ([bn]) ([a3l c p]) rfl rfl rfl) (Conv.done ?_))))))))
  exact ⟨.inl rfl, [γ 0], rfl, rfl, hv⟩
 obtain ⟨bs0, bl, rfl⟩ := d9z (l := bs) hc2
 obtain ⟨ps0, pl, rfl⟩ := d9z (l := ps) (by rintro rfl; simp at hbl2)
 refine exG (x4x rfl (f2p rfl rfl (y1y rfl e7g rfl rfl b2j rfl rfl ?_)))
 refine c7d s3s (out := PQ bl 0) rfl b2j rfl (by rw [List.getLast?_concat]; rfl) ?_
 refine x4x rfl ?_
 refine d2p rfl ?_
 refine a7y s3s rfl d4i rfl rfl b2j rfl ?_
 refine e0c s3s (bty := 259) ((b0, 256, [.pv (b4y (bs0 ++ [bl]).head?), .pv (b4y (bs0 ++ [bl]).getLast?)]) :: c5f 259 (some bl) bs0 (ps0.map (a3l c))) [(bn, 259, a3l c p ++ [.pv (.pointer none)])] (cs := a3l c pl ++ [.pv (.pointer none)]) 0 rfl rfl b2j rfl rfl rfl (by rw [chB, List.map_append, List.map_cons, List.map_nil, c9z (by rw [List.length_map]; simpa using hbl2)]; simp [b4y]) (a1d rfl) rfl ?_
 refine hK1 _ _ (exG (x1x 4 rfl rfl (c1v s3s rfl rfl b2j rfl rfl rfl rfl rfl ?_)))
 refine Conv.step (c7a 0 b0 256 259 (bs0 ++ [bl] ++ [bn]) (((ps0 ++ [pl]) ++ [p]).map (a3l c)) rfl (by simp at hbl2 ⊢; exact hbl2) (by rw [List.map_append, List.map_cons (l := []), List.map_nil, e4u (by rw [List.length_map]; exact hbl2), List.map_append, List.map_cons, List.map_nil, c9z (by rw [List.length_map]; simpa using hbl2)]; cases bs0 <;> simp [b4y] <;> rfl)) (Conv.done ?_)
 exact ⟨.inl rfl, [γ 0], rfl, rfl, hv⟩
theorem c5e (c : Bool) (l : List Pa) : Meth Tryz.prog 131 1 [] [b2y c l] [(0, (0, .dead))] (.ptr 0 0 0) [(0, (0, .chn 256 259 ((l).map (a3l c))))] := by
 refine mX Tryz.f131 [.ptr 0 0 0] 1 1 fun γ => ?_
 refine p2p 0 rfl fun hlen => ?_
 refine exR (x0x rfl (exR (rlB e7g f2m ?_)))
 refine z7z (id := 0) rfl rfl rfl (x0x rfl (x2x fun K1 hK1 => ?_))
 refine exR (x4x rfl (z2z rfl r0r rfl (x4x rfl (y0y (e0a 0 259 rfl ?_)))))
 refine z3z (ι := Nat) (fun i γ1 => [(10, pI (i : Int))]) (fun i γ1 => [(0, ((γ 0 + 1), .chn 256 259 ((l.take i).map (a3l c)))), (1, ((γ1 1), .dead))]) (fun i => i ≤ l.length) (fun i => l.length - i) (cK [3, 8, 9] rfl) HE.nil 0 (by omega) [0, _] cv (HE.chn rfl (by rw [List.take_zero]; rfl) (HE.kill rfl HE.nil)) rfl fun i γ1 hi => ?_
 refine exR (v1v rfl rfl rfl (x2x fun K2 hK2 => ?_))
 refine y2y rfl ?_ ?_<;>intro o<;>try simp at o
 ·obtain rfl : i = l.length := by omega
  refine z4z (hK1 _ _ (exA 2 rfl rfl (x6x ?_)))
  rw [List.take_length]
  exact ⟨.inr rfl, [_], rfl, rfl, hv⟩
 obtain ⟨p, hp⟩ := gE l i
 refine x7x (hK2 _ _ (x2x fun K4 hK4 => ?_))
 refine y0y (exR (y8y rfl rfl r0r rfl r5r rfl (by assumption) ?_))
 refine u4u rfl r5r rfl rfl (y7y (id := 1) r5r c0e rfl (x3x rfl rfl r5r rfl rfl rfl rfl (exG (x1x 2 rfl rfl ?_))))
 refine rlM [0] [_] (c0s c p (l.take i)) rfl rfl rfl ?_
 refine hK4 _ _ (exG (z5z (b := 1) rfl rfl (by omega) (x4x rfl ?_)))
 exact ⟨i + 1, ⟨by omega, by omega⟩, [0, _], cv, cv, (HE.chn rfl (by rw [w0w hp]) (HE.kill rfl HE.nil)), hv, rfl⟩
theorem b4h (c c' : Bool) (ps : List Pa) (s : List Ev) : Meth Tryz.prog 132 1 [0] [.ptr 0 0 0, a1y c' s] [(0, (0, .chn 256 259 ((ps).map (a3l c))))] (.pv (.int .i64 (same ps s : Int))) [] := by
 refine mX Tryz.f132 [.pv (.int .i64 (same ps s : Int))] 1 0 fun γ => ?_
 refine p2p 1 rfl fun hlen => ?_
 refine e7l 0 rfl fun b0 bs hbl hbn => ?_
 have hbl2 : bs.length = ps.length := by rw [hbl, List.length_map]
 refine exR (x0x rfl (exR (x0x rfl (x2x fun K1 hK1 => ?_))))
 refine exA 3 rfl rfl ?_
 refine c7d s3s (out := .pv (b4y bs.head?)) rfl b2j rfl rfl ?_
 refine x0x rfl (y0y ?_)
 refine z3z (ι := Nat) (fun i γ1 => [(5, pI (i : Int)), (6, .pv (b4y bs[i]?))]) (fun i γ1 => []) (fun i => i ≤ ps.length ∧ i ≤ s.length ∧ same ps s = i + same (ps.drop i) (s.drop i)) (fun i => ps.length - i) (y3y 1 rfl Cov.nil) (z0z 0 rfl HE.nil) 0 ⟨by omega, by omega, by rw [List.drop_zero, List.drop_zero, Nat.zero_add]⟩ [] (y3y 5 rfl (Cov.cons' (t := 6) rfl ((by rw [List.head?_eq_getElem?])) Cov.nil)) hv rfl fun i γ1 hi => ?_
 obtain ⟨h1, h2, h3⟩ := hi
 refine x2x fun K2 hK2 => ?_
 refine exD (x4x rfl (b0t rfl rfl (by intro a c h h2; cases h; cases h2; rfl) (.inr rfl) (d9s (by kernel_rfl) _ _ _) ?_))
 refine x4x rfl (z6z rfl rfl ?_ ?_)<;>intro o<;>try simp at o
 ·have g1 : ps.length ≤ i := by omega
  refine x1x 16 rfl rfl ⟨by kernel_rfl, x8x rfl (fun hc8 => ?_) (fun hc8 => ?_)⟩
  ·simp at hc8
  try simp at hc8
  try have heq : ¬ p.ev = e := by simpa [a2t] using hc8
  refine z4z (hK1 _ _ (exA 2 rfl rfl (c7b 0 b0 256 259 (bs) (ps.map (a3l c)) rfl hbl rfl ?_)))
  refine x6x ?_
  refine ⟨.inr rfl, [γ 0], rfl, ?_, HE.same rfl HE.nil⟩
  exact congrArg (fun v : Nat => some [AV.pv (.int .i64 (v : Int))]) (h3.trans (by rw [d0l g1]; rfl)).symm
 obtain ⟨b, hb⟩ := gE bs i
 rw [hb]
 have g1 : i < ps.length := by have := (List.getElem?_eq_some_iff.1 hb).1; omega
 obtain ⟨p, hp⟩ := gE ps i
 refine x1x 2 rfl rfl (z1z rfl rfl (z2z rfl u9u rfl (x1x 3 rfl rfl (z6z rfl rfl ?_ ?_))))<;>intro o<;>try simp at o
 ·have g2 : s.length ≤ i := by omega
  refine x1x 10 rfl rfl ⟨by kernel_rfl, x8x rfl (fun hc7 => ?_) (fun hc7 => ?_)⟩
  ·simp at hc7
  try simp at hc7
  try have heq : ¬ p.ev = e := by simpa [a2t] using hc7
  refine z4z (hK1 _ _ (exA 2 rfl rfl (c7b 0 b0 256 259 (bs) (ps.map (a3l c)) rfl hbl rfl ?_)))
  refine x6x ?_
  refine ⟨.inr rfl, [γ 0], rfl, ?_, HE.same rfl HE.nil⟩
  exact congrArg (fun v : Nat => some [AV.pv (.int .i64 (v : Int))]) (h3.trans (by rw [d0m g2]; rfl)).symm
 have g2 : i < s.length := by omega
 obtain ⟨e, he⟩ := gE s i
 refine x4x rfl (z1z rfl rfl (d2p rfl (z1z rfl rfl (a7y s3s rfl d4i rfl rfl r5r rfl (z1z rfl rfl (a7y s3s rfl r5r rfl rfl u0u rfl (z1z rfl rfl ?_)))))))
 refine d4t s3s (out := .agg (v4v p.ev)) 0 rfl u0u rfl (d9y hbl hb (c7z hp)) rfl ?_
 refine x1x 2 rfl rfl (z1z rfl rfl (y8y rfl rfl u9u rfl u0u rfl he (z1z rfl rfl ?_)))
 refine v9v (out := .agg (v4v e)) rfl u0u rfl ?_
 refine z1z rfl rfl (b0t rfl rfl (by intro a c h; cases h) (.inl rfl) (f0j _ _ _ _) ?_)
 refine b1s rfl rfl ⟨by kernel_rfl, y2y rfl ?_ ?_⟩<;>intro hc5<;>try simp at hc5
 ·try have heq : ¬ p.ev = e := by simpa [a2t] using hc5
  refine z4z (hK1 _ _ (exA 2 rfl rfl (c7b 0 b0 256 259 (bs) (ps.map (a3l c)) rfl hbl rfl ?_)))
  refine x6x ?_
  refine ⟨.inr rfl, [γ 0], rfl, ?_, HE.same rfl HE.nil⟩
  exact congrArg (fun v : Nat => some [AV.pv (.int .i64 (v : Int))]) (h3.trans (by rw [d0k hp he heq]; rfl)).symm
 try have heq : p.ev = e := by simpa [a2t] using hc5
 refine x7x (hK2 _ _ (x2x fun K6 hK6 => ?_))
 refine y0y (exG (x4x rfl (z5z (b := 1) rfl rfl (by omega) (x0x rfl (hK6 _ _ (exG (x4x rfl (d2p rfl (a7y s3s rfl d4i rfl rfl b2j rfl ?_)))))))))
 refine d4t s3s (out := .pv (b4y bs[i + 1]?)) 0 rfl b2j rfl (d9y hbl hb (c7z hp)) rfl ?_
 refine x0x rfl ?_
 exact ⟨i + 1, ⟨⟨by omega, by omega, by rw [h3, d0j hp he heq]; omega⟩, by omega⟩, [], cv, cv, hv, hv, rfl⟩
end
section
theorem a8i (c : Bool) (n : Nd) : a1o Tryz.prog 38 [.agg (w6w c n)] (.pv (.bool (kb (u3u n)))) := by
 refine pX Tryz.f38 [.pv (.bool (kb (u3u n)))] 8 ?_
 have hpl := a5z n.id 4
 refine exR (z7z (id := 0) rfl rfl rfl (x0x rfl (x2x fun K1 hK1 => ?_)))
 refine exR (x5x rfl y5y rfl rfl rfl (x9x rfl rfl rfl (c4q ..) (a1k rfl (x8x rfl ?_ ?_))))<;>intro hc2<;>try simp at hc2
 ·try have hX : ¬ a2p n := a0z (by simpa using hc2)
  refine exR (x0x rfl (x6x ⟨.inr rfl, ?_⟩))
  refine y6y rfl ?_ rfl
  exact congrArg (fun b : Bool => [AV.pv (.bool b)]) (a5s (fun h => hX h.1))
 have fS : a2p n := a1x.1 (by simpa using hc2)
 have fB := r8r fS
 have fL := fS.2.2.2.2.1
 have fV := fS.2.2.2.2.2.1
 refine x7x (hK1 _ _ (exR (x5x rfl y5y rfl rfl rfl ?_)))
 refine rlM [1, 2, 3, 4, 5] [_, _, _, _, _] (c8v c n (by omega) (by omega) fS.2.2.2.2.2.2.1) rfl rfl rfl ?_
 refine x0x rfl (x2x fun K3 hK3 => ?_)
 refine exA 2 rfl rfl (x9x rfl rfl rfl (b0a ..) (z2z rfl q1q rfl (x4x rfl (y0y ?_))))
 refine z3z (ι := Nat) (fun j γ1 => [(16, pI (j : Int))]) (fun j γ1 => [(6, ((γ1 6), .dead)), (7, ((γ1 7), .dead))]) (fun j => j ≤ (a0b n.id 4).length ∧ c8y n.lanes (fun j l => ∀ p, (a0b n.id 4)[j]? = some p → l.done.length ≤ same l.done (a2m n p) ∧ (a2m n p).length ≤ 100) j) (fun j => (a0b n.id 4).length - j) (cK [3, 14, 15] rfl) (hK [0, 1, 2, 3, 4, 5] rfl) 0 ⟨by omega, a2l⟩ [0, 0, 0, 0, 0, 0, _, _] cv hv rfl fun j γ1 hi => ?_
 obtain ⟨d1, d2⟩ := hi
 refine exR (v1v rfl rfl rfl (x2x fun K4 hK4 => ?_))
 refine y2y rfl ?_ ?_<;>intro o<;>try simp at o
 ·have fC := fun (i : Nat) p l (a : (a0b n.id 4)[i]? = some p) (b : n.lanes[i]? = some l) => a4b d2 (by omega) i l b p a
  refine z4z (hK3 _ _ (exR (x0x rfl (x6x ⟨.inr rfl, ?_⟩))))
  refine y6y rfl ?_ rfl
  exact congrArg (fun b : Bool => [AV.pv (.bool b)]) (d7y ⟨fS, fC⟩)
 obtain ⟨l, hl⟩ := gE n.lanes j
 obtain ⟨p, hp⟩ := gE (a0b n.id 4) j
 obtain ⟨hdl, _⟩ := a3v (fS.2.2.2.2.2.2.2.1 j l hl).2
 refine x7x (hK4 _ _ (x2x fun K6 hK6 => ?_))
 refine y0y (exR (x4x rfl (y8y rfl rfl q1q rfl q5q rfl hp (x1x 3 rfl rfl (exA 2 rfl rfl ?_)))))
 refine rlM [1, 2, 3, 4, 5, 6] [_, _, _, _, _, _] (c0r c n p (b4r fS) (by omega) fS.2.2.2.2.2.1) rfl rfl rfl ?_
 refine x0x rfl (a1e 6 rfl rfl (fun _ => rfl) ?_)
 refine exD (x4x rfl (z2z rfl u9u rfl (x1x 2 rfl rfl (z6z rfl rfl ?_ ?_))))<;>intro o<;>try simp at o
 ·refine x1x 19 rfl rfl ⟨by kernel_rfl, x8x rfl (fun hc9 => ?_) (fun hc9 => ?_)⟩
  rotate_left
  ·simp at hc9
  try simp at hc9
  refine exR (x0x rfl (x6x ⟨.inr rfl, ?_⟩))
  refine y6y rfl ?_ rfl
  exact congrArg (fun b : Bool => [AV.pv (.bool b)]) (a5s (fun h => by have := h.2 _ _ _ hp hl; omega))
 refine x1x 5 rfl rfl (z1z rfl rfl ?_)
 refine v2v (j := j) rfl rfl b9x rfl r0r rfl rfl (v5v hl) ?_
 refine z1z rfl rfl (a1h rfl r0r rfl hl rfl (z1z rfl rfl ?_))
 refine rlM [7] [_] (c5e c l.done) rfl rfl rfl ?_
 refine z1z rfl rfl (x4x rfl (z1z rfl rfl ?_))
 refine rlM [7] [_] (b4h c true l.done (a2m n p)) rfl rfl rfl ?_
 refine x1x 5 rfl rfl (z1z rfl rfl ?_)
 refine v2v (j := j) rfl rfl b9x rfl r0r rfl rfl (v5v hl) ?_
 refine z1z rfl rfl (a1h rfl r0r rfl hl rfl (z1z rfl rfl (z2z rfl r0r rfl (x1x 2 rfl rfl ⟨by kernel_rfl, y2y rfl ?_ ?_⟩))))<;>intro o<;>try simp at o
 ·refine x7x (hK6 _ _ (exG (z5z (b := 1) rfl rfl (by omega) (x4x rfl ?_))))
  exact ⟨j + 1, ⟨⟨by omega, a0u d2 hl (fun p2 hp2 => by rw [hp] at hp2; cases hp2; omega)⟩, by omega⟩, [0, 0, 0, 0, 0, 0, _, _], cv, cv, hv, hv, rfl⟩
 refine exR (x0x rfl (x6x ⟨.inr rfl, ?_⟩))
 refine y6y rfl ?_ rfl
 exact congrArg (fun b : Bool => [AV.pv (.bool b)]) (a5s (fun h => by have := h.2 _ _ _ hp hl; omega))
end
section
theorem c3v (c : Bool) (p : Pa) (hs : p.sends.length ≤ 1048576) (ho : p.outs.length ≤ 1048576) : Meth Tryz.prog 222 2 [] [.agg (a3l c p)] [(0, (0, .dead)), (1, (0, .dead))] (.agg [pI p.ev.time, pI p.ev.to, pI p.ev.from', pI p.ev.count, pI p.ev.n, pI p.ev.kind, pI p.ev.arg, pI p.after.x, pI p.after.y, pI p.after.count, .ref 0 0, .ref 1 0]) [(0, (0, .row 56 7 (p.sends.map v4v))), (1, (0, .row 141 5 (p.outs.map a0c)))] := by
 refine mX Tryz.f222 [.agg [pI p.ev.time, pI p.ev.to, pI p.ev.from', pI p.ev.count, pI p.ev.n, pI p.ev.kind, pI p.ev.arg, pI p.after.x, pI p.after.y, pI p.after.count, .ref 0 0, .ref 1 0]] 2 2 fun γ => ?_
 refine exR (z7z (id := 2) rfl rfl rfl (y7y (id := 3) r5r c0e rfl (exA 2 rfl rfl ?_)))
 refine rlM [0] [_] (s0s c p.sends (by omega)) rfl rfl rfl ?_
 refine y1y rfl r5r rfl rfl u9u rfl rfl (y9y rfl rfl u9u rfl rfl rfl rfl rfl (by simp only [a0y]; rfl) ?_)
 refine exA 2 rfl rfl ?_
 refine rlM [1] [_] (a2s c p.outs (by omega)) rfl rfl rfl ?_
 refine y1y rfl r5r rfl rfl q8q rfl rfl (y9y rfl rfl q8q rfl rfl rfl rfl rfl (by simp only [a0y]; rfl) ?_)
 refine exR (x5x rfl r5r rfl rfl rfl (x3x rfl rfl r5r rfl rfl rfl rfl (x6x ?_)))
 exact ⟨.inr rfl, [_, _], rfl, rfl, hv⟩
theorem b0h (c : Bool) (l : List Pa) (hl : e9m l ≤ 1048576) : Meth Tryz.prog 221 1 [] [b2y c l, .fn (.func 222) [] []] [(0, (0, .dead))] (.ref 0 0) [(0, (0, .row 58 12 (l.map b5g)))] := by
 refine mX Tryz.f221 [.ref 0 0] 1 3 fun γ => ?_
 have hc : e9m l = l.length + szs cPa l := rfl
 refine p2p 0 rfl fun hlen => ?_
 refine exR (x0x rfl (x2x fun K1 hK1 => ?_))
 refine exR (x4x rfl (z2z rfl r0r rfl (v1v rfl rfl rfl (x8x rfl ?_ ?_))))<;>intro hc2<;>try simp at hc2
 ·obtain rfl : l = [] := List.eq_nil_of_length_eq_zero (by simpa using hc2)
  refine exR (x0x rfl (a7d 4 0 58 12 rfl rfl (x6x ?_)))
  exact ⟨.inr rfl, [_], rfl, rfl, hv⟩
 refine x7x (hK1 _ _ (exR (x4x rfl (z2z rfl r0r rfl ?_))))
 refine c1o (id := 0) r0r rfl r5r c0e rfl rfl rfl rfl (by (simp only [a0w, a0q, a0v, a0x, a1t, a3w, T58]; omega)) rfl ?_
 refine x0x rfl (x2x fun K3 hK3 => ?_)
 refine exR (x4x rfl (z2z rfl r0r rfl (x4x rfl (y0y ?_))))
 refine z3z (ι := Nat) (fun i γ1 => [(16, pI (i : Int))]) (fun i γ1 => [(2, ((γ1 2), .dead)), (3, ((γ1 3), .dead)), (0, ((γ 0 + 1), .row 58 12 ((l.take i).map b5g ++ (l.drop i).map fun _ => [pI 0, pI 0, pI 0, pI 0, pI 0, pI 0, pI 0, pI 0, pI 0, pI 0, .pv (.slice none 0 0), .pv (.slice none 0 0)]))), (1, ((γ1 1), .dead))]) (fun i => i ≤ l.length) (fun i => l.length - i) (cK [1, 5, 14, 15] rfl) HE.nil 0 (by omega) [0, _, _, _] cv (HE.kill rfl (HE.kill rfl (HE.row rfl (by rw [List.take_zero, List.drop_zero, List.map_const']; rfl) (HE.kill rfl HE.nil)))) rfl fun i γ1 hi => ?_
 refine exR (v1v rfl rfl rfl (x2x fun K4 hK4 => ?_))
 refine y2y rfl ?_ ?_<;>intro h<;>try simp at h
 ·obtain rfl : i = l.length := by omega
  refine z4z (hK3 _ _ (exA 2 rfl rfl (x6x ?_)))
  exact ⟨.inr rfl, [_], rfl, rfl, HE.row rfl (by rw [List.take_length, List.drop_length, List.map_nil, List.append_nil]) HE.nil⟩
 obtain ⟨p, hp⟩ := gE l i
 have hAl : ((l.take i).map b5g).length = i := by rw [List.length_map, List.length_take]; omega
 rw [s2s hp, List.map_cons]
 have hat := e0p cPa hp
 have hcp : cPa p = p.sends.length + p.outs.length := rfl
 refine x7x (hK4 _ _ (x2x fun K6 hK6 => ?_))
 refine y0y (exR (x4x rfl (y8y rfl rfl r0r rfl r5r rfl (by assumption) ?_)))
 refine u4u rfl r5r rfl rfl (y7y (id := 1) r5r c0e rfl (x0x rfl (x3x rfl rfl r5r rfl rfl rfl rfl (exG (x1x 4 rfl rfl ?_)))))
 refine rlM [2, 3] [_, _] (c3v c p (by omega) (by omega)) rfl rfl rfl ?_
 refine b3e rfl rfl r0r rfl r5r rfl rfl hAl (b0u hAl rfl rfl r5r rfl rfl rfl rfl (f3i rfl rfl rfl) rfl ?_)
 refine hK6 _ _ (exG (p7p rfl rfl rfl (x4x rfl ?_)))
 exact ⟨i + 1, ⟨by omega, by omega⟩, [0, _, _, _], (Cov.cons' (t := 16) rfl (by rw [u2u (by omega) (by omega)]; rfl) Cov.nil), cv, (HE.kill rfl (HE.kill rfl (HE.row rfl (by rw [w0w hp, List.map_append, List.append_assoc]; rfl) (HE.kill rfl HE.nil)))), hv, rfl⟩
theorem c3w (c : Bool) (p : La) (hs : e9m p.done ≤ 1048576) : Meth Tryz.prog 115 1 [] [.agg (a0f c p)] [(0, (0, .dead))] (.agg [pI p.proc, pI p.base.x, pI p.base.y, pI p.base.count, .ref 0 0]) [(0, (0, .row 58 12 (p.done.map b5g)))] := by
 refine mX Tryz.f115 [.agg [pI p.proc, pI p.base.x, pI p.base.y, pI p.base.count, .ref 0 0]] 1 2 fun γ => ?_
 refine exR (z7z (id := 1) rfl rfl rfl (y7y (id := 2) v6v a7p rfl (exA 2 rfl rfl ?_)))
 refine rlM [0] [_] (b0h c p.done hs) rfl rfl rfl ?_
 refine y1y rfl v6v rfl rfl r0r rfl rfl (y9y rfl rfl r0r rfl rfl rfl rfl rfl (by simp only [a0y]; rfl) ?_)
 refine exR (x5x rfl v6v rfl rfl rfl (x3x rfl rfl v6v rfl rfl rfl rfl (x6x ?_)))
 exact ⟨.inr rfl, [_], rfl, rfl, hv⟩
theorem b0i (c : Bool) (l : List La) (hl : e0q l ≤ 1048576) : Meth Tryz.prog 244 1 [] [b8a c l, .fn (.func 115) [] []] [(0, (0, .dead))] (.ref 0 0) [(0, (0, .row 44 5 (l.map b1e)))] := by
 refine mX Tryz.f244 [.ref 0 0] 1 2 fun γ => ?_
 have hc : e0q l = l.length + szs cLa l := rfl
 refine p2p 0 rfl fun hlen => ?_
 refine exR (x0x rfl (x2x fun K1 hK1 => ?_))
 refine exR (x4x rfl (z2z rfl q6q rfl (v1v rfl rfl rfl (x8x rfl ?_ ?_))))<;>intro hc2<;>try simp at hc2
 ·obtain rfl : l = [] := List.eq_nil_of_length_eq_zero (by simpa using hc2)
  refine exR (x0x rfl (a7d 4 0 44 5 rfl rfl (x6x ?_)))
  exact ⟨.inr rfl, [_], rfl, rfl, hv⟩
 refine x7x (hK1 _ _ (exR (x4x rfl (z2z rfl q6q rfl ?_))))
 refine c1o (id := 0) q6q rfl v6v a7p rfl rfl rfl rfl (by (simp only [a0w, a0q, a0v, a0x, a1t, a3w, T44]; omega)) rfl ?_
 refine x0x rfl (x2x fun K3 hK3 => ?_)
 refine exR (x4x rfl (z2z rfl q6q rfl (x4x rfl (y0y ?_))))
 refine z3z (ι := Nat) (fun i γ1 => [(16, pI (i : Int))]) (fun i γ1 => [(2, ((γ1 2), .dead)), (0, ((γ 0 + 1), .row 44 5 ((l.take i).map b1e ++ (l.drop i).map fun _ => [pI 0, pI 0, pI 0, pI 0, .pv (.slice none 0 0)]))), (1, ((γ1 1), .dead))]) (fun i => i ≤ l.length) (fun i => l.length - i) (cK [1, 5, 14, 15] rfl) HE.nil 0 (by omega) [0, _, _] cv (HE.kill rfl (HE.row rfl (by rw [List.take_zero, List.drop_zero, List.map_const']; rfl) (HE.kill rfl HE.nil))) rfl fun i γ1 hi => ?_
 refine exR (v1v rfl rfl rfl (x2x fun K4 hK4 => ?_))
 refine y2y rfl ?_ ?_<;>intro h<;>try simp at h
 ·obtain rfl : i = l.length := by omega
  refine z4z (hK3 _ _ (exA 2 rfl rfl (x6x ?_)))
  exact ⟨.inr rfl, [_], rfl, rfl, HE.row rfl (by rw [List.take_length, List.drop_length, List.map_nil, List.append_nil]) HE.nil⟩
 obtain ⟨p, hp⟩ := gE l i
 have hAl : ((l.take i).map b1e).length = i := by rw [List.length_map, List.length_take]; omega
 rw [s2s hp, List.map_cons]
 have hat := e0p cLa hp
 have hcp : cLa p = e9m p.done := rfl
 refine x7x (hK4 _ _ (x2x fun K6 hK6 => ?_))
 refine y0y (exR (x4x rfl (y8y rfl rfl q6q rfl v6v rfl (by assumption) ?_)))
 refine u4u rfl v6v rfl rfl (y7y (id := 1) v6v a7p rfl (x0x rfl (x3x rfl rfl v6v rfl rfl rfl rfl (exG (x1x 4 rfl rfl ?_)))))
 refine rlM [2] [_] (c3w c p (by omega)) rfl rfl rfl ?_
 refine b3e rfl rfl q6q rfl v6v rfl rfl hAl (b0u hAl rfl rfl v6v rfl rfl rfl rfl (f3j rfl) rfl ?_)
 refine hK6 _ _ (exG (p7p rfl rfl rfl (x4x rfl ?_)))
 exact ⟨i + 1, ⟨by omega, by omega⟩, [0, _, _], (Cov.cons' (t := 16) rfl (by rw [u2u (by omega) (by omega)]; rfl) Cov.nil), cv, (HE.kill rfl (HE.row rfl (by rw [w0w hp, List.map_append, List.append_assoc]; rfl) (HE.kill rfl HE.nil))), hv, rfl⟩
theorem c3x (c : Bool) (p : Vi) (hs : p.events.length ≤ 1048576) : Meth Tryz.prog 247 1 [] [.agg (a4g c p)] [(0, (0, .dead))] (.agg [pI p.inc, pI p.version, .ref 0 0]) [(0, (0, .row 56 7 (p.events.map v4v)))] := by
 refine mX Tryz.f247 [.agg [pI p.inc, pI p.version, .ref 0 0]] 1 2 fun γ => ?_
 refine exR (z7z (id := 1) rfl rfl rfl (y7y (id := 2) p0p a7w rfl (exA 2 rfl rfl ?_)))
 refine rlM [0] [_] (s0s c p.events (by omega)) rfl rfl rfl ?_
 refine y1y rfl p0p rfl rfl u9u rfl rfl (y9y rfl rfl u9u rfl rfl rfl rfl rfl (by simp only [a0y]; rfl) ?_)
 refine exR (x5x rfl p0p rfl rfl rfl (x3x rfl rfl p0p rfl rfl rfl rfl (x6x ?_)))
 exact ⟨.inr rfl, [_], rfl, rfl, hv⟩
theorem b0j (c : Bool) (l : List Vi) (hl : e9n l ≤ 1048576) : Meth Tryz.prog 246 1 [] [b9h c l, .fn (.func 247) [] []] [(0, (0, .dead))] (.ref 0 0) [(0, (0, .row 190 3 (l.map b1f)))] := by
 refine mX Tryz.f246 [.ref 0 0] 1 2 fun γ => ?_
 have hc : e9n l = l.length + szs cVi l := rfl
 refine p2p 0 rfl fun hlen => ?_
 refine exR (x0x rfl (x2x fun K1 hK1 => ?_))
 refine exR (x4x rfl (z2z rfl s6s rfl (v1v rfl rfl rfl (x8x rfl ?_ ?_))))<;>intro hc2<;>try simp at hc2
 ·obtain rfl : l = [] := List.eq_nil_of_length_eq_zero (by simpa using hc2)
  refine exR (x0x rfl (a7d 4 0 190 3 rfl rfl (x6x ?_)))
  exact ⟨.inr rfl, [_], rfl, rfl, hv⟩
 refine x7x (hK1 _ _ (exR (x4x rfl (z2z rfl s6s rfl ?_))))
 refine c1o (id := 0) s6s rfl p0p a7w rfl rfl rfl rfl (by (simp only [a0w, a0q, a0v, a0x, a1t, a3w, T190]; omega)) rfl ?_
 refine x0x rfl (x2x fun K3 hK3 => ?_)
 refine exR (x4x rfl (z2z rfl s6s rfl (x4x rfl (y0y ?_))))
 refine z3z (ι := Nat) (fun i γ1 => [(16, pI (i : Int))]) (fun i γ1 => [(2, ((γ1 2), .dead)), (0, ((γ 0 + 1), .row 190 3 ((l.take i).map b1f ++ (l.drop i).map fun _ => [pI 0, pI 0, .pv (.slice none 0 0)]))), (1, ((γ1 1), .dead))]) (fun i => i ≤ l.length) (fun i => l.length - i) (cK [1, 5, 14, 15] rfl) HE.nil 0 (by omega) [0, _, _] cv (HE.kill rfl (HE.row rfl (by rw [List.take_zero, List.drop_zero, List.map_const']; rfl) (HE.kill rfl HE.nil))) rfl fun i γ1 hi => ?_
 refine exR (v1v rfl rfl rfl (x2x fun K4 hK4 => ?_))
 refine y2y rfl ?_ ?_<;>intro h<;>try simp at h
 ·obtain rfl : i = l.length := by omega
  refine z4z (hK3 _ _ (exA 2 rfl rfl (x6x ?_)))
  exact ⟨.inr rfl, [_], rfl, rfl, HE.row rfl (by rw [List.take_length, List.drop_length, List.map_nil, List.append_nil]) HE.nil⟩
 obtain ⟨p, hp⟩ := gE l i
 have hAl : ((l.take i).map b1f).length = i := by rw [List.length_map, List.length_take]; omega
 rw [s2s hp, List.map_cons]
 have hat := e0p cVi hp
 have hcp : cVi p = p.events.length := rfl
 refine x7x (hK4 _ _ (x2x fun K6 hK6 => ?_))
 refine y0y (exR (x4x rfl (y8y rfl rfl s6s rfl p0p rfl (by assumption) ?_)))
 refine u4u rfl p0p rfl rfl (y7y (id := 1) p0p a7w rfl (x0x rfl (x3x rfl rfl p0p rfl rfl rfl rfl (exG (x1x 4 rfl rfl ?_)))))
 refine rlM [2] [_] (c3x c p (by omega)) rfl rfl rfl ?_
 refine b3e rfl rfl s6s rfl p0p rfl rfl hAl (b0u hAl rfl rfl p0p rfl rfl rfl rfl (f3k rfl) rfl ?_)
 refine hK6 _ _ (exG (p7p rfl rfl rfl (x4x rfl ?_)))
 exact ⟨i + 1, ⟨by omega, by omega⟩, [0, _, _], (Cov.cons' (t := 16) rfl (by rw [u2u (by omega) (by omega)]; rfl) Cov.nil), cv, (HE.kill rfl (HE.row rfl (by rw [w0w hp, List.map_append, List.append_assoc]; rfl) (HE.kill rfl HE.nil))), hv, rfl⟩
theorem a6h (c : Bool) (n : Nd) (hl : cNd n ≤ 1048576) : Meth Tryz.prog 156 5 [] [.agg (w6w c n)] [(0, (0, .dead)), (1, (0, .dead)), (2, (0, .dead)), (3, (0, .dead)), (4, (0, .dead))] (.agg [pI n.id, .pv (.bool n.up), pI n.inc, pI n.g, .ref 0 0, .ref 1 0, .ref 2 0, pI n.led, pI n.version, .ref 3 0, .ref 4 0, pI n.round, pI n.low]) [(0, (0, .row 44 5 (n.lanes.map b1e))), (1, (0, .row 56 7 (n.kept.map v4v))), (2, (0, .row 141 5 (n.outs.map a0c))), (3, (0, .row 190 3 (n.views.map b1f))), (4, (0, .row 3 1 (n.known.map a6c)))] := by
 refine mX Tryz.f156 [.agg [pI n.id, .pv (.bool n.up), pI n.inc, pI n.g, .ref 0 0, .ref 1 0, .ref 2 0, pI n.led, pI n.version, .ref 3 0, .ref 4 0, pI n.round, pI n.low]] 5 2 fun γ => ?_
 have hc : cNd n = e0q n.lanes + n.kept.length + n.outs.length + e9n n.views + n.known.length := rfl
 refine exR (z7z (id := 5) rfl rfl rfl (y7y (id := 6) y5y s5s rfl (exA 2 rfl rfl ?_)))
 refine rlM [0] [_] (b0i c n.lanes (by omega)) rfl rfl rfl ?_
 refine y1y rfl y5y rfl rfl q6q rfl rfl (y9y rfl rfl q6q rfl rfl rfl rfl rfl (by simp only [a0y]; rfl) ?_)
 refine exA 2 rfl rfl ?_
 refine rlM [1] [_] (s0s c n.kept (by omega)) rfl rfl rfl ?_
 refine y1y rfl y5y rfl rfl u9u rfl rfl (y9y rfl rfl u9u rfl rfl rfl rfl rfl (by simp only [a0y]; rfl) ?_)
 refine exA 2 rfl rfl ?_
 refine rlM [2] [_] (a2s c n.outs (by omega)) rfl rfl rfl ?_
 refine y1y rfl y5y rfl rfl q8q rfl rfl (y9y rfl rfl q8q rfl rfl rfl rfl rfl (by simp only [a0y]; rfl) ?_)
 refine exA 2 rfl rfl ?_
 refine rlM [3] [_] (b0j c n.views (by omega)) rfl rfl rfl ?_
 refine y1y rfl y5y rfl rfl s6s rfl rfl (y9y rfl rfl s6s rfl rfl rfl rfl rfl (by simp only [a0y]; rfl) ?_)
 refine exA 2 rfl rfl ?_
 refine rlM [4] [_] (b2x c n.known (by omega)) rfl rfl rfl ?_
 refine y1y rfl y5y rfl rfl q1q rfl rfl (y9y rfl rfl q1q rfl rfl rfl rfl rfl (by simp only [a0y]; rfl) ?_)
 refine exR (x5x rfl y5y rfl rfl rfl (x3x rfl rfl y5y rfl rfl rfl rfl (x6x ?_)))
 exact ⟨.inr rfl, [_, _, _, _, _], rfl, rfl, hv⟩
end
section
theorem b8l (c : Bool) (n : Nd) (es : List (Value × AV)) (hes : ∀ p ∈ es, p.2.flatA = true) (i : Nat) (l : La) (hl : n.lanes[i]? = some l) (hp : (a0b n.id 4)[i]? = some l.proc) : Meth Tryz.prog 242 5 [0, 1, 2, 3, 4] [.ptr 4 0 0, .pv (.int .i64 (i : Int))] [(0, (0, .row 41 3 ((n.lanes).map fun l => a2h l.base))), (1, (0, .row 42 1 ((n.lanes).map fun _ => [b2y c []]))), (2, (0, .map es)), (3, (0, .row 3 1 (n.known.map a6c))), (4, (0, .box 164 [pI n.id, pI n.inc, pI n.g, pI n.led, .ref 0 0, a1y c n.kept, a0p c n.outs, .pv (.bool n.up), .ref 1 0, pI n.version, .mp 2 0, .ref 3 0, pI n.round, pI n.low]))] (.agg (a0f c (p1p l))) [] := by
 refine a3u s3s (fn := Tryz.f242) (by kernel_rfl) (by kernel_rfl) rfl (O0 := [.agg (a0f c (p1p l))]) 5 1 (a1d rfl) (by rfl) (by repeat (first | exact BndH.nil | refine BndH.box rfl ?_ | refine BndH.row (a0n fun _ => rfl) ?_ | refine BndH.map hes ?_ )) (by repeat (exact BndH.nil )) (by rfl) fun γ => ?_
 show Ex Tryz.prog _ _ [(0, .ptr 4 (γ 4) 0), (1, .pv (.int .i64 (i : Int)))] [(0, ((γ 0), .row 41 3 ((n.lanes).map fun l => a2h l.base))), (1, ((γ 1), .row 42 1 ((n.lanes).map fun _ => [b2y c []]))), (2, ((γ 2), .map es)), (3, ((γ 3), .row 3 1 (n.known.map a6c))), (4, ((γ 4), .box 164 [pI n.id, pI n.inc, pI n.g, pI n.led, .ref 0 (γ 0), a1y c n.kept, a0p c n.outs, .pv (.bool n.up), .ref 1 (γ 1), pI n.version, .mp 2 (γ 2), .ref 3 (γ 3), pI n.round, pI n.low])), (5, (0, .dead))] _
 refine exR (y7y (id := 5) v6v a7p rfl (exD (x1x 5 rfl rfl (x9x rfl rfl rfl (b0a ..) (x4x rfl (y8y rfl rfl q1q rfl q5q rfl hp (x1x 7 rfl rfl ?_)))))))
 refine v2v (j := i) rfl rfl b9v rfl a0t rfl rfl (v5v hl) ?_
 refine q7q rfl a0t rfl hl rfl rfl (x1x 5 rfl rfl ?_)
 refine v2v (j := i) rfl rfl b9x rfl r0r rfl rfl (v5v hl) ?_
 refine a1h rfl r0r rfl hl rfl (rlB v6v a7p ?_)
 refine x3x rfl rfl v6v rfl rfl rfl rfl ⟨by kernel_rfl, x6x ?_⟩
 exact ⟨.inr rfl, [γ 0, γ 1, γ 2, γ 3, γ 4], rfl, rfl, hv⟩
theorem a9r (c : Bool) (n : Nd) (hlen : n.lanes.length ≤ 1048576) (hN : ∀ (i : Nat) l, n.lanes[i]? = some l → (a0b n.id 4)[i]? = some l.proc) : Meth Tryz.prog 159 7 [0, 1, 2, 3, 4] [.ptr 4 0 0] [(0, (0, .row 41 3 ((n.lanes).map fun l => a2h l.base))), (1, (0, .row 42 1 ((n.lanes).map fun _ => [b2y c []]))), (2, (0, .map [])), (3, (0, .row 3 1 (n.known.map a6c))), (4, (0, .box 164 [pI n.id, pI n.inc, pI n.g, pI n.led, .ref 0 0, a1y c n.kept, a0p c n.outs, .pv (.bool n.up), .ref 1 0, pI n.version, .mp 2 0, .ref 3 0, pI n.round, pI n.low])), (5, (0, .dead)), (6, (0, .dead))] (.agg [pI n.id, .pv (.bool n.up), pI n.inc, pI n.g, .ref 5 0, a1y c n.kept, a0p c n.outs, pI n.led, pI n.version, .ref 6 0, .ref 3 0, pI n.round, pI n.low]) [(5, (0, .row 44 5 ((((n.lanes).map p1p)).map (a0f c)))), (6, (0, .row 190 3 ([vi0, vi0, vi0].map (a4g c))))] := by
 refine mX Tryz.f159 [.agg [pI n.id, .pv (.bool n.up), pI n.inc, pI n.g, .ref 5 0, a1y c n.kept, a0p c n.outs, pI n.led, pI n.version, .ref 6 0, .ref 3 0, pI n.round, pI n.low]] 7 6 fun γ => ?_
 refine exR (y7y (id := 7) y5y s5s rfl (exD (x1x 50 rfl rfl (rlB y5y s5s ?_))))
 refine y7y (id := 8) y5y s5s rfl (x3x rfl rfl y5y rfl rfl rfl rfl ⟨by kernel_rfl, x2x fun K1 hK1 => ?_⟩)
 refine exA 5 rfl rfl (a1l rfl b9v rfl rfl (List.length_map _) ?_)
 refine x4x rfl (y0y (a0d 8 4 5 44 5 rfl rfl rfl rfl rfl ?_))
 refine z3z (ι := Nat) (fun i γ1 => [(63, pI (i : Int))]) (fun i γ1 => [(5, ((γ1 5), .row 44 5 ((((n.lanes.take i).map p1p)).map (a0f c)))), (8, ((0 + 1), .box 65 [pI n.id, .pv (.bool n.up), pI n.inc, pI n.g, .ref 5 (γ1 5), a1y c n.kept, a0p c n.outs, pI n.led, pI n.version, .pv (.slice none 0 0), .ref 3 (γ 3), pI n.round, pI n.low])), (9, ((γ1 9), .dead)), (10, ((γ1 10), .dead))]) (fun i => i ≤ n.lanes.length) (fun i => n.lanes.length - i) (cK [0, 2, 3, 62] rfl) (hK [0, 1, 2, 3, 4, 6, 7, 11, 12] rfl) 0 (by omega) [0, 0, 0, 0, 0, _, 0, 0, 0, _, _] cv (HE.row rfl (by rw [List.take_zero]; rfl) (HE.box rfl rfl (HE.kill rfl (HE.kill rfl HE.nil)))) rfl fun i γ1 hi => ?_
 refine exR (v1v rfl rfl rfl (x2x fun K2 hK2 => ?_))
 refine x8x rfl ?_ ?_<;>intro o<;>try simp at o
 ·obtain ⟨l, hl⟩ := gE n.lanes i
  refine x7x (hK2 _ _ (x2x fun K4 hK4 => ?_))
  refine y0y (exA 2 rfl rfl (exH (x1x 4 rfl rfl ?_)))
  refine rlM [0, 1, 2, 3, 4] [_, _, _, _, _] (b8l c n [] (fun p hp => by cases hp) i l hl (hN i l hl)) rfl rfl rfl ?_
  refine u5u (id := 9) q6q rfl v6v rfl rfl rfl rfl rfl rfl ?_
  refine u6u (zs := (((n.lanes.take i).map p1p) ++ [p1p l]).map (a0f c)) rfl rfl q6q rfl v6v rfl rfl rfl rfl (by rfl) (w7w _ _ _) (by (simp only [a0w, a0q, a0v, a0x, a1t, a3w, T44]; omega)) ?_
  refine y1y rfl y5y rfl rfl q6q rfl rfl (y9y rfl rfl q6q rfl rfl rfl rfl rfl (by simp only [a0y]; rfl) ?_)
  refine ⟨by kernel_rfl, hK4 _ _ (exG (p7p rfl rfl rfl (x4x rfl ?_)))⟩
  exact ⟨i + 1, ⟨by omega, by omega⟩, [0, 0, 0, 0, 0, _, 0, 0, 0, _, _], (Cov.cons' (t := 63) rfl (by rw [u2u (by omega) (by omega)]; rfl) Cov.nil), cv, (HE.row rfl (by simp only [w0w hl, List.map_append, List.map_cons, List.map_nil]) (HE.box rfl rfl (HE.kill rfl (HE.kill rfl HE.nil)))), hv, rfl⟩
 obtain rfl : i = n.lanes.length := by omega
 rw [List.take_length]
 refine z4z (hK1 _ _ (x2x fun K5 hK5 => ?_))
 refine exR (x4x rfl (y0y (a0d 8 9 6 190 3 rfl rfl rfl rfl rfl ?_)))
 refine z3z (ι := Nat) (fun i γ2 => [(75, pI (i : Int))]) (fun i γ2 => [(6, ((γ2 6), .row 190 3 (((List.range i).map fun _ => a7j)))), (8, ((0 + 1), .box 65 [pI n.id, .pv (.bool n.up), pI n.inc, pI n.g, .ref 5 (γ1 5), a1y c n.kept, a0p c n.outs, pI n.led, pI n.version, .ref 6 (γ2 6), .ref 3 (γ 3), pI n.round, pI n.low])), (11, ((γ2 11), .dead)), (12, ((γ2 12), .dead))]) (fun i => i ≤ 3) (fun i => 3 - i) (cK [0, 2, 3] rfl) (hK [0, 1, 2, 3, 4, 5, 7, 9, 10] rfl) 0 (by omega) [0, 0, 0, 0, 0, 0, _, 0, 0, 0, 0, _, _] cv (HE.row rfl (by rfl) (HE.box rfl rfl (HE.kill rfl (HE.kill rfl HE.nil)))) rfl fun i γ2 hi => ?_
 refine exR (v1v rfl rfl rfl (x2x fun K6 hK6 => ?_))
 refine y2y rfl ?_ ?_<;>intro o<;>try simp at o
 ·obtain rfl : i = 3 := by omega
  refine z4z (hK5 _ _ (exR (x5x rfl y5y rfl rfl rfl (x3x rfl rfl y5y rfl rfl rfl rfl ?_))))
  refine c5s (f := fun _ => a7j) (f' := fun _ => a4g c vi0) (l := List.range 3) 6 rfl (fun _ => .same (.same (.le rfl .nil rfl .nil))) ?_
  refine x6x ?_
  exact ⟨.inr rfl, [γ 0, γ 1, γ 2, γ 3, γ 4, _, _], rfl, rfl, hv⟩
 refine x7x (hK6 _ _ (x2x fun K8 hK8 => ?_))
 refine y0y (exA 2 rfl rfl (exH (x1x 7 rfl rfl ?_)))
 refine a5y (κ := Int) (enc := fun n => .int .i64 n) (out := .agg a7j) s3s (ks := []) Tryz.underlying162 (c1q Tryz.underlying3) rfl rfl (fun _ _ _ h => e8x h) rfl rfl (.inr ⟨rfl, _, p0p, rfl⟩) ?_
 refine u5u (id := 11) s6s rfl p0p rfl rfl rfl rfl rfl rfl ?_
 refine u6u (zs := ((List.range i).map fun _ => a7j) ++ [a7j]) rfl rfl s6s rfl p0p rfl rfl rfl rfl (by rfl) rfl (by simp only [a0q, a0w, a3w, a1t, a0v, a0x, T190]; omega) ?_
 refine y1y rfl y5y rfl rfl s6s rfl rfl (y9y rfl rfl s6s rfl rfl rfl rfl rfl (by simp only [a0y]; rfl) ?_)
 refine ⟨by kernel_rfl, hK8 _ _ (exG (p7p rfl rfl rfl (x4x rfl ?_)))⟩
 exact ⟨i + 1, ⟨by omega, by omega⟩, [0, 0, 0, 0, 0, 0, _, 0, 0, 0, 0, _, _], (Cov.cons' (t := 75) rfl (by rw [u2u (by omega) (by omega)]; rfl) Cov.nil), cv, (HE.row rfl (by rw [List.range_succ, List.map_append]; rfl) (HE.box rfl rfl (HE.kill rfl (HE.kill rfl HE.nil)))), hv, rfl⟩
theorem b4i (c : Bool) (n : Nd) : Meth Tryz.prog 55 5 [] [.agg (w6w c n)] [(0, (0, .dead)), (1, (0, .dead)), (2, (0, .dead)), (3, (0, .dead)), (4, (0, .dead))] (.agg [pI (u7u n).id, .pv (.bool (u7u n).up), pI (u7u n).inc, pI (u7u n).g, .ref 0 0, .ref 1 0, .ref 2 0, pI (u7u n).led, pI (u7u n).version, .ref 3 0, .ref 4 0, pI (u7u n).round, pI (u7u n).low]) [(0, (0, .row 44 5 ((u7u n).lanes.map b1e))), (1, (0, .row 56 7 ((u7u n).kept.map v4v))), (2, (0, .row 141 5 ((u7u n).outs.map a0c))), (3, (0, .row 190 3 ((u7u n).views.map b1f))), (4, (0, .row 3 1 ((u7u n).known.map a6c)))] := by
 refine mX Tryz.f55 [.agg [pI (u7u n).id, .pv (.bool (u7u n).up), pI (u7u n).inc, pI (u7u n).g, .ref 0 0, .ref 1 0, .ref 2 0, pI (u7u n).led, pI (u7u n).version, .ref 3 0, .ref 4 0, pI (u7u n).round, pI (u7u n).low]] 5 10 fun γ => ?_
 refine exR (z7z (id := 5) rfl rfl rfl (y7y (id := 6) y5y s5s rfl (x2x fun K1 hK1 => ?_)))
 refine exR (x5x rfl y5y rfl rfl rfl (x9x rfl rfl rfl (a8i ..) (a1k rfl (x8x rfl ?_ ?_))))<;>intro hc2<;>try simp at hc2
 ·have fX : ¬ u3u n := a0z (by simpa using hc2)
  refine exR (rlB y5y s5s ?_)
  refine x3x rfl rfl y5y rfl rfl rfl rfl ?_
  (rw [c5v fX]; refine a0d 6 4 0 44 5 rfl rfl rfl rfl rfl ?_; refine a0d 6 5 1 56 7 rfl rfl rfl rfl rfl ?_; refine a0d 6 6 2 141 5 rfl rfl rfl rfl rfl ?_; refine a0d 6 9 3 190 3 rfl rfl rfl rfl rfl ?_; refine a0d 6 10 4 3 1 rfl rfl rfl rfl rfl ?_)
  refine x6x ?_
  exact ⟨.inr rfl, [_, _, _, _, _], rfl, rfl, hv⟩
 have fK : u3u n := a1x.1 (by simpa using hc2)
 have fS := fK.1
 have fB := r8r fS
 have fN : ∀ (i : Nat) l, n.lanes[i]? = some l → (a0b n.id 4)[i]? = some l.proc := fun i l h => (fS.2.2.2.2.2.2.2.1 i l h).1
 refine x7x (hK1 _ _ (exR (x5x rfl y5y rfl rfl rfl ?_)))
 refine rlM [7] [_] (b2i c n (by omega)) rfl rfl rfl ?_
 refine rlM [7, 8, 9, 10, 11] [_, _, _, _, _] (b0f c n (by omega)) rfl rfl rfl ?_
 refine rlM [7, 8, 9, 10, 11, 12, 13] [_, _, _, _, _, _, _] (a9r c { n with up := false, version := 0, known := [0, 0, 0], round := 0, low := 41 } (by dsimp only; omega) fN) rfl rfl rfl ?_
 refine d4r [0, 1, 2, 3, 4] [_, _, _, _, _] (a6h false (({ s8s n with up := false } : Nd)) (by have := fB; have hz : cNd ({ s8s n with up := false } : Nd) = e0q (n.lanes.map p1p) + n.kept.length + n.outs.length + 3 + 3 := rfl; have := d5b n.lanes; omega)) rfl rfl rfl (LendM.base (c2x (n := ({ s8s n with up := false } : Nd)) rfl rfl rfl .nil)) rfl (by decide) rfl rfl ihv (by (simp only [pI, a2q, a2r, b8m, gl, nx, a6t, Nat.beq]; rfl)) (by (simp only [pI, a2q, a2r, b8m, gl, nx, a6t, Nat.beq]; rfl)) rfl rfl (e7n rfl) (by repeat (first | exact StrH.nil | refine StrH.dead ?_)) (f3p .nil) ?_
 refine x3x rfl rfl y5y rfl rfl rfl rfl ?_
 rw [a6o fK]
 refine x6x ?_
 exact ⟨.inr rfl, [_, _, _, _, _], rfl, rfl, hv⟩
end
section
theorem c3y (c : Bool) (n : Nd) : Meth Tryz.prog 57 5 [] [.agg (w6w c n)] [(0, (0, .dead)), (1, (0, .dead)), (2, (0, .dead)), (3, (0, .dead)), (4, (0, .dead))] (.agg [pI (w4w n).id, .pv (.bool (w4w n).up), pI (w4w n).inc, pI (w4w n).g, .ref 0 0, .ref 1 0, .ref 2 0, pI (w4w n).led, pI (w4w n).version, .ref 3 0, .ref 4 0, pI (w4w n).round, pI (w4w n).low]) [(0, (0, .row 44 5 ((w4w n).lanes.map b1e))), (1, (0, .row 56 7 ((w4w n).kept.map v4v))), (2, (0, .row 141 5 ((w4w n).outs.map a0c))), (3, (0, .row 190 3 ((w4w n).views.map b1f))), (4, (0, .row 3 1 ((w4w n).known.map a6c)))] := by
 refine mX Tryz.f57 [.agg [pI (w4w n).id, .pv (.bool (w4w n).up), pI (w4w n).inc, pI (w4w n).g, .ref 0 0, .ref 1 0, .ref 2 0, pI (w4w n).led, pI (w4w n).version, .ref 3 0, .ref 4 0, pI (w4w n).round, pI (w4w n).low]] 5 9 fun γ => ?_
 refine exR (z7z (id := 5) rfl rfl rfl (y7y (id := 6) y5y s5s rfl (x2x fun K1 hK1 => ?_)))
 refine exR (x5x rfl y5y rfl rfl rfl (x9x rfl rfl rfl (a8i ..) (a1k rfl (x8x rfl ?_ ?_))))<;>intro hc2<;>try simp at hc2
 ·have fX : ¬ u3u n := a0z (by simpa using hc2)
  refine exR (rlB y5y s5s ?_)
  refine x3x rfl rfl y5y rfl rfl rfl rfl ?_
  (rw [c5w fX]; refine a0d 6 4 0 44 5 rfl rfl rfl rfl rfl ?_; refine a0d 6 5 1 56 7 rfl rfl rfl rfl rfl ?_; refine a0d 6 6 2 141 5 rfl rfl rfl rfl rfl ?_; refine a0d 6 9 3 190 3 rfl rfl rfl rfl rfl ?_; refine a0d 6 10 4 3 1 rfl rfl rfl rfl rfl ?_)
  refine x6x ?_
  exact ⟨.inr rfl, [_, _, _, _, _], rfl, rfl, hv⟩
 have fK : u3u n := a1x.1 (by simpa using hc2)
 have fS := fK.1
 have fB := r8r fS
 have fN : ∀ (i : Nat) l, n.lanes[i]? = some l → (a0b n.id 4)[i]? = some l.proc := fun i l h => (fS.2.2.2.2.2.2.2.1 i l h).1
 refine x7x (hK1 _ _ (x2x fun K3 hK3 => ?_))
 refine exA 3 rfl rfl (z6z rfl rfl ?_ ?_)<;>intro j<;>try simp at j
 ·refine x1x 3 rfl rfl (x8x rfl (fun hc6 => ?_) (fun hc6 => ?_))
  rotate_left
  ·simp at hc6
  try simp at hc6
  have fU : n.up = true ∨ 9999 ≤ n.inc := by (simp_all; done)
  refine exR (x5x rfl y5y rfl rfl rfl ?_)
  refine rlM [0, 1, 2, 3, 4] [_, _, _, _, _] (a6h c n (by omega)) rfl rfl rfl ?_
  refine x3x rfl rfl y5y rfl rfl rfl rfl ?_
  rw [a6p fK fU]
  refine x6x ?_
  exact ⟨.inr rfl, [_, _, _, _, _], rfl, rfl, hv⟩
 refine x1x 4 rfl rfl (x8x rfl ?_ ?_)<;>intro hc5<;>try simp at hc5
 ·have fU : n.up = true ∨ 9999 ≤ n.inc := .inr hc5
  refine exR (x5x rfl y5y rfl rfl rfl ?_)
  refine rlM [0, 1, 2, 3, 4] [_, _, _, _, _] (a6h c n (by omega)) rfl rfl rfl ?_
  refine x3x rfl rfl y5y rfl rfl rfl rfl ?_
  rw [a6p fK fU]
  refine x6x ?_
  exact ⟨.inr rfl, [_, _, _, _, _], rfl, rfl, hv⟩
 have fU : ¬ (n.up = true ∨ 9999 ≤ n.inc) := by rintro (h | h) <;> first | omega | (simp_all; done)
 refine x7x (hK3 _ _ (exR (x5x rfl y5y rfl rfl rfl ?_)))
 refine rlM [7] [_] (b2i c n (by omega)) rfl rfl rfl ?_
 refine rlM [7, 8, 9, 10, 11] [_, _, _, _, _] (b0f c n (by omega)) rfl rfl rfl ?_
 refine x0x rfl (exD (x1x 5 rfl rfl ?_))
 refine a0r (.int .i64 (n.inc + 1)) rfl rfl rfl (a7f rfl rfl (by have := fS.1.2.1; omega) (by have := fS.1.2.1; omega)) ?_
 refine x1x 2 rfl rfl (y9y rfl rfl d7x rfl rfl rfl rfl rfl (by simp only [a0y]; rfl) ?_)
 refine x1x 3 rfl rfl (y9y rfl rfl q5q rfl rfl rfl rfl rfl (by simp only [a0y]; rfl) ?_)
 refine x1x 2 rfl rfl (y9y rfl rfl q5q rfl rfl rfl rfl rfl (by simp only [a0y]; rfl) ?_)
 refine ⟨by kernel_rfl, exR (x4x rfl ?_)⟩
 refine rlM [7, 8, 9, 10, 11, 12, 13] [_, _, _, _, _, _, _] (a9r c { n with up := true, inc := n.inc + 1, version := 1, known := [0, 0, 0], round := 0, low := 41 } (by dsimp only; omega) fN) rfl rfl rfl ?_
 refine d4r [0, 1, 2, 3, 4] [_, _, _, _, _] (a6h false (({ s8s n with up := true, inc := n.inc + 1, version := 1 } : Nd)) (by have := fB; have hz : cNd ({ s8s n with up := true, inc := n.inc + 1, version := 1 } : Nd) = e0q (n.lanes.map p1p) + n.kept.length + n.outs.length + 3 + 3 := rfl; have := d5b n.lanes; omega)) rfl rfl rfl (LendM.base (c2x (n := ({ s8s n with up := true, inc := n.inc + 1, version := 1 } : Nd)) rfl rfl rfl .nil)) rfl (by decide) rfl rfl ihv (by (simp only [pI, a2q, a2r, b8m, gl, nx, a6t, Nat.beq]; rfl)) (by (simp only [pI, a2q, a2r, b8m, gl, nx, a6t, Nat.beq]; rfl)) rfl rfl (e7n rfl) (by repeat (first | exact StrH.nil | refine StrH.dead ?_)) (f3p .nil) ?_
 refine x3x rfl rfl y5y rfl rfl rfl rfl ?_
 rw [b1a fK fU]
 refine x6x ?_
 exact ⟨.inr rfl, [_, _, _, _, _], rfl, rfl, hv⟩
end
section
theorem d7u (n : Nd) (u : Bool) (ver : Int) : a9f { s8s n with up := u, version := ver } n := by
 refine ⟨rfl, rfl, rfl, rfl, rfl, rfl, ?_⟩
 show (n.lanes.map p1p).map bp = n.lanes.map bp
 rw [List.map_map]; rfl
theorem d3r (n : Nd) (u v : Bool) : s8s { s8s n with up := u } = { s8s n with up := u } := by
 have : (n.lanes.map p1p).map p1p = n.lanes.map p1p := by rw [List.map_map]; rfl
 simp only [s8s, this]
variable {n : Nd}
theorem c8x (h : u3u n) : (u7u n).up = false ∧ a9f (u7u n) n ∧ u7u (u7u n) = u7u n := by
 have h2 := c8e h
 rw [a6o h] at h2 ⊢
 refine ⟨rfl, d7u n false 0, ?_⟩
 rw [a6o h2]
 have e := d3r n false true
 rw [e]
theorem e6y (h : u3u n) : (((w4w (u7u n)).inc = n.inc + 1 ∧ (w4w (u7u n)).up = true) ∨ ((w4w (u7u n)).inc = n.inc ∧ (w4w (u7u n)).up = false)) ∧ a9f { w4w (u7u n) with inc := n.inc } n := by
 have h2 := c8e h
 have hf := a6o h
 by_cases k : (u7u n).up = true ∨ 9999 ≤ (u7u n).inc
 ·rw [a6p h2 k]
  have := c8x h
  refine ⟨.inr ⟨this.2.1.2.1, this.1⟩, ?_⟩
  obtain ⟨q1, q2, q3, q4, q5, q6, q7⟩ := this.2.1
  exact ⟨q1, rfl, q3, q4, q5, q6, q7⟩
 ·rw [b1a h2 k]
  have := c8x h
  obtain ⟨q1, q2, q3, q4, q5, q6, q7⟩ := this.2.1
  refine ⟨.inl ⟨by show (u7u n).inc + 1 = n.inc + 1; rw [q2], rfl⟩, q1, rfl, q3, q4, q5, q6, ?_⟩
  show ((u7u n).lanes.map p1p).map bp = n.lanes.map bp
  rw [List.map_map]
  exact q7
end
section
theorem b9t (bs : List Nat) (hbs : ∀ b ∈ bs, b < 256)  : a1o Tryz.prog 9 [q4q true bs] (.pv (.bool (true))) := by
 refine pX Tryz.f9 [.pv (.bool (true))] 20 ?_
 refine exR (x0x rfl (x2x fun K1 hK1 => ?_))
 refine exR (x4x rfl (z2z rfl c0d rfl (v1v rfl rfl rfl (x8x rfl ?_ ?_))))<;>intro h<;>try simp at h
 ·refine exR (x0x rfl (x6x ⟨.inr rfl, ?_⟩))
  refine y6y rfl ?_ rfl
  rfl
 refine x7x (hK1 _ _ (a1b fun B X0 w0 => ?_))
 refine txR 1 rfl rfl (x4x rfl ?_)
 refine txM [] [] (b6u bs hbs) rfl rfl rfl rfl fun n hn => ?_
 refine txR 2 rfl rfl (y7y (id := 0) y5y s5s rfl (x3x rfl rfl y5y rfl rfl rfl rfl (w1w rfl (exR (x5x rfl y5y rfl rfl rfl (x9x rfl rfl rfl (b4f true n) (y7y (id := 1) y5y s5s rfl (x3x rfl rfl y5y rfl rfl rfl rfl (exR (x5x rfl y5y rfl rfl rfl (x9x rfl rfl rfl (r6r true n) (x0x rfl (exR (x5x rfl y5y rfl rfl rfl ?_))))))))))))))
 refine rlM [5, 6, 7, 8, 9] [_, _, _, _, _] (b4i true n) rfl rfl rfl ?_
 refine y7y (id := 2) y5y s5s rfl (x3x rfl rfl y5y rfl rfl rfl rfl (x2x fun K3 hK3 => ?_))
 refine w9w (b := b8a true (u7u n).lanes) 2 4 rfl rfl rfl (.ref rfl (Le.ow_map2 _ (fun _ => rfl) d0x) .nil) rfl rfl rfl rfl ?_
 refine w9w (b := a1y true (u7u n).kept) 2 5 rfl rfl rfl (.ref rfl (Le.ow_map _ (fun _ => rfl) (fun _ => rfl)) .nil) rfl rfl rfl rfl ?_
 refine w9w (b := a0p true (u7u n).outs) 2 6 rfl rfl rfl (.ref rfl (Le.ow_map _ (fun _ => rfl) (fun _ => rfl)) .nil) rfl rfl rfl rfl ?_
 refine w9w (b := b9h true (u7u n).views) 2 9 rfl rfl rfl (.ref rfl (Le.ow_map2 _ (fun _ => rfl) d0y) .nil) rfl rfl rfl rfl ?_
 refine w9w (b := a4l true (u7u n).known) 2 10 rfl rfl rfl (.ref rfl (Le.ow_map _ (fun _ => rfl) (fun _ => rfl)) .nil) rfl rfl rfl rfl ?_
 refine exA 2 rfl rfl (x9x rfl rfl rfl (a8h true true (u7u n) (u7u n)) ?_)
 refine x1x 2 rfl rfl (d6q rfl rfl (fun hg4 => ?_) (fun hg4 => ?_))
 rotate_left
 ·(simp at hg4; done)
 try simp at hg4
 refine x1x 3 rfl rfl (x8x rfl ?_ ?_)<;>intro hc5<;>try simp at hc5
 ·refine exA 2 rfl rfl (x9x rfl rfl rfl (a8h true true (u7u n) (u7u n)) ?_)
  refine x0x rfl (x6x ⟨.inr rfl, ?_⟩)
  refine y6y rfl ?_ rfl
  (simp; done)
 have fK : u3u n := a1x.1 (by simpa using hc5)
 obtain ⟨fU, fk1, fff⟩ := c8x fK
 obtain ⟨fy, fk2⟩ := e6y fK
 have fn1 := fK.1.1.2.1
 have fok := e2k (c8e fK)
 refine x7x (hK3 _ _ (exR (x5x rfl y5y rfl rfl rfl ?_)))
 refine rlM [10, 11, 12, 13, 14] [_, _, _, _, _] (c3y true (u7u n)) rfl rfl rfl ?_
 refine y7y (id := 3) y5y s5s rfl (x3x rfl rfl y5y rfl rfl rfl rfl (x2x fun K6 hK6 => ?_))
 refine w9w (b := b8a true (w4w (u7u n)).lanes) 3 4 rfl rfl rfl (.ref rfl (Le.ow_map2 _ (fun _ => rfl) d0x) .nil) rfl rfl rfl rfl ?_
 refine w9w (b := a1y true (w4w (u7u n)).kept) 3 5 rfl rfl rfl (.ref rfl (Le.ow_map _ (fun _ => rfl) (fun _ => rfl)) .nil) rfl rfl rfl rfl ?_
 refine w9w (b := a0p true (w4w (u7u n)).outs) 3 6 rfl rfl rfl (.ref rfl (Le.ow_map _ (fun _ => rfl) (fun _ => rfl)) .nil) rfl rfl rfl rfl ?_
 refine w9w (b := b9h true (w4w (u7u n)).views) 3 9 rfl rfl rfl (.ref rfl (Le.ow_map2 _ (fun _ => rfl) d0y) .nil) rfl rfl rfl rfl ?_
 refine w9w (b := a4l true (w4w (u7u n)).known) 3 10 rfl rfl rfl (.ref rfl (Le.ow_map _ (fun _ => rfl) (fun _ => rfl)) .nil) rfl rfl rfl rfl ?_
 refine exD (x1x 2 rfl rfl (x9x rfl rfl rfl (b4g true (u7u n)) ?_))
 refine x9x rfl rfl rfl (a8h true true (w4w (u7u n)) (w4w (u7u n))) ?_
 refine a1k rfl ⟨by kernel_rfl, x8x rfl (fun hc7 => ?_) (fun hc7 => ?_)⟩
 ·(simp at hc7; done)
 try simp at hc7
 refine x7x (hK6 _ _ (exR (x5x rfl y5y rfl rfl rfl (y7y (id := 4) y5y s5s rfl (x3x rfl rfl y5y rfl rfl rfl rfl (exA 3 rfl rfl (y9y rfl rfl q5q rfl rfl rfl rfl rfl (by simp only [a0y]; rfl) ?_)))))))
 refine exD (x1x 4 rfl rfl (d6q rfl rfl (fun hg8 => ?_) (fun hg8 => ?_)))
 rotate_left
 ·(simp [fU, fk1, fff, fk2] at hg8; done)
 try simp at hg8
 refine x1x 2 rfl rfl (z1z rfl rfl (x9x rfl rfl rfl (a8g true true (u7u n) n) ?_))
 refine x1x 2 rfl rfl (d6q rfl rfl (fun hg9 => ?_) (fun hg9 => ?_))
 rotate_left
 ·(simp [fU, fk1, fff, fk2] at hg9; done)
 try simp at hg9
 refine x5x rfl y5y rfl rfl rfl (z1z rfl rfl ?_)
 refine rlM [15, 16, 17, 18, 19] [_, _, _, _, _] (b4i true (u7u n)) rfl rfl rfl ?_
 refine z1z rfl rfl (x5x rfl y5y rfl rfl rfl (z1z rfl rfl ?_))
 refine b6c rfl rfl rfl (f3h (n := u7u (u7u n)) rfl rfl rfl rfl rfl (.agg rfl (.cl rfl (.cl rfl (.cl rfl (.cl rfl (.cl rfl (.cl rfl (.cl rfl (.cl rfl (.cl rfl (.cl rfl (.cl rfl (.cl rfl (.cl rfl .nil))))))))))))) .nil)) (a8h false true (u7u (u7u n)) (u7u n)) (.pv _) ?_
 refine x1x 2 rfl rfl (d6q rfl rfl (fun hg10 => ?_) (fun hg10 => ?_))
 rotate_left
 ·(simp [fU, fk1, fff, fk2] at hg10; done)
 try simp at hg10
 refine x1x 4 rfl rfl (z1z rfl rfl (a0r (.int .i64 (n.inc + 1)) rfl rfl rfl (a7f rfl (by omega) (by omega) (by omega)) ?_))
 refine x1x 2 rfl rfl (d6q rfl rfl ?_ ?_)<;>intro h<;>try simp at h
 ·refine x1x 4 rfl rfl (d6q rfl rfl (fun hg12 => ?_) (fun hg12 => ?_))
  ·(rcases fy with ⟨y1, y2⟩ | ⟨y1, y2⟩; (rw [y2] at hg12; cases hg12); omega; done)
  try simp at hg12
  refine x1x 14 rfl rfl (z1z rfl rfl ?_)
  refine x9x rfl rfl rfl (a8g true true { (w4w (u7u n)) with inc := n.inc } n) ?_
  refine x1x 2 rfl rfl (d6q rfl rfl (fun hg16 => ?_) (fun hg16 => ?_))
  rotate_left
  ·(simp [fU, fk1, fff, fk2] at hg16; done)
  try simp at hg16
  refine x5x rfl y5y rfl rfl rfl (z1z rfl rfl (x9x rfl rfl rfl (a8i true (w4w (u7u n))) ?_))
  refine x1x 2 rfl rfl ⟨by kernel_rfl, x6x ⟨.inr rfl, ?_⟩⟩
  refine y6y rfl ?_ rfl
  exact congrArg (fun b : Bool => [AV.pv (.bool b)]) (d7y fok).symm
 refine x1x 9 rfl rfl (d6q rfl rfl (fun hg17 => ?_) (fun hg17 => ?_))
 rotate_left
 ·(rcases fy with ⟨y1, y2⟩ | ⟨y1, y2⟩ <;> simp_all; done)
 try simp at hg17
 refine x1x 7 rfl rfl (d6q rfl rfl (fun hg18 => ?_) (fun hg18 => ?_))
 rotate_left
 ·(rcases fy with ⟨y1, y2⟩ | ⟨y1, y2⟩ <;> simp_all; done)
 try simp at hg18
 refine x1x 2 rfl rfl (z1z rfl rfl ?_)
 refine x9x rfl rfl rfl (a8g true true { (w4w (u7u n)) with inc := n.inc } n) ?_
 refine x1x 2 rfl rfl (d6q rfl rfl (fun hg19 => ?_) (fun hg19 => ?_))
 rotate_left
 ·(simp [fU, fk1, fff, fk2] at hg19; done)
 try simp at hg19
 refine x5x rfl y5y rfl rfl rfl (z1z rfl rfl (x9x rfl rfl rfl (a8i true (w4w (u7u n))) ?_))
 refine x1x 2 rfl rfl ⟨by kernel_rfl, x6x ⟨.inr rfl, ?_⟩⟩
 refine y6y rfl ?_ rfl
 exact congrArg (fun b : Bool => [AV.pv (.bool b)]) (d7y fok).symm
end
section
def X0 (w : World) : Cx := ⟨fun b => b < w.heap.size, fun b => b < w.heap.size, fun _ _ => none, fun _ _ => none⟩
theorem e6z (w : World) : SRh (X0 w) ⟨w, fun _ => False, fun b => b < w.heap.size, fun b => b < w.heap.size⟩ (fun _ => none) w := by
 refine ⟨fun _ => [], ?_, ?_, ?_, ?_, ?_, ?_, ?_, ?_, ?_, rfl, rfl, rfl, Nat.le_refl _, fun _ _ _ => rfl⟩
 ·intro id g e h; cases h
 ·intro id ge b h; cases h
 ·intro id id' ge ge' b h; cases h
 ·intro b hb; exact ⟨hb, fun id ge h => by cases h⟩
 ·intro b hb; exact hb
 ·intro b hb; exact .inl hb
 ·intro b hb; exact .inl hb
 ·intro id ge b h; cases h
 ·intro id g h; exact ⟨rfl, rfl⟩
theorem d3s (hC : a1o P f avs (.pv u)) (w : World) (vs : List Value) (hl : vs.length = avs.length) (hr : ∀ (i : Nat) (a : AV) (v : Value), avs[i]? = some a → vs[i]? = some v → VR (X0 w) w a v) :
  Calls P f vs.toArray w fun e w' => e = .returned u ∧ Below w.heap.size w w' :=
 (hC.2 (X0 w) _ (fun _ => none) w vs (e6z w) hl hr (fun id ge h => by cases h)).mono fun e w' ⟨v, he, X', hX, hS, hk, hv⟩ => by
  rw [hv.pv_inv] at he
  obtain ⟨F, hS⟩ := hS
  exact ⟨he, hS.os, hS.tape, hS.output, hS.size, fun k hk => hS.keep k hk (fun h => h)⟩
def f1t (k : IntKind) (w : World) (a : Option Addr) (len cap : Nat) (zs : List Int) : Prop :=
 (a = none ∧ len = 0 ∧ cap = 0 ∧ zs = []) ∨
 ∃ x, a = some x ∧ len ≤ cap ∧ cap ≤ maxLen ∧ zs.length = cap ∧ (∀ i, i < zs.length → w.cell? (x.add i) = some (.int k (zs.getD i 0))) ∧ ∀ n ∈ zs, (Lit.int k n).wf = true
theorem e3q (h : f1t .u8 w a len cap zs) : ∃ bs : List Nat, (∀ b ∈ bs, b < 256) ∧ VR (X0 w) w (q4q true bs) (.slice a len cap) := by
 rcases h with ⟨rfl, rfl, rfl, rfl⟩ | ⟨x, rfl, hl, hm, hz, hc, hw⟩
 ·exact ⟨[], (fun b hb => by cases hb), .cl (.row none 0 (fun _ _ => undef) (Nat.le_refl _) (Nat.zero_le _) (fun j x hx => by simp at hx) (fun j i x y hx => by simp at hx) (fun h => by simp at h) (fun ad j i x y hA => by cases hA) (fun j i x y hx => by simp at hx))⟩
 ·have hb : ∀ n ∈ zs, 0 ≤ n ∧ n < 256 := fun n hn => by
   have := hw n hn
   simp only [Lit.wf, Bool.and_eq_true, decide_eq_true_eq, IntKind.min, IntKind.max] at this
   simp [IntKind.signed, IntKind.bits] at this
   omega
  refine ⟨(zs.take len).map Int.toNat, fun b hb' => ?_, ?_⟩
  ·obtain ⟨n, hn, rfl⟩ := List.mem_map.1 hb'
   have := hb n (List.mem_of_mem_take hn)
   omega
  ·have hlen : ((zs.take len).map Int.toNat).length = len := by rw [List.length_map, List.length_take]; omega
   have hg : ∀ (j : Nat) (y : List AV), (((zs.take len).map Int.toNat).map f4r)[j]? = some y → j < len ∧ ∃ n, zs[j]? = some n ∧ y = [.pv (.int .u8 n)] := fun j y hy => by
    rw [List.getElem?_map, List.getElem?_map, List.getElem?_take] at hy
    split at hy
    ·rename_i hj
     cases hn : zs[j]? with
     | none => rw [hn] at hy; cases hy
     | some n =>
      rw [hn] at hy
      refine ⟨hj, n, rfl, ?_⟩
      have h0 := hb n (List.mem_of_getElem? hn)
      simp only [Option.map_some, Option.some.injEq] at hy
      rw [← hy, f4r, Int.toNat_of_nonneg h0.1]
    ·cases hy
   have key := CR.row (ok1 := (X0 w).ok1) (ok2 := (X0 w).ok2) (w := w) (m := true) (ty := 5) (sz := 1) (xs := ((zs.take len).map Int.toNat).map f4r) (some x) cap (fun j _ => .int .u8 (zs.getD j 0))
    (by rw [List.length_map, hlen]; exact hl) hm (fun j y hy => by obtain ⟨_, n, _, rfl⟩ := hg j y hy; rfl)
    (fun j i y z hy hz' => by
     obtain ⟨_, n, _, rfl⟩ := hg j y hy
     cases i with
     | zero => simp at hz'; subst hz'; rfl
     | succ i => simp at hz')
    (fun hp => ⟨x, rfl, by
     rw [List.length_map, hlen] at hp
     have := hc 0 (by omega)
     have h2 := World.block_lt_of_cell? w _ this
     show x.block < w.heap.size
     simpa [Addr.add] using h2⟩)
    (fun ad j i y z hA hy hz' => by
     cases hA
     obtain ⟨hj, n, hn, rfl⟩ := hg j y hy
     cases i with
     | zero =>
      have := hc j (by omega)
      simpa using this
     | succ i => simp at hz')
    (fun j i y z hy hz' => by
     obtain ⟨hj, n, hn, rfl⟩ := hg j y hy
     cases i with
     | zero =>
      simp at hz'; subst hz'
      rw [List.getD_eq_getElem?_getD, hn]
      exact .pv _
     | succ i => simp at hz')
   rw [List.length_map, hlen] at key
   exact .cl key
end
end Go.Proofs.YtlgknoapdbpojaaGreat.Am
