/- Part 6 of the texts that the proof of LawFnNodeCame leans on, merged by program. -/
import Derived.Test.YtlgknoapdbpojaaGreatKq5
set_option linter.unusedVariables false
set_option linter.unusedSimpArgs false
set_option maxHeartbeats 4000000
set_option autoImplicit true
set_option relaxedAutoImplicit true
namespace Go.Proofs.YtlgknoapdbpojaaGreat.Am
open Go Go.RowKit
section
theorem b8s (bs : List Nat) (hbs : ∀ b ∈ bs, b < 256)  : a1r Tryz.prog 5 [p7p true bs] (.pv (.bool (true))) := by
 refine pX Tryz.f5 [.pv (.bool (true))] 2 ?_
 refine exR (x0x rfl (x2x fun K1 hK1 => ?_))
 refine exR (x4x rfl (z3z rfl b9a rfl (v6v rfl rfl rfl (x7x rfl ?_ ?_))))<;>intro o<;>try simp at o
 ·refine exR (x0x rfl (x6x ⟨.inr rfl, ?_⟩))
  refine y9y rfl ?_ rfl
  rfl
 refine x8x (hK1 _ _ (a0p fun B X0 w0 => ?_))
 refine txR 1 rfl rfl (x4x rfl ?_)
 refine txM [] [] (b5r bs hbs) rfl rfl rfl rfl fun j hj => ?_
 obtain ⟨n, p⟩ := j
 dsimp only at hj ⊢
 refine txR 6 rfl rfl (x1x 3 rfl rfl (y6y (id := 0) y5y s9s rfl (x3x rfl rfl y5y rfl rfl rfl rfl (x0x rfl (v9v rfl (exA 2 rfl rfl (x9x rfl rfl rfl (c2t true n p) (x0x rfl (exA 2 rfl rfl ?_)))))))))
 refine rlM [1] [_] (b8r true n p) rfl rfl rfl ?_
 refine x0x rfl (x2x fun K3 hK3 => ?_)
 refine a0l (f := v5v) 6 rfl rfl (fun _ => rfl) ?_
 refine exA 2 rfl rfl (x9x rfl rfl rfl (c2r true true (b3w n p) (b3w n p)) ?_)
 refine a1s rfl (x7x rfl (fun hc4 => ?_) (fun hc4 => ?_))
 ·(simp at hc4; done)
 try simp at hc4
 refine x8x (hK3 _ _ (x2x fun K5 hK5 => ?_))
 refine exR (x0x rfl (y0y (r1r 6 rfl fun hlen => ?_)))
 refine z2z (ι := Nat) (fun i γ1 => [(7, pI (i : Int))]) (fun i γ1 => []) (fun i => i ≤ (b3w n p).length) (fun i => (b3w n p).length - i) (cK [3, 4, 6] rfl) (hK [0, 1] rfl) 0 (by omega) [] cv hv rfl fun i γ1 hi => ?_
 refine x2x fun K6 hK6 => ?_
 refine exA 2 rfl rfl (z3z rfl u8u rfl (v6v rfl rfl rfl (x7x rfl ?_ ?_)))<;>intro o<;>try simp at o
 ·obtain ⟨e, he⟩ := gE (b3w n p) i
  obtain ⟨e1, e2⟩ := e4y (List.mem_of_getElem? he)
  refine x8x (hK6 _ _ (x2x fun K8 hK8 => ?_))
  refine y0y (exD (x1x 2 rfl rfl (y7y rfl rfl u8u rfl z6z rfl he (x1x 5 rfl rfl (z9z rfl rfl ?_ ?_)))))<;>intro o<;>try simp at o
  ·refine x1x 25 rfl rfl ⟨by kernel_rfl, x7x rfl (fun hc15 => ?_) (fun hc15 => ?_)⟩
   ·(simp_all; done)
   (simp at hc15; done)
  refine x1x 2 rfl rfl (z1z rfl rfl (y7y rfl rfl u8u rfl z6z rfl he (x1x 7 rfl rfl (z9z rfl rfl ?_ ?_))))<;>intro o<;>try simp at o
  ·refine x1x 15 rfl rfl ⟨by kernel_rfl, x7x rfl (fun hc14 => ?_) (fun hc14 => ?_)⟩
   ·(simp_all; omega)
   (simp at hc14; done)
  refine x1x 3 rfl rfl (z9z rfl rfl ?_ ?_)<;>intro o<;>try simp at o
  ·refine x1x 12 rfl rfl ⟨by kernel_rfl, x7x rfl (fun hc13 => ?_) (fun hc13 => ?_)⟩
   ·(simp at hc13; done)
   try simp at hc13
   refine x8x (hK8 _ _ (exG (x4x rfl (z5z (b := 1) rfl rfl (by omega) (x0x rfl ?_)))))
   exact ⟨i + 1, ⟨by omega, by omega⟩, [], cv, cv, hv, hv, rfl⟩
  obtain ⟨a, ha⟩ := gE (b3w n p) (i - 1)
  have hlt := e5a (by omega) ha he
  refine x1x 2 rfl rfl (z1z rfl rfl (a0y (.int .i64 ((i - 1 : Nat) : Int)) rfl rfl rfl (a9c rfl (by omega) (by omega) (by omega)) ?_))
  refine z1z rfl rfl (y7y rfl rfl u8u rfl z6z rfl ha (x1x 3 rfl rfl (z1z rfl rfl (y7y rfl rfl u8u rfl z6z rfl he (z1z rfl rfl (u5u rfl z6z rfl rfl (z1z rfl rfl (x9x rfl rfl rfl (a7b a e) (x1x 3 rfl rfl ⟨by kernel_rfl, x7x rfl (fun hc12 => ?_) (fun hc12 => ?_)⟩)))))))))
  ·(simp_all; done)
  try simp at hc12
  refine x8x (hK8 _ _ (exG (x4x rfl (z5z (b := 1) rfl rfl (by omega) (x0x rfl ?_)))))
  exact ⟨i + 1, ⟨by omega, by omega⟩, [], cv, cv, hv, hv, rfl⟩
 refine z4z (hK5 _ _ (x2x fun K16 hK16 => ?_))
 refine exR (x0x rfl (y0y ?_))
 refine z2z (ι := Nat) (fun i γ2 => [(8, pI (i : Int))]) (fun i γ2 => []) (fun i => i ≤ n.lanes.length) (fun i => n.lanes.length - i) (cK [3, 4, 6] rfl) (hK [0, 1] rfl) 0 (by omega) [] cv hv rfl fun i γ2 hi => ?_
 refine x2x fun K17 hK17 => ?_
 refine exA 3 rfl rfl (z3z rfl r5r rfl (x1x 2 rfl rfl (z9z rfl rfl ?_ ?_)))<;>intro o<;>try simp at o
 ·refine x1x 2 rfl rfl (x7x rfl (fun hc29 => ?_) (fun hc29 => ?_))
  ·(simp at hc29; done)
  try simp at hc29
  refine z4z (hK16 _ _ (exR (x0x rfl (x6x ⟨.inr rfl, ?_⟩))))
  refine y9y rfl ?_ rfl
  rfl
 refine x5x rfl y5y rfl rfl rfl (z1z rfl rfl (x9x rfl rfl rfl (b7c true n) (a8r rfl rfl (y4y rfl ?_ ?_))))<;>intro hc19<;>try simp at hc19
 ·refine z4z (hK16 _ _ (exR (x0x rfl (x6x ⟨.inr rfl, ?_⟩))))
  refine y9y rfl ?_ rfl
  rfl
 have fK : z7z n := a1o.1 (by simpa using hc19)
 have fS := fK.1
 have fB := q5q fS
 obtain ⟨l, hl⟩ := gE n.lanes i
 have hD := (a2p (fS.2.2.2.2.2.2.2.1 i l hl).2).1
 refine x8x (hK17 _ _ (x2x fun K20 hK20 => ?_))
 refine y0y (exR (x0x rfl (y0y ?_)))
 refine z2z (ι := Nat) (fun k γ3 => [(9, pI (k : Int))]) (fun k γ3 => []) (fun k => k ≤ l.done.length) (fun k => l.done.length - k) (cK [3, 4, 6, 8] rfl) (hK [0, 1] rfl) 0 (by omega) [] cv hv rfl fun k γ3 hi => ?_
 refine x2x fun K21 hK21 => ?_
 refine exA 4 rfl rfl (y7y rfl rfl r5r rfl v7v rfl hl (x1x 2 rfl rfl (z3z rfl r9r rfl (x1x 2 rfl rfl (z9z rfl rfl ?_ ?_)))))<;>intro o<;>try simp at o
 ·refine x1x 8 rfl rfl (x7x rfl (fun hc28 => ?_) (fun hc28 => ?_))
  ·(simp at hc28; done)
  try simp at hc28
  refine z4z (hK20 _ _ (exG (x4x rfl (z5z (b := 1) rfl rfl (by omega) (x0x rfl ?_)))))
  exact ⟨i + 1, ⟨by omega, by omega⟩, [], cv, cv, hv, hv, rfl⟩
 refine x1x 3 rfl rfl (z1z rfl rfl (y7y rfl rfl r5r rfl v7v rfl hl (x1x 5 rfl rfl (y4y rfl ?_ ?_))))<;>intro hc23<;>try simp at hc23
 ·refine z4z (hK20 _ _ (exG (x4x rfl (z5z (b := 1) rfl rfl (by omega) (x0x rfl ?_)))))
  exact ⟨i + 1, ⟨by omega, by omega⟩, [], cv, cv, hv, hv, rfl⟩
 have hp : l.proc = p := hc23
 obtain ⟨q, hq⟩ := gE l.done k
 have hd := d5w fK hl hq
 rw [hp] at hd
 have hk := v1v hd
 refine x8x (hK21 _ _ (x2x fun K24 hK24 => ?_))
 refine y0y (exD (x1x 2 rfl rfl (z3z rfl u8u rfl (x1x 2 rfl rfl (z9z rfl rfl ?_ ?_)))))<;>intro o<;>try simp at o
 ·refine x1x 15 rfl rfl ⟨by kernel_rfl, x7x rfl (fun hc27 => ?_) (fun hc27 => ?_)⟩
  ·(simp_all; omega)
  (simp at hc27; done)
 refine x1x 2 rfl rfl (z1z rfl rfl (y7y rfl rfl u8u rfl z6z rfl hd (x1x 4 rfl rfl (z1z rfl rfl (y7y rfl rfl r5r rfl v7v rfl hl (x1x 3 rfl rfl (z1z rfl rfl (y7y rfl rfl r9r rfl a0g rfl hq (x1x 2 rfl rfl (z1z rfl rfl (c0n rfl rfl (by intro a c h; cases h) (.inr rfl) (e8f _ _ _ _) ?_)))))))))))
 refine b9p rfl rfl ⟨by kernel_rfl, x7x rfl (fun hc26 => ?_) (fun hc26 => ?_)⟩
 ·(simp at hc26; done)
 try simp at hc26
 refine x8x (hK24 _ _ (exG (x4x rfl (z5z (b := 1) rfl rfl (by omega) (x0x rfl ?_)))))
 exact ⟨k + 1, ⟨by omega, by omega⟩, [], cv, cv, hv, hv, rfl⟩
end
section
def X0 (w : World) : Cx := ⟨fun b => b < w.heap.size, fun b => b < w.heap.size, fun _ _ => none, fun _ _ => none⟩
theorem e5b (w : World) : SRh (X0 w) ⟨w, fun _ => False, fun b => b < w.heap.size, fun b => b < w.heap.size⟩ (fun _ => none) w := by
 refine ⟨fun _ => [], ?_, ?_, ?_, ?_, ?_, ?_, ?_, ?_, ?_, rfl, rfl, rfl, Nat.le_refl _, fun _ _ _ => rfl⟩
 ·intro id g e h; cases h
 ·intro id ge b h; cases h
 ·intro id id' ge ge' b h; cases h
 ·intro b hb; exact ⟨hb, fun id ge h => by cases h⟩
 ·intro b hb; exact hb
 ·intro b hb; exact .inl hb
 ·intro b hb; exact .inl hb
 ·intro id ge b h; cases h
 ·intro id g h; exact ⟨rfl, rfl⟩
theorem d1z (hC : a1r P f avs (.pv u)) (w : World) (vs : List Value) (hl : vs.length = avs.length) (hr : ∀ (i : Nat) (a : AV) (v : Value), avs[i]? = some a → vs[i]? = some v → VR (X0 w) w a v) :
  Calls P f vs.toArray w fun e w' => e = .returned u ∧ Below w.heap.size w w' :=
 (hC.2 (X0 w) _ (fun _ => none) w vs (e5b w) hl hr (fun id ge h => by cases h)).mono fun e w' ⟨v, he, X', hX, hS, hk, hv⟩ => by
  rw [hv.pv_inv] at he
  obtain ⟨F, hS⟩ := hS
  exact ⟨he, hS.os, hS.tape, hS.output, hS.size, fun k hk => hS.keep k hk (fun h => h)⟩
def e9p (k : IntKind) (w : World) (a : Option Addr) (len cap : Nat) (zs : List Int) : Prop :=
 (a = none ∧ len = 0 ∧ cap = 0 ∧ zs = []) ∨
 ∃ x, a = some x ∧ len ≤ cap ∧ cap ≤ maxLen ∧ zs.length = cap ∧ (∀ i, i < zs.length → w.cell? (x.add i) = some (.int k (zs.getD i 0))) ∧ ∀ n ∈ zs, (Lit.int k n).wf = true
theorem e1q (h : e9p .u8 w a len cap zs) : ∃ bs : List Nat, (∀ b ∈ bs, b < 256) ∧ VR (X0 w) w (p7p true bs) (.slice a len cap) := by
 rcases h with ⟨rfl, rfl, rfl, rfl⟩ | ⟨x, rfl, hl, hm, hz, hc, hw⟩
 ·exact ⟨[], (fun b hb => by cases hb), .cl (.row none 0 (fun _ _ => undef) (Nat.le_refl _) (Nat.zero_le _) (fun j x hx => by simp at hx) (fun j i x y hx => by simp at hx) (fun h => by simp at h) (fun ad j i x y hA => by cases hA) (fun j i x y hx => by simp at hx))⟩
 ·have hb : ∀ n ∈ zs, 0 ≤ n ∧ n < 256 := fun n hn => by
   have := hw n hn
   simp only [Lit.wf, Bool.and_eq_true, decide_eq_true_eq, IntKind.min, IntKind.max] at this
   simp [IntKind.signed, IntKind.bits] at this
   omega
  refine ⟨(zs.take len).map Int.toNat, fun b hb' => ?_, ?_⟩
  ·obtain ⟨n, hn, rfl⟩ := List.mem_map.1 hb'
   have := hb n (List.mem_of_mem_take hn)
   omega
  ·have hlen : ((zs.take len).map Int.toNat).length = len := by rw [List.length_map, List.length_take]; omega
   have hg : ∀ (j : Nat) (y : List AV), (((zs.take len).map Int.toNat).map f2j)[j]? = some y → j < len ∧ ∃ n, zs[j]? = some n ∧ y = [.pv (.int .u8 n)] := fun j y hy => by
    rw [List.getElem?_map, List.getElem?_map, List.getElem?_take] at hy
    split at hy
    ·rename_i hj
     cases hn : zs[j]? with
     | none => rw [hn] at hy; cases hy
     | some n =>
      rw [hn] at hy
      refine ⟨hj, n, rfl, ?_⟩
      have h0 := hb n (List.mem_of_getElem? hn)
      simp only [Option.map_some, Option.some.injEq] at hy
      rw [← hy, f2j, Int.toNat_of_nonneg h0.1]
    ·cases hy
   have key := CR.row (ok1 := (X0 w).ok1) (ok2 := (X0 w).ok2) (w := w) (m := true) (ty := 5) (sz := 1) (xs := ((zs.take len).map Int.toNat).map f2j) (some x) cap (fun j _ => .int .u8 (zs.getD j 0))
    (by rw [List.length_map, hlen]; exact hl) hm (fun j y hy => by obtain ⟨_, n, _, rfl⟩ := hg j y hy; rfl)
    (fun j i y z hy hz' => by
     obtain ⟨_, n, _, rfl⟩ := hg j y hy
     cases i with
     | zero => simp at hz'; subst hz'; rfl
     | succ i => simp at hz')
    (fun hp => ⟨x, rfl, by
     rw [List.length_map, hlen] at hp
     have := hc 0 (by omega)
     have h2 := World.block_lt_of_cell? w _ this
     show x.block < w.heap.size
     simpa [Addr.add] using h2⟩)
    (fun ad j i y z hA hy hz' => by
     cases hA
     obtain ⟨hj, n, hn, rfl⟩ := hg j y hy
     cases i with
     | zero =>
      have := hc j (by omega)
      simpa using this
     | succ i => simp at hz')
    (fun j i y z hy hz' => by
     obtain ⟨hj, n, hn, rfl⟩ := hg j y hy
     cases i with
     | zero =>
      simp at hz'; subst hz'
      rw [List.getD_eq_getElem?_getD, hn]
      exact .pv _
     | succ i => simp at hz')
   rw [List.length_map, hlen] at key
   exact .cl key
end
end Go.Proofs.YtlgknoapdbpojaaGreat.Am
