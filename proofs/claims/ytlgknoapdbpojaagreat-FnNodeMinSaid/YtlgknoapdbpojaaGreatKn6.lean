/- Part 6 of the texts that the proof of LawFnNodeMin leans on, merged by program. -/
import Derived.Test.YtlgknoapdbpojaaGreatKn5
set_option linter.unusedVariables false
set_option linter.unusedSimpArgs false
set_option maxHeartbeats 4000000
set_option autoImplicit true
set_option relaxedAutoImplicit true
namespace Go.Proofs.YtlgknoapdbpojaaGreat.Am
open Go Go.RowKit
section
variable {l : La}
theorem e5h {s : List Ev} (h : (a0n l s).2 = true) : (a0n l s).1 ∈ s := by
 unfold a0n at h ⊢
 split at h
 ·cases h
 ·rename_i k
  rw [if_neg k]
  split at h
  ·rename_i e he; exact List.mem_of_getElem? he
  ·cases h
theorem e1x {n : Nd} (h : n.g ≤ 41) : ∀ k, n.g ≤ a5c n k
 | 0 => by unfold a5c; exact h
 | k + 1 => by
  have ih := e1x h k
  cases hl : n.lanes[k]? with
  | none => unfold a5c; rw [hl]; exact ih
  | some l =>
   by_cases h2 : (a0n l (r7r n l.proc)).2 = true ∧ (a0n l (r7r n l.proc)).1.time < a5c n k
   ·rw [b8n hl h2]; exact (c6t.1 (e5h h2.1)).2.2
   ·rw [b2s hl h2]; exact ih
theorem d0m {n : Nd} : ∀ (k i : Nat) (l : La), i < k → n.lanes[i]? = some l → (a0n l (r7r n l.proc)).2 = true → a5c n k ≤ (a0n l (r7r n l.proc)).1.time
 | 0, i, l, hi, _, _ => absurd hi (Nat.not_lt_zero i)
 | k + 1, i, l, hi, hl, h2 => by
  have ih := d0m (n := n) k i l
  by_cases e : i = k
  ·subst e
   by_cases h3 : (a0n l (r7r n l.proc)).2 = true ∧ (a0n l (r7r n l.proc)).1.time < a5c n i
   ·rw [b8n hl h3]; exact Int.le_refl _
   ·rw [b2s hl h3]
    have : ¬ (a0n l (r7r n l.proc)).1.time < a5c n i := fun h4 => h3 ⟨h2, h4⟩
    omega
  ·have ih2 := ih (by omega) hl h2
   cases hk : n.lanes[k]? with
   | none => unfold a5c; rw [hk]; exact ih2
   | some m =>
    by_cases h3 : (a0n m (r7r n m.proc)).2 = true ∧ (a0n m (r7r n m.proc)).1.time < a5c n k
    ·rw [b8n hk h3]; have := h3.2; omega
    ·rw [b2s hk h3]; exact ih2
variable {n : Nd}
theorem e1y (h : u1u n) {i : Nat} (hl : n.lanes[i]? = some l) (h2 : (a0n l (r7r n l.proc)).2 = false) : (r7r n l.proc).length = l.done.length := by
 have h3 := (a8k h hl).2.2.2
 have h4 := b7c l.done (r7r n l.proc)
 by_cases k : (r7r n l.proc).length ≤ same l.done (r7r n l.proc)
 ·omega
 ·obtain ⟨e, he⟩ : ∃ e, (r7r n l.proc)[same l.done (r7r n l.proc)]? = some e := ⟨_, List.getElem?_eq_getElem (by omega)⟩
  rw [d1l (by omega) he] at h2; cases h2

theorem e9t (h : u1u n) : (n.g ≤ e3o n ∧ e3o n ≤ 41) ∧ ∀ (i : Nat) (l : La), n.lanes[i]? = some l → a0u l.proc = n.id ∧ ((a0n l (r7r n l.proc)).2 = true → e3o n ≤ (a0n l (r7r n l.proc)).1.time) ∧ ((a0n l (r7r n l.proc)).2 = false → (r7r n l.proc).length = l.done.length) :=
 ⟨⟨e1x h.1.1.2.2.1.2 _, (c2t h _).2⟩, fun i l hl => ⟨by exact (b2p (List.mem_of_getElem? (a8k h hl).1)).1, fun h2 => d0m _ i l (List.getElem?_eq_some_iff.1 hl).1 hl h2, fun h2 => e1y h hl h2⟩⟩
end
section
theorem b9w (bs : List Nat) (hbs : ∀ b ∈ bs, b < 256)  : a1p Tryz.prog 7 [p7p true bs] (.pv (.bool (true))) := by
 refine pX Tryz.f7 [.pv (.bool (true))] 2 ?_
 refine exR (x1x rfl (x2x fun K1 hK1 => ?_))
 refine exR (x4x rfl (z3z rfl b9k rfl (v6v rfl rfl rfl (x8x rfl ?_ ?_))))<;>intro h<;>try simp at h
 ·refine exR (x1x rfl (x6x ⟨.inr rfl, ?_⟩))
  refine y9y rfl ?_ rfl
  rfl
 refine x7x (hK1 _ _ (a0q fun B X0 w0 => ?_))
 refine txR 1 rfl rfl (x4x rfl ?_)
 refine txM [] [] (b7t bs hbs) rfl rfl rfl rfl fun n hn => ?_
 refine txR 2 rfl rfl (y7y (id := 0) y5y s8s rfl (x3x rfl rfl y5y rfl rfl rfl rfl (v8v rfl (exR (x5x rfl y5y rfl rfl rfl (x9x rfl rfl rfl (a9o true n) (x1x rfl (exR (x5x rfl y5y rfl rfl rfl (x9x rfl rfl rfl (c4a true n) (x1x rfl (x2x fun K3 hK3 => ?_))))))))))))
 refine exA 4 rfl rfl (e9v rfl rfl (fun hg4 => ?_) (fun hg4 => ?_))
 rotate_left
 ·(simp at hg4; done)
 try simp at hg4
 refine x5x rfl y5y rfl rfl rfl (z1z rfl rfl (x9x rfl rfl rfl (q9q true n) (x0x 2 rfl rfl (x8x rfl ?_ ?_))))<;>intro hc5<;>try simp at hc5
 ·refine exA 4 rfl rfl (x6x ⟨.inr rfl, ?_⟩)
  refine y9y rfl ?_ rfl
  (simp; done)
 have fK : u1u n := a1x.1 (by simpa using hc5)
 have fS := fK.1
 have fB := q3q fS
 have fm := b2u fK
 obtain ⟨fg, fl⟩ := e9t fK
 refine x7x (hK3 _ _ (x2x fun K6 hK6 => ?_))
 refine exR (x1x rfl (y0y ?_))
 refine z2z (ι := Nat) (fun i γ1 => [(6, pI (i : Int))]) (fun i γ1 => [(1, ((γ1 1), .dead))]) (fun i => i ≤ n.lanes.length) (fun i => n.lanes.length - i) (cK [3, 5] rfl) (y6y 0 rfl HE.nil) 0 (by omega) [0, _] cv hv rfl fun i γ1 hi => ?_
 refine x2x fun K7 hK7 => ?_
 refine exA 3 rfl rfl (z3z rfl r6r rfl (v6v rfl rfl rfl (y4y rfl ?_ ?_)))<;>intro h<;>try simp at h
 ·refine z5z (hK6 _ _ (exA 5 rfl rfl (z8z rfl rfl ?_ ?_)))<;>intro h<;>try simp at h
  ·refine x0x 3 rfl rfl (x6x ⟨.inr rfl, ?_⟩)
   refine y9y rfl ?_ rfl
   exact congrArg (fun b : Bool => [AV.pv (.bool b)]) (by simp; omega)
  refine x0x 4 rfl rfl (x6x ⟨.inr rfl, ?_⟩)
  refine y9y rfl ?_ rfl
  exact congrArg (fun b : Bool => [AV.pv (.bool b)]) (by simp; omega)
 obtain ⟨l, hl⟩ := gE n.lanes i
 have hnc := a8k fK hl
 have hq := fl i l hl
 refine x7x (hK7 _ _ (x2x fun K9 hK9 => ?_))
 refine y0y (exD (x0x 3 rfl rfl (y8y rfl rfl r6r rfl v7v rfl hl (x0x 5 rfl rfl (y8y rfl rfl r6r rfl v7v rfl hl (x0x 2 rfl rfl (x9x rfl rfl rfl (a8l true n l.proc fK hq.1) (x9x rfl rfl rfl (c2p true true l (r7r n l.proc) hnc.2.1 hnc.2.2.1) ?_))))))))
 refine x0x 3 rfl rfl (y7y (id := 1) z6z a6e rfl (x3x rfl rfl z6z rfl rfl rfl rfl (x1x rfl ⟨by kernel_rfl, exD (x0x 2 rfl rfl (z8z rfl rfl ?_ ?_))⟩)))<;>intro h<;>try simp at h
 ·refine x0x 8 rfl rfl (z8z rfl rfl ?_ ?_)<;>intro h<;>try simp at h
  ·refine x0x 18 rfl rfl ⟨by kernel_rfl, x8x rfl (fun hc18 => ?_) (fun hc18 => ?_)⟩
   ·(simp at hc18; done)
   try simp at hc18
   refine x7x (hK9 _ _ (exG (x4x rfl (z4z (b := 1) rfl rfl (by omega) (x1x rfl ?_)))))
   exact ⟨i + 1, ⟨by omega, by omega⟩, [0, _], cv, cv, hv, hv, rfl⟩
  refine x0x 4 rfl rfl (z1z rfl rfl (y8y rfl rfl r6r rfl v7v rfl hl (x0x 2 rfl rfl (z1z rfl rfl (x9x rfl rfl rfl (a8l true n l.proc fK hq.1) (z1z rfl rfl (z3z rfl u8u rfl (x0x 3 rfl rfl (z1z rfl rfl (y8y rfl rfl r6r rfl v7v rfl hl (x0x 2 rfl rfl (z1z rfl rfl (z3z rfl r8r rfl (x0x 3 rfl rfl ⟨by kernel_rfl, x8x rfl (fun hc17 => ?_) (fun hc17 => ?_)⟩))))))))))))))
  ·(simp_all; done)
  try simp at hc17
  refine x7x (hK9 _ _ (exG (x4x rfl (z4z (b := 1) rfl rfl (by omega) (x1x rfl ?_)))))
  exact ⟨i + 1, ⟨by omega, by omega⟩, [0, _], cv, cv, hv, hv, rfl⟩
 refine x0x 6 rfl rfl (z8z rfl rfl ?_ ?_)<;>intro h<;>try simp at h
 ·refine x0x 21 rfl rfl ⟨by kernel_rfl, x8x rfl (fun hc15 => ?_) (fun hc15 => ?_)⟩
  ·(simp_all; omega)
  (simp at hc15; done)
 refine x0x 3 rfl rfl (z8z rfl rfl ?_ ?_)<;>intro h<;>try simp at h
 ·refine x0x 18 rfl rfl ⟨by kernel_rfl, x8x rfl (fun hc14 => ?_) (fun hc14 => ?_)⟩
  ·(simp at hc14; done)
  try simp at hc14
  refine x7x (hK9 _ _ (exG (x4x rfl (z4z (b := 1) rfl rfl (by omega) (x1x rfl ?_)))))
  exact ⟨i + 1, ⟨by omega, by omega⟩, [0, _], cv, cv, hv, hv, rfl⟩
 refine x0x 4 rfl rfl (z1z rfl rfl (y8y rfl rfl r6r rfl v7v rfl hl (x0x 2 rfl rfl (z1z rfl rfl (x9x rfl rfl rfl (a8l true n l.proc fK hq.1) (z1z rfl rfl (z3z rfl u8u rfl (x0x 3 rfl rfl (z1z rfl rfl (y8y rfl rfl r6r rfl v7v rfl hl (x0x 2 rfl rfl (z1z rfl rfl (z3z rfl r8r rfl (x0x 3 rfl rfl ⟨by kernel_rfl, x8x rfl (fun hc13 => ?_) (fun hc13 => ?_)⟩))))))))))))))
 ·(simp_all; done)
 try simp at hc13
 refine x7x (hK9 _ _ (exG (x4x rfl (z4z (b := 1) rfl rfl (by omega) (x1x rfl ?_)))))
 exact ⟨i + 1, ⟨by omega, by omega⟩, [0, _], cv, cv, hv, hv, rfl⟩
end
section
def X0 (w : World) : Cx := ⟨fun b => b < w.heap.size, fun b => b < w.heap.size, fun _ _ => none, fun _ _ => none⟩
theorem e5i (w : World) : SRh (X0 w) ⟨w, fun _ => False, fun b => b < w.heap.size, fun b => b < w.heap.size⟩ (fun _ => none) w := by
 refine ⟨fun _ => [], ?_, ?_, ?_, ?_, ?_, ?_, ?_, ?_, ?_, rfl, rfl, rfl, Nat.le_refl _, fun _ _ _ => rfl⟩
 ·intro id g e h; cases h
 ·intro id ge b h; cases h
 ·intro id id' ge ge' b h; cases h
 ·intro b hb; exact ⟨hb, fun id ge h => by cases h⟩
 ·intro b hb; exact hb
 ·intro b hb; exact .inl hb
 ·intro b hb; exact .inl hb
 ·intro id ge b h; cases h
 ·intro id g h; exact ⟨rfl, rfl⟩
theorem d2i (hC : a1p P f avs (.pv u)) (w : World) (vs : List Value) (hl : vs.length = avs.length) (hr : ∀ (i : Nat) (a : AV) (v : Value), avs[i]? = some a → vs[i]? = some v → VR (X0 w) w a v) :
  Calls P f vs.toArray w fun e w' => e = .returned u ∧ Below w.heap.size w w' :=
 (hC.2 (X0 w) _ (fun _ => none) w vs (e5i w) hl hr (fun id ge h => by cases h)).mono fun e w' ⟨v, he, X', hX, hS, hk, hv⟩ => by
  rw [hv.pv_inv] at he
  obtain ⟨F, hS⟩ := hS
  exact ⟨he, hS.os, hS.tape, hS.output, hS.size, fun k hk => hS.keep k hk (fun h => h)⟩
def e9u (k : IntKind) (w : World) (a : Option Addr) (len cap : Nat) (zs : List Int) : Prop :=
 (a = none ∧ len = 0 ∧ cap = 0 ∧ zs = []) ∨
 ∃ x, a = some x ∧ len ≤ cap ∧ cap ≤ maxLen ∧ zs.length = cap ∧ (∀ i, i < zs.length → w.cell? (x.add i) = some (.int k (zs.getD i 0))) ∧ ∀ n ∈ zs, (Lit.int k n).wf = true
theorem e1z (h : e9u .u8 w a len cap zs) : ∃ bs : List Nat, (∀ b ∈ bs, b < 256) ∧ VR (X0 w) w (p7p true bs) (.slice a len cap) := by
 rcases h with ⟨rfl, rfl, rfl, rfl⟩ | ⟨x, rfl, hl, hm, hz, hc, hw⟩
 ·exact ⟨[], (fun b hb => by cases hb), .cl (.row none 0 (fun _ _ => undef) (Nat.le_refl _) (Nat.zero_le _) (fun j x hx => by simp at hx) (fun j i x y hx => by simp at hx) (fun h => by simp at h) (fun ad j i x y hA => by cases hA) (fun j i x y hx => by simp at hx))⟩
 ·have hb : ∀ n ∈ zs, 0 ≤ n ∧ n < 256 := fun n hn => by
   have := hw n hn
   simp only [Lit.wf, Bool.and_eq_true, decide_eq_true_eq, IntKind.min, IntKind.max] at this
   simp [IntKind.signed, IntKind.bits] at this
   omega
  refine ⟨(zs.take len).map Int.toNat, fun b hb' => ?_, ?_⟩
  ·obtain ⟨n, hn, rfl⟩ := List.mem_map.1 hb'
   have := hb n (List.mem_of_mem_take hn)
   omega
  ·have hlen : ((zs.take len).map Int.toNat).length = len := by rw [List.length_map, List.length_take]; omega
   have hg : ∀ (j : Nat) (y : List AV), (((zs.take len).map Int.toNat).map f2n)[j]? = some y → j < len ∧ ∃ n, zs[j]? = some n ∧ y = [.pv (.int .u8 n)] := fun j y hy => by
    rw [List.getElem?_map, List.getElem?_map, List.getElem?_take] at hy
    split at hy
    ·rename_i hj
     cases hn : zs[j]? with
     | none => rw [hn] at hy; cases hy
     | some n =>
      rw [hn] at hy
      refine ⟨hj, n, rfl, ?_⟩
      have h0 := hb n (List.mem_of_getElem? hn)
      simp only [Option.map_some, Option.some.injEq] at hy
      rw [← hy, f2n, Int.toNat_of_nonneg h0.1]
    ·cases hy
   have key := CR.row (ok1 := (X0 w).ok1) (ok2 := (X0 w).ok2) (w := w) (m := true) (ty := 5) (sz := 1) (xs := ((zs.take len).map Int.toNat).map f2n) (some x) cap (fun j _ => .int .u8 (zs.getD j 0))
    (by rw [List.length_map, hlen]; exact hl) hm (fun j y hy => by obtain ⟨_, n, _, rfl⟩ := hg j y hy; rfl)
    (fun j i y z hy hz' => by
     obtain ⟨_, n, _, rfl⟩ := hg j y hy
     cases i with
     | zero => simp at hz'; subst hz'; rfl
     | succ i => simp at hz')
    (fun hp => ⟨x, rfl, by
     rw [List.length_map, hlen] at hp
     have := hc 0 (by omega)
     have h2 := World.block_lt_of_cell? w _ this
     show x.block < w.heap.size
     simpa [Addr.add] using h2⟩)
    (fun ad j i y z hA hy hz' => by
     cases hA
     obtain ⟨hj, n, hn, rfl⟩ := hg j y hy
     cases i with
     | zero =>
      have := hc j (by omega)
      simpa using this
     | succ i => simp at hz')
    (fun j i y z hy hz' => by
     obtain ⟨hj, n, hn, rfl⟩ := hg j y hy
     cases i with
     | zero =>
      simp at hz'; subst hz'
      rw [List.getD_eq_getElem?_getD, hn]
      exact .pv _
     | succ i => simp at hz')
   rw [List.length_map, hlen] at key
   exact .cl key
end
end Go.Proofs.YtlgknoapdbpojaaGreat.Am
