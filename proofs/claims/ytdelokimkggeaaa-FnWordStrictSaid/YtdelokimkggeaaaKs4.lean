/- Part 4 of the texts that the proof of LawFnWordStrict leans on, merged by program. -/
import Derived.Test.YtdelokimkggeaaaKs3
set_option linter.unusedVariables false
set_option linter.unusedSimpArgs false
set_option maxHeartbeats 4000000
set_option autoImplicit true
set_option relaxedAutoImplicit true
namespace Go.Proofs.Ytdelokimkggeaaa.Am
open Go Go.RowKit
section
theorem r1r (c : Bool) (bs : List Nat) (hbs : ∀ b ∈ bs, b < 256) (hbl : bs.length ≤ 100000000) (r : Rd7) (hr : r.at' ≤ bs.length) : Meth Try.prog 60 1 [0] [.ptr 0 0 0] [(0, (0, .box 44 [v5v c bs, pI ((r.at' : Nat) : Int), .pv (.bool r.bad)]))] (.pv (.int .i64 (a1i bs r).1)) [(0, (0, .box 44 [v5v c bs, pI (((a1i bs r).2.at' : Nat) : Int), .pv (.bool (a1i bs r).2.bad)]))] := by
 refine p6p x9x (fn := Try.f60) (by kernel_rfl) (by kernel_rfl) rfl (O0 := [.pv (.int .i64 (a1i bs r).1)]) 1 0 (u3u rfl) (by rfl) (by repeat (first | exact BndH.nil | refine BndH.box rfl ?_)) (by repeat (first | exact BndH.nil | refine BndH.box rfl ?_)) (by rfl) fun γ => ?_
 show Ex Try.prog _ _ [(0, .ptr 0 (γ 0) 0)] [(0, ((γ 0), .box 44 [v5v c bs, pI ((r.at' : Nat) : Int), .pv (.bool r.bad)]))] _
 obtain ⟨p, bad⟩ := r
 have hr' : p ≤ bs.length := hr
 obtain ⟨F, hF⟩ : ∃ F, a1i bs ⟨p, bad⟩ = F := ⟨_, rfl⟩
 rw [hF]
 unfold a1i at hF
 dsimp only at hF ⊢
 refine x7x x9x (by rfl) ?_
 refine x2x rfl ?_
 refine x7x x9x (by rfl) ?_
 refine x2x rfl ?_
 refine x7x x9x (by rfl) ?_
 refine x2x rfl ?_
 refine x8x fun K1 hK1 => ?_
 refine x7x x9x (by rfl) ?_
 refine x2x rfl ?_
 refine y7y ?_
 refine a3i 4 ?_
 refine p0p fun K2 hK2 => ?_
 refine x8x fun K3 hK3 => ?_
 refine x7x x9x (by rfl) ?_
 refine x0x rfl ?_
 refine z0z rfl rfl rfl ?_
 refine y1y rfl (fun hc4 => ?_) (fun hc4 => ?_)
 rotate_left
 ·simp at hc4
 try simp at hc4
 refine y8y ?_
 refine hK3 _ _ ?_
 clear hK3 K3
 refine x8x fun K5 hK5 => ?_
 refine y7y ?_
 refine x8x fun K6 hK6 => ?_
 refine q5q x9x s7s (by rfl) ?_
 refine x0x rfl ?_
 refine u7u rfl rfl ?_
 refine x1x rfl a0x rfl rfl y5y rfl rfl ?_
 refine x3x rfl y5y rfl rfl ?_
 refine x0x rfl ?_
 refine u7u rfl rfl ?_
 refine x1x rfl a0x rfl rfl v6v rfl rfl ?_
 refine x3x rfl v6v rfl rfl ?_
 refine v3v rfl v6v rfl ?_
 refine z0z rfl rfl rfl ?_
 refine ⟨by kernel_rfl, ?_⟩
 refine y1y rfl (fun hc7 => ?_) (fun hc7 => ?_)
 ·try simp at hc7
  rw [b3r (by omega), Bool.or_true] at hF
  subst hF
  refine x7x x9x (by rfl) ?_
  refine x0x rfl ?_
  refine u7u rfl rfl ?_
  refine x1x rfl a0x rfl rfl a8d rfl rfl ?_
  refine z8z rfl rfl a8d rfl rfl rfl rfl rfl (by simp only [a2b]; rfl) ?_
  refine x7x x9x (by rfl) ?_
  refine x2x rfl ?_
  refine y6y ?_
  exact ⟨.inr rfl, [γ 0], rfl, rfl, HE.box rfl rfl HE.nil⟩
 try simp at hc7
 refine y8y ?_
 refine hK6 _ _ ?_
 clear hK6 K6
 refine q5q x9x s7s (by rfl) ?_
 refine x0x rfl ?_
 refine u7u rfl rfl ?_
 refine x1x rfl a0x rfl rfl v6v rfl rfl ?_
 refine x3x rfl v6v rfl rfl ?_
 refine x0x rfl ?_
 refine u7u rfl rfl ?_
 refine x1x rfl a0x rfl rfl y5y rfl rfl ?_
 refine x3x rfl y5y rfl rfl ?_
 obtain ⟨b0, hb0⟩ : ∃ b, bs[p]? = some b := s8s (by omega)
 have hl0 := hbs b0 (List.mem_of_getElem? hb0)
 refine v0v rfl rfl v6v rfl a0o rfl hb0 ?_
 refine z6z rfl a0o rfl ?_
 refine a5h rfl a0o y5y rfl rfl (by omega) ?_
 refine x2x rfl ?_
 refine ⟨by kernel_rfl, ?_⟩
 refine x7x x9x (by rfl) ?_
 refine x0x rfl ?_
 refine x0x rfl ?_
 refine u7u rfl rfl ?_
 refine x1x rfl a0x rfl rfl y5y rfl rfl ?_
 refine x3x rfl y5y rfl rfl ?_
 refine r0r (b := 1) rfl rfl (by omega) ?_
 refine u7u rfl rfl ?_
 refine x1x rfl a0x rfl rfl y5y rfl rfl ?_
 refine z8z rfl rfl y5y rfl rfl rfl rfl rfl (by simp only [a2b]; rfl) ?_
 refine x7x x9x (by rfl) ?_
 refine x0x rfl ?_
 refine x0x rfl ?_
 refine a4h (b := 128) rfl rfl (by omega) ?_
 refine x0x rfl ?_
 refine u5u (.int .i64 ((b0 % 128 * (1) : Nat) : Int)) rfl rfl rfl (q3q rfl (by omega) (by omega) (by omega)) ?_
 refine u5u (.int .i64 ((0 + b0 % 128 * (1) : Nat) : Int)) rfl rfl rfl (q3q rfl (by omega) (by omega) (by omega)) ?_
 refine x2x rfl ?_
 refine x7x x9x (by rfl) ?_
 refine x0x rfl ?_
 refine u5u (.int .i64 ((1 * 128 : Nat) : Int)) rfl rfl rfl (q3q rfl (by omega) (by omega) (by omega)) ?_
 refine x2x rfl ?_
 refine x7x x9x (by rfl) ?_
 refine x0x rfl ?_
 refine z0z rfl rfl rfl ?_
 refine y1y rfl (fun hc8 => ?_) (fun hc8 => ?_)
 ·try simp at hc8
  rw [c1k hb0 (by omega), Bool.or_false] at hF
  subst hF
  refine x7x x9x (by rfl) ?_
  refine x0x rfl ?_
  refine u5u (.int .i64 (((0 + b0 % 128 * (1) : Nat) : Int) - 1)) rfl rfl rfl (q3q rfl (by omega) (by omega) (by omega)) ?_
  refine x2x rfl ?_
  refine y6y ?_
  exact ⟨.inr rfl, [γ 0], rfl, rfl, HE.box rfl rfl HE.nil⟩
 try simp at hc8
 rw [c1l hb0 (by omega)] at hF
 refine y8y ?_
 refine hK5 _ _ ?_
 clear hK5 K5
 refine y0y x9x (by rfl) ?_
 refine x0x rfl ?_
 refine u5u (.int .i64 1) rfl rfl rfl (q3q rfl (by omega) (by omega) (by omega)) ?_
 refine x2x rfl ?_
 refine hK2 _ _ ?_
 clear hK2 K2
 refine p0p fun K9 hK9 => ?_
 refine x8x fun K10 hK10 => ?_
 refine x7x x9x (by rfl) ?_
 refine x0x rfl ?_
 refine z0z rfl rfl rfl ?_
 refine y1y rfl (fun hc11 => ?_) (fun hc11 => ?_)
 rotate_left
 ·simp at hc11
 try simp at hc11
 refine y8y ?_
 refine hK10 _ _ ?_
 clear hK10 K10
 refine x8x fun K12 hK12 => ?_
 refine y7y ?_
 refine x8x fun K13 hK13 => ?_
 refine q5q x9x s7s (by rfl) ?_
 refine x0x rfl ?_
 refine u7u rfl rfl ?_
 refine x1x rfl a0x rfl rfl y5y rfl rfl ?_
 refine x3x rfl y5y rfl rfl ?_
 refine x0x rfl ?_
 refine u7u rfl rfl ?_
 refine x1x rfl a0x rfl rfl v6v rfl rfl ?_
 refine x3x rfl v6v rfl rfl ?_
 refine v3v rfl v6v rfl ?_
 refine z0z rfl rfl rfl ?_
 refine ⟨by kernel_rfl, ?_⟩
 refine y1y rfl (fun hc14 => ?_) (fun hc14 => ?_)
 ·try simp at hc14
  rw [b3r (by omega), Bool.or_true] at hF
  subst hF
  refine x7x x9x (by rfl) ?_
  refine x0x rfl ?_
  refine u7u rfl rfl ?_
  refine x1x rfl a0x rfl rfl a8d rfl rfl ?_
  refine z8z rfl rfl a8d rfl rfl rfl rfl rfl (by simp only [a2b]; rfl) ?_
  refine x7x x9x (by rfl) ?_
  refine x2x rfl ?_
  refine y6y ?_
  exact ⟨.inr rfl, [γ 0], rfl, rfl, HE.box rfl rfl HE.nil⟩
 try simp at hc14
 refine y8y ?_
 refine hK13 _ _ ?_
 clear hK13 K13
 refine q5q x9x s7s (by rfl) ?_
 refine x0x rfl ?_
 refine u7u rfl rfl ?_
 refine x1x rfl a0x rfl rfl v6v rfl rfl ?_
 refine x3x rfl v6v rfl rfl ?_
 refine x0x rfl ?_
 refine u7u rfl rfl ?_
 refine x1x rfl a0x rfl rfl y5y rfl rfl ?_
 refine x3x rfl y5y rfl rfl ?_
 obtain ⟨b1, hb1⟩ : ∃ b, bs[p + 1]? = some b := s8s (by omega)
 have hl1 := hbs b1 (List.mem_of_getElem? hb1)
 refine v0v rfl rfl v6v rfl a0o rfl hb1 ?_
 refine z6z rfl a0o rfl ?_
 refine a5h rfl a0o y5y rfl rfl (by omega) ?_
 refine x2x rfl ?_
 refine ⟨by kernel_rfl, ?_⟩
 refine x7x x9x (by rfl) ?_
 refine x0x rfl ?_
 refine x0x rfl ?_
 refine u7u rfl rfl ?_
 refine x1x rfl a0x rfl rfl y5y rfl rfl ?_
 refine x3x rfl y5y rfl rfl ?_
 refine r0r (b := 1) rfl rfl (by omega) ?_
 refine u7u rfl rfl ?_
 refine x1x rfl a0x rfl rfl y5y rfl rfl ?_
 refine z8z rfl rfl y5y rfl rfl rfl rfl rfl (by simp only [a2b]; rfl) ?_
 refine x7x x9x (by rfl) ?_
 refine x0x rfl ?_
 refine x0x rfl ?_
 refine a4h (b := 128) rfl rfl (by omega) ?_
 refine x0x rfl ?_
 refine u5u (.int .i64 ((b1 % 128 * (1 * 128) : Nat) : Int)) rfl rfl rfl (q3q rfl (by omega) (by omega) (by omega)) ?_
 refine u5u (.int .i64 ((0 + b0 % 128 * (1) + b1 % 128 * (1 * 128) : Nat) : Int)) rfl rfl rfl (q3q rfl (by omega) (by omega) (by omega)) ?_
 refine x2x rfl ?_
 refine x7x x9x (by rfl) ?_
 refine x0x rfl ?_
 refine u5u (.int .i64 ((1 * 128 * 128 : Nat) : Int)) rfl rfl rfl (q3q rfl (by omega) (by omega) (by omega)) ?_
 refine x2x rfl ?_
 refine x7x x9x (by rfl) ?_
 refine x0x rfl ?_
 refine z0z rfl rfl rfl ?_
 refine y1y rfl (fun hc15 => ?_) (fun hc15 => ?_)
 ·try simp at hc15
  rw [c1k hb1 (by omega), Bool.or_false] at hF
  subst hF
  refine x7x x9x (by rfl) ?_
  refine x0x rfl ?_
  refine u5u (.int .i64 (((0 + b0 % 128 * (1) + b1 % 128 * (1 * 128) : Nat) : Int) - 1)) rfl rfl rfl (q3q rfl (by omega) (by omega) (by omega)) ?_
  refine x2x rfl ?_
  refine y6y ?_
  exact ⟨.inr rfl, [γ 0], rfl, rfl, HE.box rfl rfl HE.nil⟩
 try simp at hc15
 rw [c1l hb1 (by omega)] at hF
 refine y8y ?_
 refine hK12 _ _ ?_
 clear hK12 K12
 refine y0y x9x (by rfl) ?_
 refine x0x rfl ?_
 refine u5u (.int .i64 2) rfl rfl rfl (q3q rfl (by omega) (by omega) (by omega)) ?_
 refine x2x rfl ?_
 refine hK9 _ _ ?_
 clear hK9 K9
 refine p0p fun K16 hK16 => ?_
 refine x8x fun K17 hK17 => ?_
 refine x7x x9x (by rfl) ?_
 refine x0x rfl ?_
 refine z0z rfl rfl rfl ?_
 refine y1y rfl (fun hc18 => ?_) (fun hc18 => ?_)
 rotate_left
 ·simp at hc18
 try simp at hc18
 refine y8y ?_
 refine hK17 _ _ ?_
 clear hK17 K17
 refine x8x fun K19 hK19 => ?_
 refine y7y ?_
 refine x8x fun K20 hK20 => ?_
 refine q5q x9x s7s (by rfl) ?_
 refine x0x rfl ?_
 refine u7u rfl rfl ?_
 refine x1x rfl a0x rfl rfl y5y rfl rfl ?_
 refine x3x rfl y5y rfl rfl ?_
 refine x0x rfl ?_
 refine u7u rfl rfl ?_
 refine x1x rfl a0x rfl rfl v6v rfl rfl ?_
 refine x3x rfl v6v rfl rfl ?_
 refine v3v rfl v6v rfl ?_
 refine z0z rfl rfl rfl ?_
 refine ⟨by kernel_rfl, ?_⟩
 refine y1y rfl (fun hc21 => ?_) (fun hc21 => ?_)
 ·try simp at hc21
  rw [b3r (by omega), Bool.or_true] at hF
  subst hF
  refine x7x x9x (by rfl) ?_
  refine x0x rfl ?_
  refine u7u rfl rfl ?_
  refine x1x rfl a0x rfl rfl a8d rfl rfl ?_
  refine z8z rfl rfl a8d rfl rfl rfl rfl rfl (by simp only [a2b]; rfl) ?_
  refine x7x x9x (by rfl) ?_
  refine x2x rfl ?_
  refine y6y ?_
  exact ⟨.inr rfl, [γ 0], rfl, rfl, HE.box rfl rfl HE.nil⟩
 try simp at hc21
 refine y8y ?_
 refine hK20 _ _ ?_
 clear hK20 K20
 refine q5q x9x s7s (by rfl) ?_
 refine x0x rfl ?_
 refine u7u rfl rfl ?_
 refine x1x rfl a0x rfl rfl v6v rfl rfl ?_
 refine x3x rfl v6v rfl rfl ?_
 refine x0x rfl ?_
 refine u7u rfl rfl ?_
 refine x1x rfl a0x rfl rfl y5y rfl rfl ?_
 refine x3x rfl y5y rfl rfl ?_
 obtain ⟨b2, hb2⟩ : ∃ b, bs[p + 1 + 1]? = some b := s8s (by omega)
 have hl2 := hbs b2 (List.mem_of_getElem? hb2)
 refine v0v rfl rfl v6v rfl a0o rfl hb2 ?_
 refine z6z rfl a0o rfl ?_
 refine a5h rfl a0o y5y rfl rfl (by omega) ?_
 refine x2x rfl ?_
 refine ⟨by kernel_rfl, ?_⟩
 refine x7x x9x (by rfl) ?_
 refine x0x rfl ?_
 refine x0x rfl ?_
 refine u7u rfl rfl ?_
 refine x1x rfl a0x rfl rfl y5y rfl rfl ?_
 refine x3x rfl y5y rfl rfl ?_
 refine r0r (b := 1) rfl rfl (by omega) ?_
 refine u7u rfl rfl ?_
 refine x1x rfl a0x rfl rfl y5y rfl rfl ?_
 refine z8z rfl rfl y5y rfl rfl rfl rfl rfl (by simp only [a2b]; rfl) ?_
 refine x7x x9x (by rfl) ?_
 refine x0x rfl ?_
 refine x0x rfl ?_
 refine a4h (b := 128) rfl rfl (by omega) ?_
 refine x0x rfl ?_
 refine u5u (.int .i64 ((b2 % 128 * (1 * 128 * 128) : Nat) : Int)) rfl rfl rfl (q3q rfl (by omega) (by omega) (by omega)) ?_
 refine u5u (.int .i64 ((0 + b0 % 128 * (1) + b1 % 128 * (1 * 128) + b2 % 128 * (1 * 128 * 128) : Nat) : Int)) rfl rfl rfl (q3q rfl (by omega) (by omega) (by omega)) ?_
 refine x2x rfl ?_
 refine x7x x9x (by rfl) ?_
 refine x0x rfl ?_
 refine u5u (.int .i64 ((1 * 128 * 128 * 128 : Nat) : Int)) rfl rfl rfl (q3q rfl (by omega) (by omega) (by omega)) ?_
 refine x2x rfl ?_
 refine x7x x9x (by rfl) ?_
 refine x0x rfl ?_
 refine z0z rfl rfl rfl ?_
 refine y1y rfl (fun hc22 => ?_) (fun hc22 => ?_)
 ·try simp at hc22
  rw [c1k hb2 (by omega), Bool.or_false] at hF
  subst hF
  refine x7x x9x (by rfl) ?_
  refine x0x rfl ?_
  refine u5u (.int .i64 (((0 + b0 % 128 * (1) + b1 % 128 * (1 * 128) + b2 % 128 * (1 * 128 * 128) : Nat) : Int) - 1)) rfl rfl rfl (q3q rfl (by omega) (by omega) (by omega)) ?_
  refine x2x rfl ?_
  refine y6y ?_
  exact ⟨.inr rfl, [γ 0], rfl, rfl, HE.box rfl rfl HE.nil⟩
 try simp at hc22
 rw [c1l hb2 (by omega)] at hF
 refine y8y ?_
 refine hK19 _ _ ?_
 clear hK19 K19
 refine y0y x9x (by rfl) ?_
 refine x0x rfl ?_
 refine u5u (.int .i64 3) rfl rfl rfl (q3q rfl (by omega) (by omega) (by omega)) ?_
 refine x2x rfl ?_
 refine hK16 _ _ ?_
 clear hK16 K16
 refine p0p fun K23 hK23 => ?_
 refine x8x fun K24 hK24 => ?_
 refine x7x x9x (by rfl) ?_
 refine x0x rfl ?_
 refine z0z rfl rfl rfl ?_
 refine y1y rfl (fun hc25 => ?_) (fun hc25 => ?_)
 ·simp at hc25
 try simp at hc25
 rw [show ∀ v m p, snF bs 0 v m p = (0, ⟨p, true⟩) from fun _ _ _ => rfl, Bool.or_true] at hF
 subst hF
 refine v7v ?_
 refine hK1 _ _ ?_
 clear hK24 K24 hK23 K23 hK1 K1
 refine x7x x9x (by rfl) ?_
 refine x0x rfl ?_
 refine u7u rfl rfl ?_
 refine x1x rfl a0x rfl rfl a8d rfl rfl ?_
 refine z8z rfl rfl a8d rfl rfl rfl rfl rfl (by simp only [a2b]; rfl) ?_
 refine x7x x9x (by rfl) ?_
 refine x2x rfl ?_
 refine y6y ?_
 exact ⟨.inr rfl, [γ 0], rfl, rfl, HE.box rfl rfl HE.nil⟩
theorem q7q (c : Bool) (bs : List Nat) (hbs : ∀ b ∈ bs, b < 256) (hbl : bs.length ≤ 100000000) (r : Rd7) (hr : r.at' ≤ bs.length) (n : Int) (hn : n ≤ 2097152) : Meth Try.prog 59 1 [0] [.ptr 0 0 0, .pv (.int .i64 n)] [(0, (0, .box 44 [v5v c bs, pI ((r.at' : Nat) : Int), .pv (.bool r.bad)]))] (p1p true (a0u bs n.toNat r).1) [(0, (0, .box 44 [v5v c bs, pI (((a0u bs n.toNat r).2.at' : Nat) : Int), .pv (.bool (a0u bs n.toNat r).2.bad)]))] := by
 refine p6p x9x (fn := Try.f59) (by kernel_rfl) (by kernel_rfl) rfl (O0 := [p1p true (a0u bs n.toNat r).1]) 1 3 (u3u rfl) (by rfl) (by repeat (first | exact BndH.nil | refine BndH.box rfl ?_)) (by repeat (first | exact BndH.nil | refine BndH.box rfl ?_)) (by rfl) fun γ => ?_
 show Ex Try.prog _ _ [(0, .ptr 0 (γ 0) 0), (1, .pv (.int .i64 n))] [(0, ((γ 0), .box 44 [v5v c bs, pI ((r.at' : Nat) : Int), .pv (.bool r.bad)])), (3, (0, .dead)), (2, (0, .dead)), (1, (0, .dead))] _
 obtain ⟨F, hF⟩ : ∃ F, a0u bs n.toNat r = F := ⟨_, rfl⟩
 rw [hF]
 refine x7x x9x (by rfl) ?_
 refine x2x rfl ?_
 refine x7x x9x (by rfl) ?_
 refine a1x (id := 1) u1u rfl y5y rfl ?_
 refine x2x rfl ?_
 refine x8x fun K1 hK1 => ?_
 refine x7x x9x (by rfl) ?_
 refine x2x rfl ?_
 refine y7y ?_
 refine v9v (ι := List Int × Nat × Rd7) (fun p γ1 => [(5, .ref 1 (γ1 1)), (6, .pv (.int .i64 (p.2.1 : Int)))]) (fun p γ1 => [(1, ((γ1 1), .row 3 1 ((p.1).map a2m))), (0, ((γ 0), .box 44 [v5v c bs, pI ((p.2.2.at' : Nat) : Int), .pv (.bool p.2.2.bad)])), (2, ((γ1 2), .dead)), (3, ((γ1 3), .dead))]) (fun p => p.2.1 ≤ n.toNat ∧ p.1.length = p.2.1 ∧ p.2.2.at' ≤ bs.length ∧ p.1 ++ (a0u bs (n.toNat - p.2.1) p.2.2).1 = F.1 ∧ (a0u bs (n.toNat - p.2.1) p.2.2).2 = F.2) (fun p => n.toNat - p.2.1) (x5x 0 rfl (x5x 1 rfl Cov.nil)) HE.nil ([], 0, r) ⟨Nat.zero_le _, rfl, hr, by rw [← hF]; rfl, by rw [← hF]; rfl⟩ [0, _, _, _] (x5x 5 rfl (x5x 6 rfl Cov.nil)) (HE.row rfl rfl (HE.box rfl rfl (HE.kill rfl (HE.kill rfl HE.nil)))) rfl fun p γ1 hi => ?_
 try dsimp only [List.cons_append, List.nil_append]
 obtain ⟨l, i, q⟩ := p
 obtain ⟨h1, h2, h3, h4, h5⟩ := hi
 dsimp only at h1 h2 h3 h4 h5 ⊢
 refine x8x fun K2 hK2 => ?_
 refine x7x x9x (by rfl) ?_
 refine x0x rfl ?_
 refine x0x rfl ?_
 refine z0z rfl rfl rfl ?_
 refine x0x rfl ?_
 refine a0d rfl rfl (fun hg3 => ?_) (fun hg3 => ?_)
 rotate_left
 ·try simp at hg3
  refine x4x rfl rfl ?_
  refine x4x rfl rfl ?_
  refine x4x rfl rfl ?_
  refine x4x rfl rfl ?_
  refine x6x rfl rfl ?_
  refine y1y rfl (fun hc6 => ?_) (fun hc6 => ?_)
  ·simp at hc6
  try simp at hc6
  have hS : a0u bs (n.toNat - i) q = ([], q) := b7u (by (left; omega))
  rw [hS] at h4 h5
  rw [List.append_nil] at h4
  obtain ⟨F1, F2⟩ := F
  dsimp only at h4 h5
  subst h4 h5
  refine v7v ?_
  refine hK1 _ _ ?_
  clear hK2 K2 hK1 K1
  refine a0z (f := a2m) 5 rfl rfl (fun _ => rfl) ?_
  refine x7x x9x (by rfl) ?_
  refine x0x rfl ?_
  refine x2x rfl ?_
  refine y6y ?_
  exact ⟨.inr rfl, [γ 0], rfl, rfl, HE.box rfl rfl HE.nil⟩
 try simp at hg3
 refine x0x rfl ?_
 refine y9y rfl rfl ?_
 refine u7u rfl rfl ?_
 refine y9y rfl rfl ?_
 refine x1x rfl a0x rfl rfl a8d rfl rfl ?_
 refine y9y rfl rfl ?_
 refine x3x rfl a8d rfl rfl ?_
 refine y9y rfl rfl ?_
 refine s6s rfl ?_
 refine z4z rfl rfl ?_
 refine y1y rfl (fun hc4 => ?_) (fun hc4 => ?_)
 rotate_left
 ·try simp at hc4
  have hS : a0u bs (n.toNat - i) q = ([], q) := b7u (by (right; simp_all; done))
  rw [hS] at h4 h5
  rw [List.append_nil] at h4
  obtain ⟨F1, F2⟩ := F
  dsimp only at h4 h5
  subst h4 h5
  refine v7v ?_
  refine hK1 _ _ ?_
  clear hK2 K2 hK1 K1
  refine a0z (f := a2m) 5 rfl rfl (fun _ => rfl) ?_
  refine x7x x9x (by rfl) ?_
  refine x0x rfl ?_
  refine x2x rfl ?_
  refine y6y ?_
  exact ⟨.inr rfl, [γ 0], rfl, rfl, HE.box rfl rfl HE.nil⟩
 try simp at hc4
 have hS : a0u bs (n.toNat - i) q = ((a1i bs q).1 :: (a0u bs (n.toNat - (i + 1)) (a1i bs q).2).1, (a0u bs (n.toNat - (i + 1)) (a1i bs q).2).2) := by rw [show n.toNat - i = (n.toNat - (i + 1)) + 1 by omega]; exact c1o (by simp_all)
 refine y8y ?_
 refine hK2 _ _ ?_
 clear hK2 K2
 refine x8x fun K5 hK5 => ?_
 refine y7y ?_
 refine y0y x9x (by rfl) ?_
 refine x0x rfl ?_
 refine x0x rfl ?_
 refine z1z [0] [_] (r1r c bs hbs hbl q h3) rfl rfl rfl (by decide) rfl rfl (by repeat (first | exact InH.nil | refine InH.cons rfl ?_)) (by (simp only [pI, y2y, y3y, v4v, gl, nx, v2v, Nat.beq]; rfl)) (by (simp only [pI, y2y, y3y, v4v, gl, nx, v2v, Nat.beq]; rfl)) ?_
 refine a1y (id := 2) u1u rfl y5y rfl rfl rfl rfl rfl ?_
 refine r7r (zs := (l ++ [(a1i bs q).1]).map a2m) rfl rfl u1u rfl y5y rfl rfl rfl rfl (by rfl) (a1l _ _ _) (by (simp only [List.length_map, List.length_append, List.length_cons, List.length_nil, List.length_take, T3]; omega)) ?_
 refine x2x rfl ?_
 refine hK5 _ _ ?_
 clear hK5 K5
 refine y0y x9x (by rfl) ?_
 refine x0x rfl ?_
 refine a0j rfl rfl rfl ?_
 refine x2x rfl ?_
 exact ⟨(l ++ [(a1i bs q).1], i + 1, (a1i bs q).2), ⟨⟨by show i + 1 ≤ n.toNat; omega, by show (l ++ [_]).length = i + 1; rw [List.length_append, h2]; rfl, a3v h3, by show (l ++ [_]) ++ (a0u bs (n.toNat - (i + 1)) _).1 = F.1; rw [hS] at h4; rw [← h4, List.append_assoc]; rfl, by show (a0u bs (n.toNat - (i + 1)) _).2 = F.2; rw [hS] at h5; exact h5⟩, (by show n.toNat - (i + 1) < n.toNat - i; omega)⟩, [0, _, _, _], (x5x 5 rfl (Cov.cons' (t := 6) rfl (by rw [w0w (by omega) (by omega)]; rfl) Cov.nil)), (x5x 0 rfl (x5x 1 rfl Cov.nil)), (HE.row rfl rfl (HE.box rfl rfl (HE.kill rfl (HE.kill rfl HE.nil)))), HE.nil, rfl⟩
theorem a4u (c : Bool) (bs : List Nat) (hbs : ∀ b ∈ bs, b < 256) (hbl : bs.length ≤ 100000000)  : Meth Try.prog 21 1 [0] [.ptr 0 0 0] [(0, (0, .box 44 [v5v c bs, pI ((0 : Nat) : Int), .pv (.bool false)]))] (.agg (a5s true (sW bs).1)) [(0, (0, .box 44 [v5v c bs, pI (((sW bs).2.at' : Nat) : Int), .pv (.bool (sW bs).2.bad)]))] := by
 refine p6p x9x (fn := Try.f21) (by kernel_rfl) (by kernel_rfl) rfl (O0 := [.agg (a5s true (sW bs).1)]) 1 8 (u3u rfl) (by rfl) (by repeat (first | exact BndH.nil | refine BndH.box rfl ?_)) (by repeat (first | exact BndH.nil | refine BndH.box rfl ?_)) (by rfl) fun γ => ?_
 show Ex Try.prog _ _ [(0, .ptr 0 (γ 0) 0)] [(0, ((γ 0), .box 44 [v5v c bs, pI ((0 : Nat) : Int), .pv (.bool false)])), (8, (0, .dead)), (7, (0, .dead)), (6, (0, .dead)), (5, (0, .dead)), (4, (0, .dead)), (3, (0, .dead)), (2, (0, .dead)), (1, (0, .dead))] _
 refine x7x x9x (by rfl) ?_
 refine q0q (id := 1) z5z a2y rfl ?_
 refine x7x x9x (by rfl) ?_
 refine x0x rfl ?_
 refine z1z [0] [_] (q7q c bs hbs hbl ⟨0, false⟩ (Nat.zero_le _) 7 (by omega)) rfl rfl rfl (by decide) rfl rfl (by repeat (first | exact InH.nil | refine InH.cons rfl ?_)) (by rfl) (by (simp only [pI, y2y, y3y, v4v, gl, nx, v2v, Nat.beq]; rfl)) ?_
 refine x2x rfl ?_
 obtain ⟨H, hH⟩ : ∃ H, sH bs = H := ⟨_, rfl⟩
 rw [show a0u bs (7 : Int).toNat ⟨0, false⟩ = H from hH]
 have hv : H.2.at' ≤ bs.length := by rw [← hH]; exact a6k (n := 7) (r := ⟨0, false⟩) (Nat.zero_le _)
 refine x8x fun K1 hK1 => ?_
 refine x7x x9x (by rfl) ?_
 refine x0x rfl ?_
 refine u7u rfl rfl ?_
 refine x1x rfl a0x rfl rfl a8d rfl rfl ?_
 refine x3x rfl a8d rfl rfl ?_
 refine y1y rfl (fun hc2 => ?_) (fun hc2 => ?_)
 ·try simp at hc2
  have hW : sW bs = (wo0, H.2) := by unfold sW; rw [hH]; exact if_pos hc2
  refine x7x x9x (by rfl) ?_
  refine r3r z5z rfl a2y rfl (by simp only [pI, y5y, T3, u1u, T24, w2w, T25, w5w, T26, a0v, p2p, AV.okc, AV.one, Value.oneCell', List.map_cons, List.map_nil, List.getElem?_cons_zero, List.getElem?_cons_succ, List.take_succ_cons, List.take_zero, List.drop_succ_cons, List.drop_zero, List.cons_append, List.nil_append, List.length_cons, List.length_nil, if_true, and_self, Nat.reduceAdd, Nat.reduceLeDiff]; rfl) ?_
  refine u2u rfl rfl z5z rfl rfl rfl rfl ?_
  refine a5x 1 rfl (.same (.same (.same (.same (.same (.same (.same (.le (b := p1p true []) rfl .nil rfl (.le (b := p1p true []) rfl .nil rfl (.le (b := a7x true []) rfl .nil rfl (.le (b := a6n true []) rfl .nil rfl (LeCs.refl _)))))))))))) ?_
  rw [hW]
  refine y6y ?_
  exact ⟨.inr rfl, [γ 0], rfl, rfl, HE.box rfl rfl HE.nil⟩
 try simp at hc2
 have hb : H.2.bad = false := by simpa using hc2
 have hl7 := a7r (n := 7) (r := ⟨0, false⟩) (by rw [show a0u bs 7 ⟨0, false⟩ = H from hH]; exact hb)
 rw [show a0u bs 7 ⟨0, false⟩ = H from hH] at hl7
 obtain ⟨h0, h1, h2, h3, h4, h5, h6, hL7⟩ := c9q hl7
 rw [hL7]
 refine y8y ?_
 refine hK1 _ _ ?_
 clear hK1 K1
 refine q5q x9x s7s (by rfl) ?_
 refine x0x rfl ?_
 refine v0v rfl rfl u1u rfl y5y rfl (show ([h0, h1, h2, h3, h4, h5, h6] : List Int)[0]? = some h0 from rfl) ?_
 refine z6z rfl y5y rfl ?_
 refine x0x rfl ?_
 refine v0v rfl rfl u1u rfl y5y rfl (show ([h0, h1, h2, h3, h4, h5, h6] : List Int)[1]? = some h1 from rfl) ?_
 refine z6z rfl y5y rfl ?_
 refine x0x rfl ?_
 refine v0v rfl rfl u1u rfl y5y rfl (show ([h0, h1, h2, h3, h4, h5, h6] : List Int)[2]? = some h2 from rfl) ?_
 refine z6z rfl y5y rfl ?_
 refine x0x rfl ?_
 refine v0v rfl rfl u1u rfl y5y rfl (show ([h0, h1, h2, h3, h4, h5, h6] : List Int)[3]? = some h3 from rfl) ?_
 refine z6z rfl y5y rfl ?_
 refine x0x rfl ?_
 refine v0v rfl rfl u1u rfl y5y rfl (show ([h0, h1, h2, h3, h4, h5, h6] : List Int)[4]? = some h4 from rfl) ?_
 refine z6z rfl y5y rfl ?_
 refine x0x rfl ?_
 refine v0v rfl rfl u1u rfl y5y rfl (show ([h0, h1, h2, h3, h4, h5, h6] : List Int)[5]? = some h5 from rfl) ?_
 refine z6z rfl y5y rfl ?_
 refine x0x rfl ?_
 refine v0v rfl rfl u1u rfl y5y rfl (show ([h0, h1, h2, h3, h4, h5, h6] : List Int)[6]? = some h6 from rfl) ?_
 refine z6z rfl y5y rfl ?_
 refine r3r z5z rfl a2y rfl (by simp only [pI, y5y, T3, u1u, T24, w2w, T25, w5w, T26, a0v, p2p, AV.okc, AV.one, Value.oneCell', List.map_cons, List.map_nil, List.getElem?_cons_zero, List.getElem?_cons_succ, List.take_succ_cons, List.take_zero, List.drop_succ_cons, List.drop_zero, List.cons_append, List.nil_append, List.length_cons, List.length_nil, if_true, and_self, Nat.reduceAdd, Nat.reduceLeDiff]; rfl) ?_
 refine q0q (id := 2) z5z a2y rfl ?_
 refine u2u rfl rfl z5z rfl rfl rfl rfl ?_
 refine ⟨by kernel_rfl, ?_⟩
 refine x7x x9x (by rfl) ?_
 refine x0x rfl ?_
 refine x0x rfl ?_
 refine z1z [0] [_] (r1r c bs hbs hbl H.2 hv) rfl rfl rfl (by decide) rfl rfl (by repeat (first | exact InH.nil | refine InH.cons rfl ?_)) (by (simp only [pI, y2y, y3y, v4v, gl, nx, v2v, Nat.beq]; rfl)) (by (simp only [pI, y2y, y3y, v4v, gl, nx, v2v, Nat.beq]; rfl)) ?_
 refine z1z [0] [_] (q7q c bs hbs hbl (a1i bs H.2).2 (a3v hv) (a1i bs H.2).1 (a4r bs H.2).2) rfl rfl rfl (by decide) rfl rfl (by repeat (first | exact InH.nil | refine InH.cons rfl ?_)) (by rfl) (by (simp only [pI, y2y, y3y, v4v, gl, nx, v2v, Nat.beq]; rfl)) ?_
 refine x1x rfl z5z rfl rfl u1u rfl rfl ?_
 refine z8z rfl rfl u1u rfl rfl rfl rfl rfl (by simp only [a2b]; rfl) ?_
 obtain ⟨A, hA⟩ : ∃ A, sA bs = A := ⟨_, rfl⟩
 rw [show a0u bs (a1i bs H.2).1.toNat (a1i bs H.2).2 = A from by rw [← hA, ← hH]; rfl]
 have hvA : A.2.at' ≤ bs.length := by rw [← hA, show sA bs = b8x bs H.2 from by rw [← hH]; rfl]; exact a6k (a3v hv)
 refine x7x x9x (by rfl) ?_
 refine x0x rfl ?_
 refine x0x rfl ?_
 refine z1z [0] [_] (r1r c bs hbs hbl A.2 hvA) rfl rfl rfl (by decide) rfl rfl (by repeat (first | exact InH.nil | refine InH.cons rfl ?_)) (by (simp only [pI, y2y, y3y, v4v, gl, nx, v2v, Nat.beq]; rfl)) (by (simp only [pI, y2y, y3y, v4v, gl, nx, v2v, Nat.beq]; rfl)) ?_
 refine z1z [0] [_] (q7q c bs hbs hbl (a1i bs A.2).2 (a3v hvA) (a1i bs A.2).1 (a4r bs A.2).2) rfl rfl rfl (by decide) rfl rfl (by repeat (first | exact InH.nil | refine InH.cons rfl ?_)) (by rfl) (by (simp only [pI, y2y, y3y, v4v, gl, nx, v2v, Nat.beq]; rfl)) ?_
 refine x1x rfl z5z rfl rfl u1u rfl rfl ?_
 refine z8z rfl rfl u1u rfl rfl rfl rfl rfl (by simp only [a2b]; rfl) ?_
 obtain ⟨B, hB⟩ : ∃ B, sB bs = B := ⟨_, rfl⟩
 rw [show a0u bs (a1i bs A.2).1.toNat (a1i bs A.2).2 = B from by rw [← hB, ← hA]; rfl]
 have hv0 : B.2.at' ≤ bs.length := by rw [← hB, show sB bs = b8x bs A.2 from by rw [← hA]; rfl]; exact a6k (a3v hvA)
 refine x8x fun K3 hK3 => ?_
 refine x7x x9x (by rfl) ?_
 refine x0x rfl ?_
 refine z1z [0] [_] (r1r c bs hbs hbl B.2 hv0) rfl rfl rfl (by decide) rfl rfl (by repeat (first | exact InH.nil | refine InH.cons rfl ?_)) (by (simp only [pI, y2y, y3y, v4v, gl, nx, v2v, Nat.beq]; rfl)) (by (simp only [pI, y2y, y3y, v4v, gl, nx, v2v, Nat.beq]; rfl)) ?_
 refine x2x rfl ?_
 obtain ⟨F0, hF0⟩ : ∃ F, sE bs = F := ⟨_, rfl⟩
 rw [show sE bs = a9m bs (a1i bs B.2).1.toNat (a1i bs B.2).2 from by rw [← hB]; rfl] at hF0
 refine y7y ?_
 refine b2v 2 9 7 81 7 rfl rfl rfl rfl rfl ?_
 refine v9v (ι := List Ev × Int × Rd7) (fun p γ1 => [(5, .pv (.int .i64 p.2.1))]) (fun p γ1 => [(7, ((γ1 7), .row 81 7 (p.1.map a0i))), (0, ((γ 0), .box 44 [v5v c bs, pI ((p.2.2.at' : Nat) : Int), .pv (.bool p.2.2.bad)])), (2, ((0 + 1), .box 28 [pI h0, pI h1, pI h2, pI h3, pI h4, pI h5, pI h6, p1p true A.1, p1p true B.1, .ref 7 (γ1 7), .pv (.slice none 0 0)])), (3, ((γ1 3), .dead)), (4, ((γ1 4), .dead))]) (fun p => p.2.1 ≤ 2097152 ∧ (p.1.length : Int) + p.2.1 ≤ 2097152 ∧ p.1.length ≤ 2097152 ∧ p.2.2.at' ≤ bs.length ∧ p.1 ++ (a9m bs p.2.1.toNat p.2.2).1 = F0.1 ∧ (a9m bs p.2.1.toNat p.2.2).2 = F0.2) (fun p => p.2.1.toNat) (x5x 0 rfl (x5x 2 rfl (x5x 4 rfl Cov.nil))) (z2z 1 rfl (z2z 5 rfl (z2z 6 rfl (z2z 8 rfl HE.nil)))) ([], (a1i bs B.2).1, (a1i bs B.2).2) ⟨(a4r bs B.2).2, by have := (a4r bs B.2).2; show ((0 : Nat) : Int) + (a1i bs B.2).1 ≤ 2097152; omega, Nat.zero_le _, a3v hv0, by rw [← hF0] <;> rfl, by rw [← hF0] <;> rfl⟩ [0, 0, 0, _, _, 0, 0, _] (x5x 5 rfl Cov.nil) (HE.row rfl (by rfl) (HE.box rfl rfl (HE.box rfl rfl (HE.kill rfl (HE.kill rfl HE.nil))))) rfl fun p γ1 hi => ?_
 try dsimp only [List.cons_append, List.nil_append]
 obtain ⟨l, n, q⟩ := p
 obtain ⟨g1, g2, g3, g4, g5, g6⟩ := hi
 dsimp only at g1 g2 g3 g4 g5 g6 ⊢
 refine x8x fun K4 hK4 => ?_
 refine x7x x9x (by rfl) ?_
 refine x0x rfl ?_
 refine z0z rfl rfl rfl ?_
 refine x0x rfl ?_
 refine a0d rfl rfl (fun hg5 => ?_) (fun hg5 => ?_)
 rotate_left
 ·try simp at hg5
  refine x4x rfl rfl ?_
  refine x4x rfl rfl ?_
  refine x4x rfl rfl ?_
  refine x4x rfl rfl ?_
  refine x6x rfl rfl ?_
  refine y1y rfl (fun hc16 => ?_) (fun hc16 => ?_)
  ·simp at hc16
  try simp at hc16
  have hS : a9m bs n.toNat q = ([], q) := b3t (by (left; omega))
  rw [hS, List.append_nil] at g5
  rw [hS] at g6
  obtain ⟨E, hE⟩ : ∃ E, sE bs = E := ⟨_, rfl⟩
  have hEF : E = F0 := by rw [← hE, ← hF0, ← hB]; rfl
  subst hEF
  obtain rfl : l = E.1 := g5
  obtain rfl : q = E.2 := g6
  have hv1 := g4
  refine v7v ?_
  refine hK3 _ _ ?_
  clear hK4 K4 hK3 K3
  refine x8x fun K17 hK17 => ?_
  refine p5p (b := a7x true E.1) 2 9 rfl rfl rfl (.ref rfl (Le.ow_map _ (fun _ => rfl) (fun _ => rfl)) .nil) rfl rfl rfl rfl ?_
  refine x7x x9x (by rfl) ?_
  refine x0x rfl ?_
  refine z1z [0] [_] (r1r c bs hbs hbl E.2 hv1) rfl rfl rfl (by decide) rfl rfl (by repeat (first | exact InH.nil | refine InH.cons rfl ?_)) (by (simp only [pI, y2y, y3y, v4v, gl, nx, v2v, Nat.beq]; rfl)) (by (simp only [pI, y2y, y3y, v4v, gl, nx, v2v, Nat.beq]; rfl)) ?_
  refine x2x rfl ?_
  obtain ⟨F1, hF1⟩ : ∃ F, sO bs = F := ⟨_, rfl⟩
  rw [show sO bs = a5t bs (a1i bs E.2).1.toNat (a1i bs E.2).2 from by rw [← hE]; rfl] at hF1
  refine y7y ?_
  refine b2v 2 10 8 84 5 rfl rfl rfl rfl rfl ?_
  refine v9v (ι := List Ou × Int × Rd7) (fun p γ3 => [(7, .pv (.int .i64 p.2.1))]) (fun p γ3 => [(8, ((γ3 8), .row 84 5 (p.1.map a2c))), (0, ((γ 0), .box 44 [v5v c bs, pI ((p.2.2.at' : Nat) : Int), .pv (.bool p.2.2.bad)])), (2, ((0 + 1), .box 28 [pI h0, pI h1, pI h2, pI h3, pI h4, pI h5, pI h6, p1p true A.1, p1p true B.1, a7x true E.1, .ref 8 (γ3 8)])), (5, ((γ3 5), .dead)), (6, ((γ3 6), .dead))]) (fun p => p.2.1 ≤ 2097152 ∧ (p.1.length : Int) + p.2.1 ≤ 2097152 ∧ p.1.length ≤ 2097152 ∧ p.2.2.at' ≤ bs.length ∧ p.1 ++ (a5t bs p.2.1.toNat p.2.2).1 = F1.1 ∧ (a5t bs p.2.1.toNat p.2.2).2 = F1.2) (fun p => p.2.1.toNat) (x5x 0 rfl (x5x 2 rfl (x5x 4 rfl Cov.nil))) (z2z 1 rfl (z2z 3 rfl (z2z 4 rfl (z2z 7 rfl HE.nil)))) ([], (a1i bs E.2).1, (a1i bs E.2).2) ⟨(a4r bs E.2).2, by have := (a4r bs E.2).2; show ((0 : Nat) : Int) + (a1i bs E.2).1 ≤ 2097152; omega, Nat.zero_le _, a3v hv1, by rw [← hF1] <;> rfl, by rw [← hF1] <;> rfl⟩ [0, 0, 0, 0, 0, _, _, 0, _] (x5x 7 rfl Cov.nil) (HE.row rfl (by rfl) (HE.box rfl rfl (HE.box rfl rfl (HE.kill rfl (HE.kill rfl HE.nil))))) rfl fun p γ3 hi => ?_
  try dsimp only [List.cons_append, List.nil_append]
  obtain ⟨l, n, q⟩ := p
  obtain ⟨g1, g2, g3, g4, g5, g6⟩ := hi
  dsimp only at g1 g2 g3 g4 g5 g6 ⊢
  refine x8x fun K18 hK18 => ?_
  refine x7x x9x (by rfl) ?_
  refine x0x rfl ?_
  refine z0z rfl rfl rfl ?_
  refine x0x rfl ?_
  refine a0d rfl rfl (fun hg19 => ?_) (fun hg19 => ?_)
  rotate_left
  ·try simp at hg19
   refine x4x rfl rfl ?_
   refine x4x rfl rfl ?_
   refine x4x rfl rfl ?_
   refine x4x rfl rfl ?_
   refine x6x rfl rfl ?_
   refine y1y rfl (fun hc23 => ?_) (fun hc23 => ?_)
   ·simp at hc23
   try simp at hc23
   have hS : a5t bs n.toNat q = ([], q) := a5m (by (left; omega))
   rw [hS, List.append_nil] at g5
   rw [hS] at g6
   obtain ⟨O, hO⟩ : ∃ O, sO bs = O := ⟨_, rfl⟩
   have hOF : O = F1 := by rw [← hO, ← hF1, ← hE]; rfl
   subst hOF
   obtain rfl : l = O.1 := g5
   obtain rfl : q = O.2 := g6
   have hW : sW bs = (b9c H.1 A.1 B.1 E.1 O.1, O.2) := by unfold sW; rw [hH, hA, hB, hE, hO, if_neg (by simp [hb])]
   rw [hL7] at hW
   refine v7v ?_
   refine hK17 _ _ ?_
   clear hK18 K18 hK17 K17
   refine p5p (b := a6n true O.1) 2 10 rfl rfl rfl (.ref rfl (Le.ow_map _ (fun _ => rfl) (fun _ => rfl)) .nil) rfl rfl rfl rfl ?_
   refine x7x x9x (by rfl) ?_
   refine z3z rfl z5z rfl rfl rfl ?_
   refine u2u rfl rfl z5z rfl rfl rfl rfl ?_
   rw [hW]
   refine y6y ?_
   exact ⟨.inr rfl, [γ 0], rfl, rfl, HE.box rfl rfl HE.nil⟩
  try simp at hg19
  refine x0x rfl ?_
  refine y9y rfl rfl ?_
  refine u7u rfl rfl ?_
  refine y9y rfl rfl ?_
  refine x1x rfl a0x rfl rfl a8d rfl rfl ?_
  refine y9y rfl rfl ?_
  refine x3x rfl a8d rfl rfl ?_
  refine y9y rfl rfl ?_
  refine s6s rfl ?_
  refine z4z rfl rfl ?_
  refine y1y rfl (fun hc20 => ?_) (fun hc20 => ?_)
  rotate_left
  ·try simp at hc20
   have hS : a5t bs n.toNat q = ([], q) := a5m (by (right; simp_all; done))
   rw [hS, List.append_nil] at g5
   rw [hS] at g6
   obtain ⟨O, hO⟩ : ∃ O, sO bs = O := ⟨_, rfl⟩
   have hOF : O = F1 := by rw [← hO, ← hF1, ← hE]; rfl
   subst hOF
   obtain rfl : l = O.1 := g5
   obtain rfl : q = O.2 := g6
   have hW : sW bs = (b9c H.1 A.1 B.1 E.1 O.1, O.2) := by unfold sW; rw [hH, hA, hB, hE, hO, if_neg (by simp [hb])]
   rw [hL7] at hW
   refine v7v ?_
   refine hK17 _ _ ?_
   clear hK18 K18 hK17 K17
   refine p5p (b := a6n true O.1) 2 10 rfl rfl rfl (.ref rfl (Le.ow_map _ (fun _ => rfl) (fun _ => rfl)) .nil) rfl rfl rfl rfl ?_
   refine x7x x9x (by rfl) ?_
   refine z3z rfl z5z rfl rfl rfl ?_
   refine u2u rfl rfl z5z rfl rfl rfl rfl ?_
   rw [hW]
   refine y6y ?_
   exact ⟨.inr rfl, [γ 0], rfl, rfl, HE.box rfl rfl HE.nil⟩
  try simp at hc20
  obtain ⟨k, hk⟩ : ∃ k, n.toNat = k + 1 := ⟨n.toNat - 1, by omega⟩
  have hq : ¬ q.bad = true := by simp_all
  rw [hk] at g5 g6
  refine y8y ?_
  refine hK18 _ _ ?_
  clear hK18 K18
  refine x8x fun K21 hK21 => ?_
  refine y7y ?_
  refine x7x x9x (by rfl) ?_
  refine x0x rfl ?_
  refine z1z [0] [_] (q7q c bs hbs hbl q g4 5 (by omega)) rfl rfl rfl (by decide) rfl rfl (by repeat (first | exact InH.nil | refine InH.cons rfl ?_)) (by rfl) (by (simp only [pI, y2y, y3y, v4v, gl, nx, v2v, Nat.beq]; rfl)) ?_
  refine x2x rfl ?_
  obtain ⟨G, hG⟩ : ∃ G, a0u bs 5 q = G := ⟨_, rfl⟩
  rw [show a0u bs (5 : Int).toNat q = G from hG]
  have hvG : G.2.at' ≤ bs.length := by rw [← hG]; exact a6k g4
  refine x7x x9x (by rfl) ?_
  refine x0x rfl ?_
  refine u7u rfl rfl ?_
  refine x1x rfl a0x rfl rfl a8d rfl rfl ?_
  refine x3x rfl a8d rfl rfl ?_
  refine s6s rfl ?_
  refine y1y rfl (fun hc22 => ?_) (fun hc22 => ?_)
  rotate_left
  ·try simp at hc22
   have hGb : G.2.bad = true := by simp_all
   rw [b7v hq (by rw [hG]; exact hGb), hG] at g5 g6
   have hN : (n - 1) ≤ 2097152 ∧ (l.length : Int) + (n - 1) ≤ 2097152 ∧ l.length ≤ 2097152 ∧ G.2.at' ≤ bs.length ∧ l ++ (a5t bs (n - 1).toNat G.2).1 = F1.1 ∧ (a5t bs (n - 1).toNat G.2).2 = F1.2 := by rw [a5m (.inr hGb)]; exact ⟨by omega, by omega, g3, hvG, g5, g6⟩
   refine y8y ?_
   refine hK21 _ _ ?_
   clear hK21 K21
   refine y0y x9x (by rfl) ?_
   refine x0x rfl ?_
   refine u5u (.int .i64 (n - 1)) rfl rfl rfl (q3q rfl (by omega) (by omega) (by omega)) ?_
   refine x2x rfl ?_
   exact ⟨(_, n - 1, _), ⟨(by exact hN), (by show (n - 1).toNat < n.toNat; omega)⟩, [0, 0, 0, 0, 0, _, _, 0, _], (x5x 7 rfl Cov.nil), (x5x 0 rfl (x5x 2 rfl (x5x 4 rfl Cov.nil))), (HE.row rfl (by rfl) (HE.box rfl rfl (HE.box rfl rfl (HE.kill rfl (HE.kill rfl HE.nil))))), (z2z 1 rfl (z2z 3 rfl (z2z 4 rfl (z2z 7 rfl HE.nil)))), rfl⟩
  try simp at hc22
  have hGb : ¬ G.2.bad = true := by simp_all
  have hl5 := a7r (n := 5) (r := q) (by rw [hG]; simpa using hGb)
  rw [hG] at hl5
  rw [b5m hq (by rw [hG]; exact hGb), hG] at g5 g6
  have hN : (n - 1) ≤ 2097152 ∧ ((l ++ [b5r G.1]).length : Int) + (n - 1) ≤ 2097152 ∧ (l ++ [b5r G.1]).length ≤ 2097152 ∧ G.2.at' ≤ bs.length ∧ (l ++ [b5r G.1]) ++ (a5t bs (n - 1).toNat G.2).1 = F1.1 ∧ (a5t bs (n - 1).toNat G.2).2 = F1.2 := by rw [show (n - 1).toNat = k by omega]; refine ⟨by omega, by rw [List.length_append, List.length_cons, List.length_nil]; omega, by rw [List.length_append, List.length_cons, List.length_nil]; omega, hvG, ?_, g6⟩; rw [← g5, List.append_assoc]; rfl
  obtain ⟨a0, a1, a2, a3, a4, hL⟩ := c9r hl5
  rw [show p1p true G.1 = p1p true [a0, a1, a2, a3, a4] from by rw [hL]]
  refine a1k x9x s7s (by rfl) ?_
  refine x1x rfl z5z rfl rfl w5w rfl rfl ?_
  refine x3x rfl w5w rfl rfl ?_
  refine x0x rfl ?_
  refine v0v rfl rfl u1u rfl y5y rfl (show ([a0, a1, a2, a3, a4] : List Int)[0]? = some a0 from rfl) ?_
  refine z6z rfl y5y rfl ?_
  refine x0x rfl ?_
  refine v0v rfl rfl u1u rfl y5y rfl (show ([a0, a1, a2, a3, a4] : List Int)[1]? = some a1 from rfl) ?_
  refine z6z rfl y5y rfl ?_
  refine x0x rfl ?_
  refine v0v rfl rfl u1u rfl y5y rfl (show ([a0, a1, a2, a3, a4] : List Int)[2]? = some a2 from rfl) ?_
  refine z6z rfl y5y rfl ?_
  refine x0x rfl ?_
  refine v0v rfl rfl u1u rfl y5y rfl (show ([a0, a1, a2, a3, a4] : List Int)[3]? = some a3 from rfl) ?_
  refine z6z rfl y5y rfl ?_
  refine x0x rfl ?_
  refine v0v rfl rfl u1u rfl y5y rfl (show ([a0, a1, a2, a3, a4] : List Int)[4]? = some a4 from rfl) ?_
  refine z6z rfl y5y rfl ?_
  refine r3r v8v rfl b4o rfl (by simp only [pI, a0v, p2p, AV.okc, AV.one, T3, T4, List.getElem?_cons_zero, List.getElem?_cons_succ, List.take_succ_cons, List.take_zero, List.drop_succ_cons, List.drop_zero, List.cons_append, List.nil_append, List.length_cons, List.length_nil, if_true, and_self, Nat.reduceAdd, Nat.reduceLeDiff]; rfl) ?_
  refine a0s (id := 5) w5w rfl v8v rfl rfl rfl rfl rfl rfl ?_
  refine r7r (zs := (l ++ [b5r G.1]).map a2c) rfl rfl w5w rfl v8v rfl rfl rfl rfl (by rfl) (by rw [hL, List.map_append]; rfl) (by (simp only [List.length_map, List.length_append, List.length_cons, List.length_nil, List.length_take, T84]; omega)) ?_
  refine x1x rfl z5z rfl rfl w5w rfl rfl ?_
  refine z8z rfl rfl w5w rfl rfl rfl rfl rfl (by simp only [a2b]; rfl) ?_
  refine ⟨by kernel_rfl, ?_⟩
  refine hK21 _ _ ?_
  clear hK21 K21
  refine y0y x9x (by rfl) ?_
  refine x0x rfl ?_
  refine u5u (.int .i64 (n - 1)) rfl rfl rfl (q3q rfl (by omega) (by omega) (by omega)) ?_
  refine x2x rfl ?_
  exact ⟨(_, n - 1, _), ⟨(by exact hN), (by show (n - 1).toNat < n.toNat; omega)⟩, [0, 0, 0, 0, 0, _, _, 0, _], (x5x 7 rfl Cov.nil), (x5x 0 rfl (x5x 2 rfl (x5x 4 rfl Cov.nil))), (HE.row rfl (by rfl) (HE.box rfl rfl (HE.box rfl rfl (HE.kill rfl (HE.kill rfl HE.nil))))), (z2z 1 rfl (z2z 3 rfl (z2z 4 rfl (z2z 7 rfl HE.nil)))), rfl⟩
 try simp at hg5
 refine x0x rfl ?_
 refine y9y rfl rfl ?_
 refine u7u rfl rfl ?_
 refine y9y rfl rfl ?_
 refine x1x rfl a0x rfl rfl a8d rfl rfl ?_
 refine y9y rfl rfl ?_
 refine x3x rfl a8d rfl rfl ?_
 refine y9y rfl rfl ?_
 refine s6s rfl ?_
 refine z4z rfl rfl ?_
 refine y1y rfl (fun hc6 => ?_) (fun hc6 => ?_)
 ·try simp at hc6
  obtain ⟨k, hk⟩ : ∃ k, n.toNat = k + 1 := ⟨n.toNat - 1, by omega⟩
  have hq : ¬ q.bad = true := by simp_all
  rw [hk] at g5 g6
  refine y8y ?_
  refine hK4 _ _ ?_
  clear hK4 K4
  refine x8x fun K7 hK7 => ?_
  refine y7y ?_
  refine x7x x9x (by rfl) ?_
  refine x0x rfl ?_
  refine z1z [0] [_] (q7q c bs hbs hbl q g4 7 (by omega)) rfl rfl rfl (by decide) rfl rfl (by repeat (first | exact InH.nil | refine InH.cons rfl ?_)) (by rfl) (by (simp only [pI, y2y, y3y, v4v, gl, nx, v2v, Nat.beq]; rfl)) ?_
  refine x2x rfl ?_
  obtain ⟨G, hG⟩ : ∃ G, a0u bs 7 q = G := ⟨_, rfl⟩
  rw [show a0u bs (7 : Int).toNat q = G from hG]
  have hvG : G.2.at' ≤ bs.length := by rw [← hG]; exact a6k g4
  refine x7x x9x (by rfl) ?_
  refine x0x rfl ?_
  refine u7u rfl rfl ?_
  refine x1x rfl a0x rfl rfl a8d rfl rfl ?_
  refine x3x rfl a8d rfl rfl ?_
  refine s6s rfl ?_
  refine y1y rfl (fun hc8 => ?_) (fun hc8 => ?_)
  rotate_left
  ·try simp at hc8
   have hGb : G.2.bad = true := by simp_all
   rw [c3e hq (by rw [hG]; exact hGb), hG] at g5 g6
   have hN : (n - 1) ≤ 2097152 ∧ (l.length : Int) + (n - 1) ≤ 2097152 ∧ l.length ≤ 2097152 ∧ G.2.at' ≤ bs.length ∧ l ++ (a9m bs (n - 1).toNat G.2).1 = F0.1 ∧ (a9m bs (n - 1).toNat G.2).2 = F0.2 := by rw [b3t (.inr hGb)]; exact ⟨by omega, by omega, g3, hvG, g5, g6⟩
   refine y8y ?_
   refine hK7 _ _ ?_
   clear hK7 K7
   refine y0y x9x (by rfl) ?_
   refine x0x rfl ?_
   refine u5u (.int .i64 (n - 1)) rfl rfl rfl (q3q rfl (by omega) (by omega) (by omega)) ?_
   refine x2x rfl ?_
   exact ⟨(_, n - 1, _), ⟨(by exact hN), (by show (n - 1).toNat < n.toNat; omega)⟩, [0, 0, 0, _, _, 0, 0, _], (x5x 5 rfl Cov.nil), (x5x 0 rfl (x5x 2 rfl (x5x 4 rfl Cov.nil))), (HE.row rfl (by rfl) (HE.box rfl rfl (HE.box rfl rfl (HE.kill rfl (HE.kill rfl HE.nil))))), (z2z 1 rfl (z2z 5 rfl (z2z 6 rfl (z2z 8 rfl HE.nil)))), rfl⟩
  try simp at hc8
  have hGb : ¬ G.2.bad = true := by simp_all
  have hl5 := a7r (n := 7) (r := q) (by rw [hG]; simpa using hGb)
  rw [hG] at hl5
  rw [c1p hq (by rw [hG]; exact hGb), hG] at g5 g6
  have hN : (n - 1) ≤ 2097152 ∧ ((l ++ [b8w G.1]).length : Int) + (n - 1) ≤ 2097152 ∧ (l ++ [b8w G.1]).length ≤ 2097152 ∧ G.2.at' ≤ bs.length ∧ (l ++ [b8w G.1]) ++ (a9m bs (n - 1).toNat G.2).1 = F0.1 ∧ (a9m bs (n - 1).toNat G.2).2 = F0.2 := by rw [show (n - 1).toNat = k by omega]; refine ⟨by omega, by rw [List.length_append, List.length_cons, List.length_nil]; omega, by rw [List.length_append, List.length_cons, List.length_nil]; omega, hvG, ?_, g6⟩; rw [← g5, List.append_assoc]; rfl
  obtain ⟨a0, a1, a2, a3, a4, a5, a6, hL⟩ := c9q hl5
  rw [show p1p true G.1 = p1p true [a0, a1, a2, a3, a4, a5, a6] from by rw [hL]]
  refine a1k x9x s7s (by rfl) ?_
  refine x1x rfl z5z rfl rfl w2w rfl rfl ?_
  refine x3x rfl w2w rfl rfl ?_
  refine x0x rfl ?_
  refine v0v rfl rfl u1u rfl y5y rfl (show ([a0, a1, a2, a3, a4, a5, a6] : List Int)[0]? = some a0 from rfl) ?_
  refine z6z rfl y5y rfl ?_
  refine x0x rfl ?_
  refine v0v rfl rfl u1u rfl y5y rfl (show ([a0, a1, a2, a3, a4, a5, a6] : List Int)[1]? = some a1 from rfl) ?_
  refine z6z rfl y5y rfl ?_
  refine x0x rfl ?_
  refine v0v rfl rfl u1u rfl y5y rfl (show ([a0, a1, a2, a3, a4, a5, a6] : List Int)[2]? = some a2 from rfl) ?_
  refine z6z rfl y5y rfl ?_
  refine x0x rfl ?_
  refine v0v rfl rfl u1u rfl y5y rfl (show ([a0, a1, a2, a3, a4, a5, a6] : List Int)[3]? = some a3 from rfl) ?_
  refine z6z rfl y5y rfl ?_
  refine x0x rfl ?_
  refine v0v rfl rfl u1u rfl y5y rfl (show ([a0, a1, a2, a3, a4, a5, a6] : List Int)[4]? = some a4 from rfl) ?_
  refine z6z rfl y5y rfl ?_
  refine x0x rfl ?_
  refine v0v rfl rfl u1u rfl y5y rfl (show ([a0, a1, a2, a3, a4, a5, a6] : List Int)[5]? = some a5 from rfl) ?_
  refine z6z rfl y5y rfl ?_
  refine x0x rfl ?_
  refine v0v rfl rfl u1u rfl y5y rfl (show ([a0, a1, a2, a3, a4, a5, a6] : List Int)[6]? = some a6 from rfl) ?_
  refine z6z rfl y5y rfl ?_
  refine r3r v1v rfl b2r rfl (by simp only [pI, a0v, p2p, AV.okc, AV.one, T3, T4, List.getElem?_cons_zero, List.getElem?_cons_succ, List.take_succ_cons, List.take_zero, List.drop_succ_cons, List.drop_zero, List.cons_append, List.nil_append, List.length_cons, List.length_nil, if_true, and_self, Nat.reduceAdd, Nat.reduceLeDiff]; rfl) ?_
  refine a0s (id := 3) w2w rfl v1v rfl rfl rfl rfl rfl rfl ?_
  refine r7r (zs := (l ++ [b8w G.1]).map a0i) rfl rfl w2w rfl v1v rfl rfl rfl rfl (by rfl) (by rw [hL, List.map_append]; rfl) (by (simp only [List.length_map, List.length_append, List.length_cons, List.length_nil, List.length_take, T81]; omega)) ?_
  refine x1x rfl z5z rfl rfl w2w rfl rfl ?_
  refine z8z rfl rfl w2w rfl rfl rfl rfl rfl (by simp only [a2b]; rfl) ?_
  refine ⟨by kernel_rfl, ?_⟩
  refine hK7 _ _ ?_
  clear hK7 K7
  refine y0y x9x (by rfl) ?_
  refine x0x rfl ?_
  refine u5u (.int .i64 (n - 1)) rfl rfl rfl (q3q rfl (by omega) (by omega) (by omega)) ?_
  refine x2x rfl ?_
  exact ⟨(_, n - 1, _), ⟨(by exact hN), (by show (n - 1).toNat < n.toNat; omega)⟩, [0, 0, 0, _, _, 0, 0, _], (x5x 5 rfl Cov.nil), (x5x 0 rfl (x5x 2 rfl (x5x 4 rfl Cov.nil))), (HE.row rfl (by rfl) (HE.box rfl rfl (HE.box rfl rfl (HE.kill rfl (HE.kill rfl HE.nil))))), (z2z 1 rfl (z2z 5 rfl (z2z 6 rfl (z2z 8 rfl HE.nil)))), rfl⟩
 try simp at hc6
 have hS : a9m bs n.toNat q = ([], q) := b3t (by (right; simp_all; done))
 rw [hS, List.append_nil] at g5
 rw [hS] at g6
 obtain ⟨E, hE⟩ : ∃ E, sE bs = E := ⟨_, rfl⟩
 have hEF : E = F0 := by rw [← hE, ← hF0, ← hB]; rfl
 subst hEF
 obtain rfl : l = E.1 := g5
 obtain rfl : q = E.2 := g6
 have hv1 := g4
 refine v7v ?_
 refine hK3 _ _ ?_
 clear hK4 K4 hK3 K3
 refine x8x fun K9 hK9 => ?_
 refine p5p (b := a7x true E.1) 2 9 rfl rfl rfl (.ref rfl (Le.ow_map _ (fun _ => rfl) (fun _ => rfl)) .nil) rfl rfl rfl rfl ?_
 refine x7x x9x (by rfl) ?_
 refine x0x rfl ?_
 refine z1z [0] [_] (r1r c bs hbs hbl E.2 hv1) rfl rfl rfl (by decide) rfl rfl (by repeat (first | exact InH.nil | refine InH.cons rfl ?_)) (by (simp only [pI, y2y, y3y, v4v, gl, nx, v2v, Nat.beq]; rfl)) (by (simp only [pI, y2y, y3y, v4v, gl, nx, v2v, Nat.beq]; rfl)) ?_
 refine x2x rfl ?_
 obtain ⟨F1, hF1⟩ : ∃ F, sO bs = F := ⟨_, rfl⟩
 rw [show sO bs = a5t bs (a1i bs E.2).1.toNat (a1i bs E.2).2 from by rw [← hE]; rfl] at hF1
 refine y7y ?_
 refine b2v 2 10 8 84 5 rfl rfl rfl rfl rfl ?_
 refine v9v (ι := List Ou × Int × Rd7) (fun p γ2 => [(7, .pv (.int .i64 p.2.1))]) (fun p γ2 => [(8, ((γ2 8), .row 84 5 (p.1.map a2c))), (0, ((γ 0), .box 44 [v5v c bs, pI ((p.2.2.at' : Nat) : Int), .pv (.bool p.2.2.bad)])), (2, ((0 + 1), .box 28 [pI h0, pI h1, pI h2, pI h3, pI h4, pI h5, pI h6, p1p true A.1, p1p true B.1, a7x true E.1, .ref 8 (γ2 8)])), (5, ((γ2 5), .dead)), (6, ((γ2 6), .dead))]) (fun p => p.2.1 ≤ 2097152 ∧ (p.1.length : Int) + p.2.1 ≤ 2097152 ∧ p.1.length ≤ 2097152 ∧ p.2.2.at' ≤ bs.length ∧ p.1 ++ (a5t bs p.2.1.toNat p.2.2).1 = F1.1 ∧ (a5t bs p.2.1.toNat p.2.2).2 = F1.2) (fun p => p.2.1.toNat) (x5x 0 rfl (x5x 2 rfl (x5x 4 rfl Cov.nil))) (z2z 1 rfl (z2z 3 rfl (z2z 4 rfl (z2z 7 rfl HE.nil)))) ([], (a1i bs E.2).1, (a1i bs E.2).2) ⟨(a4r bs E.2).2, by have := (a4r bs E.2).2; show ((0 : Nat) : Int) + (a1i bs E.2).1 ≤ 2097152; omega, Nat.zero_le _, a3v hv1, by rw [← hF1] <;> rfl, by rw [← hF1] <;> rfl⟩ [0, 0, 0, 0, 0, _, _, 0, _] (x5x 7 rfl Cov.nil) (HE.row rfl (by rfl) (HE.box rfl rfl (HE.box rfl rfl (HE.kill rfl (HE.kill rfl HE.nil))))) rfl fun p γ2 hi => ?_
 try dsimp only [List.cons_append, List.nil_append]
 obtain ⟨l, n, q⟩ := p
 obtain ⟨g1, g2, g3, g4, g5, g6⟩ := hi
 dsimp only at g1 g2 g3 g4 g5 g6 ⊢
 refine x8x fun K10 hK10 => ?_
 refine x7x x9x (by rfl) ?_
 refine x0x rfl ?_
 refine z0z rfl rfl rfl ?_
 refine x0x rfl ?_
 refine a0d rfl rfl (fun hg11 => ?_) (fun hg11 => ?_)
 rotate_left
 ·try simp at hg11
  refine x4x rfl rfl ?_
  refine x4x rfl rfl ?_
  refine x4x rfl rfl ?_
  refine x4x rfl rfl ?_
  refine x6x rfl rfl ?_
  refine y1y rfl (fun hc15 => ?_) (fun hc15 => ?_)
  ·simp at hc15
  try simp at hc15
  have hS : a5t bs n.toNat q = ([], q) := a5m (by (left; omega))
  rw [hS, List.append_nil] at g5
  rw [hS] at g6
  obtain ⟨O, hO⟩ : ∃ O, sO bs = O := ⟨_, rfl⟩
  have hOF : O = F1 := by rw [← hO, ← hF1, ← hE]; rfl
  subst hOF
  obtain rfl : l = O.1 := g5
  obtain rfl : q = O.2 := g6
  have hW : sW bs = (b9c H.1 A.1 B.1 E.1 O.1, O.2) := by unfold sW; rw [hH, hA, hB, hE, hO, if_neg (by simp [hb])]
  rw [hL7] at hW
  refine v7v ?_
  refine hK9 _ _ ?_
  clear hK10 K10 hK9 K9
  refine p5p (b := a6n true O.1) 2 10 rfl rfl rfl (.ref rfl (Le.ow_map _ (fun _ => rfl) (fun _ => rfl)) .nil) rfl rfl rfl rfl ?_
  refine x7x x9x (by rfl) ?_
  refine z3z rfl z5z rfl rfl rfl ?_
  refine u2u rfl rfl z5z rfl rfl rfl rfl ?_
  rw [hW]
  refine y6y ?_
  exact ⟨.inr rfl, [γ 0], rfl, rfl, HE.box rfl rfl HE.nil⟩
 try simp at hg11
 refine x0x rfl ?_
 refine y9y rfl rfl ?_
 refine u7u rfl rfl ?_
 refine y9y rfl rfl ?_
 refine x1x rfl a0x rfl rfl a8d rfl rfl ?_
 refine y9y rfl rfl ?_
 refine x3x rfl a8d rfl rfl ?_
 refine y9y rfl rfl ?_
 refine s6s rfl ?_
 refine z4z rfl rfl ?_
 refine y1y rfl (fun hc12 => ?_) (fun hc12 => ?_)
 rotate_left
 ·try simp at hc12
  have hS : a5t bs n.toNat q = ([], q) := a5m (by (right; simp_all; done))
  rw [hS, List.append_nil] at g5
  rw [hS] at g6
  obtain ⟨O, hO⟩ : ∃ O, sO bs = O := ⟨_, rfl⟩
  have hOF : O = F1 := by rw [← hO, ← hF1, ← hE]; rfl
  subst hOF
  obtain rfl : l = O.1 := g5
  obtain rfl : q = O.2 := g6
  have hW : sW bs = (b9c H.1 A.1 B.1 E.1 O.1, O.2) := by unfold sW; rw [hH, hA, hB, hE, hO, if_neg (by simp [hb])]
  rw [hL7] at hW
  refine v7v ?_
  refine hK9 _ _ ?_
  clear hK10 K10 hK9 K9
  refine p5p (b := a6n true O.1) 2 10 rfl rfl rfl (.ref rfl (Le.ow_map _ (fun _ => rfl) (fun _ => rfl)) .nil) rfl rfl rfl rfl ?_
  refine x7x x9x (by rfl) ?_
  refine z3z rfl z5z rfl rfl rfl ?_
  refine u2u rfl rfl z5z rfl rfl rfl rfl ?_
  rw [hW]
  refine y6y ?_
  exact ⟨.inr rfl, [γ 0], rfl, rfl, HE.box rfl rfl HE.nil⟩
 try simp at hc12
 obtain ⟨k, hk⟩ : ∃ k, n.toNat = k + 1 := ⟨n.toNat - 1, by omega⟩
 have hq : ¬ q.bad = true := by simp_all
 rw [hk] at g5 g6
 refine y8y ?_
 refine hK10 _ _ ?_
 clear hK10 K10
 refine x8x fun K13 hK13 => ?_
 refine y7y ?_
 refine x7x x9x (by rfl) ?_
 refine x0x rfl ?_
 refine z1z [0] [_] (q7q c bs hbs hbl q g4 5 (by omega)) rfl rfl rfl (by decide) rfl rfl (by repeat (first | exact InH.nil | refine InH.cons rfl ?_)) (by rfl) (by (simp only [pI, y2y, y3y, v4v, gl, nx, v2v, Nat.beq]; rfl)) ?_
 refine x2x rfl ?_
 obtain ⟨G, hG⟩ : ∃ G, a0u bs 5 q = G := ⟨_, rfl⟩
 rw [show a0u bs (5 : Int).toNat q = G from hG]
 have hvG : G.2.at' ≤ bs.length := by rw [← hG]; exact a6k g4
 refine x7x x9x (by rfl) ?_
 refine x0x rfl ?_
 refine u7u rfl rfl ?_
 refine x1x rfl a0x rfl rfl a8d rfl rfl ?_
 refine x3x rfl a8d rfl rfl ?_
 refine s6s rfl ?_
 refine y1y rfl (fun hc14 => ?_) (fun hc14 => ?_)
 rotate_left
 ·try simp at hc14
  have hGb : G.2.bad = true := by simp_all
  rw [b7v hq (by rw [hG]; exact hGb), hG] at g5 g6
  have hN : (n - 1) ≤ 2097152 ∧ (l.length : Int) + (n - 1) ≤ 2097152 ∧ l.length ≤ 2097152 ∧ G.2.at' ≤ bs.length ∧ l ++ (a5t bs (n - 1).toNat G.2).1 = F1.1 ∧ (a5t bs (n - 1).toNat G.2).2 = F1.2 := by rw [a5m (.inr hGb)]; exact ⟨by omega, by omega, g3, hvG, g5, g6⟩
  refine y8y ?_
  refine hK13 _ _ ?_
  clear hK13 K13
  refine y0y x9x (by rfl) ?_
  refine x0x rfl ?_
  refine u5u (.int .i64 (n - 1)) rfl rfl rfl (q3q rfl (by omega) (by omega) (by omega)) ?_
  refine x2x rfl ?_
  exact ⟨(_, n - 1, _), ⟨(by exact hN), (by show (n - 1).toNat < n.toNat; omega)⟩, [0, 0, 0, 0, 0, _, _, 0, _], (x5x 7 rfl Cov.nil), (x5x 0 rfl (x5x 2 rfl (x5x 4 rfl Cov.nil))), (HE.row rfl (by rfl) (HE.box rfl rfl (HE.box rfl rfl (HE.kill rfl (HE.kill rfl HE.nil))))), (z2z 1 rfl (z2z 3 rfl (z2z 4 rfl (z2z 7 rfl HE.nil)))), rfl⟩
 try simp at hc14
 have hGb : ¬ G.2.bad = true := by simp_all
 have hl5 := a7r (n := 5) (r := q) (by rw [hG]; simpa using hGb)
 rw [hG] at hl5
 rw [b5m hq (by rw [hG]; exact hGb), hG] at g5 g6
 have hN : (n - 1) ≤ 2097152 ∧ ((l ++ [b5r G.1]).length : Int) + (n - 1) ≤ 2097152 ∧ (l ++ [b5r G.1]).length ≤ 2097152 ∧ G.2.at' ≤ bs.length ∧ (l ++ [b5r G.1]) ++ (a5t bs (n - 1).toNat G.2).1 = F1.1 ∧ (a5t bs (n - 1).toNat G.2).2 = F1.2 := by rw [show (n - 1).toNat = k by omega]; refine ⟨by omega, by rw [List.length_append, List.length_cons, List.length_nil]; omega, by rw [List.length_append, List.length_cons, List.length_nil]; omega, hvG, ?_, g6⟩; rw [← g5, List.append_assoc]; rfl
 obtain ⟨a0, a1, a2, a3, a4, hL⟩ := c9r hl5
 rw [show p1p true G.1 = p1p true [a0, a1, a2, a3, a4] from by rw [hL]]
 refine a1k x9x s7s (by rfl) ?_
 refine x1x rfl z5z rfl rfl w5w rfl rfl ?_
 refine x3x rfl w5w rfl rfl ?_
 refine x0x rfl ?_
 refine v0v rfl rfl u1u rfl y5y rfl (show ([a0, a1, a2, a3, a4] : List Int)[0]? = some a0 from rfl) ?_
 refine z6z rfl y5y rfl ?_
 refine x0x rfl ?_
 refine v0v rfl rfl u1u rfl y5y rfl (show ([a0, a1, a2, a3, a4] : List Int)[1]? = some a1 from rfl) ?_
 refine z6z rfl y5y rfl ?_
 refine x0x rfl ?_
 refine v0v rfl rfl u1u rfl y5y rfl (show ([a0, a1, a2, a3, a4] : List Int)[2]? = some a2 from rfl) ?_
 refine z6z rfl y5y rfl ?_
 refine x0x rfl ?_
 refine v0v rfl rfl u1u rfl y5y rfl (show ([a0, a1, a2, a3, a4] : List Int)[3]? = some a3 from rfl) ?_
 refine z6z rfl y5y rfl ?_
 refine x0x rfl ?_
 refine v0v rfl rfl u1u rfl y5y rfl (show ([a0, a1, a2, a3, a4] : List Int)[4]? = some a4 from rfl) ?_
 refine z6z rfl y5y rfl ?_
 refine r3r v8v rfl b4o rfl (by simp only [pI, a0v, p2p, AV.okc, AV.one, T3, T4, List.getElem?_cons_zero, List.getElem?_cons_succ, List.take_succ_cons, List.take_zero, List.drop_succ_cons, List.drop_zero, List.cons_append, List.nil_append, List.length_cons, List.length_nil, if_true, and_self, Nat.reduceAdd, Nat.reduceLeDiff]; rfl) ?_
 refine a0s (id := 5) w5w rfl v8v rfl rfl rfl rfl rfl rfl ?_
 refine r7r (zs := (l ++ [b5r G.1]).map a2c) rfl rfl w5w rfl v8v rfl rfl rfl rfl (by rfl) (by rw [hL, List.map_append]; rfl) (by (simp only [List.length_map, List.length_append, List.length_cons, List.length_nil, List.length_take, T84]; omega)) ?_
 refine x1x rfl z5z rfl rfl w5w rfl rfl ?_
 refine z8z rfl rfl w5w rfl rfl rfl rfl rfl (by simp only [a2b]; rfl) ?_
 refine ⟨by kernel_rfl, ?_⟩
 refine hK13 _ _ ?_
 clear hK13 K13
 refine y0y x9x (by rfl) ?_
 refine x0x rfl ?_
 refine u5u (.int .i64 (n - 1)) rfl rfl rfl (q3q rfl (by omega) (by omega) (by omega)) ?_
 refine x2x rfl ?_
 exact ⟨(_, n - 1, _), ⟨(by exact hN), (by show (n - 1).toNat < n.toNat; omega)⟩, [0, 0, 0, 0, 0, _, _, 0, _], (x5x 7 rfl Cov.nil), (x5x 0 rfl (x5x 2 rfl (x5x 4 rfl Cov.nil))), (HE.row rfl (by rfl) (HE.box rfl rfl (HE.box rfl rfl (HE.kill rfl (HE.kill rfl HE.nil))))), (z2z 1 rfl (z2z 3 rfl (z2z 4 rfl (z2z 7 rfl HE.nil)))), rfl⟩
end
section
theorem a8r (c : Bool) (bs : List Nat) (hbs : ∀ b ∈ bs, b < 256) (hbl : bs.length ≤ 100000000) : a2g Try.prog 6 [v5v c bs] (.tup [.agg (a5s true (q9q bs).1), .pv (.bool (q9q bs).2)]) := by
 refine u9u x9x (fn := Try.f6) (by kernel_rfl) (by kernel_rfl) rfl (outs := [.agg (a5s true (q9q bs).1), .pv (.bool (q9q bs).2)]) (by rfl) (u3u rfl) 3 ?_
 refine x7x x9x (by rfl) ?_
 refine q0q (id := 0) z5z a2y rfl ?_
 refine x2x rfl ?_
 refine x7x x9x (by rfl) ?_
 refine x0x rfl ?_
 refine r3r a0x rfl c8b rfl (by simp only [pI, y5y, T3, a8d, T4, v6v, T22, a0v, p2p, AV.okc, AV.one, Value.oneCell', List.map_cons, List.map_nil, List.getElem?_cons_zero, List.getElem?_cons_succ, List.take_succ_cons, List.take_zero, List.drop_succ_cons, List.drop_zero, List.cons_append, List.nil_append, List.length_cons, List.length_nil, if_true, and_self, Nat.reduceAdd, Nat.reduceLeDiff]; rfl) ?_
 refine r5r (id := 1) rfl rfl rfl ?_
 refine x2x rfl ?_
 refine x7x x9x (by rfl) ?_
 refine x0x rfl ?_
 refine z1z [1] [_] (a4u c bs hbs hbl) rfl rfl rfl (by decide) rfl rfl (by repeat (first | exact InH.nil | refine InH.cons rfl ?_)) (by (simp only [pI, y2y, y3y, v4v, gl, nx, v2v, Nat.beq]; rfl)) (by (simp only [pI, y2y, y3y, v4v, gl, nx, v2v, Nat.beq]; rfl)) ?_
 refine q0q (id := 2) z5z a2y rfl ?_
 refine u2u rfl rfl z5z rfl rfl rfl rfl ?_
 refine x8x fun K1 hK1 => ?_
 refine q5q x9x s7s (by rfl) ?_
 refine x0x rfl ?_
 refine u7u rfl rfl ?_
 refine x1x rfl a0x rfl rfl a8d rfl rfl ?_
 refine x3x rfl a8d rfl rfl ?_
 refine x0x rfl ?_
 refine a0d rfl rfl (fun hg2 => ?_) (fun hg2 => ?_)
 rotate_left
 ·try simp at hg2
  have hX : ¬ b1a bs := fun q => by have q1 := q.1; simp [q1] at hg2
  refine x4x rfl rfl ?_
  refine x4x rfl rfl ?_
  refine z4z rfl rfl ?_
  refine x0x rfl ?_
  refine x4x rfl rfl ?_
  refine x4x rfl rfl ?_
  refine x4x rfl rfl ?_
  refine x4x rfl rfl ?_
  refine x4x rfl rfl ?_
  refine x4x rfl rfl ?_
  refine z4z rfl rfl ?_
  refine ⟨by kernel_rfl, ?_⟩
  refine y1y rfl (fun hc6 => ?_) (fun hc6 => ?_)
  rotate_left
  ·simp at hc6
  try simp at hc6
  try have hX : ¬ b1a bs := fun q => by have q1 := q.2.2; simp [q1] at hc6
  refine x7x x9x (by rfl) ?_
  refine r3r z5z rfl a2y rfl (by simp only [pI, y5y, T3, u1u, T24, w2w, T25, w5w, T26, a0v, p2p, AV.okc, AV.one, Value.oneCell', List.map_cons, List.map_nil, List.getElem?_cons_zero, List.getElem?_cons_succ, List.take_succ_cons, List.take_zero, List.drop_succ_cons, List.drop_zero, List.cons_append, List.nil_append, List.length_cons, List.length_nil, if_true, and_self, Nat.reduceAdd, Nat.reduceLeDiff]; rfl) ?_
  refine u2u rfl rfl z5z rfl rfl rfl rfl ?_
  refine x2x rfl ?_
  refine a5x 0 rfl (.same (.same (.same (.same (.same (.same (.same (.le (b := p1p true []) rfl .nil rfl (.le (b := p1p true []) rfl .nil rfl (.le (b := a7x true []) rfl .nil rfl (.le (b := a6n true []) rfl .nil rfl (LeCs.refl _)))))))))))) ?_
  rw [show q9q bs = (wo0, false) from if_neg hX]
  refine y6y ⟨.inr rfl, ?_⟩
  clear hK1 K1
  exact ⟨_, _, rfl, .agg rfl (.cl rfl (.cl rfl (.cl rfl (.cl rfl (.cl rfl (.cl rfl (.cl rfl (.cl rfl (.cl rfl (.cl rfl (.cl rfl .nil))))))))))) (.cl rfl .nil)⟩
 try simp at hg2
 have hb : (sW bs).2.bad = false := by simpa using hg2
 refine x0x rfl ?_
 refine y9y rfl rfl ?_
 refine v3v rfl v6v rfl ?_
 refine y9y rfl rfl ?_
 refine z0z rfl rfl rfl ?_
 refine x6x rfl rfl ?_
 refine x0x rfl ?_
 refine a0d rfl rfl (fun hg3 => ?_) (fun hg3 => ?_)
 rotate_left
 ·try simp at hg3
  try have hX : ¬ b1a bs := fun q => q.2.1 (by simpa using hg3)
  refine x4x rfl rfl ?_
  refine x4x rfl rfl ?_
  refine x4x rfl rfl ?_
  refine x4x rfl rfl ?_
  refine x4x rfl rfl ?_
  refine z4z rfl rfl ?_
  refine ⟨by kernel_rfl, ?_⟩
  refine y1y rfl (fun hc5 => ?_) (fun hc5 => ?_)
  rotate_left
  ·simp at hc5
  try simp at hc5
  try have hX : ¬ b1a bs := fun q => by have q1 := q.2.2; simp [q1] at hc5
  refine x7x x9x (by rfl) ?_
  refine r3r z5z rfl a2y rfl (by simp only [pI, y5y, T3, u1u, T24, w2w, T25, w5w, T26, a0v, p2p, AV.okc, AV.one, Value.oneCell', List.map_cons, List.map_nil, List.getElem?_cons_zero, List.getElem?_cons_succ, List.take_succ_cons, List.take_zero, List.drop_succ_cons, List.drop_zero, List.cons_append, List.nil_append, List.length_cons, List.length_nil, if_true, and_self, Nat.reduceAdd, Nat.reduceLeDiff]; rfl) ?_
  refine u2u rfl rfl z5z rfl rfl rfl rfl ?_
  refine x2x rfl ?_
  refine a5x 0 rfl (.same (.same (.same (.same (.same (.same (.same (.le (b := p1p true []) rfl .nil rfl (.le (b := p1p true []) rfl .nil rfl (.le (b := a7x true []) rfl .nil rfl (.le (b := a6n true []) rfl .nil rfl (LeCs.refl _)))))))))))) ?_
  rw [show q9q bs = (wo0, false) from if_neg hX]
  refine y6y ⟨.inr rfl, ?_⟩
  clear hK1 K1
  exact ⟨_, _, rfl, .agg rfl (.cl rfl (.cl rfl (.cl rfl (.cl rfl (.cl rfl (.cl rfl (.cl rfl (.cl rfl (.cl rfl (.cl rfl (.cl rfl .nil))))))))))) (.cl rfl .nil)⟩
 try simp at hg3
 have hne : bs ≠ [] := fun e => by simp [e] at hg3
 refine z3z rfl z5z rfl rfl rfl ?_
 refine y9y rfl rfl ?_
 refine z7z rfl rfl rfl (b1e true (sW bs).1) ?_
 refine y9y rfl rfl ?_
 refine b2d x9x rfl v6v rfl a0o rfl c6k rfl ?_
 refine y9y rfl rfl ?_
 refine x0x rfl ?_
 refine y9y rfl rfl ?_
 refine b2d x9x rfl v6v rfl a0o rfl c6k rfl ?_
 refine y9y rfl rfl ?_
 refine u5u (.bool (!(decide (a3u (sW bs).1 = bs)))) rfl rfl rfl (congrArg (fun b => Value.bool (!b)) (b0w (a5q _) hbs)) ?_
 refine x6x rfl rfl ?_
 refine ⟨by kernel_rfl, ?_⟩
 refine y1y rfl (fun hc4 => ?_) (fun hc4 => ?_)
 ·try simp at hc4
  try have hX : ¬ b1a bs := fun q => by have q1 := q.2.2; simp [q1] at hc4
  refine x7x x9x (by rfl) ?_
  refine r3r z5z rfl a2y rfl (by simp only [pI, y5y, T3, u1u, T24, w2w, T25, w5w, T26, a0v, p2p, AV.okc, AV.one, Value.oneCell', List.map_cons, List.map_nil, List.getElem?_cons_zero, List.getElem?_cons_succ, List.take_succ_cons, List.take_zero, List.drop_succ_cons, List.drop_zero, List.cons_append, List.nil_append, List.length_cons, List.length_nil, if_true, and_self, Nat.reduceAdd, Nat.reduceLeDiff]; rfl) ?_
  refine u2u rfl rfl z5z rfl rfl rfl rfl ?_
  refine x2x rfl ?_
  refine a5x 0 rfl (.same (.same (.same (.same (.same (.same (.same (.le (b := p1p true []) rfl .nil rfl (.le (b := p1p true []) rfl .nil rfl (.le (b := a7x true []) rfl .nil rfl (.le (b := a6n true []) rfl .nil rfl (LeCs.refl _)))))))))))) ?_
  rw [show q9q bs = (wo0, false) from if_neg hX]
  refine y6y ⟨.inr rfl, ?_⟩
  clear hK1 K1
  exact ⟨_, _, rfl, .agg rfl (.cl rfl (.cl rfl (.cl rfl (.cl rfl (.cl rfl (.cl rfl (.cl rfl (.cl rfl (.cl rfl (.cl rfl (.cl rfl .nil))))))))))) (.cl rfl .nil)⟩
 try simp at hc4
 have hG : b1a bs := ⟨hb, hne, by simpa using hc4⟩
 refine y8y ?_
 refine hK1 _ _ ?_
 clear hK1 K1
 refine x7x x9x (by rfl) ?_
 refine z3z rfl z5z rfl rfl rfl ?_
 refine u2u rfl rfl z5z rfl rfl rfl rfl ?_
 refine x2x rfl ?_
 rw [show q9q bs = ((sW bs).1, true) from if_pos hG]
 refine y6y ⟨.inr rfl, ?_⟩
 exact ⟨_, _, rfl, .agg rfl (.cl rfl (.cl rfl (.cl rfl (.cl rfl (.cl rfl (.cl rfl (.cl rfl (.cl rfl (.cl rfl (.cl rfl (.cl rfl .nil))))))))))) (.cl rfl .nil)⟩
end
section
set_option maxRecDepth 100000
set_option maxHeartbeats 4000000
open Go Go.RowKit Go.Extern.Stop Go.Stop Go.Extern
abbrev c9s : Array Value → Sem Value := Extern.ReflectliteType.method fun t => do Extern.Rtype.noPackHeld "Comparable" t; pure (.bool (← typeInfo t).comparable)
theorem c3f (v : Value) (w : World) : (Extern.ReflectliteType.typeOf #[.iface 58 v]).run Try.prog w = .ok (.iface 109 (.agg #[.pointer (some ⟨0, 58, none⟩)])) w := by kernel_rfl
theorem b5p (w : World) : (c9s #[.agg #[.pointer (some ⟨0, 58, none⟩)]]).run Try.prog w = .ok (.bool true) w := by kernel_rfl
theorem a7v (v : Value) (w : World) : (Go.method 256 109 v "Comparable").run Try.prog w = .ok (111, v) w := by kernel_rfl
theorem c7q : (Try.prog.info? 58).map (·.comparable) = some true := by kernel_rfl
theorem c9a (v : Value) (xT : TypeId) (w : World) : (Instr.typeAssert (.iface 58 v) xT 111 true).run Try.prog w = .ok (.tuple #[.nilIface, .bool false]) w := run_typeAssert_lacksB Try.underlying111 (by kernel_rfl) (by kernel_rfl) v xT w
theorem c9b (v : Value) (xT : TypeId) (w : World) : (Instr.typeAssert (.iface 58 v) xT 114 true).run Try.prog w = .ok (.tuple #[.nilIface, .bool false]) w := run_typeAssert_lacksB Try.underlying114 (by kernel_rfl) (by kernel_rfl) v xT w
theorem c9d (v : Value) (xT : TypeId) (w : World) : (Instr.typeAssert (.iface 58 v) xT 116 true).run Try.prog w = .ok (.tuple #[.nilIface, .bool false]) w := run_typeAssert_lacksB Try.underlying116 (by kernel_rfl) (by kernel_rfl) v xT w
theorem c9e (v : Value) (xT : TypeId) (w : World) : (Instr.typeAssert (.iface 107 v) xT 111 true).run Try.prog w = .ok (.tuple #[.nilIface, .bool false]) w := run_typeAssert_lacksB Try.underlying111 (by kernel_rfl) (by kernel_rfl) v xT w
theorem c7r (v : Value) (xT : TypeId) (w : World) : (Instr.typeAssert (.iface 107 v) xT 114 true).run Try.prog w = .ok (.tuple #[.iface 107 v, .bool true]) w := run_typeAssert_hasB Try.underlying114 (by kernel_rfl) v xT w
theorem c1v (v : Value) (w : World) : (Go.method 256 107 v "Unwrap").run Try.prog w = .ok (107, v) w := by kernel_rfl
theorem d0i (a b : Int) (w : World) : (binOp .eql 48 (.iface 58 (.int .i64 a)) (.iface 58 (.int .i64 b))).run Try.prog w = .ok (.bool (a == b)) w := by
 obtain ⟨i, hi, hcmp⟩ := Option.map_eq_some_iff.1 c7q
 have h : ∀ d : Nat, (Op.equalIn (d + 2) 48 (.iface 58 (.int .i64 a)) (.iface 58 (.int .i64 b))).run Try.prog w = .ok (a == b) w := fun d => by
  simp [Op.equalIn, run_underlying Try.underlying48, typeInfo, hi, hcmp, run_underlying Try.underlying58]
 simp only [binOp]
 simp [Op.equal, Op.maxDepth, h 9998]
theorem is0 (f : Int) (w : World) : Calls Try.prog 26 #[.nilIface, .iface 58 (.int .i64 f)] w fun e w' => e = .returned (.bool false) ∧ Grew w w' [] := by
 have hn := run_eql_iface_nil_left (P := Try.prog) w 58 (.int .i64 f) Try.underlying48
 go_enter Try.func26, Try.ntmps26
 go_wp2
 go_ret
 exact ⟨rfl, Grew.rfl' _⟩
theorem is1 (p f g : Int) (w : World) : Calls Try.prog 26 #[.iface 107 (.agg #[.int .i64 p, .iface 58 (.int .i64 g)]), .iface 58 (.int .i64 f)] w fun e w' => e = .returned (.bool (g == f)) ∧ Grew w w' [] := by
 have h8 := @run_callFunc_extern Try.prog 64 _ Extern.ReflectliteType.typeOf Try.func64 (by kernel_rfl) (by kernel_rfl) (by kernel_rfl) (by kernel_rfl)
 have h32 := @run_callFunc_extern Try.prog 111 _ c9s Try.func111 (by kernel_rfl) (by kernel_rfl) (by kernel_rfl) (by kernel_rfl)
 have tT := c3f
 have cT := b5p
 have mR := a7v
 have nP := c9a
 have uP := c9b
 have vP := c9d
 have nL := c9e
 have uL := c7r
 have mU := c1v
 have heq := d0i g f
 have hty := run_eql_iface_types (P := Try.prog) 107 58 (.agg #[.int .i64 p, .iface 58 (.int .i64 g)]) (.int .i64 f) Try.underlying48 (by decide) w
 cases hgf : g == f
 ·rw [hgf] at heq
  go_enter Try.func26, Try.ntmps26
  go_wp2
  refine wp_loop_rounds 2 ?_
  rw [rounds_succ]
  go_wp2
  rw [rounds_succ]
  go_wp2
  go_ret
  exact ⟨rfl, Grew.alloc _ _⟩
 ·rw [hgf] at heq
  go_enter Try.func26, Try.ntmps26
  go_wp2
  refine wp_loop_rounds 2 ?_
  rw [rounds_succ]
  go_wp2
  rw [rounds_succ]
  go_wp2
  go_ret
  exact ⟨rfl, Grew.alloc _ _⟩
def isF : Option (Nat × Nat) → Nat → Bool
 | none, _ => false
 | some (_, g), f => (g : Int) == (f : Int)
theorem c3g {e : Option (Nat × Nat)} (hk : ∀ p f, e = some (p, f) → f = 1 ∨ f = 2) (h1 : isF e 1 = false) (h2 : isF e 2 = false) : e = none := by
 cases e with
 | none => rfl
 | some q =>
  obtain ⟨p, g⟩ := q
  rcases hk p g rfl with rfl | rfl
  ·simp [isF] at h1
  ·simp [isF] at h2
theorem b1f (e : Option (Nat × Nat)) (f : Nat) : a2g Try.prog 26 [.pv (a7y e), .pv (.iface 58 (.int .i64 (f : Int)))] (.pv (.bool (isF e f))) := by
 cases e with
 | none => exact a7p (fn := Try.f26) (by kernel_rfl) (by kernel_rfl) rfl [.nilIface, .iface 58 (.int .i64 (f : Int))] (.bool false) (is0 f)
 | some q => obtain ⟨p, g⟩ := q; exact a7p (fn := Try.f26) (by kernel_rfl) (by kernel_rfl) rfl [.iface 107 (.agg #[.int .i64 (p : Int), .iface 58 (.int .i64 (g : Int))]), .iface 58 (.int .i64 (f : Int))] (.bool _) (is1 p f g)
end
section
theorem a0h (l : List Nat) (v : Int) (hv : ok7 v) (hl : l.length ≤ 10000000) : Meth Try.prog 37 2 [0] [.ptr 0 0 0, .pv (.int .i64 v)] [(0, (0, .box 67 [.ref 1 0])), (1, (0, .row 5 1 ((l).map a1o)))] (.tup []) [(0, (0, .box 67 [.ref 1 0])), (1, (0, .row 5 1 ((l ++ w4w v).map a1o)))] := by
 refine p6p x9x (fn := Try.f37) (by kernel_rfl) (by kernel_rfl) rfl (O0 := []) 2 4 (u3u rfl) (by rfl) (by repeat (first | exact BndH.nil | refine BndH.box rfl ?_ | refine BndH.row (a0e fun _ => rfl) ?_)) (by repeat (first | exact BndH.nil | refine BndH.box rfl ?_ | refine BndH.row (a0e fun _ => rfl) ?_)) (by rfl) fun γ => ?_
 show Ex Try.prog _ _ [(0, .ptr 0 (γ 0) 0), (1, .pv (.int .i64 v))] [(0, ((γ 0), .box 67 [.ref 1 (γ 1)])), (1, ((γ 1), .row 5 1 ((l).map a1o))), (5, (0, .dead)), (4, (0, .dead)), (3, (0, .dead)), (2, (0, .dead))] _
 have hv1 := hv.1
 have hv2 := hv.2
 have hE : (w4w v).length ≤ 2 := r4r hv
 refine x7x x9x (by rfl) ?_
 refine x0x rfl ?_
 refine u5u (.int .i64 (((v + 1).toNat : Nat) : Int)) rfl rfl rfl (q3q rfl (by omega) (by omega) (by omega)) ?_
 refine s5s ((((v + 1).toNat : Nat) : Int)) rfl y5y a8f rfl rfl (b3v (by omega) (by omega)) ?_
 refine x2x rfl ?_
 refine x8x fun K1 hK1 => ?_
 refine y7y ?_
 refine v9v (ι := List Nat × Nat) (fun p γ1 => [(4, .pv (.int .u64 (p.2 : Int)))]) (fun p γ1 => [(1, ((γ1 1), .row 5 1 ((p.1).map a1o))), (0, ((γ 0), .box 67 [.ref 1 (γ1 1)])), (2, ((γ1 2), .dead)), (3, ((γ1 3), .dead))]) (fun p => p.1 ++ b2e p.2 = l ++ w4w v ∧ p.2 ≤ 10000) (fun p => p.2) (x5x 0 rfl Cov.nil) (z2z 4 rfl (z2z 5 rfl HE.nil)) (l, (v + 1).toNat) ⟨rfl, by show (v + 1).toNat ≤ 10000; omega⟩ [0, _, _, _] (x5x 4 rfl Cov.nil) (HE.row rfl rfl (HE.box rfl rfl (HE.kill rfl (HE.kill rfl HE.nil)))) rfl fun p γ1 hi => ?_
 try dsimp only [List.cons_append, List.nil_append]
 obtain ⟨l', q⟩ := p
 obtain ⟨h1, h2⟩ := hi
 dsimp only at h1 h2 ⊢
 have hL := congrArg List.length h1
 rw [List.length_append, List.length_append] at hL
 refine x8x fun K2 hK2 => ?_
 refine x7x x9x (by rfl) ?_
 refine x0x rfl ?_
 refine z0z rfl rfl rfl ?_
 refine y1y rfl (fun hc3 => ?_) (fun hc3 => ?_)
 rotate_left
 ·try simp at hc3
  refine v7v ?_
  refine hK1 _ _ ?_
  clear hK2 K2 hK1 K1
  refine y0y x9x (by rfl) ?_
  refine x0x rfl ?_
  refine x0x rfl ?_
  refine u7u rfl rfl ?_
  refine x3x rfl b4n rfl rfl ?_
  refine x0x rfl ?_
  refine s5s (((q : Nat) : Int)) rfl a8f a0o rfl rfl (b5o (by omega) (by omega)) ?_
  refine a1y (id := 4) b4n rfl a0o rfl rfl rfl rfl rfl ?_
  refine r7r (zs := (l' ++ [q]).map a1o) rfl rfl v6v rfl a0o rfl rfl rfl rfl (by rfl) (a1l _ _ _) (by (simp only [List.length_map, List.length_append, List.length_cons, List.length_nil, List.length_take, T5]; omega)) ?_
  refine u7u rfl rfl ?_
  refine z8z rfl rfl b4n rfl rfl rfl rfl rfl (by simp only [a2b]; rfl) ?_
  exact ⟨.inl rfl, [γ 0, _], rfl, rfl, HE.box rfl rfl (HE.row rfl (by rw [← h1, a4q (by omega)]) HE.nil)⟩
 try simp at hc3
 refine y8y ?_
 refine hK2 _ _ ?_
 clear hK2 K2
 refine y7y ?_
 refine x7x x9x (by rfl) ?_
 refine x0x rfl ?_
 refine x0x rfl ?_
 refine u7u rfl rfl ?_
 refine x3x rfl b4n rfl rfl ?_
 refine x0x rfl ?_
 refine u5u (.int .u64 ((q % 128 : Nat) : Int)) rfl rfl rfl (c7o (by omega)) ?_
 refine s5s (((q % 128 : Nat) : Int)) rfl a8f a0o rfl rfl (b5o (by omega) (by omega)) ?_
 refine u5u (.int .u8 ((128 + q % 128 : Nat) : Int)) rfl rfl rfl (c8z (by omega)) ?_
 refine a1y (id := 2) b4n rfl a0o rfl rfl rfl rfl rfl ?_
 refine r7r (zs := (l' ++ [128 + q % 128]).map a1o) rfl rfl v6v rfl a0o rfl rfl rfl rfl (by rfl) (a1l _ _ _) (by (simp only [List.length_map, List.length_append, List.length_cons, List.length_nil, List.length_take, T5]; omega)) ?_
 refine u7u rfl rfl ?_
 refine z8z rfl rfl b4n rfl rfl rfl rfl rfl (by simp only [a2b]; rfl) ?_
 refine y0y x9x (by rfl) ?_
 refine x0x rfl ?_
 refine u5u (.int .u64 ((q / 128 : Nat) : Int)) rfl rfl rfl (d0h q) ?_
 refine x2x rfl ?_
 exact ⟨(l' ++ [128 + q % 128], q / 128), ⟨⟨by rw [a6j (by omega)] at h1; rw [← h1, List.append_assoc]; rfl, by show q / 128 ≤ 10000; omega⟩, (by show q / 128 < q; omega)⟩, [0, _, _, _], (x5x 4 rfl Cov.nil), (x5x 0 rfl Cov.nil), (HE.row rfl rfl (HE.box rfl rfl (HE.kill rfl (HE.kill rfl HE.nil)))), (z2z 4 rfl (z2z 5 rfl HE.nil)), rfl⟩
theorem a0b (c : Bool) (b : List Nat) (l : List Int) (hv : ∀ v ∈ l, ok7 v) (hl : l.length ≤ 9999) (hb : b.length ≤ 1000000) : Meth Try.prog 36 2 [0] [.ptr 0 0 0, p1p c l] [(0, (0, .box 67 [.ref 1 0])), (1, (0, .row 5 1 ((b).map a1o)))] (.tup []) [(0, (0, .box 67 [.ref 1 0])), (1, (0, .row 5 1 ((b ++ u6u l).map a1o)))] := by
 refine p6p x9x (fn := Try.f36) (by kernel_rfl) (by kernel_rfl) rfl (O0 := []) 2 0 (u3u rfl) (by rfl) (by repeat (first | exact BndH.nil | refine BndH.box rfl ?_ | refine BndH.row (a0e fun _ => rfl) ?_)) (by repeat (first | exact BndH.nil | refine BndH.box rfl ?_ | refine BndH.row (a0e fun _ => rfl) ?_)) (by rfl) fun γ => ?_
 show Ex Try.prog _ _ [(0, .ptr 0 (γ 0) 0), (1, p1p c l)] [(0, ((γ 0), .box 67 [.ref 1 (γ 1)])), (1, ((γ 1), .row 5 1 ((b).map a1o)))] _
 refine s1s 1 rfl fun hlen => ?_
 refine x7x x9x (by rfl) ?_
 refine x0x rfl ?_
 refine v3v rfl u1u rfl ?_
 refine x0x rfl ?_
 refine y7y ?_
 refine v9v (ι := Nat) (fun i γ1 => [(8, .pv (.int .i64 (i : Int)))]) (fun i γ1 => [(1, ((γ1 1), .row 5 1 ((b ++ u6u (l.take i)).map a1o))), (0, ((γ 0), .box 67 [.ref 1 (γ1 1)]))]) (fun i => i ≤ l.length) (fun i => l.length - i) (x5x 0 rfl (x5x 6 rfl (x5x 7 rfl Cov.nil))) HE.nil 0 (by omega) [0, _] (x5x 8 rfl Cov.nil) (HE.row rfl (by rw [List.take_zero, show u6u [] = [] from rfl, List.append_nil]) (HE.box rfl rfl HE.nil)) rfl fun i γ1 hi => ?_
 try dsimp only [List.cons_append, List.nil_append]
 refine x7x x9x (by rfl) ?_
 refine z0z rfl rfl rfl ?_
 refine x8x fun K1 hK1 => ?_
 refine y1y rfl (fun hc2 => ?_) (fun hc2 => ?_)
 rotate_left
 ·try simp at hc2
  obtain rfl : i = l.length := by omega
  rw [List.take_length]
  refine v7v ?_
  exact ⟨.inl rfl, [γ 0, _], rfl, rfl, HE.box rfl rfl (HE.row rfl rfl HE.nil)⟩
 try simp at hc2
 obtain ⟨x, hx⟩ : ∃ x, l[i]? = some x := s8s (by omega)
 have hT := p9p (l := l.take i) (fun v h => hv v (List.mem_of_mem_take h))
 rw [List.length_take] at hT
 refine y8y ?_
 refine hK1 _ _ ?_
 clear hK1 K1
 refine x8x fun K3 hK3 => ?_
 refine y7y ?_
 refine x7x x9x (by rfl) ?_
 refine v0v rfl rfl u1u rfl y5y rfl hx ?_
 refine z6z rfl y5y rfl ?_
 refine x2x rfl ?_
 refine y0y x9x (by rfl) ?_
 refine x0x rfl ?_
 refine x0x rfl ?_
 refine z1z [0, 1] [_, _] (a0h (b ++ u6u (l.take i)) x (hv x (List.mem_of_getElem? hx)) (by (simp only [List.length_append, List.length_take]; omega))) rfl rfl rfl (by decide) rfl rfl (by repeat (first | exact InH.nil | refine InH.cons rfl ?_)) (by (simp only [pI, y2y, y3y, v4v, gl, nx, v2v, Nat.beq]; rfl)) (by (simp only [pI, y2y, y3y, v4v, gl, nx, v2v, Nat.beq]; rfl)) ?_
 refine hK3 _ _ ?_
 clear hK3 K3
 refine y0y x9x (by rfl) ?_
 refine a0j rfl rfl rfl ?_
 refine x0x rfl ?_
 exact ⟨i + 1, ⟨by omega, by omega⟩, [0, _], (Cov.cons' (t := 8) rfl (by rw [w0w (by omega) (by omega)]; rfl) Cov.nil), (x5x 0 rfl (x5x 6 rfl (x5x 7 rfl Cov.nil))), (HE.row rfl (by rw [r8r hx, a1f, List.append_assoc]) (HE.box rfl rfl HE.nil)), HE.nil, rfl⟩
theorem a5u (c : Bool) (b : List Nat) (l : List Ev) (hv : ∀ e ∈ l, ∀ v ∈ evN e, ok7 v) (hl : l.length ≤ 100) (hb : b.length ≤ 100000) : Meth Try.prog 38 2 [0] [.ptr 0 0 0, a7x c l] [(0, (0, .box 67 [.ref 1 0])), (1, (0, .row 5 1 ((b).map a1o)))] (.tup []) [(0, (0, .box 67 [.ref 1 0])), (1, (0, .row 5 1 ((b ++ w4w (l.length : Int) ++ r2r l).map a1o)))] := by
 refine p6p x9x (fn := Try.f38) (by kernel_rfl) (by kernel_rfl) rfl (O0 := []) 2 3 (u3u rfl) (by rfl) (by repeat (first | exact BndH.nil | refine BndH.box rfl ?_ | refine BndH.row (a0e fun _ => rfl) ?_)) (by repeat (first | exact BndH.nil | refine BndH.box rfl ?_ | refine BndH.row (a0e fun _ => rfl) ?_)) (by rfl) fun γ => ?_
 show Ex Try.prog _ _ [(0, .ptr 0 (γ 0) 0), (1, a7x c l)] [(0, ((γ 0), .box 67 [.ref 1 (γ 1)])), (1, ((γ 1), .row 5 1 ((b).map a1o))), (4, (0, .dead)), (3, (0, .dead)), (2, (0, .dead))] _
 refine s1s 1 rfl fun hlen => ?_
 have hE : (w4w (l.length : Int)).length ≤ 2 := r4r ⟨by omega, by omega⟩
 refine x7x x9x (by rfl) ?_
 refine x0x rfl ?_
 refine x0x rfl ?_
 refine v3v rfl w2w rfl ?_
 refine z1z [0, 1] [_, _] (a0h (b) (l.length : Int) ⟨by omega, by omega⟩ (by omega)) rfl rfl rfl (by decide) rfl rfl (by repeat (first | exact InH.nil | refine InH.cons rfl ?_)) (by (simp only [pI, y2y, y3y, v4v, gl, nx, v2v, Nat.beq]; rfl)) (by (simp only [pI, y2y, y3y, v4v, gl, nx, v2v, Nat.beq]; rfl)) ?_
 refine x7x x9x (by rfl) ?_
 refine x0x rfl ?_
 refine v3v rfl w2w rfl ?_
 refine x0x rfl ?_
 refine y7y ?_
 refine v9v (ι := Nat) (fun i γ1 => [(13, .pv (.int .i64 (i : Int)))]) (fun i γ1 => [(1, ((γ1 1), .row 5 1 ((b ++ w4w (l.length : Int) ++ r2r (l.take i)).map a1o))), (0, ((γ 0), .box 67 [.ref 1 (γ1 1)])), (2, ((γ1 2), .dead)), (3, ((γ1 3), .dead)), (4, ((γ1 4), .dead))]) (fun i => i ≤ l.length) (fun i => l.length - i) (x5x 0 rfl (x5x 11 rfl (x5x 12 rfl Cov.nil))) HE.nil 0 (by omega) [0, _, _, _, _] (x5x 13 rfl Cov.nil) (HE.row rfl (by rw [List.take_zero, show r2r [] = [] from rfl, List.append_nil]) (HE.box rfl rfl (HE.kill rfl (HE.kill rfl (HE.kill rfl HE.nil))))) rfl fun i γ1 hi => ?_
 try dsimp only [List.cons_append, List.nil_append]
 refine x7x x9x (by rfl) ?_
 refine z0z rfl rfl rfl ?_
 refine x8x fun K1 hK1 => ?_
 refine y1y rfl (fun hc2 => ?_) (fun hc2 => ?_)
 rotate_left
 ·try simp at hc2
  obtain rfl : i = l.length := by omega
  rw [List.take_length]
  refine v7v ?_
  exact ⟨.inl rfl, [γ 0, _], rfl, rfl, HE.box rfl rfl (HE.row rfl rfl HE.nil)⟩
 try simp at hc2
 obtain ⟨x, hx⟩ : ∃ x, l[i]? = some x := s8s (by omega)
 have hT := a2d (l := l.take i) (fun v h => hv v (List.mem_of_mem_take h))
 rw [List.length_take] at hT
 have h7 : (evN x).length = 7 := rfl
 refine y8y ?_
 refine hK1 _ _ ?_
 clear hK1 K1
 refine x8x fun K3 hK3 => ?_
 refine y7y ?_
 refine x7x x9x (by rfl) ?_
 refine v0v rfl rfl w2w rfl v1v rfl hx ?_
 refine z6z (out := .agg (a0i x)) rfl v1v rfl ?_
 refine q0q (id := 2) v1v b2r rfl ?_
 refine u2u rfl rfl v1v rfl rfl rfl rfl ?_
 refine x7x x9x (by rfl) ?_
 refine z3z rfl v1v rfl rfl rfl ?_
 refine z7z rfl rfl rfl (a4o ..) ?_
 refine q0q (id := 3) a1g c2l rfl ?_
 refine u2u rfl rfl a1g rfl rfl rfl rfl ?_
 refine y0y x9x (by rfl) ?_
 refine x0x rfl ?_
 refine a0c x9x (j := 0) rfl rfl a1g rfl y5y (by decide) rfl ?_
 refine x3x rfl y5y rfl rfl ?_
 refine a0c x9x (j := 1) rfl rfl a1g rfl y5y (by decide) rfl ?_
 refine x3x rfl y5y rfl rfl ?_
 refine a0c x9x (j := 2) rfl rfl a1g rfl y5y (by decide) rfl ?_
 refine x3x rfl y5y rfl rfl ?_
 refine a0c x9x (j := 3) rfl rfl a1g rfl y5y (by decide) rfl ?_
 refine x3x rfl y5y rfl rfl ?_
 refine a0c x9x (j := 4) rfl rfl a1g rfl y5y (by decide) rfl ?_
 refine x3x rfl y5y rfl rfl ?_
 refine a0c x9x (j := 5) rfl rfl a1g rfl y5y (by decide) rfl ?_
 refine x3x rfl y5y rfl rfl ?_
 refine a0c x9x (j := 6) rfl rfl a1g rfl y5y (by decide) rfl ?_
 refine x3x rfl y5y rfl rfl ?_
 refine u0u (id := 4) u1u rfl y5y rfl rfl rfl rfl (.val rfl rfl (.val rfl rfl (.val rfl rfl (.val rfl rfl (.val rfl rfl (.val rfl rfl (.val rfl rfl .nil))))))) rfl (u3u rfl) (u3u rfl) (u3u rfl) rfl rfl ?_
 refine b2w [0, 1] [_, _] (a0b false (b ++ w4w (l.length : Int) ++ r2r (l.take i)) (evN x) (hv x (List.mem_of_getElem? hx)) (by omega) (by (simp only [List.length_append, List.length_take]; omega))) rfl rfl rfl (LendM.ptr (LendM.base (b3k (l := evN x) rfl .nil))) rfl (by decide) rfl rfl (by repeat (first | exact InH.nil | refine InH.cons rfl ?_)) (by (simp only [pI, y2y, y3y, v4v, gl, nx, v2v, Nat.beq]; rfl)) (by (simp only [pI, y2y, y3y, v4v, gl, nx, v2v, Nat.beq]; rfl)) rfl rfl (c0m rfl) (by exact .box (.cons (.ref _ _) rfl .nil) (.row (StrC.map b8y _) .nil)) (by exact .box (.cons (.ref _ _) rfl .nil) (.row (StrC.map b8y _) .nil)) ?_
 refine hK3 _ _ ?_
 clear hK3 K3
 refine y0y x9x (by rfl) ?_
 refine a0j rfl rfl rfl ?_
 refine x0x rfl ?_
 exact ⟨i + 1, ⟨by omega, by omega⟩, [0, _, _, _, _], (Cov.cons' (t := 13) rfl (by rw [w0w (by omega) (by omega)]; rfl) Cov.nil), (x5x 0 rfl (x5x 11 rfl (x5x 12 rfl Cov.nil))), (HE.row rfl (by rw [r8r hx, a8o, List.append_assoc (b ++ w4w (l.length : Int))]) (HE.box rfl rfl (HE.kill rfl (HE.kill rfl (HE.kill rfl HE.nil))))), HE.nil, rfl⟩
theorem a7w (c : Bool) (b : List Nat) (l : List Ou) (hv : ∀ e ∈ l, ∀ v ∈ ouL e, ok7 v) (hl : l.length ≤ 100) (hb : b.length ≤ 100000) : Meth Try.prog 39 2 [0] [.ptr 0 0 0, a6n c l] [(0, (0, .box 67 [.ref 1 0])), (1, (0, .row 5 1 ((b).map a1o)))] (.tup []) [(0, (0, .box 67 [.ref 1 0])), (1, (0, .row 5 1 ((b ++ w4w (l.length : Int) ++ r9r l).map a1o)))] := by
 refine p6p x9x (fn := Try.f39) (by kernel_rfl) (by kernel_rfl) rfl (O0 := []) 2 2 (u3u rfl) (by rfl) (by repeat (first | exact BndH.nil | refine BndH.box rfl ?_ | refine BndH.row (a0e fun _ => rfl) ?_)) (by repeat (first | exact BndH.nil | refine BndH.box rfl ?_ | refine BndH.row (a0e fun _ => rfl) ?_)) (by rfl) fun γ => ?_
 show Ex Try.prog _ _ [(0, .ptr 0 (γ 0) 0), (1, a6n c l)] [(0, ((γ 0), .box 67 [.ref 1 (γ 1)])), (1, ((γ 1), .row 5 1 ((b).map a1o))), (3, (0, .dead)), (2, (0, .dead))] _
 refine s1s 1 rfl fun hlen => ?_
 have hE : (w4w (l.length : Int)).length ≤ 2 := r4r ⟨by omega, by omega⟩
 refine x7x x9x (by rfl) ?_
 refine x0x rfl ?_
 refine x0x rfl ?_
 refine v3v rfl w5w rfl ?_
 refine z1z [0, 1] [_, _] (a0h (b) (l.length : Int) ⟨by omega, by omega⟩ (by omega)) rfl rfl rfl (by decide) rfl rfl (by repeat (first | exact InH.nil | refine InH.cons rfl ?_)) (by (simp only [pI, y2y, y3y, v4v, gl, nx, v2v, Nat.beq]; rfl)) (by (simp only [pI, y2y, y3y, v4v, gl, nx, v2v, Nat.beq]; rfl)) ?_
 refine x7x x9x (by rfl) ?_
 refine x0x rfl ?_
 refine v3v rfl w5w rfl ?_
 refine x0x rfl ?_
 refine y7y ?_
 refine v9v (ι := Nat) (fun i γ1 => [(12, .pv (.int .i64 (i : Int)))]) (fun i γ1 => [(1, ((γ1 1), .row 5 1 ((b ++ w4w (l.length : Int) ++ r9r (l.take i)).map a1o))), (0, ((γ 0), .box 67 [.ref 1 (γ1 1)])), (2, ((γ1 2), .dead)), (3, ((γ1 3), .dead))]) (fun i => i ≤ l.length) (fun i => l.length - i) (x5x 0 rfl (x5x 10 rfl (x5x 11 rfl Cov.nil))) HE.nil 0 (by omega) [0, _, _, _] (x5x 12 rfl Cov.nil) (HE.row rfl (by rw [List.take_zero, show r9r [] = [] from rfl, List.append_nil]) (HE.box rfl rfl (HE.kill rfl (HE.kill rfl HE.nil)))) rfl fun i γ1 hi => ?_
 try dsimp only [List.cons_append, List.nil_append]
 refine x7x x9x (by rfl) ?_
 refine z0z rfl rfl rfl ?_
 refine x8x fun K1 hK1 => ?_
 refine y1y rfl (fun hc2 => ?_) (fun hc2 => ?_)
 rotate_left
 ·try simp at hc2
  obtain rfl : i = l.length := by omega
  rw [List.take_length]
  refine v7v ?_
  exact ⟨.inl rfl, [γ 0, _], rfl, rfl, HE.box rfl rfl (HE.row rfl rfl HE.nil)⟩
 try simp at hc2
 obtain ⟨x, hx⟩ : ∃ x, l[i]? = some x := s8s (by omega)
 have hT := a2e (l := l.take i) (fun v h => hv v (List.mem_of_mem_take h))
 rw [List.length_take] at hT
 have h7 : (ouL x).length = 5 := rfl
 refine y8y ?_
 refine hK1 _ _ ?_
 clear hK1 K1
 refine x8x fun K3 hK3 => ?_
 refine y7y ?_
 refine x7x x9x (by rfl) ?_
 refine v0v rfl rfl w5w rfl v8v rfl hx ?_
 refine z6z (out := .agg (a2c x)) rfl v8v rfl ?_
 refine q0q (id := 2) v8v b4o rfl ?_
 refine u2u rfl rfl v8v rfl rfl rfl rfl ?_
 refine y0y x9x (by rfl) ?_
 refine x0x rfl ?_
 refine x1x rfl v8v rfl rfl y5y rfl rfl ?_
 refine x3x rfl y5y rfl rfl ?_
 refine x1x rfl v8v rfl rfl y5y rfl rfl ?_
 refine x3x rfl y5y rfl rfl ?_
 refine x1x rfl v8v rfl rfl y5y rfl rfl ?_
 refine x3x rfl y5y rfl rfl ?_
 refine x1x rfl v8v rfl rfl y5y rfl rfl ?_
 refine x3x rfl y5y rfl rfl ?_
 refine x1x rfl v8v rfl rfl y5y rfl rfl ?_
 refine x3x rfl y5y rfl rfl ?_
 refine u0u (id := 3) u1u rfl y5y rfl rfl rfl rfl (.val rfl rfl (.val rfl rfl (.val rfl rfl (.val rfl rfl (.val rfl rfl .nil))))) rfl (u3u rfl) (u3u rfl) (u3u rfl) rfl rfl ?_
 refine b2w [0, 1] [_, _] (a0b false (b ++ w4w (l.length : Int) ++ r9r (l.take i)) (ouL x) (hv x (List.mem_of_getElem? hx)) (by omega) (by (simp only [List.length_append, List.length_take]; omega))) rfl rfl rfl (LendM.ptr (LendM.base (b3k (l := ouL x) rfl .nil))) rfl (by decide) rfl rfl (by repeat (first | exact InH.nil | refine InH.cons rfl ?_)) (by (simp only [pI, y2y, y3y, v4v, gl, nx, v2v, Nat.beq]; rfl)) (by (simp only [pI, y2y, y3y, v4v, gl, nx, v2v, Nat.beq]; rfl)) rfl rfl (c0m rfl) (by exact .box (.cons (.ref _ _) rfl .nil) (.row (StrC.map b8y _) .nil)) (by exact .box (.cons (.ref _ _) rfl .nil) (.row (StrC.map b8y _) .nil)) ?_
 refine hK3 _ _ ?_
 clear hK3 K3
 refine y0y x9x (by rfl) ?_
 refine a0j rfl rfl rfl ?_
 refine x0x rfl ?_
 exact ⟨i + 1, ⟨by omega, by omega⟩, [0, _, _, _], (Cov.cons' (t := 12) rfl (by rw [w0w (by omega) (by omega)]; rfl) Cov.nil), (x5x 0 rfl (x5x 10 rfl (x5x 11 rfl Cov.nil))), (HE.row rfl (by rw [r8r hx, a8p, List.append_assoc (b ++ w4w (l.length : Int))]) (HE.box rfl rfl (HE.kill rfl (HE.kill rfl HE.nil)))), HE.nil, rfl⟩
end
section
theorem a4v (c : Bool) (l : List Int) : a2g Try.prog 33 [p1p c l] (.pv (.bool (decide (a3z l)))) := by
 refine u9u x9x (fn := Try.f33) (by kernel_rfl) (by kernel_rfl) rfl (outs := [.pv (.bool (decide (a3z l)))]) (by rfl) (u3u rfl) 0 ?_
 refine s1s 0 rfl fun hlen => ?_
 refine x7x x9x (by rfl) ?_
 refine x2x rfl ?_
 refine x8x fun K1 hK1 => ?_
 refine x7x x9x (by rfl) ?_
 refine x0x rfl ?_
 refine v3v rfl u1u rfl ?_
 refine x0x rfl ?_
 refine y7y ?_
 refine v9v (ι := Nat) (fun i γ1 => [(7, .pv (.int .i64 (i : Int)))]) (fun i γ1 => []) (fun i => i ≤ l.length ∧ c5p l (fun _ v => 0 ≤ v ∧ v ≤ 9999) i) (fun i => l.length - i) (x5x 0 rfl (x5x 5 rfl (x5x 6 rfl Cov.nil))) HE.nil 0 ⟨by omega, b0r⟩ [] (x5x 7 rfl Cov.nil) HE.nil rfl fun i γ1 hi => ?_
 try dsimp only [List.cons_append, List.nil_append]
 obtain ⟨h1, h2⟩ := hi
 refine x7x x9x (by rfl) ?_
 refine z0z rfl rfl rfl ?_
 refine x8x fun K2 hK2 => ?_
 refine y1y rfl (fun hc3 => ?_) (fun hc3 => ?_)
 ·try simp at hc3
  obtain ⟨v, hv⟩ : ∃ v, l[i]? = some v := s8s (by omega)
  refine y8y ?_
  refine hK2 _ _ ?_
  clear hK2 K2
  refine x8x fun K4 hK4 => ?_
  refine y7y ?_
  refine x7x x9x (by rfl) ?_
  refine v0v rfl rfl u1u rfl y5y rfl hv ?_
  refine z6z rfl y5y rfl ?_
  refine x2x rfl ?_
  refine x7x x9x (by rfl) ?_
  refine x0x rfl ?_
  refine z7z rfl rfl rfl (w3w ..) ?_
  refine s6s rfl ?_
  refine y1y rfl (fun hc5 => ?_) (fun hc5 => ?_)
  rotate_left
  ·try simp at hc5
   have hb : 0 ≤ v ∧ v ≤ 9999 := by omega
   refine y8y ?_
   refine hK4 _ _ ?_
   clear hK4 K4
   refine y0y x9x (by rfl) ?_
   refine a0j rfl rfl rfl ?_
   refine x0x rfl ?_
   exact ⟨i + 1, ⟨⟨by omega, b0s h2 hv hb⟩, by omega⟩, [], (Cov.cons' (t := 7) rfl (by rw [w0w (by omega) (by omega)]; rfl) Cov.nil), (x5x 0 rfl (x5x 5 rfl (x5x 6 rfl Cov.nil))), HE.nil, HE.nil, rfl⟩
  try simp at hc5
  have hX : ¬ (0 ≤ v ∧ v ≤ 9999) := by omega
  refine x7x x9x (by rfl) ?_
  refine x2x rfl ?_
  refine y6y ⟨.inr rfl, ?_⟩
  clear hK4 K4 hK1 K1
  refine z9z rfl ?_ rfl
  exact kF (fun h => hX (h.2 v (List.mem_of_getElem? hv)))
 try simp at hc3
 have hall := b3j h2 (by omega)
 have hin : ∀ v ∈ l, 0 ≤ v ∧ v ≤ 9999 := fun v hv => by obtain ⟨i, hi⟩ := List.getElem?_of_mem hv; exact hall i v hi
 refine v7v ?_
 refine hK1 _ _ ?_
 clear hK2 K2 hK1 K1
 refine x7x x9x (by rfl) ?_
 refine x0x rfl ?_
 refine v3v rfl u1u rfl ?_
 refine z0z rfl rfl rfl ?_
 refine x0x rfl ?_
 refine a0d rfl rfl (fun hg6 => ?_) (fun hg6 => ?_)
 rotate_left
 ·try simp at hg6
  refine x4x rfl rfl ?_
  refine x4x rfl rfl ?_
  refine z4z rfl rfl ?_
  refine x2x rfl ?_
  refine y6y ⟨.inr rfl, ?_⟩
  refine z9z rfl ?_ rfl
  exact kT ⟨.inl (by simp_all), hin⟩
 try simp at hg6
 refine x0x rfl ?_
 refine y9y rfl rfl ?_
 refine v3v rfl u1u rfl ?_
 refine y9y rfl rfl ?_
 refine z0z rfl rfl rfl ?_
 refine x6x rfl rfl ?_
 refine x2x rfl ?_
 refine y6y ⟨.inr rfl, ?_⟩
 refine z9z rfl ?_ rfl
 exact congrArg (fun b : Bool => [AV.pv (.bool b)]) (Bool.eq_iff_iff.2 ⟨fun h => decide_eq_true ⟨.inr (by simp at h; omega), hin⟩, fun h => by rcases (of_decide_eq_true h).1 with q | q; exact absurd (List.length_eq_zero_iff.1 q) (by assumption); simp; omega⟩)
theorem a2k (c : Bool) (w : Wo) : a2g Try.prog 9 [.agg (a5s c w)] (.pv (.bool (decide (s9s w)))) := by
 refine u9u x9x (fn := Try.f9) (by kernel_rfl) (by kernel_rfl) rfl (outs := [.pv (.bool (decide (s9s w)))]) (by rfl) (u3u rfl) 1 ?_
 refine x7x x9x (by rfl) ?_
 refine r5r (id := 0) rfl rfl rfl ?_
 refine x2x rfl ?_
 refine x7x x9x (by rfl) ?_
 refine x1x rfl z5z rfl rfl y5y rfl rfl ?_
 refine x3x rfl y5y rfl rfl ?_
 refine z7z rfl rfl rfl (w3w ..) ?_
 refine x0x rfl ?_
 refine a0d rfl rfl (fun hg1 => ?_) (fun hg1 => ?_)
 rotate_left
 ·try simp at hg1
  have hX : ¬ r6r w := by unfold r6r; omega
  refine x4x rfl rfl ?_
  refine x4x rfl rfl ?_
  refine x6x rfl rfl ?_
  refine x0x rfl ?_
  refine x4x rfl rfl ?_
  refine x4x rfl rfl ?_
  refine x4x rfl rfl ?_
  refine x6x rfl rfl ?_
  refine x0x rfl ?_
  refine x4x rfl rfl ?_
  refine x4x rfl rfl ?_
  refine x4x rfl rfl ?_
  refine x6x rfl rfl ?_
  refine x0x rfl ?_
  refine x4x rfl rfl ?_
  refine x4x rfl rfl ?_
  refine x4x rfl rfl ?_
  refine x6x rfl rfl ?_
  refine x0x rfl ?_
  refine x4x rfl rfl ?_
  refine x4x rfl rfl ?_
  refine x4x rfl rfl ?_
  refine x6x rfl rfl ?_
  refine x0x rfl ?_
  refine x4x rfl rfl ?_
  refine x4x rfl rfl ?_
  refine x4x rfl rfl ?_
  refine x6x rfl rfl ?_
  refine x0x rfl ?_
  refine x4x rfl rfl ?_
  refine x4x rfl rfl ?_
  refine x4x rfl rfl ?_
  refine x6x rfl rfl ?_
  refine x0x rfl ?_
  refine x4x rfl rfl ?_
  refine x4x rfl rfl ?_
  refine x4x rfl rfl ?_
  refine x6x rfl rfl ?_
  refine x0x rfl ?_
  refine x4x rfl rfl ?_
  refine x4x rfl rfl ?_
  refine x4x rfl rfl ?_
  refine x6x rfl rfl ?_
  refine x0x rfl ?_
  refine x4x rfl rfl ?_
  refine x4x rfl rfl ?_
  refine x4x rfl rfl ?_
  refine x6x rfl rfl ?_
  refine x2x rfl ?_
  refine y6y ⟨.inr rfl, ?_⟩
  refine z9z rfl ?_ rfl
  exact kF (fun h => hX h.1)
 try simp at hg1
 refine x1x rfl z5z rfl rfl y5y rfl rfl ?_
 refine y9y rfl rfl ?_
 refine x3x rfl y5y rfl rfl ?_
 refine y9y rfl rfl ?_
 refine z7z rfl rfl rfl (a7o ..) ?_
 refine z4z rfl rfl ?_
 refine x0x rfl ?_
 refine a0d rfl rfl (fun hg2 => ?_) (fun hg2 => ?_)
 rotate_left
 ·try simp at hg2
  have hX : ¬ r6r w := by unfold r6r; omega
  refine x4x rfl rfl ?_
  refine x4x rfl rfl ?_
  refine x6x rfl rfl ?_
  refine x0x rfl ?_
  refine x4x rfl rfl ?_
  refine x4x rfl rfl ?_
  refine x4x rfl rfl ?_
  refine x6x rfl rfl ?_
  refine x0x rfl ?_
  refine x4x rfl rfl ?_
  refine x4x rfl rfl ?_
  refine x4x rfl rfl ?_
  refine x6x rfl rfl ?_
  refine x0x rfl ?_
  refine x4x rfl rfl ?_
  refine x4x rfl rfl ?_
  refine x4x rfl rfl ?_
  refine x6x rfl rfl ?_
  refine x0x rfl ?_
  refine x4x rfl rfl ?_
  refine x4x rfl rfl ?_
  refine x4x rfl rfl ?_
  refine x6x rfl rfl ?_
  refine x0x rfl ?_
  refine x4x rfl rfl ?_
  refine x4x rfl rfl ?_
  refine x4x rfl rfl ?_
  refine x6x rfl rfl ?_
  refine x0x rfl ?_
  refine x4x rfl rfl ?_
  refine x4x rfl rfl ?_
  refine x4x rfl rfl ?_
  refine x6x rfl rfl ?_
  refine x0x rfl ?_
  refine x4x rfl rfl ?_
  refine x4x rfl rfl ?_
  refine x4x rfl rfl ?_
  refine x6x rfl rfl ?_
  refine x0x rfl ?_
  refine x4x rfl rfl ?_
  refine x4x rfl rfl ?_
  refine x4x rfl rfl ?_
  refine x6x rfl rfl ?_
  refine x2x rfl ?_
  refine y6y ⟨.inr rfl, ?_⟩
  refine z9z rfl ?_ rfl
  exact kF (fun h => hX h.1)
 try simp at hg2
 refine x1x rfl z5z rfl rfl y5y rfl rfl ?_
 refine y9y rfl rfl ?_
 refine x3x rfl y5y rfl rfl ?_
 refine y9y rfl rfl ?_
 refine z7z rfl rfl rfl (a7o ..) ?_
 refine z4z rfl rfl ?_
 refine x0x rfl ?_
 refine a0d rfl rfl (fun hg3 => ?_) (fun hg3 => ?_)
 rotate_left
 ·try simp at hg3
  have hX : ¬ r6r w := by unfold r6r; omega
  refine x4x rfl rfl ?_
  refine x4x rfl rfl ?_
  refine x6x rfl rfl ?_
  refine x0x rfl ?_
  refine x4x rfl rfl ?_
  refine x4x rfl rfl ?_
  refine x4x rfl rfl ?_
  refine x6x rfl rfl ?_
  refine x0x rfl ?_
  refine x4x rfl rfl ?_
  refine x4x rfl rfl ?_
  refine x4x rfl rfl ?_
  refine x6x rfl rfl ?_
  refine x0x rfl ?_
  refine x4x rfl rfl ?_
  refine x4x rfl rfl ?_
  refine x4x rfl rfl ?_
  refine x6x rfl rfl ?_
  refine x0x rfl ?_
  refine x4x rfl rfl ?_
  refine x4x rfl rfl ?_
  refine x4x rfl rfl ?_
  refine x6x rfl rfl ?_
  refine x0x rfl ?_
  refine x4x rfl rfl ?_
  refine x4x rfl rfl ?_
  refine x4x rfl rfl ?_
  refine x6x rfl rfl ?_
  refine x0x rfl ?_
  refine x4x rfl rfl ?_
  refine x4x rfl rfl ?_
  refine x4x rfl rfl ?_
  refine x6x rfl rfl ?_
  refine x0x rfl ?_
  refine x4x rfl rfl ?_
  refine x4x rfl rfl ?_
  refine x4x rfl rfl ?_
  refine x6x rfl rfl ?_
  refine x2x rfl ?_
  refine y6y ⟨.inr rfl, ?_⟩
  refine z9z rfl ?_ rfl
  exact kF (fun h => hX h.1)
 try simp at hg3
 refine x1x rfl z5z rfl rfl y5y rfl rfl ?_
 refine y9y rfl rfl ?_
 refine x3x rfl y5y rfl rfl ?_
 refine y9y rfl rfl ?_
 refine z7z rfl rfl rfl (w3w ..) ?_
 refine z4z rfl rfl ?_
 refine x0x rfl ?_
 refine a0d rfl rfl (fun hg4 => ?_) (fun hg4 => ?_)
 rotate_left
 ·try simp at hg4
  have hX : ¬ r6r w := by unfold r6r; omega
  refine x4x rfl rfl ?_
  refine x4x rfl rfl ?_
  refine x6x rfl rfl ?_
  refine x0x rfl ?_
  refine x4x rfl rfl ?_
  refine x4x rfl rfl ?_
  refine x4x rfl rfl ?_
  refine x6x rfl rfl ?_
  refine x0x rfl ?_
  refine x4x rfl rfl ?_
  refine x4x rfl rfl ?_
  refine x4x rfl rfl ?_
  refine x6x rfl rfl ?_
  refine x0x rfl ?_
  refine x4x rfl rfl ?_
  refine x4x rfl rfl ?_
  refine x4x rfl rfl ?_
  refine x6x rfl rfl ?_
  refine x0x rfl ?_
  refine x4x rfl rfl ?_
  refine x4x rfl rfl ?_
  refine x4x rfl rfl ?_
  refine x6x rfl rfl ?_
  refine x0x rfl ?_
  refine x4x rfl rfl ?_
  refine x4x rfl rfl ?_
  refine x4x rfl rfl ?_
  refine x6x rfl rfl ?_
  refine x0x rfl ?_
  refine x4x rfl rfl ?_
  refine x4x rfl rfl ?_
  refine x4x rfl rfl ?_
  refine x6x rfl rfl ?_
  refine x2x rfl ?_
  refine y6y ⟨.inr rfl, ?_⟩
  refine z9z rfl ?_ rfl
  exact kF (fun h => hX h.1)
 try simp at hg4
 refine x1x rfl z5z rfl rfl y5y rfl rfl ?_
 refine y9y rfl rfl ?_
 refine x3x rfl y5y rfl rfl ?_
 refine y9y rfl rfl ?_
 refine z7z rfl rfl rfl (w3w ..) ?_
 refine z4z rfl rfl ?_
 refine x0x rfl ?_
 refine a0d rfl rfl (fun hg5 => ?_) (fun hg5 => ?_)
 rotate_left
 ·try simp at hg5
  have hX : ¬ r6r w := by unfold r6r; omega
  refine x4x rfl rfl ?_
  refine x4x rfl rfl ?_
  refine x6x rfl rfl ?_
  refine x0x rfl ?_
  refine x4x rfl rfl ?_
  refine x4x rfl rfl ?_
  refine x4x rfl rfl ?_
  refine x6x rfl rfl ?_
  refine x0x rfl ?_
  refine x4x rfl rfl ?_
  refine x4x rfl rfl ?_
  refine x4x rfl rfl ?_
  refine x6x rfl rfl ?_
  refine x0x rfl ?_
  refine x4x rfl rfl ?_
  refine x4x rfl rfl ?_
  refine x4x rfl rfl ?_
  refine x6x rfl rfl ?_
  refine x0x rfl ?_
  refine x4x rfl rfl ?_
  refine x4x rfl rfl ?_
  refine x4x rfl rfl ?_
  refine x6x rfl rfl ?_
  refine x0x rfl ?_
  refine x4x rfl rfl ?_
  refine x4x rfl rfl ?_
  refine x4x rfl rfl ?_
  refine x6x rfl rfl ?_
  refine x2x rfl ?_
  refine y6y ⟨.inr rfl, ?_⟩
  refine z9z rfl ?_ rfl
  exact kF (fun h => hX h.1)
 try simp at hg5
 refine x1x rfl z5z rfl rfl y5y rfl rfl ?_
 refine y9y rfl rfl ?_
 refine x3x rfl y5y rfl rfl ?_
 refine y9y rfl rfl ?_
 refine z7z rfl rfl rfl (w3w ..) ?_
 refine z4z rfl rfl ?_
 refine x0x rfl ?_
 refine a0d rfl rfl (fun hg6 => ?_) (fun hg6 => ?_)
 rotate_left
 ·try simp at hg6
  have hX : ¬ r6r w := by unfold r6r; omega
  refine x4x rfl rfl ?_
  refine x4x rfl rfl ?_
  refine x6x rfl rfl ?_
  refine x0x rfl ?_
  refine x4x rfl rfl ?_
  refine x4x rfl rfl ?_
  refine x4x rfl rfl ?_
  refine x6x rfl rfl ?_
  refine x0x rfl ?_
  refine x4x rfl rfl ?_
  refine x4x rfl rfl ?_
  refine x4x rfl rfl ?_
  refine x6x rfl rfl ?_
  refine x0x rfl ?_
  refine x4x rfl rfl ?_
  refine x4x rfl rfl ?_
  refine x4x rfl rfl ?_
  refine x6x rfl rfl ?_
  refine x0x rfl ?_
  refine x4x rfl rfl ?_
  refine x4x rfl rfl ?_
  refine x4x rfl rfl ?_
  refine x6x rfl rfl ?_
  refine x2x rfl ?_
  refine y6y ⟨.inr rfl, ?_⟩
  refine z9z rfl ?_ rfl
  exact kF (fun h => hX h.1)
 try simp at hg6
 refine x1x rfl z5z rfl rfl y5y rfl rfl ?_
 refine y9y rfl rfl ?_
 refine x3x rfl y5y rfl rfl ?_
 refine y9y rfl rfl ?_
 refine z7z rfl rfl rfl (w3w ..) ?_
 refine z4z rfl rfl ?_
 refine x0x rfl ?_
 refine a0d rfl rfl (fun hg7 => ?_) (fun hg7 => ?_)
 rotate_left
 ·try simp at hg7
  have hX : ¬ r6r w := by unfold r6r; omega
  refine x4x rfl rfl ?_
  refine x4x rfl rfl ?_
  refine x6x rfl rfl ?_
  refine x0x rfl ?_
  refine x4x rfl rfl ?_
  refine x4x rfl rfl ?_
  refine x4x rfl rfl ?_
  refine x6x rfl rfl ?_
  refine x0x rfl ?_
  refine x4x rfl rfl ?_
  refine x4x rfl rfl ?_
  refine x4x rfl rfl ?_
  refine x6x rfl rfl ?_
  refine x0x rfl ?_
  refine x4x rfl rfl ?_
  refine x4x rfl rfl ?_
  refine x4x rfl rfl ?_
  refine x6x rfl rfl ?_
  refine x2x rfl ?_
  refine y6y ⟨.inr rfl, ?_⟩
  refine z9z rfl ?_ rfl
  exact kF (fun h => hX h.1)
 try simp at hg7
 have hN : r6r w := by unfold r6r; omega
 refine x1x rfl z5z rfl rfl u1u rfl rfl ?_
 refine y9y rfl rfl ?_
 refine x3x rfl u1u rfl rfl ?_
 refine y9y rfl rfl ?_
 refine z7z rfl rfl rfl (a4v ..) ?_
 refine z4z rfl rfl ?_
 refine x0x rfl ?_
 refine a0d rfl rfl (fun hg8 => ?_) (fun hg8 => ?_)
 rotate_left
 ·try simp at hg8
  have hX1 : ¬ a3z w.incs := by exact hg8
  refine x4x rfl rfl ?_
  refine x4x rfl rfl ?_
  refine x6x rfl rfl ?_
  refine x0x rfl ?_
  refine x4x rfl rfl ?_
  refine x4x rfl rfl ?_
  refine x4x rfl rfl ?_
  refine x6x rfl rfl ?_
  refine x0x rfl ?_
  refine x4x rfl rfl ?_
  refine x4x rfl rfl ?_
  refine x4x rfl rfl ?_
  refine x6x rfl rfl ?_
  refine x2x rfl ?_
  refine y6y ⟨.inr rfl, ?_⟩
  refine z9z rfl ?_ rfl
  exact kF (fun h => hX1 h.2.1)
 try simp at hg8
 have hI : a3z w.incs := by exact hg8
 refine x1x rfl z5z rfl rfl u1u rfl rfl ?_
 refine y9y rfl rfl ?_
 refine x3x rfl u1u rfl rfl ?_
 refine y9y rfl rfl ?_
 refine z7z rfl rfl rfl (a4v ..) ?_
 refine z4z rfl rfl ?_
 refine x0x rfl ?_
 refine a0d rfl rfl (fun hg9 => ?_) (fun hg9 => ?_)
 rotate_left
 ·try simp at hg9
  have hX2 : ¬ a3z w.versions := by exact hg9
  refine x4x rfl rfl ?_
  refine x4x rfl rfl ?_
  refine x6x rfl rfl ?_
  refine x0x rfl ?_
  refine x4x rfl rfl ?_
  refine x4x rfl rfl ?_
  refine x4x rfl rfl ?_
  refine x6x rfl rfl ?_
  refine x2x rfl ?_
  refine y6y ⟨.inr rfl, ?_⟩
  refine z9z rfl ?_ rfl
  exact kF (fun h => hX2 h.2.2.1)
 try simp at hg9
 have hV : a3z w.versions := by exact hg9
 refine x1x rfl z5z rfl rfl w2w rfl rfl ?_
 refine y9y rfl rfl ?_
 refine x3x rfl w2w rfl rfl ?_
 refine y9y rfl rfl ?_
 refine z7z rfl rfl rfl (b0y ..) ?_
 refine z4z rfl rfl ?_
 refine x0x rfl ?_
 refine a0d rfl rfl (fun hg10 => ?_) (fun hg10 => ?_)
 rotate_left
 ·try simp at hg10
  have hX3 : ¬ a6m okE a3m w.events 100 = true := by simpa using hg10
  refine x4x rfl rfl ?_
  refine x4x rfl rfl ?_
  refine x6x rfl rfl ?_
  refine x2x rfl ?_
  refine y6y ⟨.inr rfl, ?_⟩
  refine z9z rfl ?_ rfl
  exact kF (fun h => hX3 h.2.2.2.1)
 try simp at hg10
 have hE : a6m okE a3m w.events 100 = true := by exact hg10
 refine x1x rfl z5z rfl rfl w5w rfl rfl ?_
 refine y9y rfl rfl ?_
 refine x3x rfl w5w rfl rfl ?_
 refine y9y rfl rfl ?_
 refine z7z rfl rfl rfl (b3p ..) ?_
 refine z4z rfl rfl ?_
 refine x2x rfl ?_
 refine y6y ⟨.inr rfl, ?_⟩
 refine z9z rfl ?_ rfl
 exact congrArg (fun b : Bool => [AV.pv (.bool b)]) (Bool.eq_iff_iff.2 ⟨fun h => decide_eq_true ⟨hN, hI, hV, hE, h⟩, fun h => (of_decide_eq_true h).2.2.2.2⟩)
theorem a2q (c : Bool) (w : Wo) : a2g Try.prog 10 [.agg (a5s c w)] (v5v true (a3u w)) := by
 refine u9u x9x (fn := Try.f10) (by kernel_rfl) (by kernel_rfl) rfl (outs := [v5v true (a3u w)]) (by rfl) (u3u rfl) 4 ?_
 refine x7x x9x (by rfl) ?_
 refine r5r (id := 0) rfl rfl rfl ?_
 refine x2x rfl ?_
 refine x8x fun K1 hK1 => ?_
 refine x7x x9x (by rfl) ?_
 refine z3z rfl z5z rfl rfl rfl ?_
 refine z7z rfl rfl rfl (a2k ..) ?_
 refine s6s rfl ?_
 refine y1y rfl (fun hc2 => ?_) (fun hc2 => ?_)
 ·try simp at hc2
  have hX : ¬ s9s w := by simpa using hc2
  refine x7x x9x (by rfl) ?_
  refine x2x rfl ?_
  refine y6y ⟨.inr rfl, ?_⟩
  clear hK1 K1
  (rw [a8m hX]; exact ⟨_, _, rfl, .le rfl .nil .nil⟩)
 try simp at hc2
 have hW : s9s w := by simpa using hc2
 have k1 := a2v hW.2.1
 have k2 := a2v hW.2.2.1
 have k3 := (a0n hW.2.2.2.1).1
 have k4 := (a0n hW.2.2.2.2).1
 have b1 := p9p (a0q hW)
 have b0 : (q2q w).length = 7 := rfl
 have b2 : (w4w (w.incs.length : Int)).length ≤ 2 := r4r ⟨by omega, by omega⟩
 have b3 : (w4w (w.versions.length : Int)).length ≤ 2 := r4r ⟨by omega, by omega⟩
 have b4 : (w4w (w.events.length : Int)).length ≤ 2 := r4r ⟨by omega, by omega⟩
 have b5 : (w4w (w.outs.length : Int)).length ≤ 2 := r4r ⟨by omega, by omega⟩
 have b6 := p9p (a0l hW.2.1)
 have b7 := p9p (a0l hW.2.2.1)
 have b8 := a2d (a0f hW)
 have b9 := a2e (a0g hW)
 refine y8y ?_
 refine hK1 _ _ ?_
 clear hK1 K1
 refine x7x x9x (by rfl) ?_
 refine q0q (id := 1) b4n c8e rfl ?_
 refine b2v 1 0 3 5 1 rfl rfl rfl rfl rfl ?_
 refine x7x x9x (by rfl) ?_
 refine x1x rfl z5z rfl rfl y5y rfl rfl ?_
 refine x3x rfl y5y rfl rfl ?_
 refine x1x rfl z5z rfl rfl y5y rfl rfl ?_
 refine x3x rfl y5y rfl rfl ?_
 refine x1x rfl z5z rfl rfl y5y rfl rfl ?_
 refine x3x rfl y5y rfl rfl ?_
 refine x1x rfl z5z rfl rfl y5y rfl rfl ?_
 refine x3x rfl y5y rfl rfl ?_
 refine x1x rfl z5z rfl rfl y5y rfl rfl ?_
 refine x3x rfl y5y rfl rfl ?_
 refine x1x rfl z5z rfl rfl y5y rfl rfl ?_
 refine x3x rfl y5y rfl rfl ?_
 refine x1x rfl z5z rfl rfl y5y rfl rfl ?_
 refine x3x rfl y5y rfl rfl ?_
 refine u0u (id := 2) u1u rfl y5y rfl rfl rfl rfl (.val rfl rfl (.val rfl rfl (.val rfl rfl (.val rfl rfl (.val rfl rfl (.val rfl rfl (.val rfl rfl .nil))))))) rfl (u3u rfl) (u3u rfl) (u3u rfl) rfl rfl ?_
 refine b2w [1, 3] [_, _] (a0b false ([]) (q2q w) (a0q hW) (by omega) (by (simp; done))) rfl rfl rfl (LendM.ptr (LendM.base (b3k (l := q2q w) rfl .nil))) rfl (by decide) rfl rfl (by repeat (first | exact InH.nil | refine InH.cons rfl ?_)) (by (simp only [pI, y2y, y3y, v4v, gl, nx, v2v, Nat.beq]; rfl)) (by (simp only [pI, y2y, y3y, v4v, gl, nx, v2v, Nat.beq]; rfl)) rfl rfl (c0m rfl) (by exact .box (.cons (.ref _ _) rfl .nil) (.row (StrC.map b8y _) .nil)) (by exact .box (.cons (.ref _ _) rfl .nil) (.row (StrC.map b8y _) .nil)) ?_
 rw [show ([] : List Nat) ++ u6u (q2q w) = u6u (q2q w) from rfl]
 refine x7x x9x (by rfl) ?_
 refine x1x rfl z5z rfl rfl u1u rfl rfl ?_
 refine x3x rfl u1u rfl rfl ?_
 refine v3v rfl u1u rfl ?_
 refine z1z [1, 3] [_, _] (a0h (u6u (q2q w)) (w.incs.length : Int) ⟨by omega, by omega⟩ (by omega)) rfl rfl rfl (by decide) rfl rfl (by repeat (first | exact InH.nil | refine InH.cons rfl ?_)) (by (simp only [pI, y2y, y3y, v4v, gl, nx, v2v, Nat.beq]; rfl)) (by (simp only [pI, y2y, y3y, v4v, gl, nx, v2v, Nat.beq]; rfl)) ?_
 refine x7x x9x (by rfl) ?_
 refine x1x rfl z5z rfl rfl u1u rfl rfl ?_
 refine x3x rfl u1u rfl rfl ?_
 refine z1z [1, 3] [_, _] (a0b c (u6u (q2q w) ++ w4w (w.incs.length : Int)) w.incs (a0l hW.2.1) (by omega) (by (simp only [List.length_append, List.length_take]; omega))) rfl rfl rfl (by decide) rfl rfl (by repeat (first | exact InH.nil | refine InH.cons rfl ?_)) (by (simp only [pI, y2y, y3y, v4v, gl, nx, v2v, Nat.beq]; rfl)) (by (simp only [pI, y2y, y3y, v4v, gl, nx, v2v, Nat.beq]; rfl)) ?_
 refine x7x x9x (by rfl) ?_
 refine x1x rfl z5z rfl rfl u1u rfl rfl ?_
 refine x3x rfl u1u rfl rfl ?_
 refine v3v rfl u1u rfl ?_
 refine z1z [1, 3] [_, _] (a0h (u6u (q2q w) ++ w4w (w.incs.length : Int) ++ u6u w.incs) (w.versions.length : Int) ⟨by omega, by omega⟩ (by (simp only [List.length_append, List.length_take]; omega))) rfl rfl rfl (by decide) rfl rfl (by repeat (first | exact InH.nil | refine InH.cons rfl ?_)) (by (simp only [pI, y2y, y3y, v4v, gl, nx, v2v, Nat.beq]; rfl)) (by (simp only [pI, y2y, y3y, v4v, gl, nx, v2v, Nat.beq]; rfl)) ?_
 refine x7x x9x (by rfl) ?_
 refine x1x rfl z5z rfl rfl u1u rfl rfl ?_
 refine x3x rfl u1u rfl rfl ?_
 refine z1z [1, 3] [_, _] (a0b c (u6u (q2q w) ++ w4w (w.incs.length : Int) ++ u6u w.incs ++ w4w (w.versions.length : Int)) w.versions (a0l hW.2.2.1) (by omega) (by (simp only [List.length_append, List.length_take]; omega))) rfl rfl rfl (by decide) rfl rfl (by repeat (first | exact InH.nil | refine InH.cons rfl ?_)) (by (simp only [pI, y2y, y3y, v4v, gl, nx, v2v, Nat.beq]; rfl)) (by (simp only [pI, y2y, y3y, v4v, gl, nx, v2v, Nat.beq]; rfl)) ?_
 refine x7x x9x (by rfl) ?_
 refine x1x rfl z5z rfl rfl w2w rfl rfl ?_
 refine x3x rfl w2w rfl rfl ?_
 refine z1z [1, 3] [_, _] (a5u c (u6u (q2q w) ++ w4w (w.incs.length : Int) ++ u6u w.incs ++ w4w (w.versions.length : Int) ++ u6u w.versions) w.events (a0f hW) (by omega) (by (simp only [List.length_append, List.length_take]; omega))) rfl rfl rfl (by decide) rfl rfl (by repeat (first | exact InH.nil | refine InH.cons rfl ?_)) (by (simp only [pI, y2y, y3y, v4v, gl, nx, v2v, Nat.beq]; rfl)) (by (simp only [pI, y2y, y3y, v4v, gl, nx, v2v, Nat.beq]; rfl)) ?_
 refine x7x x9x (by rfl) ?_
 refine x1x rfl z5z rfl rfl w5w rfl rfl ?_
 refine x3x rfl w5w rfl rfl ?_
 refine z1z [1, 3] [_, _] (a7w c (u6u (q2q w) ++ w4w (w.incs.length : Int) ++ u6u w.incs ++ w4w (w.versions.length : Int) ++ u6u w.versions ++ w4w (w.events.length : Int) ++ r2r w.events) w.outs (a0g hW) (by omega) (by (simp only [List.length_append, List.length_take]; omega))) rfl rfl rfl (by decide) rfl rfl (by repeat (first | exact InH.nil | refine InH.cons rfl ?_)) (by (simp only [pI, y2y, y3y, v4v, gl, nx, v2v, Nat.beq]; rfl)) (by (simp only [pI, y2y, y3y, v4v, gl, nx, v2v, Nat.beq]; rfl)) ?_
 refine x7x x9x (by rfl) ?_
 refine x3x rfl b4n rfl rfl ?_
 refine x2x rfl ?_
 refine y6y ⟨.inr rfl, ?_⟩
 (rw [a8l hW]; exact ⟨_, _, rfl, .ref rfl (Le.ow_map (f := a1o) _ (fun _ => rfl) (fun _ => rfl)) .nil⟩)
end
section
theorem w9w (c : Bool) (bs : List Nat) (p f : Nat) : Meth Try.prog 61 1 [0] [.ptr 0 0 0, .pv (.int .i64 (f : Int))] [(0, (0, .box 50 [v5v c bs, pI ((p : Nat) : Int), .pv .nilIface]))] (.tup []) [(0, (0, .box 50 [v5v c bs, pI ((p : Nat) : Int), .pv (a7y (some (p, f)))]))] := by
 refine p6p x9x (fn := Try.f61) (by kernel_rfl) (by kernel_rfl) rfl (O0 := []) 1 0 (u3u rfl) (by rfl) (by repeat (first | exact BndH.nil | refine BndH.box rfl ?_)) (by repeat (first | exact BndH.nil | refine BndH.box rfl ?_)) (by rfl) fun γ => ?_
 show Ex Try.prog _ _ [(0, .ptr 0 (γ 0) 0), (1, .pv (.int .i64 (f : Int)))] [(0, ((γ 0), .box 50 [v5v c bs, pI ((p : Nat) : Int), .pv .nilIface]))] _
 refine x7x x9x (by rfl) ?_
 refine x0x rfl ?_
 refine u7u rfl rfl ?_
 refine x1x rfl s2s rfl rfl a1v rfl rfl ?_
 refine x3x rfl a1v rfl rfl ?_
 refine a8g rfl rfl (by intro a c h h'; cases h; cases h'; rfl) (.inl rfl) (a3t Try.underlying48 _) ?_
 refine y1y rfl (fun hc1 => ?_) (fun hc1 => ?_)
 rotate_left
 ·simp at hc1
 try simp at hc1
 refine y0y x9x (by rfl) ?_
 refine x0x rfl ?_
 refine x0x rfl ?_
 refine u7u rfl rfl ?_
 refine x1x rfl s2s rfl rfl y5y rfl rfl ?_
 refine x3x rfl y5y rfl rfl ?_
 refine x0x rfl ?_
 refine c1i x9x rfl c4r rfl ?_
 refine r3r c3p rfl c6s rfl (by simp only [pI, y5y, T3, a1v, T48, a0v, p2p, AV.okc, AV.one, Value.oneCell', List.map_cons, List.map_nil, List.getElem?_cons_zero, List.getElem?_cons_succ, List.take_succ_cons, List.take_zero, List.drop_succ_cons, List.drop_zero, List.cons_append, List.nil_append, List.length_cons, List.length_nil, if_true, and_self, Nat.reduceAdd, Nat.reduceLeDiff]; rfl) ?_
 refine c6b x9x [.int .i64 (p : Int), .iface 58 (.int .i64 (f : Int))] rfl c3p rfl ?_
 refine u7u rfl rfl ?_
 refine x1x rfl s2s rfl rfl a1v rfl rfl ?_
 refine z8z rfl rfl a1v rfl rfl rfl rfl rfl (by simp only [a2b]; rfl) ?_
 exact ⟨.inl rfl, [γ 0], rfl, rfl, HE.box rfl rfl HE.nil⟩
theorem a4b (c : Bool) (bs : List Nat) (p a b f : Nat) : Meth Try.prog 61 1 [0] [.ptr 0 0 0, .pv (.int .i64 (f : Int))] [(0, (0, .box 50 [v5v c bs, pI ((p : Nat) : Int), .pv (a7y (some (a, b)))]))] (.tup []) [(0, (0, .box 50 [v5v c bs, pI ((p : Nat) : Int), .pv (a7y (some (a, b)))]))] := by
 refine p6p x9x (fn := Try.f61) (by kernel_rfl) (by kernel_rfl) rfl (O0 := []) 1 0 (u3u rfl) (by rfl) (by repeat (first | exact BndH.nil | refine BndH.box rfl ?_)) (by repeat (first | exact BndH.nil | refine BndH.box rfl ?_)) (by rfl) fun γ => ?_
 show Ex Try.prog _ _ [(0, .ptr 0 (γ 0) 0), (1, .pv (.int .i64 (f : Int)))] [(0, ((γ 0), .box 50 [v5v c bs, pI ((p : Nat) : Int), .pv (a7y (some (a, b)))]))] _
 refine x7x x9x (by rfl) ?_
 refine x0x rfl ?_
 refine u7u rfl rfl ?_
 refine x1x rfl s2s rfl rfl a1v rfl rfl ?_
 refine x3x rfl a1v rfl rfl ?_
 refine a8g rfl rfl (by intro a c h h'; cases h; cases h'; rfl) (.inl rfl) (b7r Try.underlying48 _ _ _ _) ?_
 refine y1y rfl (fun hc1 => ?_) (fun hc1 => ?_)
 ·simp at hc1
 try simp at hc1
 refine y8y ?_
 exact ⟨.inl rfl, [γ 0], rfl, rfl, HE.box rfl rfl HE.nil⟩
theorem a5v (c : Bool) (bs : List Nat) (u : Up) (f : Nat) : Meth Try.prog 61 1 [0] [.ptr 0 0 0, .pv (.int .i64 (f : Int))] [(0, (0, .box 50 [v5v c bs, pI ((u.at' : Nat) : Int), .pv (a7y u.err)]))] (.tup []) [(0, (0, .box 50 [v5v c bs, pI (((b1p u f).at' : Nat) : Int), .pv (a7y (b1p u f).err)]))] := by
 obtain ⟨p, e⟩ := u
 cases e with
 | none => rw [show b1p ⟨p, none⟩ f = ⟨p, some (p, f)⟩ from if_pos rfl]; exact w9w c bs p f
 | some q => obtain ⟨a, b⟩ := q; rw [show b1p ⟨p, some (a, b)⟩ f = ⟨p, some (a, b)⟩ from if_neg (by simp)]; exact a4b c bs p a b f
theorem a4w (c : Bool) (bs : List Nat) (p a b : Nat) : Meth Try.prog 22 1 [0] [.ptr 0 0 0] [(0, (0, .box 50 [v5v c bs, pI ((p : Nat) : Int), .pv (a7y (some (a, b)))]))] (.pv (.int .i64 0)) [(0, (0, .box 50 [v5v c bs, pI ((p : Nat) : Int), .pv (a7y (some (a, b)))]))] := by
 refine p6p x9x (fn := Try.f22) (by kernel_rfl) (by kernel_rfl) rfl (O0 := [.pv (.int .i64 0)]) 1 0 (u3u rfl) (by rfl) (by repeat (first | exact BndH.nil | refine BndH.box rfl ?_)) (by repeat (first | exact BndH.nil | refine BndH.box rfl ?_)) (by rfl) fun γ => ?_
 show Ex Try.prog _ _ [(0, .ptr 0 (γ 0) 0)] [(0, ((γ 0), .box 50 [v5v c bs, pI ((p : Nat) : Int), .pv (a7y (some (a, b)))]))] _
 refine x7x x9x (by rfl) ?_
 refine x2x rfl ?_
 refine x7x x9x (by rfl) ?_
 refine x2x rfl ?_
 refine x8x fun K1 hK1 => ?_
 refine x7x x9x (by rfl) ?_
 refine x2x rfl ?_
 refine y7y ?_
 refine a3i 1 ?_
 refine p0p fun K2 hK2 => ?_
 refine x8x fun K3 hK3 => ?_
 refine x7x x9x (by rfl) ?_
 refine x0x rfl ?_
 refine u7u rfl rfl ?_
 refine x1x rfl s2s rfl rfl a1v rfl rfl ?_
 refine x3x rfl a1v rfl rfl ?_
 refine a8g rfl rfl (by intro a c h h'; cases h; cases h'; rfl) (.inl rfl) (b7r Try.underlying48 _ _ _ _) ?_
 refine y1y rfl (fun hc4 => ?_) (fun hc4 => ?_)
 ·simp at hc4
 try simp at hc4
 refine v7v ?_
 refine hK1 _ _ ?_
 clear hK3 K3 hK2 K2 hK1 K1
 refine x7x x9x (by rfl) ?_
 refine x2x rfl ?_
 refine y6y ?_
 exact ⟨.inr rfl, [γ 0], rfl, rfl, HE.box rfl rfl HE.nil⟩
set_option maxRecDepth 20000 in
theorem a4x (c : Bool) (bs : List Nat) (hbs : ∀ b ∈ bs, b < 256) (hbl : bs.length ≤ 100000000) (p : Nat) (hp : p ≤ bs.length) : Meth Try.prog 22 1 [0] [.ptr 0 0 0] [(0, (0, .box 50 [v5v c bs, pI ((p : Nat) : Int), .pv .nilIface]))] (.pv (.int .i64 (unF bs 5 0 1 p).1)) [(0, (0, .box 50 [v5v c bs, pI (((unF bs 5 0 1 p).2.at' : Nat) : Int), .pv (a7y (unF bs 5 0 1 p).2.err)]))] := by
 refine p6p x9x (fn := Try.f22) (by kernel_rfl) (by kernel_rfl) rfl (O0 := [.pv (.int .i64 (unF bs 5 0 1 p).1)]) 1 0 (u3u rfl) (by rfl) (by repeat (first | exact BndH.nil | refine BndH.box rfl ?_)) (by repeat (first | exact BndH.nil | refine BndH.box rfl ?_)) (by rfl) fun γ => ?_
 show Ex Try.prog _ _ [(0, .ptr 0 (γ 0) 0)] [(0, ((γ 0), .box 50 [v5v c bs, pI ((p : Nat) : Int), .pv .nilIface]))] _
 obtain ⟨F, hF⟩ : ∃ F, unF bs 5 0 1 p = F := ⟨_, rfl⟩
 rw [hF]
 refine x7x x9x (by rfl) ?_
 refine x2x rfl ?_
 refine x7x x9x (by rfl) ?_
 refine x2x rfl ?_
 refine x8x fun K1 hK1 => ?_
 refine x7x x9x (by rfl) ?_
 refine x2x rfl ?_
 refine y7y ?_
 refine a3i 6 ?_
 refine p0p fun K2 hK2 => ?_
 refine x8x fun K3 hK3 => ?_
 refine x7x x9x (by rfl) ?_
 refine x0x rfl ?_
 refine u7u rfl rfl ?_
 refine x1x rfl s2s rfl rfl a1v rfl rfl ?_
 refine x3x rfl a1v rfl rfl ?_
 refine a8g rfl rfl (by intro a c h h'; cases h; cases h'; rfl) (.inl rfl) (a3t Try.underlying48 _) ?_
 refine y1y rfl (fun hc4 => ?_) (fun hc4 => ?_)
 rotate_left
 ·simp at hc4
 try simp at hc4
 refine y8y ?_
 refine hK3 _ _ ?_
 clear hK3 K3
 refine x8x fun K5 hK5 => ?_
 refine y7y ?_
 refine x8x fun K6 hK6 => ?_
 refine y7y ?_
 refine q5q x9x s7s (by rfl) ?_
 refine x0x rfl ?_
 refine u7u rfl rfl ?_
 refine x1x rfl s2s rfl rfl y5y rfl rfl ?_
 refine x3x rfl y5y rfl rfl ?_
 refine x0x rfl ?_
 refine u7u rfl rfl ?_
 refine x1x rfl s2s rfl rfl v6v rfl rfl ?_
 refine x3x rfl v6v rfl rfl ?_
 refine v3v rfl v6v rfl ?_
 refine z0z rfl rfl rfl ?_
 refine x2x rfl ?_
 refine ⟨by kernel_rfl, ?_⟩
 refine y1y rfl (fun hc7 => ?_) (fun hc7 => ?_)
 ·try simp at hc7
  rw [a5l (by omega)] at hF
  subst hF
  refine x7x x9x (by rfl) ?_
  refine x0x rfl ?_
  refine z1z [0] [_] (w9w c bs (p) 1) rfl rfl rfl (by decide) rfl rfl (by repeat (first | exact InH.nil | refine InH.cons rfl ?_)) (by (simp only [pI, y2y, y3y, v4v, gl, nx, v2v, Nat.beq]; rfl)) (by (simp only [pI, y2y, y3y, v4v, gl, nx, v2v, Nat.beq]; rfl)) ?_
  refine x7x x9x (by rfl) ?_
  refine x2x rfl ?_
  refine y6y ?_
  exact ⟨.inr rfl, [γ 0], rfl, rfl, HE.box rfl rfl HE.nil⟩
 try simp at hc7
 refine x7x x9x (by rfl) ?_
 refine x0x rfl ?_
 refine z0z rfl rfl rfl ?_
 refine x2x rfl ?_
 refine y1y rfl (fun hc8 => ?_) (fun hc8 => ?_)
 ·simp at hc8
 try simp at hc8
 refine y8y ?_
 refine hK6 _ _ ?_
 clear hK6 K6
 refine q5q x9x s7s (by rfl) ?_
 refine x0x rfl ?_
 refine u7u rfl rfl ?_
 refine x1x rfl s2s rfl rfl v6v rfl rfl ?_
 refine x3x rfl v6v rfl rfl ?_
 refine x0x rfl ?_
 refine u7u rfl rfl ?_
 refine x1x rfl s2s rfl rfl y5y rfl rfl ?_
 refine x3x rfl y5y rfl rfl ?_
 obtain ⟨b0, hb0⟩ : ∃ b, bs[p]? = some b := s8s (by omega)
 have hl0 := hbs b0 (List.mem_of_getElem? hb0)
 refine v0v rfl rfl v6v rfl a0o rfl hb0 ?_
 refine z6z rfl a0o rfl ?_
 refine x2x rfl ?_
 refine ⟨by kernel_rfl, ?_⟩
 refine x7x x9x (by rfl) ?_
 refine x0x rfl ?_
 refine u7u rfl rfl ?_
 refine x1x rfl s2s rfl rfl y5y rfl rfl ?_
 refine x3x rfl y5y rfl rfl ?_
 refine r0r (b := 1) rfl rfl (by omega) ?_
 refine u7u rfl rfl ?_
 refine x1x rfl s2s rfl rfl y5y rfl rfl ?_
 refine z8z rfl rfl y5y rfl rfl rfl rfl rfl (by simp only [a2b]; rfl) ?_
 refine x7x x9x (by rfl) ?_
 refine x0x rfl ?_
 refine x0x rfl ?_
 refine u5u (.int .u8 ((b0 % 128 : Nat) : Int)) rfl rfl rfl (b1d (by omega)) ?_
 refine s5s (((b0 % 128 : Nat) : Int)) rfl a0o a8f rfl rfl (b3v (by omega) (by omega)) ?_
 refine x0x rfl ?_
 refine b5f (.int .u64 ((b0 % 128 * (1) : Nat) : Int)) rfl rfl (by omega) (c7p 0 (by decide) (by omega)) ?_
 refine u5u (.int .u64 ((0 + b0 % 128 * (1) : Nat) : Int)) rfl rfl rfl (orM (v := 0) 0 (by decide) (by omega) (by omega)) ?_
 refine x2x rfl ?_
 refine x7x x9x (by rfl) ?_
 refine x0x rfl ?_
 refine z0z rfl rfl rfl ?_
 refine y1y rfl (fun hc9 => ?_) (fun hc9 => ?_)
 ·try simp at hc9
  rw [b5k hb0 (by omega)] at hF
  subst hF
  refine x7x x9x (by rfl) ?_
  refine x0x rfl ?_
  refine s5s (((0 + b0 % 128 * (1) : Nat) : Int)) rfl a8f y5y rfl rfl (w0w (by omega) (by omega)) ?_
  refine u5u (.int .i64 (((0 + b0 % 128 * (1) : Nat) : Int) - 1)) rfl rfl rfl (q3q rfl (by omega) (by omega) (by omega)) ?_
  refine x2x rfl ?_
  refine y6y ?_
  exact ⟨.inr rfl, [γ 0], rfl, rfl, HE.box rfl rfl HE.nil⟩
 try simp at hc9
 rw [b5l hb0 (by omega)] at hF
 refine y8y ?_
 refine hK5 _ _ ?_
 clear hK5 K5
 refine y0y x9x (by rfl) ?_
 refine x0x rfl ?_
 refine u5u (.int .i64 7) rfl rfl rfl (q3q rfl (by omega) (by omega) (by omega)) ?_
 refine x2x rfl ?_
 refine hK2 _ _ ?_
 clear hK2 K2
 refine p0p fun K10 hK10 => ?_
 refine x8x fun K11 hK11 => ?_
 refine x7x x9x (by rfl) ?_
 refine x0x rfl ?_
 refine u7u rfl rfl ?_
 refine x1x rfl s2s rfl rfl a1v rfl rfl ?_
 refine x3x rfl a1v rfl rfl ?_
 refine a8g rfl rfl (by intro a c h h'; cases h; cases h'; rfl) (.inl rfl) (a3t Try.underlying48 _) ?_
 refine y1y rfl (fun hc12 => ?_) (fun hc12 => ?_)
 rotate_left
 ·simp at hc12
 try simp at hc12
 refine y8y ?_
 refine hK11 _ _ ?_
 clear hK11 K11
 refine x8x fun K13 hK13 => ?_
 refine y7y ?_
 refine x8x fun K14 hK14 => ?_
 refine y7y ?_
 refine q5q x9x s7s (by rfl) ?_
 refine x0x rfl ?_
 refine u7u rfl rfl ?_
 refine x1x rfl s2s rfl rfl y5y rfl rfl ?_
 refine x3x rfl y5y rfl rfl ?_
 refine x0x rfl ?_
 refine u7u rfl rfl ?_
 refine x1x rfl s2s rfl rfl v6v rfl rfl ?_
 refine x3x rfl v6v rfl rfl ?_
 refine v3v rfl v6v rfl ?_
 refine z0z rfl rfl rfl ?_
 refine x2x rfl ?_
 refine ⟨by kernel_rfl, ?_⟩
 refine y1y rfl (fun hc15 => ?_) (fun hc15 => ?_)
 ·try simp at hc15
  rw [a5l (by omega)] at hF
  subst hF
  refine x7x x9x (by rfl) ?_
  refine x0x rfl ?_
  refine z1z [0] [_] (w9w c bs (p + 1) 1) rfl rfl rfl (by decide) rfl rfl (by repeat (first | exact InH.nil | refine InH.cons rfl ?_)) (by (simp only [pI, y2y, y3y, v4v, gl, nx, v2v, Nat.beq]; rfl)) (by (simp only [pI, y2y, y3y, v4v, gl, nx, v2v, Nat.beq]; rfl)) ?_
  refine x7x x9x (by rfl) ?_
  refine x2x rfl ?_
  refine y6y ?_
  exact ⟨.inr rfl, [γ 0], rfl, rfl, HE.box rfl rfl HE.nil⟩
 try simp at hc15
 refine x7x x9x (by rfl) ?_
 refine x0x rfl ?_
 refine z0z rfl rfl rfl ?_
 refine x2x rfl ?_
 refine y1y rfl (fun hc16 => ?_) (fun hc16 => ?_)
 ·simp at hc16
 try simp at hc16
 refine y8y ?_
 refine hK14 _ _ ?_
 clear hK14 K14
 refine q5q x9x s7s (by rfl) ?_
 refine x0x rfl ?_
 refine u7u rfl rfl ?_
 refine x1x rfl s2s rfl rfl v6v rfl rfl ?_
 refine x3x rfl v6v rfl rfl ?_
 refine x0x rfl ?_
 refine u7u rfl rfl ?_
 refine x1x rfl s2s rfl rfl y5y rfl rfl ?_
 refine x3x rfl y5y rfl rfl ?_
 obtain ⟨b1, hb1⟩ : ∃ b, bs[p + 1]? = some b := s8s (by omega)
 have hl1 := hbs b1 (List.mem_of_getElem? hb1)
 refine v0v rfl rfl v6v rfl a0o rfl hb1 ?_
 refine z6z rfl a0o rfl ?_
 refine x2x rfl ?_
 refine ⟨by kernel_rfl, ?_⟩
 refine x7x x9x (by rfl) ?_
 refine x0x rfl ?_
 refine u7u rfl rfl ?_
 refine x1x rfl s2s rfl rfl y5y rfl rfl ?_
 refine x3x rfl y5y rfl rfl ?_
 refine r0r (b := 1) rfl rfl (by omega) ?_
 refine u7u rfl rfl ?_
 refine x1x rfl s2s rfl rfl y5y rfl rfl ?_
 refine z8z rfl rfl y5y rfl rfl rfl rfl rfl (by simp only [a2b]; rfl) ?_
 refine x7x x9x (by rfl) ?_
 refine x0x rfl ?_
 refine x0x rfl ?_
 refine u5u (.int .u8 ((b1 % 128 : Nat) : Int)) rfl rfl rfl (b1d (by omega)) ?_
 refine s5s (((b1 % 128 : Nat) : Int)) rfl a0o a8f rfl rfl (b3v (by omega) (by omega)) ?_
 refine x0x rfl ?_
 refine b5f (.int .u64 ((b1 % 128 * (1 * 128) : Nat) : Int)) rfl rfl (by omega) (c7p 7 (by decide) (by omega)) ?_
 refine u5u (.int .u64 ((0 + b0 % 128 * (1) + b1 % 128 * (1 * 128) : Nat) : Int)) rfl rfl rfl (orM (v := 0 + b0 % 128 * (1)) 7 (by decide) (by omega) (by omega)) ?_
 refine x2x rfl ?_
 refine x7x x9x (by rfl) ?_
 refine x0x rfl ?_
 refine z0z rfl rfl rfl ?_
 refine y1y rfl (fun hc17 => ?_) (fun hc17 => ?_)
 ·try simp at hc17
  rw [b5k hb1 (by omega)] at hF
  subst hF
  refine x7x x9x (by rfl) ?_
  refine x0x rfl ?_
  refine s5s (((0 + b0 % 128 * (1) + b1 % 128 * (1 * 128) : Nat) : Int)) rfl a8f y5y rfl rfl (w0w (by omega) (by omega)) ?_
  refine u5u (.int .i64 (((0 + b0 % 128 * (1) + b1 % 128 * (1 * 128) : Nat) : Int) - 1)) rfl rfl rfl (q3q rfl (by omega) (by omega) (by omega)) ?_
  refine x2x rfl ?_
  refine y6y ?_
  exact ⟨.inr rfl, [γ 0], rfl, rfl, HE.box rfl rfl HE.nil⟩
 try simp at hc17
 rw [b5l hb1 (by omega)] at hF
 refine y8y ?_
 refine hK13 _ _ ?_
 clear hK13 K13
 refine y0y x9x (by rfl) ?_
 refine x0x rfl ?_
 refine u5u (.int .i64 14) rfl rfl rfl (q3q rfl (by omega) (by omega) (by omega)) ?_
 refine x2x rfl ?_
 refine hK10 _ _ ?_
 clear hK10 K10
 refine p0p fun K18 hK18 => ?_
 refine x8x fun K19 hK19 => ?_
 refine x7x x9x (by rfl) ?_
 refine x0x rfl ?_
 refine u7u rfl rfl ?_
 refine x1x rfl s2s rfl rfl a1v rfl rfl ?_
 refine x3x rfl a1v rfl rfl ?_
 refine a8g rfl rfl (by intro a c h h'; cases h; cases h'; rfl) (.inl rfl) (a3t Try.underlying48 _) ?_
 refine y1y rfl (fun hc20 => ?_) (fun hc20 => ?_)
 rotate_left
 ·simp at hc20
 try simp at hc20
 refine y8y ?_
 refine hK19 _ _ ?_
 clear hK19 K19
 refine x8x fun K21 hK21 => ?_
 refine y7y ?_
 refine x8x fun K22 hK22 => ?_
 refine y7y ?_
 refine q5q x9x s7s (by rfl) ?_
 refine x0x rfl ?_
 refine u7u rfl rfl ?_
 refine x1x rfl s2s rfl rfl y5y rfl rfl ?_
 refine x3x rfl y5y rfl rfl ?_
 refine x0x rfl ?_
 refine u7u rfl rfl ?_
 refine x1x rfl s2s rfl rfl v6v rfl rfl ?_
 refine x3x rfl v6v rfl rfl ?_
 refine v3v rfl v6v rfl ?_
 refine z0z rfl rfl rfl ?_
 refine x2x rfl ?_
 refine ⟨by kernel_rfl, ?_⟩
 refine y1y rfl (fun hc23 => ?_) (fun hc23 => ?_)
 ·try simp at hc23
  rw [a5l (by omega)] at hF
  subst hF
  refine x7x x9x (by rfl) ?_
  refine x0x rfl ?_
  refine z1z [0] [_] (w9w c bs (p + 1 + 1) 1) rfl rfl rfl (by decide) rfl rfl (by repeat (first | exact InH.nil | refine InH.cons rfl ?_)) (by (simp only [pI, y2y, y3y, v4v, gl, nx, v2v, Nat.beq]; rfl)) (by (simp only [pI, y2y, y3y, v4v, gl, nx, v2v, Nat.beq]; rfl)) ?_
  refine x7x x9x (by rfl) ?_
  refine x2x rfl ?_
  refine y6y ?_
  exact ⟨.inr rfl, [γ 0], rfl, rfl, HE.box rfl rfl HE.nil⟩
 try simp at hc23
 refine x7x x9x (by rfl) ?_
 refine x0x rfl ?_
 refine z0z rfl rfl rfl ?_
 refine x2x rfl ?_
 refine y1y rfl (fun hc24 => ?_) (fun hc24 => ?_)
 ·simp at hc24
 try simp at hc24
 refine y8y ?_
 refine hK22 _ _ ?_
 clear hK22 K22
 refine q5q x9x s7s (by rfl) ?_
 refine x0x rfl ?_
 refine u7u rfl rfl ?_
 refine x1x rfl s2s rfl rfl v6v rfl rfl ?_
 refine x3x rfl v6v rfl rfl ?_
 refine x0x rfl ?_
 refine u7u rfl rfl ?_
 refine x1x rfl s2s rfl rfl y5y rfl rfl ?_
 refine x3x rfl y5y rfl rfl ?_
 obtain ⟨b2, hb2⟩ : ∃ b, bs[p + 1 + 1]? = some b := s8s (by omega)
 have hl2 := hbs b2 (List.mem_of_getElem? hb2)
 refine v0v rfl rfl v6v rfl a0o rfl hb2 ?_
 refine z6z rfl a0o rfl ?_
 refine x2x rfl ?_
 refine ⟨by kernel_rfl, ?_⟩
 refine x7x x9x (by rfl) ?_
 refine x0x rfl ?_
 refine u7u rfl rfl ?_
 refine x1x rfl s2s rfl rfl y5y rfl rfl ?_
 refine x3x rfl y5y rfl rfl ?_
 refine r0r (b := 1) rfl rfl (by omega) ?_
 refine u7u rfl rfl ?_
 refine x1x rfl s2s rfl rfl y5y rfl rfl ?_
 refine z8z rfl rfl y5y rfl rfl rfl rfl rfl (by simp only [a2b]; rfl) ?_
 refine x7x x9x (by rfl) ?_
 refine x0x rfl ?_
 refine x0x rfl ?_
 refine u5u (.int .u8 ((b2 % 128 : Nat) : Int)) rfl rfl rfl (b1d (by omega)) ?_
 refine s5s (((b2 % 128 : Nat) : Int)) rfl a0o a8f rfl rfl (b3v (by omega) (by omega)) ?_
 refine x0x rfl ?_
 refine b5f (.int .u64 ((b2 % 128 * (1 * 128 * 128) : Nat) : Int)) rfl rfl (by omega) (c7p 14 (by decide) (by omega)) ?_
 refine u5u (.int .u64 ((0 + b0 % 128 * (1) + b1 % 128 * (1 * 128) + b2 % 128 * (1 * 128 * 128) : Nat) : Int)) rfl rfl rfl (orM (v := 0 + b0 % 128 * (1) + b1 % 128 * (1 * 128)) 14 (by decide) (by omega) (by omega)) ?_
 refine x2x rfl ?_
 refine x7x x9x (by rfl) ?_
 refine x0x rfl ?_
 refine z0z rfl rfl rfl ?_
 refine y1y rfl (fun hc25 => ?_) (fun hc25 => ?_)
 ·try simp at hc25
  rw [b5k hb2 (by omega)] at hF
  subst hF
  refine x7x x9x (by rfl) ?_
  refine x0x rfl ?_
  refine s5s (((0 + b0 % 128 * (1) + b1 % 128 * (1 * 128) + b2 % 128 * (1 * 128 * 128) : Nat) : Int)) rfl a8f y5y rfl rfl (w0w (by omega) (by omega)) ?_
  refine u5u (.int .i64 (((0 + b0 % 128 * (1) + b1 % 128 * (1 * 128) + b2 % 128 * (1 * 128 * 128) : Nat) : Int) - 1)) rfl rfl rfl (q3q rfl (by omega) (by omega) (by omega)) ?_
  refine x2x rfl ?_
  refine y6y ?_
  exact ⟨.inr rfl, [γ 0], rfl, rfl, HE.box rfl rfl HE.nil⟩
 try simp at hc25
 rw [b5l hb2 (by omega)] at hF
 refine y8y ?_
 refine hK21 _ _ ?_
 clear hK21 K21
 refine y0y x9x (by rfl) ?_
 refine x0x rfl ?_
 refine u5u (.int .i64 21) rfl rfl rfl (q3q rfl (by omega) (by omega) (by omega)) ?_
 refine x2x rfl ?_
 refine hK18 _ _ ?_
 clear hK18 K18
 refine p0p fun K26 hK26 => ?_
 refine x8x fun K27 hK27 => ?_
 refine x7x x9x (by rfl) ?_
 refine x0x rfl ?_
 refine u7u rfl rfl ?_
 refine x1x rfl s2s rfl rfl a1v rfl rfl ?_
 refine x3x rfl a1v rfl rfl ?_
 refine a8g rfl rfl (by intro a c h h'; cases h; cases h'; rfl) (.inl rfl) (a3t Try.underlying48 _) ?_
 refine y1y rfl (fun hc28 => ?_) (fun hc28 => ?_)
 rotate_left
 ·simp at hc28
 try simp at hc28
 refine y8y ?_
 refine hK27 _ _ ?_
 clear hK27 K27
 refine x8x fun K29 hK29 => ?_
 refine y7y ?_
 refine x8x fun K30 hK30 => ?_
 refine y7y ?_
 refine q5q x9x s7s (by rfl) ?_
 refine x0x rfl ?_
 refine u7u rfl rfl ?_
 refine x1x rfl s2s rfl rfl y5y rfl rfl ?_
 refine x3x rfl y5y rfl rfl ?_
 refine x0x rfl ?_
 refine u7u rfl rfl ?_
 refine x1x rfl s2s rfl rfl v6v rfl rfl ?_
 refine x3x rfl v6v rfl rfl ?_
 refine v3v rfl v6v rfl ?_
 refine z0z rfl rfl rfl ?_
 refine x2x rfl ?_
 refine ⟨by kernel_rfl, ?_⟩
 refine y1y rfl (fun hc31 => ?_) (fun hc31 => ?_)
 ·try simp at hc31
  rw [a5l (by omega)] at hF
  subst hF
  refine x7x x9x (by rfl) ?_
  refine x0x rfl ?_
  refine z1z [0] [_] (w9w c bs (p + 1 + 1 + 1) 1) rfl rfl rfl (by decide) rfl rfl (by repeat (first | exact InH.nil | refine InH.cons rfl ?_)) (by (simp only [pI, y2y, y3y, v4v, gl, nx, v2v, Nat.beq]; rfl)) (by (simp only [pI, y2y, y3y, v4v, gl, nx, v2v, Nat.beq]; rfl)) ?_
  refine x7x x9x (by rfl) ?_
  refine x2x rfl ?_
  refine y6y ?_
  exact ⟨.inr rfl, [γ 0], rfl, rfl, HE.box rfl rfl HE.nil⟩
 try simp at hc31
 refine x7x x9x (by rfl) ?_
 refine x0x rfl ?_
 refine z0z rfl rfl rfl ?_
 refine x2x rfl ?_
 refine y1y rfl (fun hc32 => ?_) (fun hc32 => ?_)
 ·simp at hc32
 try simp at hc32
 refine y8y ?_
 refine hK30 _ _ ?_
 clear hK30 K30
 refine q5q x9x s7s (by rfl) ?_
 refine x0x rfl ?_
 refine u7u rfl rfl ?_
 refine x1x rfl s2s rfl rfl v6v rfl rfl ?_
 refine x3x rfl v6v rfl rfl ?_
 refine x0x rfl ?_
 refine u7u rfl rfl ?_
 refine x1x rfl s2s rfl rfl y5y rfl rfl ?_
 refine x3x rfl y5y rfl rfl ?_
 obtain ⟨b3, hb3⟩ : ∃ b, bs[p + 1 + 1 + 1]? = some b := s8s (by omega)
 have hl3 := hbs b3 (List.mem_of_getElem? hb3)
 refine v0v rfl rfl v6v rfl a0o rfl hb3 ?_
 refine z6z rfl a0o rfl ?_
 refine x2x rfl ?_
 refine ⟨by kernel_rfl, ?_⟩
 refine x7x x9x (by rfl) ?_
 refine x0x rfl ?_
 refine u7u rfl rfl ?_
 refine x1x rfl s2s rfl rfl y5y rfl rfl ?_
 refine x3x rfl y5y rfl rfl ?_
 refine r0r (b := 1) rfl rfl (by omega) ?_
 refine u7u rfl rfl ?_
 refine x1x rfl s2s rfl rfl y5y rfl rfl ?_
 refine z8z rfl rfl y5y rfl rfl rfl rfl rfl (by simp only [a2b]; rfl) ?_
 refine x7x x9x (by rfl) ?_
 refine x0x rfl ?_
 refine x0x rfl ?_
 refine u5u (.int .u8 ((b3 % 128 : Nat) : Int)) rfl rfl rfl (b1d (by omega)) ?_
 refine s5s (((b3 % 128 : Nat) : Int)) rfl a0o a8f rfl rfl (b3v (by omega) (by omega)) ?_
 refine x0x rfl ?_
 refine b5f (.int .u64 ((b3 % 128 * (1 * 128 * 128 * 128) : Nat) : Int)) rfl rfl (by omega) (c7p 21 (by decide) (by omega)) ?_
 refine u5u (.int .u64 ((0 + b0 % 128 * (1) + b1 % 128 * (1 * 128) + b2 % 128 * (1 * 128 * 128) + b3 % 128 * (1 * 128 * 128 * 128) : Nat) : Int)) rfl rfl rfl (orM (v := 0 + b0 % 128 * (1) + b1 % 128 * (1 * 128) + b2 % 128 * (1 * 128 * 128)) 21 (by decide) (by omega) (by omega)) ?_
 refine x2x rfl ?_
 refine x7x x9x (by rfl) ?_
 refine x0x rfl ?_
 refine z0z rfl rfl rfl ?_
 refine y1y rfl (fun hc33 => ?_) (fun hc33 => ?_)
 ·try simp at hc33
  rw [b5k hb3 (by omega)] at hF
  subst hF
  refine x7x x9x (by rfl) ?_
  refine x0x rfl ?_
  refine s5s (((0 + b0 % 128 * (1) + b1 % 128 * (1 * 128) + b2 % 128 * (1 * 128 * 128) + b3 % 128 * (1 * 128 * 128 * 128) : Nat) : Int)) rfl a8f y5y rfl rfl (w0w (by omega) (by omega)) ?_
  refine u5u (.int .i64 (((0 + b0 % 128 * (1) + b1 % 128 * (1 * 128) + b2 % 128 * (1 * 128 * 128) + b3 % 128 * (1 * 128 * 128 * 128) : Nat) : Int) - 1)) rfl rfl rfl (q3q rfl (by omega) (by omega) (by omega)) ?_
  refine x2x rfl ?_
  refine y6y ?_
  exact ⟨.inr rfl, [γ 0], rfl, rfl, HE.box rfl rfl HE.nil⟩
 try simp at hc33
 rw [b5l hb3 (by omega)] at hF
 refine y8y ?_
 refine hK29 _ _ ?_
 clear hK29 K29
 refine y0y x9x (by rfl) ?_
 refine x0x rfl ?_
 refine u5u (.int .i64 28) rfl rfl rfl (q3q rfl (by omega) (by omega) (by omega)) ?_
 refine x2x rfl ?_
 refine hK26 _ _ ?_
 clear hK26 K26
 refine p0p fun K34 hK34 => ?_
 refine x8x fun K35 hK35 => ?_
 refine x7x x9x (by rfl) ?_
 refine x0x rfl ?_
 refine u7u rfl rfl ?_
 refine x1x rfl s2s rfl rfl a1v rfl rfl ?_
 refine x3x rfl a1v rfl rfl ?_
 refine a8g rfl rfl (by intro a c h h'; cases h; cases h'; rfl) (.inl rfl) (a3t Try.underlying48 _) ?_
 refine y1y rfl (fun hc36 => ?_) (fun hc36 => ?_)
 rotate_left
 ·simp at hc36
 try simp at hc36
 refine y8y ?_
 refine hK35 _ _ ?_
 clear hK35 K35
 refine x8x fun K37 hK37 => ?_
 refine y7y ?_
 refine x8x fun K38 hK38 => ?_
 refine y7y ?_
 refine q5q x9x s7s (by rfl) ?_
 refine x0x rfl ?_
 refine u7u rfl rfl ?_
 refine x1x rfl s2s rfl rfl y5y rfl rfl ?_
 refine x3x rfl y5y rfl rfl ?_
 refine x0x rfl ?_
 refine u7u rfl rfl ?_
 refine x1x rfl s2s rfl rfl v6v rfl rfl ?_
 refine x3x rfl v6v rfl rfl ?_
 refine v3v rfl v6v rfl ?_
 refine z0z rfl rfl rfl ?_
 refine x2x rfl ?_
 refine ⟨by kernel_rfl, ?_⟩
 refine y1y rfl (fun hc39 => ?_) (fun hc39 => ?_)
 ·try simp at hc39
  rw [a5l (by omega)] at hF
  subst hF
  refine x7x x9x (by rfl) ?_
  refine x0x rfl ?_
  refine z1z [0] [_] (w9w c bs (p + 1 + 1 + 1 + 1) 1) rfl rfl rfl (by decide) rfl rfl (by repeat (first | exact InH.nil | refine InH.cons rfl ?_)) (by (simp only [pI, y2y, y3y, v4v, gl, nx, v2v, Nat.beq]; rfl)) (by (simp only [pI, y2y, y3y, v4v, gl, nx, v2v, Nat.beq]; rfl)) ?_
  refine x7x x9x (by rfl) ?_
  refine x2x rfl ?_
  refine y6y ?_
  exact ⟨.inr rfl, [γ 0], rfl, rfl, HE.box rfl rfl HE.nil⟩
 try simp at hc39
 refine x7x x9x (by rfl) ?_
 refine x0x rfl ?_
 refine z0z rfl rfl rfl ?_
 refine x2x rfl ?_
 refine y1y rfl (fun hc40 => ?_) (fun hc40 => ?_)
 ·simp at hc40
 try simp at hc40
 refine y8y ?_
 refine hK38 _ _ ?_
 clear hK38 K38
 refine q5q x9x s7s (by rfl) ?_
 refine x0x rfl ?_
 refine u7u rfl rfl ?_
 refine x1x rfl s2s rfl rfl v6v rfl rfl ?_
 refine x3x rfl v6v rfl rfl ?_
 refine x0x rfl ?_
 refine u7u rfl rfl ?_
 refine x1x rfl s2s rfl rfl y5y rfl rfl ?_
 refine x3x rfl y5y rfl rfl ?_
 obtain ⟨b4, hb4⟩ : ∃ b, bs[p + 1 + 1 + 1 + 1]? = some b := s8s (by omega)
 have hl4 := hbs b4 (List.mem_of_getElem? hb4)
 refine v0v rfl rfl v6v rfl a0o rfl hb4 ?_
 refine z6z rfl a0o rfl ?_
 refine x2x rfl ?_
 refine ⟨by kernel_rfl, ?_⟩
 refine x7x x9x (by rfl) ?_
 refine x0x rfl ?_
 refine u7u rfl rfl ?_
 refine x1x rfl s2s rfl rfl y5y rfl rfl ?_
 refine x3x rfl y5y rfl rfl ?_
 refine r0r (b := 1) rfl rfl (by omega) ?_
 refine u7u rfl rfl ?_
 refine x1x rfl s2s rfl rfl y5y rfl rfl ?_
 refine z8z rfl rfl y5y rfl rfl rfl rfl rfl (by simp only [a2b]; rfl) ?_
 refine x7x x9x (by rfl) ?_
 refine x0x rfl ?_
 refine x0x rfl ?_
 refine u5u (.int .u8 ((b4 % 128 : Nat) : Int)) rfl rfl rfl (b1d (by omega)) ?_
 refine s5s (((b4 % 128 : Nat) : Int)) rfl a0o a8f rfl rfl (b3v (by omega) (by omega)) ?_
 refine x0x rfl ?_
 refine b5f (.int .u64 ((b4 % 128 * (1 * 128 * 128 * 128 * 128) : Nat) : Int)) rfl rfl (by omega) (c7p 28 (by decide) (by omega)) ?_
 refine u5u (.int .u64 ((0 + b0 % 128 * (1) + b1 % 128 * (1 * 128) + b2 % 128 * (1 * 128 * 128) + b3 % 128 * (1 * 128 * 128 * 128) + b4 % 128 * (1 * 128 * 128 * 128 * 128) : Nat) : Int)) rfl rfl rfl (orM (v := 0 + b0 % 128 * (1) + b1 % 128 * (1 * 128) + b2 % 128 * (1 * 128 * 128) + b3 % 128 * (1 * 128 * 128 * 128)) 28 (by decide) (by omega) (by omega)) ?_
 refine x2x rfl ?_
 refine x7x x9x (by rfl) ?_
 refine x0x rfl ?_
 refine z0z rfl rfl rfl ?_
 refine y1y rfl (fun hc41 => ?_) (fun hc41 => ?_)
 ·try simp at hc41
  rw [b5k hb4 (by omega)] at hF
  subst hF
  refine x7x x9x (by rfl) ?_
  refine x0x rfl ?_
  refine s5s (((0 + b0 % 128 * (1) + b1 % 128 * (1 * 128) + b2 % 128 * (1 * 128 * 128) + b3 % 128 * (1 * 128 * 128 * 128) + b4 % 128 * (1 * 128 * 128 * 128 * 128) : Nat) : Int)) rfl a8f y5y rfl rfl (w0w (by omega) (by omega)) ?_
  refine u5u (.int .i64 (((0 + b0 % 128 * (1) + b1 % 128 * (1 * 128) + b2 % 128 * (1 * 128 * 128) + b3 % 128 * (1 * 128 * 128 * 128) + b4 % 128 * (1 * 128 * 128 * 128 * 128) : Nat) : Int) - 1)) rfl rfl rfl (q3q rfl (by omega) (by omega) (by omega)) ?_
  refine x2x rfl ?_
  refine y6y ?_
  exact ⟨.inr rfl, [γ 0], rfl, rfl, HE.box rfl rfl HE.nil⟩
 try simp at hc41
 rw [b5l hb4 (by omega)] at hF
 refine y8y ?_
 refine hK37 _ _ ?_
 clear hK37 K37
 refine y0y x9x (by rfl) ?_
 refine x0x rfl ?_
 refine u5u (.int .i64 35) rfl rfl rfl (q3q rfl (by omega) (by omega) (by omega)) ?_
 refine x2x rfl ?_
 refine hK34 _ _ ?_
 clear hK34 K34
 refine p0p fun K42 hK42 => ?_
 refine x8x fun K43 hK43 => ?_
 refine x7x x9x (by rfl) ?_
 refine x0x rfl ?_
 refine u7u rfl rfl ?_
 refine x1x rfl s2s rfl rfl a1v rfl rfl ?_
 refine x3x rfl a1v rfl rfl ?_
 refine a8g rfl rfl (by intro a c h h'; cases h; cases h'; rfl) (.inl rfl) (a3t Try.underlying48 _) ?_
 refine y1y rfl (fun hc44 => ?_) (fun hc44 => ?_)
 rotate_left
 ·simp at hc44
 try simp at hc44
 refine y8y ?_
 refine hK43 _ _ ?_
 clear hK43 K43
 refine x8x fun K45 hK45 => ?_
 refine y7y ?_
 refine x8x fun K46 hK46 => ?_
 refine y7y ?_
 refine q5q x9x s7s (by rfl) ?_
 refine x0x rfl ?_
 refine u7u rfl rfl ?_
 refine x1x rfl s2s rfl rfl y5y rfl rfl ?_
 refine x3x rfl y5y rfl rfl ?_
 refine x0x rfl ?_
 refine u7u rfl rfl ?_
 refine x1x rfl s2s rfl rfl v6v rfl rfl ?_
 refine x3x rfl v6v rfl rfl ?_
 refine v3v rfl v6v rfl ?_
 refine z0z rfl rfl rfl ?_
 refine x2x rfl ?_
 refine ⟨by kernel_rfl, ?_⟩
 refine y1y rfl (fun hc47 => ?_) (fun hc47 => ?_)
 ·try simp at hc47
  rw [a5l (by omega)] at hF
  subst hF
  refine x7x x9x (by rfl) ?_
  refine x0x rfl ?_
  refine z1z [0] [_] (w9w c bs (p + 1 + 1 + 1 + 1 + 1) 1) rfl rfl rfl (by decide) rfl rfl (by repeat (first | exact InH.nil | refine InH.cons rfl ?_)) (by (simp only [pI, y2y, y3y, v4v, gl, nx, v2v, Nat.beq]; rfl)) (by (simp only [pI, y2y, y3y, v4v, gl, nx, v2v, Nat.beq]; rfl)) ?_
  refine x7x x9x (by rfl) ?_
  refine x2x rfl ?_
  refine y6y ?_
  exact ⟨.inr rfl, [γ 0], rfl, rfl, HE.box rfl rfl HE.nil⟩
 try simp at hc47
 refine x7x x9x (by rfl) ?_
 refine x0x rfl ?_
 refine z0z rfl rfl rfl ?_
 refine x2x rfl ?_
 refine y1y rfl (fun hc48 => ?_) (fun hc48 => ?_)
 rotate_left
 ·simp at hc48
 try simp at hc48
 rw [c3b (by omega)] at hF
 subst hF
 refine x7x x9x (by rfl) ?_
 refine x0x rfl ?_
 refine z1z [0] [_] (w9w c bs (p + 1 + 1 + 1 + 1 + 1) 2) rfl rfl rfl (by decide) rfl rfl (by repeat (first | exact InH.nil | refine InH.cons rfl ?_)) (by (simp only [pI, y2y, y3y, v4v, gl, nx, v2v, Nat.beq]; rfl)) (by (simp only [pI, y2y, y3y, v4v, gl, nx, v2v, Nat.beq]; rfl)) ?_
 refine x7x x9x (by rfl) ?_
 refine x2x rfl ?_
 refine y6y ?_
 exact ⟨.inr rfl, [γ 0], rfl, rfl, HE.box rfl rfl HE.nil⟩
theorem u4u (c : Bool) (bs : List Nat) (hbs : ∀ b ∈ bs, b < 256) (hbl : bs.length ≤ 100000000) (u : Up) (hu : u.at' ≤ bs.length) : Meth Try.prog 22 1 [0] [.ptr 0 0 0] [(0, (0, .box 50 [v5v c bs, pI ((u.at' : Nat) : Int), .pv (a7y u.err)]))] (.pv (.int .i64 (a1b bs u).1)) [(0, (0, .box 50 [v5v c bs, pI (((a1b bs u).2.at' : Nat) : Int), .pv (a7y (a1b bs u).2.err)]))] := by
 obtain ⟨p, e⟩ := u
 cases e with
 | none => rw [show a1b bs ⟨p, none⟩ = unF bs 5 0 1 p from if_pos rfl]; exact a4x c bs hbs hbl p hu
 | some q => obtain ⟨a, b⟩ := q; rw [show a1b bs ⟨p, some (a, b)⟩ = (0, ⟨p, some (a, b)⟩) from if_neg (by simp)]; exact a4w c bs p a b
theorem a0r (c : Bool) (bs : List Nat) (hbs : ∀ b ∈ bs, b < 256) (hbl : bs.length ≤ 100000000) (u : Up) (hu : u.at' ≤ bs.length) (m : Int) : Meth Try.prog 62 1 [0] [.ptr 0 0 0, .pv (.int .i64 m)] [(0, (0, .box 50 [v5v c bs, pI ((u.at' : Nat) : Int), .pv (a7y u.err)]))] (.pv (.int .i64 (s0s bs m u).1)) [(0, (0, .box 50 [v5v c bs, pI (((s0s bs m u).2.at' : Nat) : Int), .pv (a7y (s0s bs m u).2.err)]))] := by
 refine p6p x9x (fn := Try.f62) (by kernel_rfl) (by kernel_rfl) rfl (O0 := [.pv (.int .i64 (s0s bs m u).1)]) 1 0 (u3u rfl) (by rfl) (by repeat (first | exact BndH.nil | refine BndH.box rfl ?_)) (by repeat (first | exact BndH.nil | refine BndH.box rfl ?_)) (by rfl) fun γ => ?_
 show Ex Try.prog _ _ [(0, .ptr 0 (γ 0) 0), (1, .pv (.int .i64 m))] [(0, ((γ 0), .box 50 [v5v c bs, pI ((u.at' : Nat) : Int), .pv (a7y u.err)]))] _
 obtain ⟨F, hF⟩ : ∃ F, s0s bs m u = F := ⟨_, rfl⟩
 rw [hF]
 unfold s0s at hF
 refine x7x x9x (by rfl) ?_
 refine x2x rfl ?_
 refine x7x x9x (by rfl) ?_
 refine x0x rfl ?_
 refine z1z [0] [_] (u4u c bs hbs hbl u hu) rfl rfl rfl (by decide) rfl rfl (by repeat (first | exact InH.nil | refine InH.cons rfl ?_)) (by (simp only [pI, y2y, y3y, v4v, gl, nx, v2v, Nat.beq]; rfl)) (by (simp only [pI, y2y, y3y, v4v, gl, nx, v2v, Nat.beq]; rfl)) ?_
 refine x2x rfl ?_
 refine x8x fun K1 hK1 => ?_
 refine x7x x9x (by rfl) ?_
 refine x0x rfl ?_
 refine x0x rfl ?_
 refine z7z rfl rfl rfl (w3w ..) ?_
 refine s6s rfl ?_
 refine y1y rfl (fun hc2 => ?_) (fun hc2 => ?_)
 ·try simp at hc2
  rw [if_neg (by (intro h; simp_all; omega))] at hF
  subst hF
  refine x7x x9x (by rfl) ?_
  refine x0x rfl ?_
  refine z1z [0] [_] (a5v c bs (a1b bs u).2 2) rfl rfl rfl (by decide) rfl rfl (by repeat (first | exact InH.nil | refine InH.cons rfl ?_)) (by (simp only [pI, y2y, y3y, v4v, gl, nx, v2v, Nat.beq]; rfl)) (by (simp only [pI, y2y, y3y, v4v, gl, nx, v2v, Nat.beq]; rfl)) ?_
  refine x7x x9x (by rfl) ?_
  refine x2x rfl ?_
  refine y6y ?_
  exact ⟨.inr rfl, [γ 0], rfl, rfl, HE.box rfl rfl HE.nil⟩
 try simp at hc2
 rw [if_pos (by simpa using hc2)] at hF
 subst hF
 refine y8y ?_
 refine hK1 _ _ ?_
 clear hK1 K1
 refine x7x x9x (by rfl) ?_
 refine x0x rfl ?_
 refine x2x rfl ?_
 refine y6y ?_
 exact ⟨.inr rfl, [γ 0], rfl, rfl, HE.box rfl rfl HE.nil⟩
theorem a2h (c : Bool) (bs : List Nat) (hbs : ∀ b ∈ bs, b < 256) (hbl : bs.length ≤ 100000000) (u : Up) (hu : u.at' ≤ bs.length) (m : Int) (hm0 : 0 ≤ m) (hm : m ≤ 1000) : Meth Try.prog 23 1 [0] [.ptr 0 0 0, .pv (.int .i64 m)] [(0, (0, .box 50 [v5v c bs, pI ((u.at' : Nat) : Int), .pv (a7y u.err)]))] (p1p true (a9i bs m u).1) [(0, (0, .box 50 [v5v c bs, pI (((a9i bs m u).2.at' : Nat) : Int), .pv (a7y (a9i bs m u).2.err)]))] := by
 refine p6p x9x (fn := Try.f23) (by kernel_rfl) (by kernel_rfl) rfl (O0 := [p1p true (a9i bs m u).1]) 1 3 (u3u rfl) (by rfl) (by repeat (first | exact BndH.nil | refine BndH.box rfl ?_)) (by repeat (first | exact BndH.nil | refine BndH.box rfl ?_)) (by rfl) fun γ => ?_
 show Ex Try.prog _ _ [(0, .ptr 0 (γ 0) 0), (1, .pv (.int .i64 m))] [(0, ((γ 0), .box 50 [v5v c bs, pI ((u.at' : Nat) : Int), .pv (a7y u.err)])), (3, (0, .dead)), (2, (0, .dead)), (1, (0, .dead))] _
 obtain ⟨F, hF⟩ : ∃ F, a9i bs m u = F := ⟨_, rfl⟩
 rw [hF]
 unfold a9i at hF
 have hc := b1c bs u hm0
 have hca := a3j (m := m) hu
 refine x7x x9x (by rfl) ?_
 refine x2x rfl ?_
 refine x7x x9x (by rfl) ?_
 refine x2x rfl ?_
 refine x8x fun K1 hK1 => ?_
 refine x7x x9x (by rfl) ?_
 refine x0x rfl ?_
 refine x0x rfl ?_
 refine z1z [0] [_] (a0r c bs hbs hbl u hu m) rfl rfl rfl (by decide) rfl rfl (by repeat (first | exact InH.nil | refine InH.cons rfl ?_)) (by (simp only [pI, y2y, y3y, v4v, gl, nx, v2v, Nat.beq]; rfl)) (by (simp only [pI, y2y, y3y, v4v, gl, nx, v2v, Nat.beq]; rfl)) ?_
 refine x0x rfl ?_
 obtain ⟨C, hC⟩ : ∃ C, s0s bs m u = C := ⟨_, rfl⟩
 rw [hC] at hF hc hca ⊢
 refine y7y ?_
 refine b0f 5 3 3 1 rfl rfl ?_
 refine v9v (ι := List Int × Nat × Up) (fun p γ1 => [(5, .ref 3 (γ1 3)), (9, .pv (.int .i64 (p.2.1 : Int)))]) (fun p γ1 => [(3, ((γ1 3), .row 3 1 ((p.1).map a2m))), (1, ((γ1 1), .dead)), (2, ((γ1 2), .dead)), (0, ((γ 0), .box 50 [v5v c bs, pI ((p.2.2.at' : Nat) : Int), .pv (a7y p.2.2.err)]))]) (fun p => p.2.1 ≤ C.1.toNat ∧ p.1.length = p.2.1 ∧ p.2.2.at' ≤ bs.length ∧ p.1 ++ (a4e bs (C.1.toNat - p.2.1) p.2.2).1 = F.1 ∧ (a4e bs (C.1.toNat - p.2.1) p.2.2).2 = F.2) (fun p => C.1.toNat - p.2.1) (x5x 0 rfl (x5x 8 rfl Cov.nil)) HE.nil ([], 0, C.2) ⟨Nat.zero_le _, rfl, hca, by rw [← hF]; rfl, by rw [← hF]; rfl⟩ [0, _, _, _] (x5x 5 rfl (x5x 9 rfl Cov.nil)) (HE.row rfl rfl (HE.kill rfl (HE.kill rfl (HE.box rfl rfl HE.nil)))) rfl fun p γ1 hi => ?_
 try dsimp only [List.cons_append, List.nil_append]
 obtain ⟨l, i, q⟩ := p
 obtain ⟨h1, h2, h3, h4, h5⟩ := hi
 dsimp only at h1 h2 h3 h4 h5 ⊢
 refine x7x x9x (by rfl) ?_
 refine z0z rfl rfl rfl ?_
 refine x8x fun K2 hK2 => ?_
 refine y1y rfl (fun hc3 => ?_) (fun hc3 => ?_)
 rotate_left
 ·try simp at hc3
  rw [show C.1.toNat - i = 0 by omega] at h4 h5
  unfold a4e at h4 h5
  rw [List.append_nil] at h4
  obtain ⟨F1, F2⟩ := F
  dsimp only at h4 h5
  subst h4 h5
  refine v7v ?_
  refine hK1 _ _ ?_
  clear hK2 K2 hK1 K1
  refine a0z (f := a2m) 5 rfl rfl (fun _ => rfl) ?_
  refine x7x x9x (by rfl) ?_
  refine x0x rfl ?_
  refine x2x rfl ?_
  refine y6y ?_
  exact ⟨.inr rfl, [γ 0], rfl, rfl, HE.box rfl rfl HE.nil⟩
 try simp at hc3
 have hS : a4e bs (C.1.toNat - i) q = ((a1b bs q).1 :: (a4e bs (C.1.toNat - (i + 1)) (a1b bs q).2).1, (a4e bs (C.1.toNat - (i + 1)) (a1b bs q).2).2) := by rw [show C.1.toNat - i = (C.1.toNat - (i + 1)) + 1 by omega]; rfl
 refine y8y ?_
 refine hK2 _ _ ?_
 clear hK2 K2
 refine x8x fun K4 hK4 => ?_
 refine y7y ?_
 refine y0y x9x (by rfl) ?_
 refine x0x rfl ?_
 refine x0x rfl ?_
 refine z1z [0] [_] (u4u c bs hbs hbl q h3) rfl rfl rfl (by decide) rfl rfl (by repeat (first | exact InH.nil | refine InH.cons rfl ?_)) (by (simp only [pI, y2y, y3y, v4v, gl, nx, v2v, Nat.beq]; rfl)) (by (simp only [pI, y2y, y3y, v4v, gl, nx, v2v, Nat.beq]; rfl)) ?_
 refine a1y (id := 1) u1u rfl y5y rfl rfl rfl rfl rfl ?_
 refine r7r (zs := (l ++ [(a1b bs q).1]).map a2m) rfl rfl u1u rfl y5y rfl rfl rfl rfl (by rfl) (a1l _ _ _) (by (simp only [List.length_map, List.length_append, List.length_cons, List.length_nil, List.length_take, T3]; omega)) ?_
 refine x2x rfl ?_
 refine hK4 _ _ ?_
 clear hK4 K4
 refine y0y x9x (by rfl) ?_
 refine a0j rfl rfl rfl ?_
 refine x0x rfl ?_
 exact ⟨(l ++ [(a1b bs q).1], i + 1, (a1b bs q).2), ⟨⟨by show i + 1 ≤ C.1.toNat; omega, by show (l ++ [_]).length = i + 1; rw [List.length_append, h2]; rfl, s4s h3, by show (l ++ [_]) ++ (a4e bs (C.1.toNat - (i + 1)) _).1 = F.1; rw [hS] at h4; rw [← h4, List.append_assoc]; rfl, by show (a4e bs (C.1.toNat - (i + 1)) _).2 = F.2; rw [hS] at h5; exact h5⟩, (by show C.1.toNat - (i + 1) < C.1.toNat - i; omega)⟩, [0, _, _, _], (x5x 5 rfl (Cov.cons' (t := 9) rfl (by rw [w0w (by omega) (by omega)]; rfl) Cov.nil)), (x5x 0 rfl (x5x 8 rfl Cov.nil)), (HE.row rfl rfl (HE.kill rfl (HE.kill rfl (HE.box rfl rfl HE.nil)))), HE.nil, rfl⟩
end
section
set_option maxRecDepth 20000 in
theorem a4c (c : Bool) (bs : List Nat) (hbs : ∀ b ∈ bs, b < 256) (hbl : bs.length ≤ 100000000) (u : Up) (hu : u.at' ≤ bs.length) : Meth Try.prog 24 1 [0] [.ptr 0 0 0] [(0, (0, .box 50 [v5v c bs, pI ((u.at' : Nat) : Int), .pv (a7y u.err)]))] (a7x true (c2z bs u).1) [(0, (0, .box 50 [v5v c bs, pI (((c2z bs u).2.at' : Nat) : Int), .pv (a7y (c2z bs u).2.err)]))] := by
 refine p6p x9x (fn := Try.f24) (by kernel_rfl) (by kernel_rfl) rfl (O0 := [a7x true (c2z bs u).1]) 1 4 (u3u rfl) (by rfl) (by repeat (first | exact BndH.nil | refine BndH.box rfl ?_)) (by repeat (first | exact BndH.nil | refine BndH.box rfl ?_)) (by rfl) fun γ => ?_
 show Ex Try.prog _ _ [(0, .ptr 0 (γ 0) 0)] [(0, ((γ 0), .box 50 [v5v c bs, pI ((u.at' : Nat) : Int), .pv (a7y u.err)])), (4, (0, .dead)), (3, (0, .dead)), (2, (0, .dead)), (1, (0, .dead))] _
 obtain ⟨F, hF⟩ : ∃ F, c2z bs u = F := ⟨_, rfl⟩
 rw [hF]
 unfold c2z at hF
 have hc := b1c bs u (m := 100) (by omega)
 have hca := a3j (m := 100) hu
 refine x7x x9x (by rfl) ?_
 refine x2x rfl ?_
 refine x7x x9x (by rfl) ?_
 refine x2x rfl ?_
 refine x8x fun K1 hK1 => ?_
 refine x7x x9x (by rfl) ?_
 refine x0x rfl ?_
 refine z1z [0] [_] (a0r c bs hbs hbl u hu 100) rfl rfl rfl (by decide) rfl rfl (by repeat (first | exact InH.nil | refine InH.cons rfl ?_)) (by (simp only [pI, y2y, y3y, v4v, gl, nx, v2v, Nat.beq]; rfl)) (by (simp only [pI, y2y, y3y, v4v, gl, nx, v2v, Nat.beq]; rfl)) ?_
 refine x0x rfl ?_
 obtain ⟨C, hC⟩ : ∃ C, s0s bs 100 u = C := ⟨_, rfl⟩
 rw [hC] at hF hc hca ⊢
 refine y7y ?_
 refine b0f 3 4 81 7 rfl rfl ?_
 refine v9v (ι := List Ev × Nat × Up) (fun p γ1 => [(3, .ref 4 (γ1 4)), (8, .pv (.int .i64 (p.2.1 : Int)))]) (fun p γ1 => [(4, ((γ1 4), .row 81 7 (p.1.map a0i))), (1, ((γ1 1), .dead)), (2, ((γ1 2), .dead)), (3, ((γ1 3), .dead)), (0, ((γ 0), .box 50 [v5v c bs, pI ((p.2.2.at' : Nat) : Int), .pv (a7y p.2.2.err)]))]) (fun p => p.2.1 ≤ C.1.toNat ∧ p.1.length = p.2.1 ∧ p.2.2.at' ≤ bs.length ∧ p.1 ++ (b3y bs (C.1.toNat - p.2.1) p.2.2).1 = F.1 ∧ (b3y bs (C.1.toNat - p.2.1) p.2.2).2 = F.2) (fun p => C.1.toNat - p.2.1) (x5x 0 rfl (x5x 7 rfl Cov.nil)) HE.nil ([], 0, C.2) ⟨Nat.zero_le _, rfl, hca, by rw [← hF]; rfl, by rw [← hF]; rfl⟩ [0, _, _, _, _] (x5x 3 rfl (x5x 8 rfl Cov.nil)) (HE.row rfl rfl (HE.kill rfl (HE.kill rfl (HE.kill rfl (HE.box rfl rfl HE.nil))))) rfl fun p γ1 hi => ?_
 try dsimp only [List.cons_append, List.nil_append]
 obtain ⟨l, i, q⟩ := p
 obtain ⟨h1, h2, h3, h4, h5⟩ := hi
 dsimp only at h1 h2 h3 h4 h5 ⊢
 refine x7x x9x (by rfl) ?_
 refine z0z rfl rfl rfl ?_
 refine x8x fun K2 hK2 => ?_
 refine y1y rfl (fun hc3 => ?_) (fun hc3 => ?_)
 rotate_left
 ·try simp at hc3
  rw [show C.1.toNat - i = 0 by omega] at h4 h5
  unfold b3y at h4 h5
  rw [List.append_nil] at h4
  obtain ⟨F1, F2⟩ := F
  dsimp only at h4 h5
  subst h4 h5
  refine v7v ?_
  refine hK1 _ _ ?_
  clear hK2 K2 hK1 K1
  refine a0z (f := a0i) 3 rfl rfl (fun _ => rfl) ?_
  refine x7x x9x (by rfl) ?_
  refine x0x rfl ?_
  refine x2x rfl ?_
  refine y6y ?_
  exact ⟨.inr rfl, [γ 0], rfl, rfl, HE.box rfl rfl HE.nil⟩
 try simp at hc3
 refine y8y ?_
 refine hK2 _ _ ?_
 clear hK2 K2
 refine x8x fun K4 hK4 => ?_
 refine y7y ?_
 refine x7x x9x (by rfl) ?_
 refine q0q (id := 1) a1g c2l rfl ?_
 refine x8x fun K5 hK5 => ?_
 refine x7x x9x (by rfl) ?_
 refine x0x rfl ?_
 refine y7y ?_
 refine a3i 8 ?_
 refine p0p fun K6 hK6 => ?_
 refine x7x x9x (by rfl) ?_
 refine z0z rfl rfl rfl ?_
 refine x8x fun K7 hK7 => ?_
 refine y1y rfl (fun hc8 => ?_) (fun hc8 => ?_)
 rotate_left
 ·simp at hc8
 try simp at hc8
 refine y8y ?_
 refine hK7 _ _ ?_
 clear hK7 K7
 refine x8x fun K9 hK9 => ?_
 refine y7y ?_
 refine x7x x9x (by rfl) ?_
 refine x0x rfl ?_
 refine x2x rfl ?_
 refine y0y x9x (by rfl) ?_
 refine x0x rfl ?_
 refine x0x rfl ?_
 refine z1z [0] [_] (u4u c bs hbs hbl q h3) rfl rfl rfl (by decide) rfl rfl (by repeat (first | exact InH.nil | refine InH.cons rfl ?_)) (by (simp only [pI, y2y, y3y, v4v, gl, nx, v2v, Nat.beq]; rfl)) (by (simp only [pI, y2y, y3y, v4v, gl, nx, v2v, Nat.beq]; rfl)) ?_
 refine a0c x9x (j := 0) rfl rfl a1g rfl y5y (by decide) rfl ?_
 refine z8z rfl rfl y5y rfl rfl rfl rfl rfl (show _ = [pI (a1b bs q).1, pI 0, pI 0, pI 0, pI 0, pI 0, pI 0] from rfl) ?_
 obtain ⟨X0, hX0⟩ : ∃ X, a1b bs q = X := ⟨_, rfl⟩
 rw [hX0]
 have hx0 : X0.2.at' ≤ bs.length := by rw [← hX0]; exact s4s h3
 refine hK9 _ _ ?_
 clear hK9 K9
 refine y0y x9x (by rfl) ?_
 refine u5u (.int .i64 1) rfl rfl rfl (q3q rfl (by omega) (by omega) (by omega)) ?_
 refine x0x rfl ?_
 refine hK6 _ _ ?_
 clear hK6 K6
 refine p0p fun K10 hK10 => ?_
 refine x7x x9x (by rfl) ?_
 refine z0z rfl rfl rfl ?_
 refine x8x fun K11 hK11 => ?_
 refine y1y rfl (fun hc12 => ?_) (fun hc12 => ?_)
 rotate_left
 ·simp at hc12
 try simp at hc12
 refine y8y ?_
 refine hK11 _ _ ?_
 clear hK11 K11
 refine x8x fun K13 hK13 => ?_
 refine y7y ?_
 refine x7x x9x (by rfl) ?_
 refine x0x rfl ?_
 refine x2x rfl ?_
 refine y0y x9x (by rfl) ?_
 refine x0x rfl ?_
 refine x0x rfl ?_
 refine z1z [0] [_] (u4u c bs hbs hbl X0.2 hx0) rfl rfl rfl (by decide) rfl rfl (by repeat (first | exact InH.nil | refine InH.cons rfl ?_)) (by (simp only [pI, y2y, y3y, v4v, gl, nx, v2v, Nat.beq]; rfl)) (by (simp only [pI, y2y, y3y, v4v, gl, nx, v2v, Nat.beq]; rfl)) ?_
 refine a0c x9x (j := 1) rfl rfl a1g rfl y5y (by decide) rfl ?_
 refine z8z rfl rfl y5y rfl rfl rfl rfl rfl (show _ = [pI X0.1, pI (a1b bs X0.2).1, pI 0, pI 0, pI 0, pI 0, pI 0] from rfl) ?_
 obtain ⟨X1, hX1⟩ : ∃ X, a1b bs X0.2 = X := ⟨_, rfl⟩
 rw [hX1]
 have hx1 : X1.2.at' ≤ bs.length := by rw [← hX1]; exact s4s hx0
 refine hK13 _ _ ?_
 clear hK13 K13
 refine y0y x9x (by rfl) ?_
 refine u5u (.int .i64 2) rfl rfl rfl (q3q rfl (by omega) (by omega) (by omega)) ?_
 refine x0x rfl ?_
 refine hK10 _ _ ?_
 clear hK10 K10
 refine p0p fun K14 hK14 => ?_
 refine x7x x9x (by rfl) ?_
 refine z0z rfl rfl rfl ?_
 refine x8x fun K15 hK15 => ?_
 refine y1y rfl (fun hc16 => ?_) (fun hc16 => ?_)
 rotate_left
 ·simp at hc16
 try simp at hc16
 refine y8y ?_
 refine hK15 _ _ ?_
 clear hK15 K15
 refine x8x fun K17 hK17 => ?_
 refine y7y ?_
 refine x7x x9x (by rfl) ?_
 refine x0x rfl ?_
 refine x2x rfl ?_
 refine y0y x9x (by rfl) ?_
 refine x0x rfl ?_
 refine x0x rfl ?_
 refine z1z [0] [_] (u4u c bs hbs hbl X1.2 hx1) rfl rfl rfl (by decide) rfl rfl (by repeat (first | exact InH.nil | refine InH.cons rfl ?_)) (by (simp only [pI, y2y, y3y, v4v, gl, nx, v2v, Nat.beq]; rfl)) (by (simp only [pI, y2y, y3y, v4v, gl, nx, v2v, Nat.beq]; rfl)) ?_
 refine a0c x9x (j := 2) rfl rfl a1g rfl y5y (by decide) rfl ?_
 refine z8z rfl rfl y5y rfl rfl rfl rfl rfl (show _ = [pI X0.1, pI X1.1, pI (a1b bs X1.2).1, pI 0, pI 0, pI 0, pI 0] from rfl) ?_
 obtain ⟨X2, hX2⟩ : ∃ X, a1b bs X1.2 = X := ⟨_, rfl⟩
 rw [hX2]
 have hx2 : X2.2.at' ≤ bs.length := by rw [← hX2]; exact s4s hx1
 refine hK17 _ _ ?_
 clear hK17 K17
 refine y0y x9x (by rfl) ?_
 refine u5u (.int .i64 3) rfl rfl rfl (q3q rfl (by omega) (by omega) (by omega)) ?_
 refine x0x rfl ?_
 refine hK14 _ _ ?_
 clear hK14 K14
 refine p0p fun K18 hK18 => ?_
 refine x7x x9x (by rfl) ?_
 refine z0z rfl rfl rfl ?_
 refine x8x fun K19 hK19 => ?_
 refine y1y rfl (fun hc20 => ?_) (fun hc20 => ?_)
 rotate_left
 ·simp at hc20
 try simp at hc20
 refine y8y ?_
 refine hK19 _ _ ?_
 clear hK19 K19
 refine x8x fun K21 hK21 => ?_
 refine y7y ?_
 refine x7x x9x (by rfl) ?_
 refine x0x rfl ?_
 refine x2x rfl ?_
 refine y0y x9x (by rfl) ?_
 refine x0x rfl ?_
 refine x0x rfl ?_
 refine z1z [0] [_] (u4u c bs hbs hbl X2.2 hx2) rfl rfl rfl (by decide) rfl rfl (by repeat (first | exact InH.nil | refine InH.cons rfl ?_)) (by (simp only [pI, y2y, y3y, v4v, gl, nx, v2v, Nat.beq]; rfl)) (by (simp only [pI, y2y, y3y, v4v, gl, nx, v2v, Nat.beq]; rfl)) ?_
 refine a0c x9x (j := 3) rfl rfl a1g rfl y5y (by decide) rfl ?_
 refine z8z rfl rfl y5y rfl rfl rfl rfl rfl (show _ = [pI X0.1, pI X1.1, pI X2.1, pI (a1b bs X2.2).1, pI 0, pI 0, pI 0] from rfl) ?_
 obtain ⟨X3, hX3⟩ : ∃ X, a1b bs X2.2 = X := ⟨_, rfl⟩
 rw [hX3]
 have hx3 : X3.2.at' ≤ bs.length := by rw [← hX3]; exact s4s hx2
 refine hK21 _ _ ?_
 clear hK21 K21
 refine y0y x9x (by rfl) ?_
 refine u5u (.int .i64 4) rfl rfl rfl (q3q rfl (by omega) (by omega) (by omega)) ?_
 refine x0x rfl ?_
 refine hK18 _ _ ?_
 clear hK18 K18
 refine p0p fun K22 hK22 => ?_
 refine x7x x9x (by rfl) ?_
 refine z0z rfl rfl rfl ?_
 refine x8x fun K23 hK23 => ?_
 refine y1y rfl (fun hc24 => ?_) (fun hc24 => ?_)
 rotate_left
 ·simp at hc24
 try simp at hc24
 refine y8y ?_
 refine hK23 _ _ ?_
 clear hK23 K23
 refine x8x fun K25 hK25 => ?_
 refine y7y ?_
 refine x7x x9x (by rfl) ?_
 refine x0x rfl ?_
 refine x2x rfl ?_
 refine y0y x9x (by rfl) ?_
 refine x0x rfl ?_
 refine x0x rfl ?_
 refine z1z [0] [_] (u4u c bs hbs hbl X3.2 hx3) rfl rfl rfl (by decide) rfl rfl (by repeat (first | exact InH.nil | refine InH.cons rfl ?_)) (by (simp only [pI, y2y, y3y, v4v, gl, nx, v2v, Nat.beq]; rfl)) (by (simp only [pI, y2y, y3y, v4v, gl, nx, v2v, Nat.beq]; rfl)) ?_
 refine a0c x9x (j := 4) rfl rfl a1g rfl y5y (by decide) rfl ?_
 refine z8z rfl rfl y5y rfl rfl rfl rfl rfl (show _ = [pI X0.1, pI X1.1, pI X2.1, pI X3.1, pI (a1b bs X3.2).1, pI 0, pI 0] from rfl) ?_
 obtain ⟨X4, hX4⟩ : ∃ X, a1b bs X3.2 = X := ⟨_, rfl⟩
 rw [hX4]
 have hx4 : X4.2.at' ≤ bs.length := by rw [← hX4]; exact s4s hx3
 refine hK25 _ _ ?_
 clear hK25 K25
 refine y0y x9x (by rfl) ?_
 refine u5u (.int .i64 5) rfl rfl rfl (q3q rfl (by omega) (by omega) (by omega)) ?_
 refine x0x rfl ?_
 refine hK22 _ _ ?_
 clear hK22 K22
 refine p0p fun K26 hK26 => ?_
 refine x7x x9x (by rfl) ?_
 refine z0z rfl rfl rfl ?_
 refine x8x fun K27 hK27 => ?_
 refine y1y rfl (fun hc28 => ?_) (fun hc28 => ?_)
 rotate_left
 ·simp at hc28
 try simp at hc28
 refine y8y ?_
 refine hK27 _ _ ?_
 clear hK27 K27
 refine x8x fun K29 hK29 => ?_
 refine y7y ?_
 refine x7x x9x (by rfl) ?_
 refine x0x rfl ?_
 refine x2x rfl ?_
 refine y0y x9x (by rfl) ?_
 refine x0x rfl ?_
 refine x0x rfl ?_
 refine z1z [0] [_] (u4u c bs hbs hbl X4.2 hx4) rfl rfl rfl (by decide) rfl rfl (by repeat (first | exact InH.nil | refine InH.cons rfl ?_)) (by (simp only [pI, y2y, y3y, v4v, gl, nx, v2v, Nat.beq]; rfl)) (by (simp only [pI, y2y, y3y, v4v, gl, nx, v2v, Nat.beq]; rfl)) ?_
 refine a0c x9x (j := 5) rfl rfl a1g rfl y5y (by decide) rfl ?_
 refine z8z rfl rfl y5y rfl rfl rfl rfl rfl (show _ = [pI X0.1, pI X1.1, pI X2.1, pI X3.1, pI X4.1, pI (a1b bs X4.2).1, pI 0] from rfl) ?_
 obtain ⟨X5, hX5⟩ : ∃ X, a1b bs X4.2 = X := ⟨_, rfl⟩
 rw [hX5]
 have hx5 : X5.2.at' ≤ bs.length := by rw [← hX5]; exact s4s hx4
 refine hK29 _ _ ?_
 clear hK29 K29
 refine y0y x9x (by rfl) ?_
 refine u5u (.int .i64 6) rfl rfl rfl (q3q rfl (by omega) (by omega) (by omega)) ?_
 refine x0x rfl ?_
 refine hK26 _ _ ?_
 clear hK26 K26
 refine p0p fun K30 hK30 => ?_
 refine x7x x9x (by rfl) ?_
 refine z0z rfl rfl rfl ?_
 refine x8x fun K31 hK31 => ?_
 refine y1y rfl (fun hc32 => ?_) (fun hc32 => ?_)
 rotate_left
 ·simp at hc32
 try simp at hc32
 refine y8y ?_
 refine hK31 _ _ ?_
 clear hK31 K31
 refine x8x fun K33 hK33 => ?_
 refine y7y ?_
 refine x7x x9x (by rfl) ?_
 refine x0x rfl ?_
 refine x2x rfl ?_
 refine y0y x9x (by rfl) ?_
 refine x0x rfl ?_
 refine x0x rfl ?_
 refine z1z [0] [_] (u4u c bs hbs hbl X5.2 hx5) rfl rfl rfl (by decide) rfl rfl (by repeat (first | exact InH.nil | refine InH.cons rfl ?_)) (by (simp only [pI, y2y, y3y, v4v, gl, nx, v2v, Nat.beq]; rfl)) (by (simp only [pI, y2y, y3y, v4v, gl, nx, v2v, Nat.beq]; rfl)) ?_
 refine a0c x9x (j := 6) rfl rfl a1g rfl y5y (by decide) rfl ?_
 refine z8z rfl rfl y5y rfl rfl rfl rfl rfl (show _ = [pI X0.1, pI X1.1, pI X2.1, pI X3.1, pI X4.1, pI X5.1, pI (a1b bs X5.2).1] from rfl) ?_
 obtain ⟨X6, hX6⟩ : ∃ X, a1b bs X5.2 = X := ⟨_, rfl⟩
 rw [hX6]
 have hx6 : X6.2.at' ≤ bs.length := by rw [← hX6]; exact s4s hx5
 refine hK33 _ _ ?_
 clear hK33 K33
 refine y0y x9x (by rfl) ?_
 refine u5u (.int .i64 7) rfl rfl rfl (q3q rfl (by omega) (by omega) (by omega)) ?_
 refine x0x rfl ?_
 refine hK30 _ _ ?_
 clear hK30 K30
 refine p0p fun K34 hK34 => ?_
 refine x7x x9x (by rfl) ?_
 refine z0z rfl rfl rfl ?_
 refine x8x fun K35 hK35 => ?_
 refine y1y rfl (fun hc36 => ?_) (fun hc36 => ?_)
 ·simp at hc36
 try simp at hc36
 refine v7v ?_
 refine hK5 _ _ ?_
 clear hK35 K35 hK34 K34 hK5 K5
 refine y0y x9x (by rfl) ?_
 refine x0x rfl ?_
 refine z3z rfl a1g rfl rfl rfl ?_
 refine z7z rfl rfl rfl (a4p (b8w [X0.1, X1.1, X2.1, X3.1, X4.1, X5.1, X6.1])) ?_
 refine a0s (id := 2) w2w rfl v1v rfl rfl rfl rfl rfl rfl ?_
 have hQ : a4e bs 7 q = ([X0.1, X1.1, X2.1, X3.1, X4.1, X5.1, X6.1], X6.2) := by simp only [a4e, hX0, hX1, hX2, hX3, hX4, hX5, hX6]
 have hS : b3y bs (C.1.toNat - i) q = (b8w [X0.1, X1.1, X2.1, X3.1, X4.1, X5.1, X6.1] :: (b3y bs (C.1.toNat - (i + 1)) X6.2).1, (b3y bs (C.1.toNat - (i + 1)) X6.2).2) := by rw [show C.1.toNat - i = (C.1.toNat - (i + 1)) + 1 by omega]; show (b8w (a4e bs 7 q).1 :: (b3y bs _ (a4e bs 7 q).2).1, _) = _; rw [hQ]
 refine r7r (zs := (l ++ [b8w [X0.1, X1.1, X2.1, X3.1, X4.1, X5.1, X6.1]]).map a0i) rfl rfl w2w rfl v1v rfl rfl rfl rfl (by rfl) (by rw [List.map_append]; rfl) (by (simp only [List.length_map, List.length_append, List.length_cons, List.length_nil, List.length_take, T81]; omega)) ?_
 refine x2x rfl ?_
 refine hK4 _ _ ?_
 clear hK4 K4
 refine y0y x9x (by rfl) ?_
 refine a0j rfl rfl rfl ?_
 refine x0x rfl ?_
 exact ⟨(l ++ [b8w [X0.1, X1.1, X2.1, X3.1, X4.1, X5.1, X6.1]], i + 1, X6.2), ⟨⟨by show i + 1 ≤ C.1.toNat; omega, by show (l ++ [_]).length = i + 1; rw [List.length_append, h2]; rfl, hx6, by show (l ++ [_]) ++ (b3y bs (C.1.toNat - (i + 1)) _).1 = F.1; rw [hS] at h4; rw [← h4, List.append_assoc]; rfl, by show (b3y bs (C.1.toNat - (i + 1)) _).2 = F.2; rw [hS] at h5; exact h5⟩, (by show C.1.toNat - (i + 1) < C.1.toNat - i; omega)⟩, [0, _, _, _, _], (x5x 3 rfl (Cov.cons' (t := 8) rfl (by rw [w0w (by omega) (by omega)]; rfl) Cov.nil)), (x5x 0 rfl (x5x 7 rfl Cov.nil)), (HE.row rfl rfl (HE.kill rfl (HE.kill rfl (HE.kill rfl (HE.box rfl rfl HE.nil))))), HE.nil, rfl⟩
end
section
set_option maxRecDepth 20000 in
theorem a5w (c : Bool) (bs : List Nat) (hbs : ∀ b ∈ bs, b < 256) (hbl : bs.length ≤ 100000000) (u : Up) (hu : u.at' ≤ bs.length) : Meth Try.prog 25 1 [0] [.ptr 0 0 0] [(0, (0, .box 50 [v5v c bs, pI ((u.at' : Nat) : Int), .pv (a7y u.err)]))] (a6n true (c3a bs u).1) [(0, (0, .box 50 [v5v c bs, pI (((c3a bs u).2.at' : Nat) : Int), .pv (a7y (c3a bs u).2.err)]))] := by
 refine p6p x9x (fn := Try.f25) (by kernel_rfl) (by kernel_rfl) rfl (O0 := [a6n true (c3a bs u).1]) 1 5 (u3u rfl) (by rfl) (by repeat (first | exact BndH.nil | refine BndH.box rfl ?_)) (by repeat (first | exact BndH.nil | refine BndH.box rfl ?_)) (by rfl) fun γ => ?_
 show Ex Try.prog _ _ [(0, .ptr 0 (γ 0) 0)] [(0, ((γ 0), .box 50 [v5v c bs, pI ((u.at' : Nat) : Int), .pv (a7y u.err)])), (5, (0, .dead)), (4, (0, .dead)), (3, (0, .dead)), (2, (0, .dead)), (1, (0, .dead))] _
 obtain ⟨F, hF⟩ : ∃ F, c3a bs u = F := ⟨_, rfl⟩
 rw [hF]
 unfold c3a at hF
 have hc := b1c bs u (m := 96) (by omega)
 have hca := a3j (m := 96) hu
 refine x7x x9x (by rfl) ?_
 refine x2x rfl ?_
 refine x7x x9x (by rfl) ?_
 refine x2x rfl ?_
 refine x8x fun K1 hK1 => ?_
 refine x7x x9x (by rfl) ?_
 refine x0x rfl ?_
 refine z1z [0] [_] (a0r c bs hbs hbl u hu 96) rfl rfl rfl (by decide) rfl rfl (by repeat (first | exact InH.nil | refine InH.cons rfl ?_)) (by (simp only [pI, y2y, y3y, v4v, gl, nx, v2v, Nat.beq]; rfl)) (by (simp only [pI, y2y, y3y, v4v, gl, nx, v2v, Nat.beq]; rfl)) ?_
 refine x0x rfl ?_
 obtain ⟨C, hC⟩ : ∃ C, s0s bs 96 u = C := ⟨_, rfl⟩
 rw [hC] at hF hc hca ⊢
 refine y7y ?_
 refine b0f 3 5 84 5 rfl rfl ?_
 refine v9v (ι := List Ou × Nat × Up) (fun p γ1 => [(3, .ref 5 (γ1 5)), (9, .pv (.int .i64 (p.2.1 : Int)))]) (fun p γ1 => [(5, ((γ1 5), .row 84 5 (p.1.map a2c))), (1, ((γ1 1), .dead)), (2, ((γ1 2), .dead)), (3, ((γ1 3), .dead)), (4, ((γ1 4), .dead)), (0, ((γ 0), .box 50 [v5v c bs, pI ((p.2.2.at' : Nat) : Int), .pv (a7y p.2.2.err)]))]) (fun p => p.2.1 ≤ C.1.toNat ∧ p.1.length = p.2.1 ∧ p.2.2.at' ≤ bs.length ∧ p.1 ++ (b5j bs (C.1.toNat - p.2.1) p.2.2).1 = F.1 ∧ (b5j bs (C.1.toNat - p.2.1) p.2.2).2 = F.2) (fun p => C.1.toNat - p.2.1) (x5x 0 rfl (x5x 8 rfl Cov.nil)) HE.nil ([], 0, C.2) ⟨Nat.zero_le _, rfl, hca, by rw [← hF]; rfl, by rw [← hF]; rfl⟩ [0, _, _, _, _, _] (x5x 3 rfl (x5x 9 rfl Cov.nil)) (HE.row rfl rfl (HE.kill rfl (HE.kill rfl (HE.kill rfl (HE.kill rfl (HE.box rfl rfl HE.nil)))))) rfl fun p γ1 hi => ?_
 try dsimp only [List.cons_append, List.nil_append]
 obtain ⟨l, i, q⟩ := p
 obtain ⟨h1, h2, h3, h4, h5⟩ := hi
 dsimp only at h1 h2 h3 h4 h5 ⊢
 refine x7x x9x (by rfl) ?_
 refine z0z rfl rfl rfl ?_
 refine x8x fun K2 hK2 => ?_
 refine y1y rfl (fun hc3 => ?_) (fun hc3 => ?_)
 rotate_left
 ·try simp at hc3
  rw [show C.1.toNat - i = 0 by omega] at h4 h5
  unfold b5j at h4 h5
  rw [List.append_nil] at h4
  obtain ⟨F1, F2⟩ := F
  dsimp only at h4 h5
  subst h4 h5
  refine v7v ?_
  refine hK1 _ _ ?_
  clear hK2 K2 hK1 K1
  refine a0z (f := a2c) 3 rfl rfl (fun _ => rfl) ?_
  refine x7x x9x (by rfl) ?_
  refine x0x rfl ?_
  refine x2x rfl ?_
  refine y6y ?_
  exact ⟨.inr rfl, [γ 0], rfl, rfl, HE.box rfl rfl HE.nil⟩
 try simp at hc3
 refine y8y ?_
 refine hK2 _ _ ?_
 clear hK2 K2
 refine x8x fun K4 hK4 => ?_
 refine y7y ?_
 refine x7x x9x (by rfl) ?_
 refine q0q (id := 1) v8v b4o rfl ?_
 refine x8x fun K5 hK5 => ?_
 refine x7x x9x (by rfl) ?_
 refine x1x rfl v8v rfl rfl y5y rfl rfl ?_
 refine x1x rfl v8v rfl rfl y5y rfl rfl ?_
 refine x1x rfl v8v rfl rfl y5y rfl rfl ?_
 refine x1x rfl v8v rfl rfl y5y rfl rfl ?_
 refine x1x rfl v8v rfl rfl y5y rfl rfl ?_
 refine u0u (id := 2) a5r rfl a1w rfl rfl rfl rfl (.val rfl rfl (.val rfl rfl (.val rfl rfl (.val rfl rfl (.val rfl rfl .nil))))) rfl (u3u rfl) (u3u rfl) (u3u rfl) rfl rfl ?_
 refine a2o (n := 5) rfl a5r rfl rfl rfl ?_
 refine x0x rfl ?_
 refine y7y ?_
 refine a3i 6 ?_
 refine p0p fun K6 hK6 => ?_
 refine x7x x9x (by rfl) ?_
 refine z0z rfl rfl rfl ?_
 refine x8x fun K7 hK7 => ?_
 refine y1y rfl (fun hc8 => ?_) (fun hc8 => ?_)
 rotate_left
 ·simp at hc8
 try simp at hc8
 refine y8y ?_
 refine hK7 _ _ ?_
 clear hK7 K7
 refine x8x fun K9 hK9 => ?_
 refine y7y ?_
 refine x7x x9x (by rfl) ?_
 refine w6w (f := fun n : Nat => [AV.ptr 1 _ n]) (l := [0, 1, 2, 3, 4]) (j := 0) rfl rfl a5r rfl a1w rfl rfl (by decide) ?_
 refine w8w (f := fun n : Nat => [AV.ptr 1 _ n]) (l := [0, 1, 2, 3, 4]) rfl a1w rfl (show ([0, 1, 2, 3, 4] : List Nat)[0]? = some 0 from rfl) rfl ?_
 refine x2x rfl ?_
 refine y0y x9x (by rfl) ?_
 refine x0x rfl ?_
 refine x0x rfl ?_
 refine z1z [0] [_] (u4u c bs hbs hbl q h3) rfl rfl rfl (by decide) rfl rfl (by repeat (first | exact InH.nil | refine InH.cons rfl ?_)) (by (simp only [pI, y2y, y3y, v4v, gl, nx, v2v, Nat.beq]; rfl)) (by (simp only [pI, y2y, y3y, v4v, gl, nx, v2v, Nat.beq]; rfl)) ?_
 refine u7u rfl rfl ?_
 refine z8z rfl rfl y5y rfl rfl rfl rfl rfl (show _ = [pI (a1b bs q).1, pI 0, pI 0, pI 0, pI 0] from rfl) ?_
 obtain ⟨X0, hX0⟩ : ∃ X, a1b bs q = X := ⟨_, rfl⟩
 rw [hX0]
 have hx0 : X0.2.at' ≤ bs.length := by rw [← hX0]; exact s4s h3
 refine hK9 _ _ ?_
 clear hK9 K9
 refine y0y x9x (by rfl) ?_
 refine u5u (.int .i64 1) rfl rfl rfl (q3q rfl (by omega) (by omega) (by omega)) ?_
 refine x0x rfl ?_
 refine hK6 _ _ ?_
 clear hK6 K6
 refine p0p fun K10 hK10 => ?_
 refine x7x x9x (by rfl) ?_
 refine z0z rfl rfl rfl ?_
 refine x8x fun K11 hK11 => ?_
 refine y1y rfl (fun hc12 => ?_) (fun hc12 => ?_)
 rotate_left
 ·simp at hc12
 try simp at hc12
 refine y8y ?_
 refine hK11 _ _ ?_
 clear hK11 K11
 refine x8x fun K13 hK13 => ?_
 refine y7y ?_
 refine x7x x9x (by rfl) ?_
 refine w6w (f := fun n : Nat => [AV.ptr 1 _ n]) (l := [0, 1, 2, 3, 4]) (j := 1) rfl rfl a5r rfl a1w rfl rfl (by decide) ?_
 refine w8w (f := fun n : Nat => [AV.ptr 1 _ n]) (l := [0, 1, 2, 3, 4]) rfl a1w rfl (show ([0, 1, 2, 3, 4] : List Nat)[1]? = some 1 from rfl) rfl ?_
 refine x2x rfl ?_
 refine y0y x9x (by rfl) ?_
 refine x0x rfl ?_
 refine x0x rfl ?_
 refine z1z [0] [_] (u4u c bs hbs hbl X0.2 hx0) rfl rfl rfl (by decide) rfl rfl (by repeat (first | exact InH.nil | refine InH.cons rfl ?_)) (by (simp only [pI, y2y, y3y, v4v, gl, nx, v2v, Nat.beq]; rfl)) (by (simp only [pI, y2y, y3y, v4v, gl, nx, v2v, Nat.beq]; rfl)) ?_
 refine u7u rfl rfl ?_
 refine z8z rfl rfl y5y rfl rfl rfl rfl rfl (show _ = [pI X0.1, pI (a1b bs X0.2).1, pI 0, pI 0, pI 0] from rfl) ?_
 obtain ⟨X1, hX1⟩ : ∃ X, a1b bs X0.2 = X := ⟨_, rfl⟩
 rw [hX1]
 have hx1 : X1.2.at' ≤ bs.length := by rw [← hX1]; exact s4s hx0
 refine hK13 _ _ ?_
 clear hK13 K13
 refine y0y x9x (by rfl) ?_
 refine u5u (.int .i64 2) rfl rfl rfl (q3q rfl (by omega) (by omega) (by omega)) ?_
 refine x0x rfl ?_
 refine hK10 _ _ ?_
 clear hK10 K10
 refine p0p fun K14 hK14 => ?_
 refine x7x x9x (by rfl) ?_
 refine z0z rfl rfl rfl ?_
 refine x8x fun K15 hK15 => ?_
 refine y1y rfl (fun hc16 => ?_) (fun hc16 => ?_)
 rotate_left
 ·simp at hc16
 try simp at hc16
 refine y8y ?_
 refine hK15 _ _ ?_
 clear hK15 K15
 refine x8x fun K17 hK17 => ?_
 refine y7y ?_
 refine x7x x9x (by rfl) ?_
 refine w6w (f := fun n : Nat => [AV.ptr 1 _ n]) (l := [0, 1, 2, 3, 4]) (j := 2) rfl rfl a5r rfl a1w rfl rfl (by decide) ?_
 refine w8w (f := fun n : Nat => [AV.ptr 1 _ n]) (l := [0, 1, 2, 3, 4]) rfl a1w rfl (show ([0, 1, 2, 3, 4] : List Nat)[2]? = some 2 from rfl) rfl ?_
 refine x2x rfl ?_
 refine y0y x9x (by rfl) ?_
 refine x0x rfl ?_
 refine x0x rfl ?_
 refine z1z [0] [_] (u4u c bs hbs hbl X1.2 hx1) rfl rfl rfl (by decide) rfl rfl (by repeat (first | exact InH.nil | refine InH.cons rfl ?_)) (by (simp only [pI, y2y, y3y, v4v, gl, nx, v2v, Nat.beq]; rfl)) (by (simp only [pI, y2y, y3y, v4v, gl, nx, v2v, Nat.beq]; rfl)) ?_
 refine u7u rfl rfl ?_
 refine z8z rfl rfl y5y rfl rfl rfl rfl rfl (show _ = [pI X0.1, pI X1.1, pI (a1b bs X1.2).1, pI 0, pI 0] from rfl) ?_
 obtain ⟨X2, hX2⟩ : ∃ X, a1b bs X1.2 = X := ⟨_, rfl⟩
 rw [hX2]
 have hx2 : X2.2.at' ≤ bs.length := by rw [← hX2]; exact s4s hx1
 refine hK17 _ _ ?_
 clear hK17 K17
 refine y0y x9x (by rfl) ?_
 refine u5u (.int .i64 3) rfl rfl rfl (q3q rfl (by omega) (by omega) (by omega)) ?_
 refine x0x rfl ?_
 refine hK14 _ _ ?_
 clear hK14 K14
 refine p0p fun K18 hK18 => ?_
 refine x7x x9x (by rfl) ?_
 refine z0z rfl rfl rfl ?_
 refine x8x fun K19 hK19 => ?_
 refine y1y rfl (fun hc20 => ?_) (fun hc20 => ?_)
 rotate_left
 ·simp at hc20
 try simp at hc20
 refine y8y ?_
 refine hK19 _ _ ?_
 clear hK19 K19
 refine x8x fun K21 hK21 => ?_
 refine y7y ?_
 refine x7x x9x (by rfl) ?_
 refine w6w (f := fun n : Nat => [AV.ptr 1 _ n]) (l := [0, 1, 2, 3, 4]) (j := 3) rfl rfl a5r rfl a1w rfl rfl (by decide) ?_
 refine w8w (f := fun n : Nat => [AV.ptr 1 _ n]) (l := [0, 1, 2, 3, 4]) rfl a1w rfl (show ([0, 1, 2, 3, 4] : List Nat)[3]? = some 3 from rfl) rfl ?_
 refine x2x rfl ?_
 refine y0y x9x (by rfl) ?_
 refine x0x rfl ?_
 refine x0x rfl ?_
 refine z1z [0] [_] (u4u c bs hbs hbl X2.2 hx2) rfl rfl rfl (by decide) rfl rfl (by repeat (first | exact InH.nil | refine InH.cons rfl ?_)) (by (simp only [pI, y2y, y3y, v4v, gl, nx, v2v, Nat.beq]; rfl)) (by (simp only [pI, y2y, y3y, v4v, gl, nx, v2v, Nat.beq]; rfl)) ?_
 refine u7u rfl rfl ?_
 refine z8z rfl rfl y5y rfl rfl rfl rfl rfl (show _ = [pI X0.1, pI X1.1, pI X2.1, pI (a1b bs X2.2).1, pI 0] from rfl) ?_
 obtain ⟨X3, hX3⟩ : ∃ X, a1b bs X2.2 = X := ⟨_, rfl⟩
 rw [hX3]
 have hx3 : X3.2.at' ≤ bs.length := by rw [← hX3]; exact s4s hx2
 refine hK21 _ _ ?_
 clear hK21 K21
 refine y0y x9x (by rfl) ?_
 refine u5u (.int .i64 4) rfl rfl rfl (q3q rfl (by omega) (by omega) (by omega)) ?_
 refine x0x rfl ?_
 refine hK18 _ _ ?_
 clear hK18 K18
 refine p0p fun K22 hK22 => ?_
 refine x7x x9x (by rfl) ?_
 refine z0z rfl rfl rfl ?_
 refine x8x fun K23 hK23 => ?_
 refine y1y rfl (fun hc24 => ?_) (fun hc24 => ?_)
 rotate_left
 ·simp at hc24
 try simp at hc24
 refine y8y ?_
 refine hK23 _ _ ?_
 clear hK23 K23
 refine x8x fun K25 hK25 => ?_
 refine y7y ?_
 refine x7x x9x (by rfl) ?_
 refine w6w (f := fun n : Nat => [AV.ptr 1 _ n]) (l := [0, 1, 2, 3, 4]) (j := 4) rfl rfl a5r rfl a1w rfl rfl (by decide) ?_
 refine w8w (f := fun n : Nat => [AV.ptr 1 _ n]) (l := [0, 1, 2, 3, 4]) rfl a1w rfl (show ([0, 1, 2, 3, 4] : List Nat)[4]? = some 4 from rfl) rfl ?_
 refine x2x rfl ?_
 refine y0y x9x (by rfl) ?_
 refine x0x rfl ?_
 refine x0x rfl ?_
 refine z1z [0] [_] (u4u c bs hbs hbl X3.2 hx3) rfl rfl rfl (by decide) rfl rfl (by repeat (first | exact InH.nil | refine InH.cons rfl ?_)) (by (simp only [pI, y2y, y3y, v4v, gl, nx, v2v, Nat.beq]; rfl)) (by (simp only [pI, y2y, y3y, v4v, gl, nx, v2v, Nat.beq]; rfl)) ?_
 refine u7u rfl rfl ?_
 refine z8z rfl rfl y5y rfl rfl rfl rfl rfl (show _ = [pI X0.1, pI X1.1, pI X2.1, pI X3.1, pI (a1b bs X3.2).1] from rfl) ?_
 obtain ⟨X4, hX4⟩ : ∃ X, a1b bs X3.2 = X := ⟨_, rfl⟩
 rw [hX4]
 have hx4 : X4.2.at' ≤ bs.length := by rw [← hX4]; exact s4s hx3
 refine hK25 _ _ ?_
 clear hK25 K25
 refine y0y x9x (by rfl) ?_
 refine u5u (.int .i64 5) rfl rfl rfl (q3q rfl (by omega) (by omega) (by omega)) ?_
 refine x0x rfl ?_
 refine hK22 _ _ ?_
 clear hK22 K22
 refine p0p fun K26 hK26 => ?_
 refine x7x x9x (by rfl) ?_
 refine z0z rfl rfl rfl ?_
 refine x8x fun K27 hK27 => ?_
 refine y1y rfl (fun hc28 => ?_) (fun hc28 => ?_)
 ·simp at hc28
 try simp at hc28
 refine v7v ?_
 refine hK5 _ _ ?_
 clear hK27 K27 hK26 K26 hK5 K5
 refine y0y x9x (by rfl) ?_
 refine x0x rfl ?_
 refine z3z rfl v8v rfl rfl rfl ?_
 refine a0s (id := 3) w5w rfl v8v rfl rfl rfl rfl rfl rfl ?_
 have hQ : a4e bs 5 q = ([X0.1, X1.1, X2.1, X3.1, X4.1], X4.2) := by simp only [a4e, hX0, hX1, hX2, hX3, hX4]
 have hS : b5j bs (C.1.toNat - i) q = (b5r [X0.1, X1.1, X2.1, X3.1, X4.1] :: (b5j bs (C.1.toNat - (i + 1)) X4.2).1, (b5j bs (C.1.toNat - (i + 1)) X4.2).2) := by rw [show C.1.toNat - i = (C.1.toNat - (i + 1)) + 1 by omega]; show (b5r (a4e bs 5 q).1 :: (b5j bs _ (a4e bs 5 q).2).1, _) = _; rw [hQ]
 refine r7r (zs := (l ++ [b5r [X0.1, X1.1, X2.1, X3.1, X4.1]]).map a2c) rfl rfl w5w rfl v8v rfl rfl rfl rfl (by rfl) (by rw [List.map_append]; rfl) (by (simp only [List.length_map, List.length_append, List.length_cons, List.length_nil, List.length_take, T84]; omega)) ?_
 refine x2x rfl ?_
 refine hK4 _ _ ?_
 clear hK4 K4
 refine y0y x9x (by rfl) ?_
 refine a0j rfl rfl rfl ?_
 refine x0x rfl ?_
 exact ⟨(l ++ [b5r [X0.1, X1.1, X2.1, X3.1, X4.1]], i + 1, X4.2), ⟨⟨by show i + 1 ≤ C.1.toNat; omega, by show (l ++ [_]).length = i + 1; rw [List.length_append, h2]; rfl, hx4, by show (l ++ [_]) ++ (b5j bs (C.1.toNat - (i + 1)) _).1 = F.1; rw [hS] at h4; rw [← h4, List.append_assoc]; rfl, by show (b5j bs (C.1.toNat - (i + 1)) _).2 = F.2; rw [hS] at h5; exact h5⟩, (by show C.1.toNat - (i + 1) < C.1.toNat - i; omega)⟩, [0, _, _, _, _, _], (x5x 3 rfl (Cov.cons' (t := 9) rfl (by rw [w0w (by omega) (by omega)]; rfl) Cov.nil)), (x5x 0 rfl (x5x 8 rfl Cov.nil)), (HE.row rfl rfl (HE.kill rfl (HE.kill rfl (HE.kill rfl (HE.kill rfl (HE.box rfl rfl HE.nil)))))), HE.nil, rfl⟩
end
section
theorem a3l (c c' : Bool) (l l' : List Nat) : a2g Try.prog 27 [v5v c l, v5v c' l'] (.pv (.bool (decide (l = l')))) := by
 refine u9u x9x (fn := Try.f27) (by kernel_rfl) (by kernel_rfl) rfl (outs := [.pv (.bool (decide (l = l')))]) (by rfl) (u3u rfl) 0 ?_
 refine s1s 0 rfl fun hlen => ?_
 refine x7x x9x (by rfl) ?_
 refine x2x rfl ?_
 refine x8x fun K1 hK1 => ?_
 refine x7x x9x (by rfl) ?_
 refine x0x rfl ?_
 refine v3v rfl v6v rfl ?_
 refine x0x rfl ?_
 refine v3v rfl v6v rfl ?_
 refine z0z rfl rfl rfl ?_
 refine y1y rfl (fun hc2 => ?_) (fun hc2 => ?_)
 ·try simp at hc2
  refine x7x x9x (by rfl) ?_
  refine x2x rfl ?_
  refine y6y ⟨.inr rfl, ?_⟩
  clear hK1 K1
  refine z9z rfl ?_ rfl
  exact c7v (by omega)
 try simp at hc2
 refine y8y ?_
 refine hK1 _ _ ?_
 clear hK1 K1
 refine x8x fun K3 hK3 => ?_
 refine x7x x9x (by rfl) ?_
 refine x0x rfl ?_
 refine v3v rfl v6v rfl ?_
 refine x0x rfl ?_
 refine y7y ?_
 refine v9v (ι := Nat) (fun i γ1 => [(13, .pv (.int .i64 (i : Int)))]) (fun i γ1 => []) (fun i => i ≤ l.length ∧ l.length = l'.length ∧ l.take i = l'.take i) (fun i => l.length - i) (x5x 0 rfl (x5x 1 rfl (x5x 12 rfl Cov.nil))) HE.nil 0 ⟨by omega, by omega, rfl⟩ [] (x5x 13 rfl Cov.nil) HE.nil rfl fun i γ1 hi => ?_
 try dsimp only [List.cons_append, List.nil_append]
 obtain ⟨h1, h2, h3⟩ := hi
 refine x7x x9x (by rfl) ?_
 refine z0z rfl rfl rfl ?_
 refine x8x fun K4 hK4 => ?_
 refine y1y rfl (fun hc5 => ?_) (fun hc5 => ?_)
 rotate_left
 ·try simp at hc5
  refine v7v ?_
  refine hK3 _ _ ?_
  clear hK4 K4 hK3 K3
  refine x7x x9x (by rfl) ?_
  refine x2x rfl ?_
  refine y6y ⟨.inr rfl, ?_⟩
  refine z9z rfl ?_ rfl
  exact eqT h3 (by omega) (by omega)
 try simp at hc5
 obtain ⟨x, hx⟩ : ∃ x, l[i]? = some x := s8s (by omega)
 obtain ⟨y, hy⟩ : ∃ y, l'[i]? = some y := s8s (by omega)
 refine y8y ?_
 refine hK4 _ _ ?_
 clear hK4 K4
 refine x8x fun K6 hK6 => ?_
 refine y7y ?_
 refine x7x x9x (by rfl) ?_
 refine x0x rfl ?_
 refine x2x rfl ?_
 refine q5q x9x s7s (by rfl) ?_
 refine x0x rfl ?_
 refine x0x rfl ?_
 refine v0v rfl rfl v6v rfl a0o rfl hx ?_
 refine z6z rfl a0o rfl ?_
 refine x0x rfl ?_
 refine x0x rfl ?_
 refine v0v rfl rfl v6v rfl a0o rfl hy ?_
 refine z6z rfl a0o rfl ?_
 refine z0z rfl rfl rfl ?_
 refine ⟨by kernel_rfl, ?_⟩
 refine y1y rfl (fun hc7 => ?_) (fun hc7 => ?_)
 rotate_left
 ·try simp at hc7
  have hxy : x = y := by omega
  refine y8y ?_
  refine hK6 _ _ ?_
  clear hK6 K6
  refine y0y x9x (by rfl) ?_
  refine r0r (b := 1) rfl rfl (by omega) ?_
  refine x0x rfl ?_
  exact ⟨i + 1, ⟨⟨by omega, h2, a7k h3 hx hy hxy⟩, by omega⟩, [], (x5x 13 rfl Cov.nil), (x5x 0 rfl (x5x 1 rfl (x5x 12 rfl Cov.nil))), HE.nil, HE.nil, rfl⟩
 try simp at hc7
 have hxy : ¬ x = y := by omega
 refine x7x x9x (by rfl) ?_
 refine x2x rfl ?_
 refine y6y ⟨.inr rfl, ?_⟩
 clear hK6 K6 hK3 K3
 refine z9z rfl ?_ rfl
 exact c7w hx hy hxy
end
section
set_option maxRecDepth 20000 in
theorem a8s (c : Bool) (bs : List Nat) (hbs : ∀ b ∈ bs, b < 256) (hbl : bs.length ≤ 100000000) : a2g Try.prog 7 [v5v c bs] (.tup [.agg (a5s true (a2f bs).1), .pv (.bool (a2f bs).2)]) := by
 refine u9u x9x (fn := Try.f7) (by kernel_rfl) (by kernel_rfl) rfl (outs := [.agg (a5s true (a2f bs).1), .pv (.bool (a2f bs).2)]) (by rfl) (u3u rfl) 4 ?_
 refine x7x x9x (by rfl) ?_
 refine q0q (id := 0) z5z a2y rfl ?_
 refine x2x rfl ?_
 refine x7x x9x (by rfl) ?_
 refine x0x rfl ?_
 refine r3r s2s rfl c8d rfl (by simp only [pI, y5y, T3, v6v, T22, a1v, T48, a0v, p2p, AV.okc, AV.one, Value.oneCell', List.map_cons, List.map_nil, List.getElem?_cons_zero, List.getElem?_cons_succ, List.take_succ_cons, List.take_zero, List.drop_succ_cons, List.drop_zero, List.cons_append, List.nil_append, List.length_cons, List.length_nil, if_true, and_self, Nat.reduceAdd, Nat.reduceLeDiff]; rfl) ?_
 refine r5r (id := 1) rfl rfl rfl ?_
 refine x2x rfl ?_
 refine x7x x9x (by rfl) ?_
 refine q0q (id := 2) z5z a2y rfl ?_
 refine x8x fun K1 hK1 => ?_
 refine x7x x9x (by rfl) ?_
 refine x1x rfl z5z rfl rfl y5y rfl rfl ?_
 refine x1x rfl z5z rfl rfl y5y rfl rfl ?_
 refine x1x rfl z5z rfl rfl y5y rfl rfl ?_
 refine x1x rfl z5z rfl rfl y5y rfl rfl ?_
 refine x1x rfl z5z rfl rfl y5y rfl rfl ?_
 refine x1x rfl z5z rfl rfl y5y rfl rfl ?_
 refine x1x rfl z5z rfl rfl y5y rfl rfl ?_
 refine u0u (id := 3) a5r rfl a1w rfl rfl rfl rfl (.val rfl rfl (.val rfl rfl (.val rfl rfl (.val rfl rfl (.val rfl rfl (.val rfl rfl (.val rfl rfl .nil))))))) rfl (u3u rfl) (u3u rfl) (u3u rfl) rfl rfl ?_
 refine a2o (n := 7) rfl a5r rfl rfl rfl ?_
 refine x0x rfl ?_
 refine y7y ?_
 refine a3i 8 ?_
 refine p0p fun K2 hK2 => ?_
 refine x7x x9x (by rfl) ?_
 refine z0z rfl rfl rfl ?_
 refine x8x fun K3 hK3 => ?_
 refine y1y rfl (fun hc4 => ?_) (fun hc4 => ?_)
 rotate_left
 ·simp at hc4
 try simp at hc4
 refine y8y ?_
 refine hK3 _ _ ?_
 clear hK3 K3
 refine x8x fun K5 hK5 => ?_
 refine y7y ?_
 refine x7x x9x (by rfl) ?_
 refine w6w (f := fun n : Nat => [AV.ptr 2 _ n]) (l := [0, 1, 2, 3, 4, 5, 6]) (j := 0) rfl rfl a5r rfl a1w rfl rfl (by decide) ?_
 refine w8w (f := fun n : Nat => [AV.ptr 2 _ n]) (l := [0, 1, 2, 3, 4, 5, 6]) rfl a1w rfl (show ([0, 1, 2, 3, 4, 5, 6] : List Nat)[0]? = some 0 from rfl) rfl ?_
 refine x2x rfl ?_
 refine y0y x9x (by rfl) ?_
 refine x0x rfl ?_
 refine x0x rfl ?_
 refine z1z [1] [_] (u4u c bs hbs hbl (⟨0, none⟩ : Up) (Nat.zero_le _)) rfl rfl rfl (by decide) rfl rfl (by repeat (first | exact InH.nil | refine InH.cons rfl ?_)) (by (simp only [pI, y2y, y3y, v4v, gl, nx, v2v, Nat.beq]; rfl)) (by (simp only [pI, y2y, y3y, v4v, gl, nx, v2v, Nat.beq]; rfl)) ?_
 refine u7u rfl rfl ?_
 refine z8z rfl rfl y5y rfl rfl rfl rfl rfl (show _ = [pI (a1b bs (⟨0, none⟩ : Up)).1, pI 0, pI 0, pI 0, pI 0, pI 0, pI 0, .pv (.slice none 0 0), .pv (.slice none 0 0), .pv (.slice none 0 0), .pv (.slice none 0 0)] from rfl) ?_
 obtain ⟨X0, hX0⟩ : ∃ X, a1b bs (⟨0, none⟩ : Up) = X := ⟨_, rfl⟩
 rw [hX0]
 have hx0 : X0.2.at' ≤ bs.length := by rw [← hX0]; exact s4s (Nat.zero_le _)
 refine hK5 _ _ ?_
 clear hK5 K5
 refine y0y x9x (by rfl) ?_
 refine u5u (.int .i64 1) rfl rfl rfl (q3q rfl (by omega) (by omega) (by omega)) ?_
 refine x0x rfl ?_
 refine hK2 _ _ ?_
 clear hK2 K2
 refine p0p fun K6 hK6 => ?_
 refine x7x x9x (by rfl) ?_
 refine z0z rfl rfl rfl ?_
 refine x8x fun K7 hK7 => ?_
 refine y1y rfl (fun hc8 => ?_) (fun hc8 => ?_)
 rotate_left
 ·simp at hc8
 try simp at hc8
 refine y8y ?_
 refine hK7 _ _ ?_
 clear hK7 K7
 refine x8x fun K9 hK9 => ?_
 refine y7y ?_
 refine x7x x9x (by rfl) ?_
 refine w6w (f := fun n : Nat => [AV.ptr 2 _ n]) (l := [0, 1, 2, 3, 4, 5, 6]) (j := 1) rfl rfl a5r rfl a1w rfl rfl (by decide) ?_
 refine w8w (f := fun n : Nat => [AV.ptr 2 _ n]) (l := [0, 1, 2, 3, 4, 5, 6]) rfl a1w rfl (show ([0, 1, 2, 3, 4, 5, 6] : List Nat)[1]? = some 1 from rfl) rfl ?_
 refine x2x rfl ?_
 refine y0y x9x (by rfl) ?_
 refine x0x rfl ?_
 refine x0x rfl ?_
 refine z1z [1] [_] (u4u c bs hbs hbl X0.2 hx0) rfl rfl rfl (by decide) rfl rfl (by repeat (first | exact InH.nil | refine InH.cons rfl ?_)) (by (simp only [pI, y2y, y3y, v4v, gl, nx, v2v, Nat.beq]; rfl)) (by (simp only [pI, y2y, y3y, v4v, gl, nx, v2v, Nat.beq]; rfl)) ?_
 refine u7u rfl rfl ?_
 refine z8z rfl rfl y5y rfl rfl rfl rfl rfl (show _ = [pI X0.1, pI (a1b bs X0.2).1, pI 0, pI 0, pI 0, pI 0, pI 0, .pv (.slice none 0 0), .pv (.slice none 0 0), .pv (.slice none 0 0), .pv (.slice none 0 0)] from rfl) ?_
 obtain ⟨X1, hX1⟩ : ∃ X, a1b bs X0.2 = X := ⟨_, rfl⟩
 rw [hX1]
 have hx1 : X1.2.at' ≤ bs.length := by rw [← hX1]; exact s4s hx0
 refine hK9 _ _ ?_
 clear hK9 K9
 refine y0y x9x (by rfl) ?_
 refine u5u (.int .i64 2) rfl rfl rfl (q3q rfl (by omega) (by omega) (by omega)) ?_
 refine x0x rfl ?_
 refine hK6 _ _ ?_
 clear hK6 K6
 refine p0p fun K10 hK10 => ?_
 refine x7x x9x (by rfl) ?_
 refine z0z rfl rfl rfl ?_
 refine x8x fun K11 hK11 => ?_
 refine y1y rfl (fun hc12 => ?_) (fun hc12 => ?_)
 rotate_left
 ·simp at hc12
 try simp at hc12
 refine y8y ?_
 refine hK11 _ _ ?_
 clear hK11 K11
 refine x8x fun K13 hK13 => ?_
 refine y7y ?_
 refine x7x x9x (by rfl) ?_
 refine w6w (f := fun n : Nat => [AV.ptr 2 _ n]) (l := [0, 1, 2, 3, 4, 5, 6]) (j := 2) rfl rfl a5r rfl a1w rfl rfl (by decide) ?_
 refine w8w (f := fun n : Nat => [AV.ptr 2 _ n]) (l := [0, 1, 2, 3, 4, 5, 6]) rfl a1w rfl (show ([0, 1, 2, 3, 4, 5, 6] : List Nat)[2]? = some 2 from rfl) rfl ?_
 refine x2x rfl ?_
 refine y0y x9x (by rfl) ?_
 refine x0x rfl ?_
 refine x0x rfl ?_
 refine z1z [1] [_] (u4u c bs hbs hbl X1.2 hx1) rfl rfl rfl (by decide) rfl rfl (by repeat (first | exact InH.nil | refine InH.cons rfl ?_)) (by (simp only [pI, y2y, y3y, v4v, gl, nx, v2v, Nat.beq]; rfl)) (by (simp only [pI, y2y, y3y, v4v, gl, nx, v2v, Nat.beq]; rfl)) ?_
 refine u7u rfl rfl ?_
 refine z8z rfl rfl y5y rfl rfl rfl rfl rfl (show _ = [pI X0.1, pI X1.1, pI (a1b bs X1.2).1, pI 0, pI 0, pI 0, pI 0, .pv (.slice none 0 0), .pv (.slice none 0 0), .pv (.slice none 0 0), .pv (.slice none 0 0)] from rfl) ?_
 obtain ⟨X2, hX2⟩ : ∃ X, a1b bs X1.2 = X := ⟨_, rfl⟩
 rw [hX2]
 have hx2 : X2.2.at' ≤ bs.length := by rw [← hX2]; exact s4s hx1
 refine hK13 _ _ ?_
 clear hK13 K13
 refine y0y x9x (by rfl) ?_
 refine u5u (.int .i64 3) rfl rfl rfl (q3q rfl (by omega) (by omega) (by omega)) ?_
 refine x0x rfl ?_
 refine hK10 _ _ ?_
 clear hK10 K10
 refine p0p fun K14 hK14 => ?_
 refine x7x x9x (by rfl) ?_
 refine z0z rfl rfl rfl ?_
 refine x8x fun K15 hK15 => ?_
 refine y1y rfl (fun hc16 => ?_) (fun hc16 => ?_)
 rotate_left
 ·simp at hc16
 try simp at hc16
 refine y8y ?_
 refine hK15 _ _ ?_
 clear hK15 K15
 refine x8x fun K17 hK17 => ?_
 refine y7y ?_
 refine x7x x9x (by rfl) ?_
 refine w6w (f := fun n : Nat => [AV.ptr 2 _ n]) (l := [0, 1, 2, 3, 4, 5, 6]) (j := 3) rfl rfl a5r rfl a1w rfl rfl (by decide) ?_
 refine w8w (f := fun n : Nat => [AV.ptr 2 _ n]) (l := [0, 1, 2, 3, 4, 5, 6]) rfl a1w rfl (show ([0, 1, 2, 3, 4, 5, 6] : List Nat)[3]? = some 3 from rfl) rfl ?_
 refine x2x rfl ?_
 refine y0y x9x (by rfl) ?_
 refine x0x rfl ?_
 refine x0x rfl ?_
 refine z1z [1] [_] (u4u c bs hbs hbl X2.2 hx2) rfl rfl rfl (by decide) rfl rfl (by repeat (first | exact InH.nil | refine InH.cons rfl ?_)) (by (simp only [pI, y2y, y3y, v4v, gl, nx, v2v, Nat.beq]; rfl)) (by (simp only [pI, y2y, y3y, v4v, gl, nx, v2v, Nat.beq]; rfl)) ?_
 refine u7u rfl rfl ?_
 refine z8z rfl rfl y5y rfl rfl rfl rfl rfl (show _ = [pI X0.1, pI X1.1, pI X2.1, pI (a1b bs X2.2).1, pI 0, pI 0, pI 0, .pv (.slice none 0 0), .pv (.slice none 0 0), .pv (.slice none 0 0), .pv (.slice none 0 0)] from rfl) ?_
 obtain ⟨X3, hX3⟩ : ∃ X, a1b bs X2.2 = X := ⟨_, rfl⟩
 rw [hX3]
 have hx3 : X3.2.at' ≤ bs.length := by rw [← hX3]; exact s4s hx2
 refine hK17 _ _ ?_
 clear hK17 K17
 refine y0y x9x (by rfl) ?_
 refine u5u (.int .i64 4) rfl rfl rfl (q3q rfl (by omega) (by omega) (by omega)) ?_
 refine x0x rfl ?_
 refine hK14 _ _ ?_
 clear hK14 K14
 refine p0p fun K18 hK18 => ?_
 refine x7x x9x (by rfl) ?_
 refine z0z rfl rfl rfl ?_
 refine x8x fun K19 hK19 => ?_
 refine y1y rfl (fun hc20 => ?_) (fun hc20 => ?_)
 rotate_left
 ·simp at hc20
 try simp at hc20
 refine y8y ?_
 refine hK19 _ _ ?_
 clear hK19 K19
 refine x8x fun K21 hK21 => ?_
 refine y7y ?_
 refine x7x x9x (by rfl) ?_
 refine w6w (f := fun n : Nat => [AV.ptr 2 _ n]) (l := [0, 1, 2, 3, 4, 5, 6]) (j := 4) rfl rfl a5r rfl a1w rfl rfl (by decide) ?_
 refine w8w (f := fun n : Nat => [AV.ptr 2 _ n]) (l := [0, 1, 2, 3, 4, 5, 6]) rfl a1w rfl (show ([0, 1, 2, 3, 4, 5, 6] : List Nat)[4]? = some 4 from rfl) rfl ?_
 refine x2x rfl ?_
 refine y0y x9x (by rfl) ?_
 refine x0x rfl ?_
 refine x0x rfl ?_
 refine z1z [1] [_] (u4u c bs hbs hbl X3.2 hx3) rfl rfl rfl (by decide) rfl rfl (by repeat (first | exact InH.nil | refine InH.cons rfl ?_)) (by (simp only [pI, y2y, y3y, v4v, gl, nx, v2v, Nat.beq]; rfl)) (by (simp only [pI, y2y, y3y, v4v, gl, nx, v2v, Nat.beq]; rfl)) ?_
 refine u7u rfl rfl ?_
 refine z8z rfl rfl y5y rfl rfl rfl rfl rfl (show _ = [pI X0.1, pI X1.1, pI X2.1, pI X3.1, pI (a1b bs X3.2).1, pI 0, pI 0, .pv (.slice none 0 0), .pv (.slice none 0 0), .pv (.slice none 0 0), .pv (.slice none 0 0)] from rfl) ?_
 obtain ⟨X4, hX4⟩ : ∃ X, a1b bs X3.2 = X := ⟨_, rfl⟩
 rw [hX4]
 have hx4 : X4.2.at' ≤ bs.length := by rw [← hX4]; exact s4s hx3
 refine hK21 _ _ ?_
 clear hK21 K21
 refine y0y x9x (by rfl) ?_
 refine u5u (.int .i64 5) rfl rfl rfl (q3q rfl (by omega) (by omega) (by omega)) ?_
 refine x0x rfl ?_
 refine hK18 _ _ ?_
 clear hK18 K18
 refine p0p fun K22 hK22 => ?_
 refine x7x x9x (by rfl) ?_
 refine z0z rfl rfl rfl ?_
 refine x8x fun K23 hK23 => ?_
 refine y1y rfl (fun hc24 => ?_) (fun hc24 => ?_)
 rotate_left
 ·simp at hc24
 try simp at hc24
 refine y8y ?_
 refine hK23 _ _ ?_
 clear hK23 K23
 refine x8x fun K25 hK25 => ?_
 refine y7y ?_
 refine x7x x9x (by rfl) ?_
 refine w6w (f := fun n : Nat => [AV.ptr 2 _ n]) (l := [0, 1, 2, 3, 4, 5, 6]) (j := 5) rfl rfl a5r rfl a1w rfl rfl (by decide) ?_
 refine w8w (f := fun n : Nat => [AV.ptr 2 _ n]) (l := [0, 1, 2, 3, 4, 5, 6]) rfl a1w rfl (show ([0, 1, 2, 3, 4, 5, 6] : List Nat)[5]? = some 5 from rfl) rfl ?_
 refine x2x rfl ?_
 refine y0y x9x (by rfl) ?_
 refine x0x rfl ?_
 refine x0x rfl ?_
 refine z1z [1] [_] (u4u c bs hbs hbl X4.2 hx4) rfl rfl rfl (by decide) rfl rfl (by repeat (first | exact InH.nil | refine InH.cons rfl ?_)) (by (simp only [pI, y2y, y3y, v4v, gl, nx, v2v, Nat.beq]; rfl)) (by (simp only [pI, y2y, y3y, v4v, gl, nx, v2v, Nat.beq]; rfl)) ?_
 refine u7u rfl rfl ?_
 refine z8z rfl rfl y5y rfl rfl rfl rfl rfl (show _ = [pI X0.1, pI X1.1, pI X2.1, pI X3.1, pI X4.1, pI (a1b bs X4.2).1, pI 0, .pv (.slice none 0 0), .pv (.slice none 0 0), .pv (.slice none 0 0), .pv (.slice none 0 0)] from rfl) ?_
 obtain ⟨X5, hX5⟩ : ∃ X, a1b bs X4.2 = X := ⟨_, rfl⟩
 rw [hX5]
 have hx5 : X5.2.at' ≤ bs.length := by rw [← hX5]; exact s4s hx4
 refine hK25 _ _ ?_
 clear hK25 K25
 refine y0y x9x (by rfl) ?_
 refine u5u (.int .i64 6) rfl rfl rfl (q3q rfl (by omega) (by omega) (by omega)) ?_
 refine x0x rfl ?_
 refine hK22 _ _ ?_
 clear hK22 K22
 refine p0p fun K26 hK26 => ?_
 refine x7x x9x (by rfl) ?_
 refine z0z rfl rfl rfl ?_
 refine x8x fun K27 hK27 => ?_
 refine y1y rfl (fun hc28 => ?_) (fun hc28 => ?_)
 rotate_left
 ·simp at hc28
 try simp at hc28
 refine y8y ?_
 refine hK27 _ _ ?_
 clear hK27 K27
 refine x8x fun K29 hK29 => ?_
 refine y7y ?_
 refine x7x x9x (by rfl) ?_
 refine w6w (f := fun n : Nat => [AV.ptr 2 _ n]) (l := [0, 1, 2, 3, 4, 5, 6]) (j := 6) rfl rfl a5r rfl a1w rfl rfl (by decide) ?_
 refine w8w (f := fun n : Nat => [AV.ptr 2 _ n]) (l := [0, 1, 2, 3, 4, 5, 6]) rfl a1w rfl (show ([0, 1, 2, 3, 4, 5, 6] : List Nat)[6]? = some 6 from rfl) rfl ?_
 refine x2x rfl ?_
 refine y0y x9x (by rfl) ?_
 refine x0x rfl ?_
 refine x0x rfl ?_
 refine z1z [1] [_] (u4u c bs hbs hbl X5.2 hx5) rfl rfl rfl (by decide) rfl rfl (by repeat (first | exact InH.nil | refine InH.cons rfl ?_)) (by (simp only [pI, y2y, y3y, v4v, gl, nx, v2v, Nat.beq]; rfl)) (by (simp only [pI, y2y, y3y, v4v, gl, nx, v2v, Nat.beq]; rfl)) ?_
 refine u7u rfl rfl ?_
 refine z8z rfl rfl y5y rfl rfl rfl rfl rfl (show _ = [pI X0.1, pI X1.1, pI X2.1, pI X3.1, pI X4.1, pI X5.1, pI (a1b bs X5.2).1, .pv (.slice none 0 0), .pv (.slice none 0 0), .pv (.slice none 0 0), .pv (.slice none 0 0)] from rfl) ?_
 obtain ⟨X6, hX6⟩ : ∃ X, a1b bs X5.2 = X := ⟨_, rfl⟩
 rw [hX6]
 have hx6 : X6.2.at' ≤ bs.length := by rw [← hX6]; exact s4s hx5
 refine hK29 _ _ ?_
 clear hK29 K29
 refine y0y x9x (by rfl) ?_
 refine u5u (.int .i64 7) rfl rfl rfl (q3q rfl (by omega) (by omega) (by omega)) ?_
 refine x0x rfl ?_
 refine hK26 _ _ ?_
 clear hK26 K26
 refine p0p fun K30 hK30 => ?_
 refine x7x x9x (by rfl) ?_
 refine z0z rfl rfl rfl ?_
 refine x8x fun K31 hK31 => ?_
 refine y1y rfl (fun hc32 => ?_) (fun hc32 => ?_)
 ·simp at hc32
 try simp at hc32
 refine v7v ?_
 refine hK1 _ _ ?_
 clear hK31 K31 hK30 K30 hK1 K1
 refine x7x x9x (by rfl) ?_
 refine x0x rfl ?_
 refine z1z [1] [_] (a2h c bs hbs hbl X6.2 hx6 3 (by omega) (by omega)) rfl rfl rfl (by decide) rfl rfl (by repeat (first | exact InH.nil | refine InH.cons rfl ?_)) (by (simp only [pI, y2y, y3y, v4v, gl, nx, v2v, Nat.beq]; rfl)) (by (simp only [pI, y2y, y3y, v4v, gl, nx, v2v, Nat.beq]; rfl)) ?_
 refine x1x rfl z5z rfl rfl u1u rfl rfl ?_
 refine z8z rfl rfl u1u rfl rfl rfl rfl rfl (by simp only [a2b]; rfl) ?_
 obtain ⟨A, hA⟩ : ∃ A, a9i bs 3 X6.2 = A := ⟨_, rfl⟩
 rw [hA]
 have hA2 : A.2.at' ≤ bs.length := by rw [← hA]; exact b3s (a3j hx6)
 refine x7x x9x (by rfl) ?_
 refine x0x rfl ?_
 refine z1z [1] [_] (a2h c bs hbs hbl A.2 hA2 3 (by omega) (by omega)) rfl rfl rfl (by decide) rfl rfl (by repeat (first | exact InH.nil | refine InH.cons rfl ?_)) (by (simp only [pI, y2y, y3y, v4v, gl, nx, v2v, Nat.beq]; rfl)) (by (simp only [pI, y2y, y3y, v4v, gl, nx, v2v, Nat.beq]; rfl)) ?_
 refine x1x rfl z5z rfl rfl u1u rfl rfl ?_
 refine z8z rfl rfl u1u rfl rfl rfl rfl rfl (by simp only [a2b]; rfl) ?_
 obtain ⟨B, hB⟩ : ∃ B, a9i bs 3 A.2 = B := ⟨_, rfl⟩
 rw [hB]
 have hB2 : B.2.at' ≤ bs.length := by rw [← hB]; exact b3s (a3j hA2)
 refine x7x x9x (by rfl) ?_
 refine x0x rfl ?_
 refine z1z [1] [_] (a4c c bs hbs hbl B.2 hB2) rfl rfl rfl (by decide) rfl rfl (by repeat (first | exact InH.nil | refine InH.cons rfl ?_)) (by (simp only [pI, y2y, y3y, v4v, gl, nx, v2v, Nat.beq]; rfl)) (by (simp only [pI, y2y, y3y, v4v, gl, nx, v2v, Nat.beq]; rfl)) ?_
 refine x1x rfl z5z rfl rfl w2w rfl rfl ?_
 refine z8z rfl rfl w2w rfl rfl rfl rfl rfl (by simp only [a2b]; rfl) ?_
 obtain ⟨E, hE⟩ : ∃ E, c2z bs B.2 = E := ⟨_, rfl⟩
 rw [hE]
 have hE2 : E.2.at' ≤ bs.length := by rw [← hE]; exact c1m (a3j hB2)
 refine x7x x9x (by rfl) ?_
 refine x0x rfl ?_
 refine z1z [1] [_] (a5w c bs hbs hbl E.2 hE2) rfl rfl rfl (by decide) rfl rfl (by repeat (first | exact InH.nil | refine InH.cons rfl ?_)) (by (simp only [pI, y2y, y3y, v4v, gl, nx, v2v, Nat.beq]; rfl)) (by (simp only [pI, y2y, y3y, v4v, gl, nx, v2v, Nat.beq]; rfl)) ?_
 refine x1x rfl z5z rfl rfl w5w rfl rfl ?_
 refine z8z rfl rfl w5w rfl rfl rfl rfl rfl (by simp only [a2b]; rfl) ?_
 obtain ⟨O, hO⟩ : ∃ O, c3a bs E.2 = O := ⟨_, rfl⟩
 rw [hO]
 have hH : uH bs = ([X0.1, X1.1, X2.1, X3.1, X4.1, X5.1, X6.1], X6.2) := by simp only [uH, a4e, hX0, hX1, hX2, hX3, hX4, hX5, hX6]
 have hA1 : uA bs = A := by unfold uA; rw [hH]; exact hA
 have hB1 : uB bs = B := by unfold uB; rw [hA1]; exact hB
 have hE1 : uE bs = E := by unfold uE; rw [hB1]; exact hE
 have hO1 : uO bs = O := by unfold uO; rw [hE1]; exact hO
 have hk : k12 O.2 := by rw [← hO1]; exact d0g bs
 have hWo : uWo bs = b9c [X0.1, X1.1, X2.1, X3.1, X4.1, X5.1, X6.1] A.1 B.1 E.1 O.1 := by unfold uWo; rw [hH, hA1, hB1, hE1, hO1]
 refine x8x fun K33 hK33 => ?_
 refine x7x x9x (by rfl) ?_
 refine x0x rfl ?_
 refine u7u rfl rfl ?_
 refine x1x rfl s2s rfl rfl a1v rfl rfl ?_
 refine x3x rfl a1v rfl rfl ?_
 refine c1i x9x rfl c4r rfl ?_
 refine z7z rfl rfl rfl (b1f O.2.err 1) ?_
 refine x0x rfl ?_
 refine a0d rfl rfl (fun hg34 => ?_) (fun hg34 => ?_)
 rotate_left
 ·try simp at hg34
  have hX : ¬ a8n bs := fun q => by have q1 := q.1; rw [hO1] at q1; rw [q1] at hg34; simp [isF] at hg34
  refine x4x rfl rfl ?_
  refine x4x rfl rfl ?_
  refine x4x rfl rfl ?_
  refine x4x rfl rfl ?_
  refine x4x rfl rfl ?_
  refine z4z rfl rfl ?_
  refine x0x rfl ?_
  refine x4x rfl rfl ?_
  refine x4x rfl rfl ?_
  refine x4x rfl rfl ?_
  refine x4x rfl rfl ?_
  refine x4x rfl rfl ?_
  refine x4x rfl rfl ?_
  refine x4x rfl rfl ?_
  refine z4z rfl rfl ?_
  refine y1y rfl (fun hc42 => ?_) (fun hc42 => ?_)
  rotate_left
  ·simp at hc42
  try simp at hc42
  try have hX : ¬ a8n bs := fun q => by have q1 := q.2.1; rw [hO1] at q1; omega
  refine x7x x9x (by rfl) ?_
  refine r3r z5z rfl a2y rfl (by simp only [pI, y5y, T3, u1u, T24, w2w, T25, w5w, T26, a0v, p2p, AV.okc, AV.one, Value.oneCell', List.map_cons, List.map_nil, List.getElem?_cons_zero, List.getElem?_cons_succ, List.take_succ_cons, List.take_zero, List.drop_succ_cons, List.drop_zero, List.cons_append, List.nil_append, List.length_cons, List.length_nil, if_true, and_self, Nat.reduceAdd, Nat.reduceLeDiff]; rfl) ?_
  refine u2u rfl rfl z5z rfl rfl rfl rfl ?_
  refine x2x rfl ?_
  refine a5x 0 rfl (.same (.same (.same (.same (.same (.same (.same (.le (b := p1p true []) rfl .nil rfl (.le (b := p1p true []) rfl .nil rfl (.le (b := a7x true []) rfl .nil rfl (.le (b := a6n true []) rfl .nil rfl (LeCs.refl _)))))))))))) ?_
  rw [show a2f bs = (wo0, false) from if_neg hX]
  refine y6y ⟨.inr rfl, ?_⟩
  clear hK33 K33
  exact ⟨_, _, rfl, .agg rfl (.cl rfl (.cl rfl (.cl rfl (.cl rfl (.cl rfl (.cl rfl (.cl rfl (.cl rfl (.cl rfl (.cl rfl (.cl rfl .nil))))))))))) (.cl rfl .nil)⟩
 try simp at hg34
 have f1 : isF O.2.err 1 = false := by simpa using hg34
 refine x0x rfl ?_
 refine y9y rfl rfl ?_
 refine u7u rfl rfl ?_
 refine y9y rfl rfl ?_
 refine x1x rfl s2s rfl rfl a1v rfl rfl ?_
 refine y9y rfl rfl ?_
 refine x3x rfl a1v rfl rfl ?_
 refine y9y rfl rfl ?_
 refine c1i x9x rfl c4r rfl ?_
 refine y9y rfl rfl ?_
 refine z7z rfl rfl rfl (b1f O.2.err 2) ?_
 refine x6x rfl rfl ?_
 refine x0x rfl ?_
 refine a0d rfl rfl (fun hg35 => ?_) (fun hg35 => ?_)
 rotate_left
 ·try simp at hg35
  have hX : ¬ a8n bs := fun q => by have q1 := q.1; rw [hO1] at q1; rw [q1] at hg35; simp [isF] at hg35
  refine x4x rfl rfl ?_
  refine x4x rfl rfl ?_
  refine x4x rfl rfl ?_
  refine x4x rfl rfl ?_
  refine x4x rfl rfl ?_
  refine x4x rfl rfl ?_
  refine z4z rfl rfl ?_
  refine y1y rfl (fun hc41 => ?_) (fun hc41 => ?_)
  rotate_left
  ·simp at hc41
  try simp at hc41
  try have hX : ¬ a8n bs := fun q => by have q1 := q.2.1; rw [hO1] at q1; omega
  refine x7x x9x (by rfl) ?_
  refine r3r z5z rfl a2y rfl (by simp only [pI, y5y, T3, u1u, T24, w2w, T25, w5w, T26, a0v, p2p, AV.okc, AV.one, Value.oneCell', List.map_cons, List.map_nil, List.getElem?_cons_zero, List.getElem?_cons_succ, List.take_succ_cons, List.take_zero, List.drop_succ_cons, List.drop_zero, List.cons_append, List.nil_append, List.length_cons, List.length_nil, if_true, and_self, Nat.reduceAdd, Nat.reduceLeDiff]; rfl) ?_
  refine u2u rfl rfl z5z rfl rfl rfl rfl ?_
  refine x2x rfl ?_
  refine a5x 0 rfl (.same (.same (.same (.same (.same (.same (.same (.le (b := p1p true []) rfl .nil rfl (.le (b := p1p true []) rfl .nil rfl (.le (b := a7x true []) rfl .nil rfl (.le (b := a6n true []) rfl .nil rfl (LeCs.refl _)))))))))))) ?_
  rw [show a2f bs = (wo0, false) from if_neg hX]
  refine y6y ⟨.inr rfl, ?_⟩
  clear hK33 K33
  exact ⟨_, _, rfl, .agg rfl (.cl rfl (.cl rfl (.cl rfl (.cl rfl (.cl rfl (.cl rfl (.cl rfl (.cl rfl (.cl rfl (.cl rfl (.cl rfl .nil))))))))))) (.cl rfl .nil)⟩
 try simp at hg35
 have f2 : isF O.2.err 2 = false := by simpa using hg35
 refine x0x rfl ?_
 refine y9y rfl rfl ?_
 refine u7u rfl rfl ?_
 refine y9y rfl rfl ?_
 refine x1x rfl s2s rfl rfl y5y rfl rfl ?_
 refine y9y rfl rfl ?_
 refine x3x rfl y5y rfl rfl ?_
 refine y9y rfl rfl ?_
 refine x0x rfl ?_
 refine y9y rfl rfl ?_
 refine v3v rfl v6v rfl ?_
 refine y9y rfl rfl ?_
 refine z0z rfl rfl rfl ?_
 refine x6x rfl rfl ?_
 refine y1y rfl (fun hc36 => ?_) (fun hc36 => ?_)
 ·try simp at hc36
  try have hX : ¬ a8n bs := fun q => by have q1 := q.2.1; rw [hO1] at q1; omega
  refine x7x x9x (by rfl) ?_
  refine r3r z5z rfl a2y rfl (by simp only [pI, y5y, T3, u1u, T24, w2w, T25, w5w, T26, a0v, p2p, AV.okc, AV.one, Value.oneCell', List.map_cons, List.map_nil, List.getElem?_cons_zero, List.getElem?_cons_succ, List.take_succ_cons, List.take_zero, List.drop_succ_cons, List.drop_zero, List.cons_append, List.nil_append, List.length_cons, List.length_nil, if_true, and_self, Nat.reduceAdd, Nat.reduceLeDiff]; rfl) ?_
  refine u2u rfl rfl z5z rfl rfl rfl rfl ?_
  refine x2x rfl ?_
  refine a5x 0 rfl (.same (.same (.same (.same (.same (.same (.same (.le (b := p1p true []) rfl .nil rfl (.le (b := p1p true []) rfl .nil rfl (.le (b := a7x true []) rfl .nil rfl (.le (b := a6n true []) rfl .nil rfl (LeCs.refl _)))))))))))) ?_
  rw [show a2f bs = (wo0, false) from if_neg hX]
  refine y6y ⟨.inr rfl, ?_⟩
  clear hK33 K33
  exact ⟨_, _, rfl, .agg rfl (.cl rfl (.cl rfl (.cl rfl (.cl rfl (.cl rfl (.cl rfl (.cl rfl (.cl rfl (.cl rfl (.cl rfl (.cl rfl .nil))))))))))) (.cl rfl .nil)⟩
 try simp at hc36
 have hG1 : O.2.err = none := c3g hk f1 f2
 have hG2 : O.2.at' = bs.length := by omega
 refine y8y ?_
 refine hK33 _ _ ?_
 clear hK33 K33
 refine x8x fun K37 hK37 => ?_
 refine x7x x9x (by rfl) ?_
 refine z3z rfl z5z rfl rfl rfl ?_
 refine z7z rfl rfl rfl (a2k true (b9c [X0.1, X1.1, X2.1, X3.1, X4.1, X5.1, X6.1] A.1 B.1 E.1 O.1)) ?_
 refine s6s rfl ?_
 refine x0x rfl ?_
 refine a0d rfl rfl (fun hg38 => ?_) (fun hg38 => ?_)
 rotate_left
 ·try simp at hg38
  have hX : ¬ a8n bs := fun q => by have q1 := q.2.2.1; rw [hWo] at q1; simp [q1] at hg38
  refine x4x rfl rfl ?_
  refine x4x rfl rfl ?_
  refine x4x rfl rfl ?_
  refine x4x rfl rfl ?_
  refine z4z rfl rfl ?_
  refine y1y rfl (fun hc40 => ?_) (fun hc40 => ?_)
  rotate_left
  ·simp at hc40
  try simp at hc40
  try have hX : ¬ a8n bs := fun q => by have q1 := q.2.2.2; rw [hWo] at q1; simp [q1] at hc40
  refine x7x x9x (by rfl) ?_
  refine r3r z5z rfl a2y rfl (by simp only [pI, y5y, T3, u1u, T24, w2w, T25, w5w, T26, a0v, p2p, AV.okc, AV.one, Value.oneCell', List.map_cons, List.map_nil, List.getElem?_cons_zero, List.getElem?_cons_succ, List.take_succ_cons, List.take_zero, List.drop_succ_cons, List.drop_zero, List.cons_append, List.nil_append, List.length_cons, List.length_nil, if_true, and_self, Nat.reduceAdd, Nat.reduceLeDiff]; rfl) ?_
  refine u2u rfl rfl z5z rfl rfl rfl rfl ?_
  refine x2x rfl ?_
  refine a5x 0 rfl (.same (.same (.same (.same (.same (.same (.same (.le (b := p1p true []) rfl .nil rfl (.le (b := p1p true []) rfl .nil rfl (.le (b := a7x true []) rfl .nil rfl (.le (b := a6n true []) rfl .nil rfl (LeCs.refl _)))))))))))) ?_
  rw [show a2f bs = (wo0, false) from if_neg hX]
  refine y6y ⟨.inr rfl, ?_⟩
  clear hK37 K37
  exact ⟨_, _, rfl, .agg rfl (.cl rfl (.cl rfl (.cl rfl (.cl rfl (.cl rfl (.cl rfl (.cl rfl (.cl rfl (.cl rfl (.cl rfl (.cl rfl .nil))))))))))) (.cl rfl .nil)⟩
 try simp at hg38
 have hw : s9s (b9c [X0.1, X1.1, X2.1, X3.1, X4.1, X5.1, X6.1] A.1 B.1 E.1 O.1) := by simpa using hg38
 refine z3z rfl z5z rfl rfl rfl ?_
 refine y9y rfl rfl ?_
 refine z7z rfl rfl rfl (a2q true (b9c [X0.1, X1.1, X2.1, X3.1, X4.1, X5.1, X6.1] A.1 B.1 E.1 O.1)) ?_
 refine y9y rfl rfl ?_
 refine x0x rfl ?_
 refine y9y rfl rfl ?_
 refine z7z rfl rfl rfl (a3l true c (a3u (b9c [X0.1, X1.1, X2.1, X3.1, X4.1, X5.1, X6.1] A.1 B.1 E.1 O.1)) bs) ?_
 refine y9y rfl rfl ?_
 refine s6s rfl ?_
 refine x6x rfl rfl ?_
 refine y1y rfl (fun hc39 => ?_) (fun hc39 => ?_)
 ·try simp at hc39
  try have hX : ¬ a8n bs := fun q => by have q1 := q.2.2.2; rw [hWo] at q1; simp [q1] at hc39
  refine x7x x9x (by rfl) ?_
  refine r3r z5z rfl a2y rfl (by simp only [pI, y5y, T3, u1u, T24, w2w, T25, w5w, T26, a0v, p2p, AV.okc, AV.one, Value.oneCell', List.map_cons, List.map_nil, List.getElem?_cons_zero, List.getElem?_cons_succ, List.take_succ_cons, List.take_zero, List.drop_succ_cons, List.drop_zero, List.cons_append, List.nil_append, List.length_cons, List.length_nil, if_true, and_self, Nat.reduceAdd, Nat.reduceLeDiff]; rfl) ?_
  refine u2u rfl rfl z5z rfl rfl rfl rfl ?_
  refine x2x rfl ?_
  refine a5x 0 rfl (.same (.same (.same (.same (.same (.same (.same (.le (b := p1p true []) rfl .nil rfl (.le (b := p1p true []) rfl .nil rfl (.le (b := a7x true []) rfl .nil rfl (.le (b := a6n true []) rfl .nil rfl (LeCs.refl _)))))))))))) ?_
  rw [show a2f bs = (wo0, false) from if_neg hX]
  refine y6y ⟨.inr rfl, ?_⟩
  clear hK37 K37
  exact ⟨_, _, rfl, .agg rfl (.cl rfl (.cl rfl (.cl rfl (.cl rfl (.cl rfl (.cl rfl (.cl rfl (.cl rfl (.cl rfl (.cl rfl (.cl rfl .nil))))))))))) (.cl rfl .nil)⟩
 try simp at hc39
 have hG : a8n bs := ⟨by rw [hO1]; exact hG1, by rw [hO1]; exact hG2, by rw [hWo]; exact hw, by rw [hWo]; simpa using hc39⟩
 refine y8y ?_
 refine hK37 _ _ ?_
 clear hK37 K37
 refine x7x x9x (by rfl) ?_
 refine z3z rfl z5z rfl rfl rfl ?_
 refine u2u rfl rfl z5z rfl rfl rfl rfl ?_
 refine x2x rfl ?_
 rw [show a2f bs = (uWo bs, true) from if_pos hG, hWo]
 refine y6y ⟨.inr rfl, ?_⟩
 exact ⟨_, _, rfl, .agg rfl (.cl rfl (.cl rfl (.cl rfl (.cl rfl (.cl rfl (.cl rfl (.cl rfl (.cl rfl (.cl rfl (.cl rfl (.cl rfl .nil))))))))))) (.cl rfl .nil)⟩
end
section
theorem a6l (bs : List Nat) (hbs : ∀ b ∈ bs, b < 256)  : a2g Try.prog 3 [v5v true bs] (.pv (.bool (true))) := by
 refine u9u x9x (fn := Try.f3) (by kernel_rfl) (by kernel_rfl) rfl (outs := [.pv (.bool (true))]) (by rfl) (u3u rfl) 2 ?_
 refine x7x x9x (by rfl) ?_
 refine x2x rfl ?_
 refine x8x fun K1 hK1 => ?_
 refine x7x x9x (by rfl) ?_
 refine x0x rfl ?_
 refine v3v rfl v6v rfl ?_
 refine z0z rfl rfl rfl ?_
 refine y1y rfl (fun hc2 => ?_) (fun hc2 => ?_)
 ·try simp at hc2
  refine x7x x9x (by rfl) ?_
  refine x2x rfl ?_
  refine y6y ⟨.inr rfl, ?_⟩
  clear hK1 K1
  refine z9z rfl ?_ rfl
  rfl
 try simp at hc2
 refine y8y ?_
 refine hK1 _ _ ?_
 clear hK1 K1
 refine c1h fun B X0 w0 => ?_
 refine a2p x9x (by rfl) 1 rfl rfl ?_
 refine x0x rfl ?_
 refine a5k [] [] (a4t bs hbs) rfl rfl rfl rfl rfl (by decide) rfl rfl (by repeat (exact InH.nil)) (fun _ => (by rfl)) (fun _ => (by (simp only [pI, y2y, y3y, v4v, gl, nx, v2v, Nat.beq]; rfl))) fun b hb => ?_
 obtain ⟨hb1, hb2⟩ := hb
 have hbl : b.length ≤ 100000000 := by omega
 refine a2p x9x (by rfl) 1 rfl rfl ?_
 refine x2x rfl ?_
 refine b0u rfl ?_
 refine x7x x9x (by rfl) ?_
 refine x0x rfl ?_
 refine z7z rfl rfl rfl (a8r true b hb1 hbl) ?_
 refine x0x rfl ?_
 refine a5e rfl rfl ?_
 refine a5e rfl rfl ?_
 refine q0q (id := 0) z5z a2y rfl ?_
 refine u2u rfl rfl z5z rfl rfl rfl rfl ?_
 refine x2x rfl ?_
 refine x7x x9x (by rfl) ?_
 refine x0x rfl ?_
 refine z7z rfl rfl rfl (a8s true b hb1 hbl) ?_
 refine x0x rfl ?_
 refine a5e rfl rfl ?_
 refine a5e rfl rfl ?_
 refine q0q (id := 1) z5z a2y rfl ?_
 refine u2u rfl rfl z5z rfl rfl rfl rfl ?_
 refine x2x rfl ?_
 rw [c1s b]
 refine x8x fun K3 hK3 => ?_
 refine x7x x9x (by rfl) ?_
 refine x0x rfl ?_
 refine x0x rfl ?_
 refine a8g rfl rfl (by intro p q h h'; cases h; cases h'; rfl) (.inr rfl) (c2m Try.underlying4 _ _ _ _) ?_
 refine x0x rfl ?_
 refine a0d rfl rfl (fun hg4 => ?_) (fun hg4 => ?_)
 rotate_left
 ·(simp at hg4; done)
 try simp at hg4
 refine z3z rfl z5z rfl rfl rfl ?_
 refine y9y rfl rfl ?_
 refine z3z rfl z5z rfl rfl rfl ?_
 refine y9y rfl rfl ?_
 refine z7z rfl rfl rfl (b3x true true (q9q b).1 (q9q b).1) ?_
 refine y9y rfl rfl ?_
 refine s6s rfl ?_
 refine x6x rfl rfl ?_
 refine y1y rfl (fun hc5 => ?_) (fun hc5 => ?_)
 ·(simp at hc5; done)
 try simp at hc5
 refine y8y ?_
 refine hK3 _ _ ?_
 clear hK3 K3
 have f1 : (q9q b).2 = false → (q9q b).1.kind = 0 := c1u
 have f2 : (q9q b).2 = true → s9s (q9q b).1 ∧ a3u (q9q b).1 = b := b8z
 refine q5q x9x s7s (by rfl) ?_
 refine x0x rfl ?_
 refine s6s rfl ?_
 refine x0x rfl ?_
 refine a0d rfl rfl (fun hg6 => ?_) (fun hg6 => ?_)
 rotate_left
 ·try simp at hg6
  refine x4x rfl rfl ?_
  refine x4x rfl rfl ?_
  refine x6x rfl rfl ?_
  refine x0x rfl ?_
  refine y9y rfl rfl ?_
  refine x0x rfl ?_
  refine y9y rfl rfl ?_
  refine x0x rfl ?_
  refine a0d rfl rfl (fun hg10 => ?_) (fun hg10 => ?_)
  rotate_left
  ·try simp at hg10
   refine x4x rfl rfl ?_
   refine y9y rfl rfl ?_
   refine x6x rfl rfl ?_
   refine y9y rfl rfl ?_
   refine x0x rfl ?_
   refine x4x rfl rfl ?_
   refine x4x rfl rfl ?_
   refine x4x rfl rfl ?_
   refine x4x rfl rfl ?_
   refine x4x rfl rfl ?_
   refine x4x rfl rfl ?_
   refine y9y rfl rfl ?_
   refine x6x rfl rfl ?_
   refine x6x rfl rfl ?_
   refine x2x rfl ?_
   refine ⟨by kernel_rfl, ?_⟩
   refine y6y ⟨.inr rfl, ?_⟩
   refine z9z rfl ?_ rfl
   (simp_all; done)
  try simp at hg10
  refine z3z rfl z5z rfl rfl rfl ?_
  refine y9y rfl rfl ?_
  refine z7z rfl rfl rfl (a2k true (q9q b).1) ?_
  refine y9y rfl rfl ?_
  refine z4z rfl rfl ?_
  refine y9y rfl rfl ?_
  refine x0x rfl ?_
  refine a0d rfl rfl (fun hg11 => ?_) (fun hg11 => ?_)
  rotate_left
  ·try simp at hg11
   refine x4x rfl rfl ?_
   refine x4x rfl rfl ?_
   refine x4x rfl rfl ?_
   refine x4x rfl rfl ?_
   refine x4x rfl rfl ?_
   refine y9y rfl rfl ?_
   refine x6x rfl rfl ?_
   refine x6x rfl rfl ?_
   refine x2x rfl ?_
   refine ⟨by kernel_rfl, ?_⟩
   refine y6y ⟨.inr rfl, ?_⟩
   refine z9z rfl ?_ rfl
   (simp_all; done)
  try simp at hg11
  refine z3z rfl z5z rfl rfl rfl ?_
  refine y9y rfl rfl ?_
  refine z7z rfl rfl rfl (a2q true (q9q b).1) ?_
  refine y9y rfl rfl ?_
  refine b2d x9x rfl v6v rfl a0o rfl c6k rfl ?_
  refine y9y rfl rfl ?_
  refine x0x rfl ?_
  refine y9y rfl rfl ?_
  refine b2d x9x rfl v6v rfl a0o rfl c6k rfl ?_
  refine y9y rfl rfl ?_
  refine u5u (.bool (decide (a3u (q9q b).1 = b))) rfl rfl rfl (congrArg Value.bool (b0w (a5q _) hb1)) ?_
  refine y9y rfl rfl ?_
  refine z4z rfl rfl ?_
  refine x6x rfl rfl ?_
  refine x2x rfl ?_
  refine ⟨by kernel_rfl, ?_⟩
  refine y6y ⟨.inr rfl, ?_⟩
  refine z9z rfl ?_ rfl
  (simp_all; done)
 try simp at hg6
 refine x1x rfl z5z rfl rfl y5y rfl rfl ?_
 refine y9y rfl rfl ?_
 refine x3x rfl y5y rfl rfl ?_
 refine y9y rfl rfl ?_
 refine z0z rfl rfl rfl ?_
 refine z4z rfl rfl ?_
 refine x0x rfl ?_
 refine a0d rfl rfl (fun hg7 => ?_) (fun hg7 => ?_)
 rotate_left
 ·try simp at hg7
  refine x4x rfl rfl ?_
  refine p7p rfl rfl ?_
  refine p7p rfl rfl ?_
  refine x4x rfl rfl ?_
  refine x4x rfl rfl ?_
  refine p7p rfl rfl ?_
  refine p7p rfl rfl ?_
  refine p7p rfl rfl ?_
  refine p7p rfl rfl ?_
  refine p7p rfl rfl ?_
  refine p7p rfl rfl ?_
  refine x4x rfl rfl ?_
  refine z4z rfl rfl ?_
  refine x2x rfl ?_
  refine ⟨by kernel_rfl, ?_⟩
  refine y6y ⟨.inr rfl, ?_⟩
  refine z9z rfl ?_ rfl
  rfl
 try simp at hg7
 refine x0x rfl ?_
 refine y9y rfl rfl ?_
 refine x0x rfl ?_
 refine a0d rfl rfl (fun hg8 => ?_) (fun hg8 => ?_)
 rotate_left
 ·try simp at hg8
  refine x4x rfl rfl ?_
  refine y9y rfl rfl ?_
  refine x6x rfl rfl ?_
  refine y9y rfl rfl ?_
  refine x0x rfl ?_
  refine x4x rfl rfl ?_
  refine x4x rfl rfl ?_
  refine x4x rfl rfl ?_
  refine x4x rfl rfl ?_
  refine x4x rfl rfl ?_
  refine x4x rfl rfl ?_
  refine y9y rfl rfl ?_
  refine x6x rfl rfl ?_
  refine x6x rfl rfl ?_
  refine x2x rfl ?_
  refine ⟨by kernel_rfl, ?_⟩
  refine y6y ⟨.inr rfl, ?_⟩
  refine z9z rfl ?_ rfl
  (simp_all; done)
 try simp at hg8
 refine z3z rfl z5z rfl rfl rfl ?_
 refine y9y rfl rfl ?_
 refine z7z rfl rfl rfl (a2k true (q9q b).1) ?_
 refine y9y rfl rfl ?_
 refine z4z rfl rfl ?_
 refine y9y rfl rfl ?_
 refine x0x rfl ?_
 refine a0d rfl rfl (fun hg9 => ?_) (fun hg9 => ?_)
 rotate_left
 ·try simp at hg9
  refine x4x rfl rfl ?_
  refine x4x rfl rfl ?_
  refine x4x rfl rfl ?_
  refine x4x rfl rfl ?_
  refine x4x rfl rfl ?_
  refine y9y rfl rfl ?_
  refine x6x rfl rfl ?_
  refine x6x rfl rfl ?_
  refine x2x rfl ?_
  refine ⟨by kernel_rfl, ?_⟩
  refine y6y ⟨.inr rfl, ?_⟩
  refine z9z rfl ?_ rfl
  (simp_all; done)
 try simp at hg9
 refine z3z rfl z5z rfl rfl rfl ?_
 refine y9y rfl rfl ?_
 refine z7z rfl rfl rfl (a2q true (q9q b).1) ?_
 refine y9y rfl rfl ?_
 refine b2d x9x rfl v6v rfl a0o rfl c6k rfl ?_
 refine y9y rfl rfl ?_
 refine x0x rfl ?_
 refine y9y rfl rfl ?_
 refine b2d x9x rfl v6v rfl a0o rfl c6k rfl ?_
 refine y9y rfl rfl ?_
 refine u5u (.bool (decide (a3u (q9q b).1 = b))) rfl rfl rfl (congrArg Value.bool (b0w (a5q _) hb1)) ?_
 refine y9y rfl rfl ?_
 refine z4z rfl rfl ?_
 refine x6x rfl rfl ?_
 refine x2x rfl ?_
 refine ⟨by kernel_rfl, ?_⟩
 refine y6y ⟨.inr rfl, ?_⟩
 refine z9z rfl ?_ rfl
 (simp_all; done)
end
section
def X0 (w : World) : Cx := ⟨fun b => b < w.heap.size, fun b => b < w.heap.size, fun _ _ => none, fun _ _ => none⟩
theorem c3h (w : World) : SRh (X0 w) ⟨w, fun _ => False, fun b => b < w.heap.size, fun b => b < w.heap.size⟩ (fun _ => none) w := by
 refine ⟨fun _ => [], ?_, ?_, ?_, ?_, ?_, ?_, ?_, ?_, ?_, rfl, rfl, rfl, Nat.le_refl _, fun _ _ _ => rfl⟩
 ·intro id g e h; cases h
 ·intro id ge b h; cases h
 ·intro id id' ge ge' b h; cases h
 ·intro b hb; exact ⟨hb, fun id ge h => by cases h⟩
 ·intro b hb; exact hb
 ·intro b hb; exact .inl hb
 ·intro b hb; exact .inl hb
 ·intro id ge b h; cases h
 ·intro id g h; exact ⟨rfl, rfl⟩
theorem b6w (hC : a2g P f avs (.pv u)) (w : World) (vs : List Value) (hl : vs.length = avs.length) (hr : ∀ (i : Nat) (a : AV) (v : Value), avs[i]? = some a → vs[i]? = some v → VR (X0 w) w a v) :
  Calls P f vs.toArray w fun e w' => e = .returned u ∧ Below w.heap.size w w' :=
 (hC.2 (X0 w) _ (fun _ => none) w vs (c3h w) hl hr (fun id ge h => by cases h)).mono fun e w' ⟨v, he, X', hX, hS, hk, hv⟩ => by
  rw [hv.pv_inv] at he
  obtain ⟨F, hS⟩ := hS
  exact ⟨he, hS.os, hS.tape, hS.output, hS.size, fun k hk => hS.keep k hk (fun h => h)⟩
def c6i (k : IntKind) (w : World) (a : Option Addr) (len cap : Nat) (zs : List Int) : Prop :=
 (a = none ∧ len = 0 ∧ cap = 0 ∧ zs = []) ∨
 ∃ x, a = some x ∧ len ≤ cap ∧ cap ≤ maxLen ∧ zs.length = cap ∧ (∀ i, i < zs.length → w.cell? (x.add i) = some (.int k (zs.getD i 0))) ∧ ∀ n ∈ zs, (Lit.int k n).wf = true
theorem c1w (h : c6i .u8 w a len cap zs) : ∃ bs : List Nat, (∀ b ∈ bs, b < 256) ∧ VR (X0 w) w (v5v true bs) (.slice a len cap) := by
 rcases h with ⟨rfl, rfl, rfl, rfl⟩ | ⟨x, rfl, hl, hm, hz, hc, hw⟩
 ·exact ⟨[], (fun b hb => by cases hb), .cl (.row none 0 (fun _ _ => undef) (Nat.le_refl _) (Nat.zero_le _) (fun j x hx => by simp at hx) (fun j i x y hx => by simp at hx) (fun h => by simp at h) (fun ad j i x y hA => by cases hA) (fun j i x y hx => by simp at hx))⟩
 ·have hb : ∀ n ∈ zs, 0 ≤ n ∧ n < 256 := fun n hn => by
   have := hw n hn
   simp only [Lit.wf, Bool.and_eq_true, decide_eq_true_eq, IntKind.min, IntKind.max] at this
   simp [IntKind.signed, IntKind.bits] at this
   omega
  refine ⟨(zs.take len).map Int.toNat, fun b hb' => ?_, ?_⟩
  ·obtain ⟨n, hn, rfl⟩ := List.mem_map.1 hb'
   have := hb n (List.mem_of_mem_take hn)
   omega
  ·have hlen : ((zs.take len).map Int.toNat).length = len := by rw [List.length_map, List.length_take]; omega
   have hg : ∀ (j : Nat) (y : List AV), (((zs.take len).map Int.toNat).map a1o)[j]? = some y → j < len ∧ ∃ n, zs[j]? = some n ∧ y = [.pv (.int .u8 n)] := fun j y hy => by
    rw [List.getElem?_map, List.getElem?_map, List.getElem?_take] at hy
    split at hy
    ·rename_i hj
     cases hn : zs[j]? with
     | none => rw [hn] at hy; cases hy
     | some n =>
      rw [hn] at hy
      refine ⟨hj, n, rfl, ?_⟩
      have h0 := hb n (List.mem_of_getElem? hn)
      simp only [Option.map_some, Option.some.injEq] at hy
      rw [← hy, a1o, Int.toNat_of_nonneg h0.1]
    ·cases hy
   have key := CR.row (ok1 := (X0 w).ok1) (ok2 := (X0 w).ok2) (w := w) (m := true) (ty := 5) (sz := 1) (xs := ((zs.take len).map Int.toNat).map a1o) (some x) cap (fun j _ => .int .u8 (zs.getD j 0))
    (by rw [List.length_map, hlen]; exact hl) hm (fun j y hy => by obtain ⟨_, n, _, rfl⟩ := hg j y hy; rfl)
    (fun j i y z hy hz' => by
     obtain ⟨_, n, _, rfl⟩ := hg j y hy
     cases i with
     | zero => simp at hz'; subst hz'; rfl
     | succ i => simp at hz')
    (fun hp => ⟨x, rfl, by
     rw [List.length_map, hlen] at hp
     have := hc 0 (by omega)
     have h2 := World.block_lt_of_cell? w _ this
     show x.block < w.heap.size
     simpa [Addr.add] using h2⟩)
    (fun ad j i y z hA hy hz' => by
     cases hA
     obtain ⟨hj, n, hn, rfl⟩ := hg j y hy
     cases i with
     | zero =>
      have := hc j (by omega)
      simpa using this
     | succ i => simp at hz')
    (fun j i y z hy hz' => by
     obtain ⟨hj, n, hn, rfl⟩ := hg j y hy
     cases i with
     | zero =>
      simp at hz'; subst hz'
      rw [List.getD_eq_getElem?_getD, hn]
      exact .pv _
     | succ i => simp at hz')
   rw [List.length_map, hlen] at key
   exact .cl key
end
end Go.Proofs.Ytdelokimkggeaaa.Am
