/- Part 4 of the texts that the proof of LawFnExactWordUnpack leans on, merged by program. -/
import Derived.Test.YtdelokimkggeaaaKn3
set_option linter.unusedVariables false
set_option linter.unusedSimpArgs false
set_option maxHeartbeats 4000000
set_option autoImplicit true
set_option relaxedAutoImplicit true
namespace Go.Proofs.Ytdelokimkggeaaa.Am
open Go Go.RowKit
section
set_option maxRecDepth 20000 in
theorem a1w (c : Bool) (bs : List Nat) (hbs : ∀ b ∈ bs, b < 256) (hbl : bs.length ≤ 100000000) : Meth Try.prog 7 4 [] [v7v c bs] [(0, (0, .dead)), (1, (0, .dead)), (2, (0, .dead)), (3, (0, .dead))] (.tup [.agg [pI (p9p bs).1.kind, pI (p9p bs).1.from', pI (p9p bs).1.to, pI (p9p bs).1.inc, pI (p9p bs).1.version, pI (p9p bs).1.round, pI (p9p bs).1.g, .ref 0 0, .ref 1 0, .ref 2 0, .ref 3 0], .pv (.bool ((p9p bs).2))]) [(0, (0, .row 3 1 ((p9p bs).1.incs.map a3p))), (1, (0, .row 3 1 ((p9p bs).1.versions.map a3p))), (2, (0, .row 81 7 ((p9p bs).1.events.map s6s))), (3, (0, .row 84 5 ((p9p bs).1.outs.map a0n)))] := by
 refine v8v x9x (fn := Try.f7) (by kernel_rfl) (by kernel_rfl) rfl (O0 := [.agg [pI (p9p bs).1.kind, pI (p9p bs).1.from', pI (p9p bs).1.to, pI (p9p bs).1.inc, pI (p9p bs).1.version, pI (p9p bs).1.round, pI (p9p bs).1.g, .ref 0 0, .ref 1 0, .ref 2 0, .ref 3 0], .pv (.bool ((p9p bs).2))]) 4 4 (v2v rfl) (by rfl) (by repeat (first | exact BndH.nil | refine BndH.dead ?_)) (by repeat (first | exact BndH.nil | refine BndH.row (w3w fun _ => rfl) ?_)) (by rfl) fun γ => ?_
 show Ex Try.prog _ _ [(0, v7v c bs)] [(0, ((γ 0), .dead)), (1, ((γ 1), .dead)), (2, ((γ 2), .dead)), (3, ((γ 3), .dead)), (7, (0, .dead)), (6, (0, .dead)), (5, (0, .dead)), (4, (0, .dead))] _
 refine x6x x9x (by rfl) ?_
 refine q0q (id := 4) z7z a3b rfl ?_
 refine x2x rfl ?_
 refine x6x x9x (by rfl) ?_
 refine x0x rfl ?_
 refine r7r r0r rfl c4j rfl (by simp only [pI, y3y, T3, w4w, T22, a1i, T48, a0z, p1p, AV.okc, AV.one, Value.oneCell', List.map_cons, List.map_nil, List.getElem?_cons_zero, List.getElem?_cons_succ, List.take_succ_cons, List.take_zero, List.drop_succ_cons, List.drop_zero, List.cons_append, List.nil_append, List.length_cons, List.length_nil, if_true, and_self, Nat.reduceAdd, Nat.reduceLeDiff]; rfl) ?_
 refine p6p (id := 5) rfl rfl rfl ?_
 refine x2x rfl ?_
 refine x6x x9x (by rfl) ?_
 refine q0q (id := 6) z7z a3b rfl ?_
 refine x4x fun K1 hK1 => ?_
 refine x6x x9x (by rfl) ?_
 refine x1x rfl z7z rfl rfl y3y rfl rfl ?_
 refine x1x rfl z7z rfl rfl y3y rfl rfl ?_
 refine x1x rfl z7z rfl rfl y3y rfl rfl ?_
 refine x1x rfl z7z rfl rfl y3y rfl rfl ?_
 refine x1x rfl z7z rfl rfl y3y rfl rfl ?_
 refine x1x rfl z7z rfl rfl y3y rfl rfl ?_
 refine x1x rfl z7z rfl rfl y3y rfl rfl ?_
 refine q4q (id := 7) a4w rfl a1j rfl rfl rfl rfl (.val rfl rfl (.val rfl rfl (.val rfl rfl (.val rfl rfl (.val rfl rfl (.val rfl rfl (.val rfl rfl .nil))))))) rfl (v2v rfl) (v2v rfl) (v2v rfl) rfl rfl ?_
 refine a5h (n := 7) rfl a4w rfl rfl rfl ?_
 refine x0x rfl ?_
 refine y5y ?_
 refine a2p 8 ?_
 refine w2w fun K2 hK2 => ?_
 refine x6x x9x (by rfl) ?_
 refine y6y rfl rfl rfl ?_
 refine x4x fun K3 hK3 => ?_
 refine y0y rfl (fun hc4 => ?_) (fun hc4 => ?_)
 rotate_left
 ·simp at hc4
 try simp at hc4
 refine y1y ?_
 refine hK3 _ _ ?_
 clear hK3 K3
 refine x4x fun K5 hK5 => ?_
 refine y5y ?_
 refine x6x x9x (by rfl) ?_
 refine a1e (f := fun n : Nat => [AV.ptr 6 _ n]) (l := [0, 1, 2, 3, 4, 5, 6]) (j := 0) rfl rfl a4w rfl a1j rfl rfl (by decide) ?_
 refine a0i (f := fun n : Nat => [AV.ptr 6 _ n]) (l := [0, 1, 2, 3, 4, 5, 6]) rfl a1j rfl (show ([0, 1, 2, 3, 4, 5, 6] : List Nat)[0]? = some 0 from rfl) rfl ?_
 refine x2x rfl ?_
 refine y2y x9x (by rfl) ?_
 refine x0x rfl ?_
 refine x0x rfl ?_
 refine z6z [5] [_] (z4z c bs hbs hbl (⟨0, none⟩ : Up) (Nat.zero_le _)) rfl rfl rfl (by decide) rfl rfl (by repeat (first | exact InH.nil | refine InH.cons rfl ?_)) (by (simp only [pI, y8y, y9y, w5w, gl, nx, w0w, Nat.beq]; rfl)) (by (simp only [pI, y8y, y9y, w5w, gl, nx, w0w, Nat.beq]; rfl)) ?_
 refine u1u rfl rfl ?_
 refine u4u rfl rfl y3y rfl rfl rfl rfl rfl (show _ = [pI (a0q bs (⟨0, none⟩ : Up)).1, pI 0, pI 0, pI 0, pI 0, pI 0, pI 0, .pv (.slice none 0 0), .pv (.slice none 0 0), .pv (.slice none 0 0), .pv (.slice none 0 0)] from rfl) ?_
 obtain ⟨X0, hX0⟩ : ∃ X, a0q bs (⟨0, none⟩ : Up) = X := ⟨_, rfl⟩
 rw [hX0]
 have hx0 : X0.2.at' ≤ bs.length := by rw [← hX0]; exact r4r (Nat.zero_le _)
 refine hK5 _ _ ?_
 clear hK5 K5
 refine y2y x9x (by rfl) ?_
 refine u0u (.int .i64 1) rfl rfl rfl (p8p rfl (by omega) (by omega) (by omega)) ?_
 refine x0x rfl ?_
 refine hK2 _ _ ?_
 clear hK2 K2
 refine w2w fun K6 hK6 => ?_
 refine x6x x9x (by rfl) ?_
 refine y6y rfl rfl rfl ?_
 refine x4x fun K7 hK7 => ?_
 refine y0y rfl (fun hc8 => ?_) (fun hc8 => ?_)
 rotate_left
 ·simp at hc8
 try simp at hc8
 refine y1y ?_
 refine hK7 _ _ ?_
 clear hK7 K7
 refine x4x fun K9 hK9 => ?_
 refine y5y ?_
 refine x6x x9x (by rfl) ?_
 refine a1e (f := fun n : Nat => [AV.ptr 6 _ n]) (l := [0, 1, 2, 3, 4, 5, 6]) (j := 1) rfl rfl a4w rfl a1j rfl rfl (by decide) ?_
 refine a0i (f := fun n : Nat => [AV.ptr 6 _ n]) (l := [0, 1, 2, 3, 4, 5, 6]) rfl a1j rfl (show ([0, 1, 2, 3, 4, 5, 6] : List Nat)[1]? = some 1 from rfl) rfl ?_
 refine x2x rfl ?_
 refine y2y x9x (by rfl) ?_
 refine x0x rfl ?_
 refine x0x rfl ?_
 refine z6z [5] [_] (z4z c bs hbs hbl X0.2 hx0) rfl rfl rfl (by decide) rfl rfl (by repeat (first | exact InH.nil | refine InH.cons rfl ?_)) (by (simp only [pI, y8y, y9y, w5w, gl, nx, w0w, Nat.beq]; rfl)) (by (simp only [pI, y8y, y9y, w5w, gl, nx, w0w, Nat.beq]; rfl)) ?_
 refine u1u rfl rfl ?_
 refine u4u rfl rfl y3y rfl rfl rfl rfl rfl (show _ = [pI X0.1, pI (a0q bs X0.2).1, pI 0, pI 0, pI 0, pI 0, pI 0, .pv (.slice none 0 0), .pv (.slice none 0 0), .pv (.slice none 0 0), .pv (.slice none 0 0)] from rfl) ?_
 obtain ⟨X1, hX1⟩ : ∃ X, a0q bs X0.2 = X := ⟨_, rfl⟩
 rw [hX1]
 have hx1 : X1.2.at' ≤ bs.length := by rw [← hX1]; exact r4r hx0
 refine hK9 _ _ ?_
 clear hK9 K9
 refine y2y x9x (by rfl) ?_
 refine u0u (.int .i64 2) rfl rfl rfl (p8p rfl (by omega) (by omega) (by omega)) ?_
 refine x0x rfl ?_
 refine hK6 _ _ ?_
 clear hK6 K6
 refine w2w fun K10 hK10 => ?_
 refine x6x x9x (by rfl) ?_
 refine y6y rfl rfl rfl ?_
 refine x4x fun K11 hK11 => ?_
 refine y0y rfl (fun hc12 => ?_) (fun hc12 => ?_)
 rotate_left
 ·simp at hc12
 try simp at hc12
 refine y1y ?_
 refine hK11 _ _ ?_
 clear hK11 K11
 refine x4x fun K13 hK13 => ?_
 refine y5y ?_
 refine x6x x9x (by rfl) ?_
 refine a1e (f := fun n : Nat => [AV.ptr 6 _ n]) (l := [0, 1, 2, 3, 4, 5, 6]) (j := 2) rfl rfl a4w rfl a1j rfl rfl (by decide) ?_
 refine a0i (f := fun n : Nat => [AV.ptr 6 _ n]) (l := [0, 1, 2, 3, 4, 5, 6]) rfl a1j rfl (show ([0, 1, 2, 3, 4, 5, 6] : List Nat)[2]? = some 2 from rfl) rfl ?_
 refine x2x rfl ?_
 refine y2y x9x (by rfl) ?_
 refine x0x rfl ?_
 refine x0x rfl ?_
 refine z6z [5] [_] (z4z c bs hbs hbl X1.2 hx1) rfl rfl rfl (by decide) rfl rfl (by repeat (first | exact InH.nil | refine InH.cons rfl ?_)) (by (simp only [pI, y8y, y9y, w5w, gl, nx, w0w, Nat.beq]; rfl)) (by (simp only [pI, y8y, y9y, w5w, gl, nx, w0w, Nat.beq]; rfl)) ?_
 refine u1u rfl rfl ?_
 refine u4u rfl rfl y3y rfl rfl rfl rfl rfl (show _ = [pI X0.1, pI X1.1, pI (a0q bs X1.2).1, pI 0, pI 0, pI 0, pI 0, .pv (.slice none 0 0), .pv (.slice none 0 0), .pv (.slice none 0 0), .pv (.slice none 0 0)] from rfl) ?_
 obtain ⟨X2, hX2⟩ : ∃ X, a0q bs X1.2 = X := ⟨_, rfl⟩
 rw [hX2]
 have hx2 : X2.2.at' ≤ bs.length := by rw [← hX2]; exact r4r hx1
 refine hK13 _ _ ?_
 clear hK13 K13
 refine y2y x9x (by rfl) ?_
 refine u0u (.int .i64 3) rfl rfl rfl (p8p rfl (by omega) (by omega) (by omega)) ?_
 refine x0x rfl ?_
 refine hK10 _ _ ?_
 clear hK10 K10
 refine w2w fun K14 hK14 => ?_
 refine x6x x9x (by rfl) ?_
 refine y6y rfl rfl rfl ?_
 refine x4x fun K15 hK15 => ?_
 refine y0y rfl (fun hc16 => ?_) (fun hc16 => ?_)
 rotate_left
 ·simp at hc16
 try simp at hc16
 refine y1y ?_
 refine hK15 _ _ ?_
 clear hK15 K15
 refine x4x fun K17 hK17 => ?_
 refine y5y ?_
 refine x6x x9x (by rfl) ?_
 refine a1e (f := fun n : Nat => [AV.ptr 6 _ n]) (l := [0, 1, 2, 3, 4, 5, 6]) (j := 3) rfl rfl a4w rfl a1j rfl rfl (by decide) ?_
 refine a0i (f := fun n : Nat => [AV.ptr 6 _ n]) (l := [0, 1, 2, 3, 4, 5, 6]) rfl a1j rfl (show ([0, 1, 2, 3, 4, 5, 6] : List Nat)[3]? = some 3 from rfl) rfl ?_
 refine x2x rfl ?_
 refine y2y x9x (by rfl) ?_
 refine x0x rfl ?_
 refine x0x rfl ?_
 refine z6z [5] [_] (z4z c bs hbs hbl X2.2 hx2) rfl rfl rfl (by decide) rfl rfl (by repeat (first | exact InH.nil | refine InH.cons rfl ?_)) (by (simp only [pI, y8y, y9y, w5w, gl, nx, w0w, Nat.beq]; rfl)) (by (simp only [pI, y8y, y9y, w5w, gl, nx, w0w, Nat.beq]; rfl)) ?_
 refine u1u rfl rfl ?_
 refine u4u rfl rfl y3y rfl rfl rfl rfl rfl (show _ = [pI X0.1, pI X1.1, pI X2.1, pI (a0q bs X2.2).1, pI 0, pI 0, pI 0, .pv (.slice none 0 0), .pv (.slice none 0 0), .pv (.slice none 0 0), .pv (.slice none 0 0)] from rfl) ?_
 obtain ⟨X3, hX3⟩ : ∃ X, a0q bs X2.2 = X := ⟨_, rfl⟩
 rw [hX3]
 have hx3 : X3.2.at' ≤ bs.length := by rw [← hX3]; exact r4r hx2
 refine hK17 _ _ ?_
 clear hK17 K17
 refine y2y x9x (by rfl) ?_
 refine u0u (.int .i64 4) rfl rfl rfl (p8p rfl (by omega) (by omega) (by omega)) ?_
 refine x0x rfl ?_
 refine hK14 _ _ ?_
 clear hK14 K14
 refine w2w fun K18 hK18 => ?_
 refine x6x x9x (by rfl) ?_
 refine y6y rfl rfl rfl ?_
 refine x4x fun K19 hK19 => ?_
 refine y0y rfl (fun hc20 => ?_) (fun hc20 => ?_)
 rotate_left
 ·simp at hc20
 try simp at hc20
 refine y1y ?_
 refine hK19 _ _ ?_
 clear hK19 K19
 refine x4x fun K21 hK21 => ?_
 refine y5y ?_
 refine x6x x9x (by rfl) ?_
 refine a1e (f := fun n : Nat => [AV.ptr 6 _ n]) (l := [0, 1, 2, 3, 4, 5, 6]) (j := 4) rfl rfl a4w rfl a1j rfl rfl (by decide) ?_
 refine a0i (f := fun n : Nat => [AV.ptr 6 _ n]) (l := [0, 1, 2, 3, 4, 5, 6]) rfl a1j rfl (show ([0, 1, 2, 3, 4, 5, 6] : List Nat)[4]? = some 4 from rfl) rfl ?_
 refine x2x rfl ?_
 refine y2y x9x (by rfl) ?_
 refine x0x rfl ?_
 refine x0x rfl ?_
 refine z6z [5] [_] (z4z c bs hbs hbl X3.2 hx3) rfl rfl rfl (by decide) rfl rfl (by repeat (first | exact InH.nil | refine InH.cons rfl ?_)) (by (simp only [pI, y8y, y9y, w5w, gl, nx, w0w, Nat.beq]; rfl)) (by (simp only [pI, y8y, y9y, w5w, gl, nx, w0w, Nat.beq]; rfl)) ?_
 refine u1u rfl rfl ?_
 refine u4u rfl rfl y3y rfl rfl rfl rfl rfl (show _ = [pI X0.1, pI X1.1, pI X2.1, pI X3.1, pI (a0q bs X3.2).1, pI 0, pI 0, .pv (.slice none 0 0), .pv (.slice none 0 0), .pv (.slice none 0 0), .pv (.slice none 0 0)] from rfl) ?_
 obtain ⟨X4, hX4⟩ : ∃ X, a0q bs X3.2 = X := ⟨_, rfl⟩
 rw [hX4]
 have hx4 : X4.2.at' ≤ bs.length := by rw [← hX4]; exact r4r hx3
 refine hK21 _ _ ?_
 clear hK21 K21
 refine y2y x9x (by rfl) ?_
 refine u0u (.int .i64 5) rfl rfl rfl (p8p rfl (by omega) (by omega) (by omega)) ?_
 refine x0x rfl ?_
 refine hK18 _ _ ?_
 clear hK18 K18
 refine w2w fun K22 hK22 => ?_
 refine x6x x9x (by rfl) ?_
 refine y6y rfl rfl rfl ?_
 refine x4x fun K23 hK23 => ?_
 refine y0y rfl (fun hc24 => ?_) (fun hc24 => ?_)
 rotate_left
 ·simp at hc24
 try simp at hc24
 refine y1y ?_
 refine hK23 _ _ ?_
 clear hK23 K23
 refine x4x fun K25 hK25 => ?_
 refine y5y ?_
 refine x6x x9x (by rfl) ?_
 refine a1e (f := fun n : Nat => [AV.ptr 6 _ n]) (l := [0, 1, 2, 3, 4, 5, 6]) (j := 5) rfl rfl a4w rfl a1j rfl rfl (by decide) ?_
 refine a0i (f := fun n : Nat => [AV.ptr 6 _ n]) (l := [0, 1, 2, 3, 4, 5, 6]) rfl a1j rfl (show ([0, 1, 2, 3, 4, 5, 6] : List Nat)[5]? = some 5 from rfl) rfl ?_
 refine x2x rfl ?_
 refine y2y x9x (by rfl) ?_
 refine x0x rfl ?_
 refine x0x rfl ?_
 refine z6z [5] [_] (z4z c bs hbs hbl X4.2 hx4) rfl rfl rfl (by decide) rfl rfl (by repeat (first | exact InH.nil | refine InH.cons rfl ?_)) (by (simp only [pI, y8y, y9y, w5w, gl, nx, w0w, Nat.beq]; rfl)) (by (simp only [pI, y8y, y9y, w5w, gl, nx, w0w, Nat.beq]; rfl)) ?_
 refine u1u rfl rfl ?_
 refine u4u rfl rfl y3y rfl rfl rfl rfl rfl (show _ = [pI X0.1, pI X1.1, pI X2.1, pI X3.1, pI X4.1, pI (a0q bs X4.2).1, pI 0, .pv (.slice none 0 0), .pv (.slice none 0 0), .pv (.slice none 0 0), .pv (.slice none 0 0)] from rfl) ?_
 obtain ⟨X5, hX5⟩ : ∃ X, a0q bs X4.2 = X := ⟨_, rfl⟩
 rw [hX5]
 have hx5 : X5.2.at' ≤ bs.length := by rw [← hX5]; exact r4r hx4
 refine hK25 _ _ ?_
 clear hK25 K25
 refine y2y x9x (by rfl) ?_
 refine u0u (.int .i64 6) rfl rfl rfl (p8p rfl (by omega) (by omega) (by omega)) ?_
 refine x0x rfl ?_
 refine hK22 _ _ ?_
 clear hK22 K22
 refine w2w fun K26 hK26 => ?_
 refine x6x x9x (by rfl) ?_
 refine y6y rfl rfl rfl ?_
 refine x4x fun K27 hK27 => ?_
 refine y0y rfl (fun hc28 => ?_) (fun hc28 => ?_)
 rotate_left
 ·simp at hc28
 try simp at hc28
 refine y1y ?_
 refine hK27 _ _ ?_
 clear hK27 K27
 refine x4x fun K29 hK29 => ?_
 refine y5y ?_
 refine x6x x9x (by rfl) ?_
 refine a1e (f := fun n : Nat => [AV.ptr 6 _ n]) (l := [0, 1, 2, 3, 4, 5, 6]) (j := 6) rfl rfl a4w rfl a1j rfl rfl (by decide) ?_
 refine a0i (f := fun n : Nat => [AV.ptr 6 _ n]) (l := [0, 1, 2, 3, 4, 5, 6]) rfl a1j rfl (show ([0, 1, 2, 3, 4, 5, 6] : List Nat)[6]? = some 6 from rfl) rfl ?_
 refine x2x rfl ?_
 refine y2y x9x (by rfl) ?_
 refine x0x rfl ?_
 refine x0x rfl ?_
 refine z6z [5] [_] (z4z c bs hbs hbl X5.2 hx5) rfl rfl rfl (by decide) rfl rfl (by repeat (first | exact InH.nil | refine InH.cons rfl ?_)) (by (simp only [pI, y8y, y9y, w5w, gl, nx, w0w, Nat.beq]; rfl)) (by (simp only [pI, y8y, y9y, w5w, gl, nx, w0w, Nat.beq]; rfl)) ?_
 refine u1u rfl rfl ?_
 refine u4u rfl rfl y3y rfl rfl rfl rfl rfl (show _ = [pI X0.1, pI X1.1, pI X2.1, pI X3.1, pI X4.1, pI X5.1, pI (a0q bs X5.2).1, .pv (.slice none 0 0), .pv (.slice none 0 0), .pv (.slice none 0 0), .pv (.slice none 0 0)] from rfl) ?_
 obtain ⟨X6, hX6⟩ : ∃ X, a0q bs X5.2 = X := ⟨_, rfl⟩
 rw [hX6]
 have hx6 : X6.2.at' ≤ bs.length := by rw [← hX6]; exact r4r hx5
 refine hK29 _ _ ?_
 clear hK29 K29
 refine y2y x9x (by rfl) ?_
 refine u0u (.int .i64 7) rfl rfl rfl (p8p rfl (by omega) (by omega) (by omega)) ?_
 refine x0x rfl ?_
 refine hK26 _ _ ?_
 clear hK26 K26
 refine w2w fun K30 hK30 => ?_
 refine x6x x9x (by rfl) ?_
 refine y6y rfl rfl rfl ?_
 refine x4x fun K31 hK31 => ?_
 refine y0y rfl (fun hc32 => ?_) (fun hc32 => ?_)
 ·simp at hc32
 try simp at hc32
 refine v3v ?_
 refine hK1 _ _ ?_
 clear hK31 K31 hK30 K30 hK1 K1
 refine x6x x9x (by rfl) ?_
 refine x0x rfl ?_
 refine z6z [5, 0] [_, _] (a1b c bs hbs hbl X6.2 hx6 3 (by omega) (by omega)) rfl rfl rfl (by decide) rfl rfl (by repeat (first | exact InH.nil | refine InH.cons rfl ?_)) (by (simp only [pI, y8y, y9y, w5w, gl, nx, w0w, Nat.beq]; rfl)) (by (simp only [pI, y8y, y9y, w5w, gl, nx, w0w, Nat.beq]; rfl)) ?_
 refine x1x rfl z7z rfl rfl u5u rfl rfl ?_
 refine u4u rfl rfl u5u rfl rfl rfl rfl rfl (by simp only [a3i]; rfl) ?_
 obtain ⟨A, hA⟩ : ∃ A, a8y bs 3 X6.2 = A := ⟨_, rfl⟩
 rw [hA]
 have hA2 : A.2.at' ≤ bs.length := by rw [← hA]; exact b1n (a2q hx6)
 refine x6x x9x (by rfl) ?_
 refine x0x rfl ?_
 refine z6z [5, 1] [_, _] (a1b c bs hbs hbl A.2 hA2 3 (by omega) (by omega)) rfl rfl rfl (by decide) rfl rfl (by repeat (first | exact InH.nil | refine InH.cons rfl ?_)) (by (simp only [pI, y8y, y9y, w5w, gl, nx, w0w, Nat.beq]; rfl)) (by (simp only [pI, y8y, y9y, w5w, gl, nx, w0w, Nat.beq]; rfl)) ?_
 refine x1x rfl z7z rfl rfl u5u rfl rfl ?_
 refine u4u rfl rfl u5u rfl rfl rfl rfl rfl (by simp only [a3i]; rfl) ?_
 obtain ⟨B, hB⟩ : ∃ B, a8y bs 3 A.2 = B := ⟨_, rfl⟩
 rw [hB]
 have hB2 : B.2.at' ≤ bs.length := by rw [← hB]; exact b1n (a2q hA2)
 refine x6x x9x (by rfl) ?_
 refine x0x rfl ?_
 refine z6z [5, 2] [_, _] (a2u c bs hbs hbl B.2 hB2) rfl rfl rfl (by decide) rfl rfl (by repeat (first | exact InH.nil | refine InH.cons rfl ?_)) (by (simp only [pI, y8y, y9y, w5w, gl, nx, w0w, Nat.beq]; rfl)) (by (simp only [pI, y8y, y9y, w5w, gl, nx, w0w, Nat.beq]; rfl)) ?_
 refine x1x rfl z7z rfl rfl w8w rfl rfl ?_
 refine u4u rfl rfl w8w rfl rfl rfl rfl rfl (by simp only [a3i]; rfl) ?_
 obtain ⟨E, hE⟩ : ∃ E, c0r bs B.2 = E := ⟨_, rfl⟩
 rw [hE]
 have hE2 : E.2.at' ≤ bs.length := by rw [← hE]; exact b8h (a2q hB2)
 refine x6x x9x (by rfl) ?_
 refine x0x rfl ?_
 refine z6z [5, 3] [_, _] (a3n c bs hbs hbl E.2 hE2) rfl rfl rfl (by decide) rfl rfl (by repeat (first | exact InH.nil | refine InH.cons rfl ?_)) (by (simp only [pI, y8y, y9y, w5w, gl, nx, w0w, Nat.beq]; rfl)) (by (simp only [pI, y8y, y9y, w5w, gl, nx, w0w, Nat.beq]; rfl)) ?_
 refine x1x rfl z7z rfl rfl w7w rfl rfl ?_
 refine u4u rfl rfl w7w rfl rfl rfl rfl rfl (by simp only [a3i]; rfl) ?_
 obtain ⟨O, hO⟩ : ∃ O, c0s bs E.2 = O := ⟨_, rfl⟩
 rw [hO]
 have hH : uH bs = ([X0.1, X1.1, X2.1, X3.1, X4.1, X5.1, X6.1], X6.2) := by simp only [uH, a3q, hX0, hX1, hX2, hX3, hX4, hX5, hX6]
 have hA1 : uA bs = A := by unfold uA; rw [hH]; exact hA
 have hB1 : uB bs = B := by unfold uB; rw [hA1]; exact hB
 have hE1 : uE bs = E := by unfold uE; rw [hB1]; exact hE
 have hO1 : uO bs = O := by unfold uO; rw [hE1]; exact hO
 have hk : k12 O.2 := by rw [← hO1]; exact c6d bs
 have hWo : uWo bs = b5f [X0.1, X1.1, X2.1, X3.1, X4.1, X5.1, X6.1] A.1 B.1 E.1 O.1 := by unfold uWo; rw [hH, hA1, hB1, hE1, hO1]
 refine x4x fun K33 hK33 => ?_
 refine x6x x9x (by rfl) ?_
 refine x0x rfl ?_
 refine u1u rfl rfl ?_
 refine x1x rfl r0r rfl rfl a1i rfl rfl ?_
 refine x3x rfl a1i rfl rfl ?_
 refine b8d x9x rfl c1o rfl ?_
 refine z2z rfl rfl rfl (a9h O.2.err 1) ?_
 refine x0x rfl ?_
 refine a0l rfl rfl (fun hg34 => ?_) (fun hg34 => ?_)
 rotate_left
 ·try simp at hg34
  have hX : ¬ a6z bs := fun q => by have q1 := q.1; rw [hO1] at q1; rw [q1] at hg34; simp [isF] at hg34
  refine x5x rfl rfl ?_
  refine x5x rfl rfl ?_
  refine x5x rfl rfl ?_
  refine x5x rfl rfl ?_
  refine x5x rfl rfl ?_
  refine z3z rfl rfl ?_
  refine x0x rfl ?_
  refine x5x rfl rfl ?_
  refine x5x rfl rfl ?_
  refine x5x rfl rfl ?_
  refine x5x rfl rfl ?_
  refine x5x rfl rfl ?_
  refine x5x rfl rfl ?_
  refine x5x rfl rfl ?_
  refine z3z rfl rfl ?_
  refine y0y rfl (fun hc42 => ?_) (fun hc42 => ?_)
  rotate_left
  ·simp at hc42
  try simp at hc42
  try have hX : ¬ a6z bs := fun q => by have q1 := q.2.1; rw [hO1] at q1; omega
  refine x6x x9x (by rfl) ?_
  refine r7r z7z rfl a3b rfl (by simp only [pI, y3y, T3, u5u, T24, w8w, T25, w7w, T26, a0z, p1p, AV.okc, AV.one, Value.oneCell', List.map_cons, List.map_nil, List.getElem?_cons_zero, List.getElem?_cons_succ, List.take_succ_cons, List.take_zero, List.drop_succ_cons, List.drop_zero, List.cons_append, List.nil_append, List.length_cons, List.length_nil, if_true, and_self, Nat.reduceAdd, Nat.reduceLeDiff]; rfl) ?_
  refine v6v rfl rfl z7z rfl rfl rfl rfl ?_
  refine x2x rfl ?_
  refine s4s 0 rfl ?_
  refine s4s 1 rfl ?_
  refine s4s 2 rfl ?_
  refine s4s 3 rfl ?_
  refine q7q 4 7 0 3 1 rfl rfl rfl rfl rfl ?_
  refine q7q 4 8 1 3 1 rfl rfl rfl rfl rfl ?_
  refine q7q 4 9 2 81 7 rfl rfl rfl rfl rfl ?_
  refine q7q 4 10 3 84 5 rfl rfl rfl rfl rfl ?_
  rw [show p9p bs = (wo0, false) from if_neg hX]
  refine y4y ?_
  exact ⟨.inr rfl, [_, _, _, _], rfl, rfl, HE.row rfl rfl (HE.row rfl rfl (HE.row rfl rfl (HE.row rfl rfl HE.nil)))⟩
 try simp at hg34
 have f1 : isF O.2.err 1 = false := by simpa using hg34
 refine x0x rfl ?_
 refine z1z rfl rfl ?_
 refine u1u rfl rfl ?_
 refine z1z rfl rfl ?_
 refine x1x rfl r0r rfl rfl a1i rfl rfl ?_
 refine z1z rfl rfl ?_
 refine x3x rfl a1i rfl rfl ?_
 refine z1z rfl rfl ?_
 refine b8d x9x rfl c1o rfl ?_
 refine z1z rfl rfl ?_
 refine z2z rfl rfl rfl (a9h O.2.err 2) ?_
 refine x8x rfl rfl ?_
 refine x0x rfl ?_
 refine a0l rfl rfl (fun hg35 => ?_) (fun hg35 => ?_)
 rotate_left
 ·try simp at hg35
  have hX : ¬ a6z bs := fun q => by have q1 := q.1; rw [hO1] at q1; rw [q1] at hg35; simp [isF] at hg35
  refine x5x rfl rfl ?_
  refine x5x rfl rfl ?_
  refine x5x rfl rfl ?_
  refine x5x rfl rfl ?_
  refine x5x rfl rfl ?_
  refine x5x rfl rfl ?_
  refine z3z rfl rfl ?_
  refine y0y rfl (fun hc41 => ?_) (fun hc41 => ?_)
  rotate_left
  ·simp at hc41
  try simp at hc41
  try have hX : ¬ a6z bs := fun q => by have q1 := q.2.1; rw [hO1] at q1; omega
  refine x6x x9x (by rfl) ?_
  refine r7r z7z rfl a3b rfl (by simp only [pI, y3y, T3, u5u, T24, w8w, T25, w7w, T26, a0z, p1p, AV.okc, AV.one, Value.oneCell', List.map_cons, List.map_nil, List.getElem?_cons_zero, List.getElem?_cons_succ, List.take_succ_cons, List.take_zero, List.drop_succ_cons, List.drop_zero, List.cons_append, List.nil_append, List.length_cons, List.length_nil, if_true, and_self, Nat.reduceAdd, Nat.reduceLeDiff]; rfl) ?_
  refine v6v rfl rfl z7z rfl rfl rfl rfl ?_
  refine x2x rfl ?_
  refine s4s 0 rfl ?_
  refine s4s 1 rfl ?_
  refine s4s 2 rfl ?_
  refine s4s 3 rfl ?_
  refine q7q 4 7 0 3 1 rfl rfl rfl rfl rfl ?_
  refine q7q 4 8 1 3 1 rfl rfl rfl rfl rfl ?_
  refine q7q 4 9 2 81 7 rfl rfl rfl rfl rfl ?_
  refine q7q 4 10 3 84 5 rfl rfl rfl rfl rfl ?_
  rw [show p9p bs = (wo0, false) from if_neg hX]
  refine y4y ?_
  exact ⟨.inr rfl, [_, _, _, _], rfl, rfl, HE.row rfl rfl (HE.row rfl rfl (HE.row rfl rfl (HE.row rfl rfl HE.nil)))⟩
 try simp at hg35
 have f2 : isF O.2.err 2 = false := by simpa using hg35
 refine x0x rfl ?_
 refine z1z rfl rfl ?_
 refine u1u rfl rfl ?_
 refine z1z rfl rfl ?_
 refine x1x rfl r0r rfl rfl y3y rfl rfl ?_
 refine z1z rfl rfl ?_
 refine x3x rfl y3y rfl rfl ?_
 refine z1z rfl rfl ?_
 refine x0x rfl ?_
 refine z1z rfl rfl ?_
 refine u6u rfl w4w rfl ?_
 refine z1z rfl rfl ?_
 refine y6y rfl rfl rfl ?_
 refine x8x rfl rfl ?_
 refine y0y rfl (fun hc36 => ?_) (fun hc36 => ?_)
 ·try simp at hc36
  try have hX : ¬ a6z bs := fun q => by have q1 := q.2.1; rw [hO1] at q1; omega
  refine x6x x9x (by rfl) ?_
  refine r7r z7z rfl a3b rfl (by simp only [pI, y3y, T3, u5u, T24, w8w, T25, w7w, T26, a0z, p1p, AV.okc, AV.one, Value.oneCell', List.map_cons, List.map_nil, List.getElem?_cons_zero, List.getElem?_cons_succ, List.take_succ_cons, List.take_zero, List.drop_succ_cons, List.drop_zero, List.cons_append, List.nil_append, List.length_cons, List.length_nil, if_true, and_self, Nat.reduceAdd, Nat.reduceLeDiff]; rfl) ?_
  refine v6v rfl rfl z7z rfl rfl rfl rfl ?_
  refine x2x rfl ?_
  refine s4s 0 rfl ?_
  refine s4s 1 rfl ?_
  refine s4s 2 rfl ?_
  refine s4s 3 rfl ?_
  refine q7q 4 7 0 3 1 rfl rfl rfl rfl rfl ?_
  refine q7q 4 8 1 3 1 rfl rfl rfl rfl rfl ?_
  refine q7q 4 9 2 81 7 rfl rfl rfl rfl rfl ?_
  refine q7q 4 10 3 84 5 rfl rfl rfl rfl rfl ?_
  rw [show p9p bs = (wo0, false) from if_neg hX]
  refine y4y ?_
  exact ⟨.inr rfl, [_, _, _, _], rfl, rfl, HE.row rfl rfl (HE.row rfl rfl (HE.row rfl rfl (HE.row rfl rfl HE.nil)))⟩
 try simp at hc36
 have hG1 : O.2.err = none := b9z hk f1 f2
 have hG2 : O.2.at' = bs.length := by omega
 refine y1y ?_
 refine hK33 _ _ ?_
 clear hK33 K33
 refine x4x fun K37 hK37 => ?_
 refine x6x x9x (by rfl) ?_
 refine u2u rfl z7z rfl rfl rfl ?_
 refine a3c rfl rfl rfl (by exact a8w (w := b5f [X0.1, X1.1, X2.1, X3.1, X4.1, X5.1, X6.1] A.1 B.1 E.1 O.1) rfl rfl rfl rfl .nil) (a6k false (b5f [X0.1, X1.1, X2.1, X3.1, X4.1, X5.1, X6.1] A.1 B.1 E.1 O.1)) (by exact .pv _) ?_
 refine q1q rfl ?_
 refine x0x rfl ?_
 refine a0l rfl rfl (fun hg38 => ?_) (fun hg38 => ?_)
 rotate_left
 ·try simp at hg38
  have hX : ¬ a6z bs := fun q => by have q1 := q.2.2.1; rw [hWo] at q1; simp [q1] at hg38
  refine x5x rfl rfl ?_
  refine x5x rfl rfl ?_
  refine x5x rfl rfl ?_
  refine x5x rfl rfl ?_
  refine z3z rfl rfl ?_
  refine y0y rfl (fun hc40 => ?_) (fun hc40 => ?_)
  rotate_left
  ·simp at hc40
  try simp at hc40
  try have hX : ¬ a6z bs := fun q => by have q1 := q.2.2.2; rw [hWo] at q1; simp [q1] at hc40
  refine x6x x9x (by rfl) ?_
  refine r7r z7z rfl a3b rfl (by simp only [pI, y3y, T3, u5u, T24, w8w, T25, w7w, T26, a0z, p1p, AV.okc, AV.one, Value.oneCell', List.map_cons, List.map_nil, List.getElem?_cons_zero, List.getElem?_cons_succ, List.take_succ_cons, List.take_zero, List.drop_succ_cons, List.drop_zero, List.cons_append, List.nil_append, List.length_cons, List.length_nil, if_true, and_self, Nat.reduceAdd, Nat.reduceLeDiff]; rfl) ?_
  refine v6v rfl rfl z7z rfl rfl rfl rfl ?_
  refine x2x rfl ?_
  refine s4s 0 rfl ?_
  refine s4s 1 rfl ?_
  refine s4s 2 rfl ?_
  refine s4s 3 rfl ?_
  refine q7q 4 7 0 3 1 rfl rfl rfl rfl rfl ?_
  refine q7q 4 8 1 3 1 rfl rfl rfl rfl rfl ?_
  refine q7q 4 9 2 81 7 rfl rfl rfl rfl rfl ?_
  refine q7q 4 10 3 84 5 rfl rfl rfl rfl rfl ?_
  rw [show p9p bs = (wo0, false) from if_neg hX]
  refine y4y ?_
  exact ⟨.inr rfl, [_, _, _, _], rfl, rfl, HE.row rfl rfl (HE.row rfl rfl (HE.row rfl rfl (HE.row rfl rfl HE.nil)))⟩
 try simp at hg38
 have hw : a0c (b5f [X0.1, X1.1, X2.1, X3.1, X4.1, X5.1, X6.1] A.1 B.1 E.1 O.1) := by simpa using hg38
 refine u2u rfl z7z rfl rfl rfl ?_
 refine z1z rfl rfl ?_
 refine a3c rfl rfl rfl (by exact a8w (w := b5f [X0.1, X1.1, X2.1, X3.1, X4.1, X5.1, X6.1] A.1 B.1 E.1 O.1) rfl rfl rfl rfl .nil) (a9i false (b5f [X0.1, X1.1, X2.1, X3.1, X4.1, X5.1, X6.1] A.1 B.1 E.1 O.1)) (by exact b8o _) ?_
 refine z1z rfl rfl ?_
 refine x0x rfl ?_
 refine z1z rfl rfl ?_
 refine z2z rfl rfl rfl (a2t true c (a7p (b5f [X0.1, X1.1, X2.1, X3.1, X4.1, X5.1, X6.1] A.1 B.1 E.1 O.1)) bs) ?_
 refine z1z rfl rfl ?_
 refine q1q rfl ?_
 refine x8x rfl rfl ?_
 refine y0y rfl (fun hc39 => ?_) (fun hc39 => ?_)
 rotate_left
 ·try simp at hc39
  have hG : a6z bs := ⟨by rw [hO1]; exact hG1, by rw [hO1]; exact hG2, by rw [hWo]; exact hw, by rw [hWo]; simpa using hc39⟩
  refine y1y ?_
  refine hK37 _ _ ?_
  clear hK37 K37
  refine x6x x9x (by rfl) ?_
  refine u2u rfl z7z rfl rfl rfl ?_
  refine v6v rfl rfl z7z rfl rfl rfl rfl ?_
  refine x2x rfl ?_
  rw [show p9p bs = (uWo bs, true) from if_pos hG, hWo]
  refine y4y ?_
  exact ⟨.inr rfl, [_, _, _, _], rfl, rfl, HE.row rfl rfl (HE.row rfl rfl (HE.row rfl rfl (HE.row rfl rfl HE.nil)))⟩
 try simp at hc39
 try have hX : ¬ a6z bs := fun q => by have q1 := q.2.2.2; rw [hWo] at q1; simp [q1] at hc39
 refine x6x x9x (by rfl) ?_
 refine r7r z7z rfl a3b rfl (by simp only [pI, y3y, T3, u5u, T24, w8w, T25, w7w, T26, a0z, p1p, AV.okc, AV.one, Value.oneCell', List.map_cons, List.map_nil, List.getElem?_cons_zero, List.getElem?_cons_succ, List.take_succ_cons, List.take_zero, List.drop_succ_cons, List.drop_zero, List.cons_append, List.nil_append, List.length_cons, List.length_nil, if_true, and_self, Nat.reduceAdd, Nat.reduceLeDiff]; rfl) ?_
 refine v6v rfl rfl z7z rfl rfl rfl rfl ?_
 refine x2x rfl ?_
 refine s4s 0 rfl ?_
 refine s4s 1 rfl ?_
 refine s4s 2 rfl ?_
 refine s4s 3 rfl ?_
 refine q7q 4 7 0 3 1 rfl rfl rfl rfl rfl ?_
 refine q7q 4 8 1 3 1 rfl rfl rfl rfl rfl ?_
 refine q7q 4 9 2 81 7 rfl rfl rfl rfl rfl ?_
 refine q7q 4 10 3 84 5 rfl rfl rfl rfl rfl ?_
 rw [show p9p bs = (wo0, false) from if_neg hX]
 refine y4y ?_
 exact ⟨.inr rfl, [_, _, _, _], rfl, rfl, HE.row rfl rfl (HE.row rfl rfl (HE.row rfl rfl (HE.row rfl rfl HE.nil)))⟩
end
section
theorem a1g (c : Bool) (l : List Nat) (hl : l.length ≤ 1048576) : Meth Try.prog 11 1 [] [v7v c l] [(0, (0, .dead))] (.ref 0 0) [(0, (0, .row 5 1 (l.map a1l)))] := by
 refine v8v x9x (fn := Try.f11) (by kernel_rfl) (by kernel_rfl) rfl (O0 := [.ref 0 0]) 1 0 (v2v rfl) (by rfl) (by repeat (first | exact BndH.nil | refine BndH.dead ?_)) (by repeat (first | exact BndH.nil | refine BndH.row (w3w fun _ => rfl) ?_)) (by rfl) fun γ => ?_
 show Ex Try.prog _ _ [(0, v7v c l)] [(0, ((γ 0), .dead))] _
 refine x6x x9x (by rfl) ?_
 refine x2x rfl ?_
 refine x6x x9x (by rfl) ?_
 refine x0x rfl ?_
 refine u6u rfl w4w rfl ?_
 refine c1q (id := 0) w4w rfl a1c c5y rfl rfl rfl rfl (by (simp only [List.length_map, T5]; omega)) rfl ?_
 refine x2x rfl ?_
 refine x4x fun K1 hK1 => ?_
 refine x6x x9x (by rfl) ?_
 refine x2x rfl ?_
 refine y5y ?_
 refine v1v (ι := Nat) (fun i γ1 => [(4, .pv (.int .i64 (i : Int)))]) (fun i γ1 => [(0, ((γ 0 + 1), .row 5 1 ((l.take i).map a1l ++ (l.drop i).map fun _ => [.pv (.int .u8 0)])))]) (fun i => i ≤ l.length) (fun i => l.length - i) (x7x 0 rfl (x7x 3 rfl Cov.nil)) HE.nil 0 (by omega) [] (x7x 4 rfl Cov.nil) (HE.row rfl (by rw [List.take_zero, List.drop_zero, List.map_const']; rfl) HE.nil) rfl fun i γ1 hi => ?_
 try dsimp only [List.cons_append, List.nil_append]
 refine x4x fun K2 hK2 => ?_
 refine x6x x9x (by rfl) ?_
 refine x0x rfl ?_
 refine x0x rfl ?_
 refine u6u rfl w4w rfl ?_
 refine y6y rfl rfl rfl ?_
 refine y0y rfl (fun hc3 => ?_) (fun hc3 => ?_)
 rotate_left
 ·try simp at hc3
  obtain rfl : i = l.length := by omega
  refine v3v ?_
  refine hK1 _ _ ?_
  clear hK2 K2 hK1 K1
  refine x6x x9x (by rfl) ?_
  refine x0x rfl ?_
  refine x2x rfl ?_
  refine y4y ?_
  exact ⟨.inr rfl, [_], rfl, rfl, HE.row rfl (by rw [List.take_length, List.drop_length, List.map_nil, List.append_nil]) HE.nil⟩
 try simp at hc3
 obtain ⟨p, hp⟩ : ∃ p, l[i]? = some p := r5r (by omega)
 have hAl : ((l.take i).map a1l).length = i := by rw [List.length_map, List.length_take]; omega
 rw [a0w hp, List.map_cons]
 refine y1y ?_
 refine hK2 _ _ ?_
 clear hK2 K2
 refine x4x fun K4 hK4 => ?_
 refine y5y ?_
 refine y2y x9x (by rfl) ?_
 refine x0x rfl ?_
 refine x0x rfl ?_
 refine x0x rfl ?_
 refine x0x rfl ?_
 refine z9z rfl rfl w4w rfl a1c rfl (by assumption) ?_
 refine y7y rfl a1c rfl ?_
 refine a0p rfl rfl w4w rfl a1c rfl rfl hAl ?_
 refine r2r hAl rfl rfl a1c rfl rfl rfl rfl rfl rfl rfl rfl ?_
 refine hK4 _ _ ?_
 clear hK4 K4
 refine y2y x9x (by rfl) ?_
 refine x0x rfl ?_
 refine a0r rfl rfl rfl ?_
 refine x2x rfl ?_
 exact ⟨i + 1, ⟨by omega, by omega⟩, [], (Cov.cons' (t := 4) rfl (by rw [v9v (by omega) (by omega)]; rfl) Cov.nil), (x7x 0 rfl (x7x 3 rfl Cov.nil)), (HE.row rfl (by rw [s3s hp, List.map_append, List.append_assoc]; rfl) HE.nil), HE.nil, rfl⟩
theorem a7t (l : List Nat) (k : Nat) (hk : k + l.length ≤ 1000000000) : Meth Try.prog 14 1 [0] [.ref 0 0, .pv (.int .i64 (k : Int))] [(0, (0, .row 5 1 ((l).map a1l)))] (.pv (.int .i64 ((k + l.length : Nat) : Int))) [(0, (0, .row 5 1 ((mkB k l.length).map a1l)))] := by
 refine v8v x9x (fn := Try.f14) (by kernel_rfl) (by kernel_rfl) rfl (O0 := [.pv (.int .i64 ((k + l.length : Nat) : Int))]) 1 0 (v2v rfl) (by rfl) (by repeat (first | exact BndH.nil | refine BndH.row (w3w fun _ => rfl) ?_)) (by repeat (first | exact BndH.nil | refine BndH.row (w3w fun _ => rfl) ?_)) (by rfl) fun γ => ?_
 show Ex Try.prog _ _ [(0, .ref 0 (γ 0)), (1, .pv (.int .i64 (k : Int)))] [(0, ((γ 0), .row 5 1 ((l).map a1l)))] _
 refine x6x x9x (by rfl) ?_
 refine x2x rfl ?_
 refine x4x fun K1 hK1 => ?_
 refine x6x x9x (by rfl) ?_
 refine x2x rfl ?_
 refine y5y ?_
 refine v1v (ι := Nat) (fun i γ1 => [(1, .pv (.int .i64 ((k + i : Nat) : Int))), (5, .pv (.int .i64 (i : Int)))]) (fun i γ1 => [(0, ((γ 0), .row 5 1 ((mkB k i).map a1l ++ (l.drop i).map a1l)))]) (fun i => i ≤ l.length) (fun i => l.length - i) (x7x 0 rfl Cov.nil) HE.nil 0 (by omega) [] (x7x 1 rfl (x7x 5 rfl Cov.nil)) (HE.row rfl (by rw [List.drop_zero]; rfl) HE.nil) rfl fun i γ1 hi => ?_
 try dsimp only [List.cons_append, List.nil_append]
 refine x4x fun K2 hK2 => ?_
 refine x6x x9x (by rfl) ?_
 refine x0x rfl ?_
 refine x0x rfl ?_
 refine a5h (n := l.length) rfl w4w rfl rfl (by rw [List.length_append, List.length_map, List.length_map, b8n, List.length_drop]; omega) ?_
 refine y6y rfl rfl rfl ?_
 refine y0y rfl (fun hc3 => ?_) (fun hc3 => ?_)
 rotate_left
 ·try simp at hc3
  obtain rfl : i = l.length := by omega
  refine v3v ?_
  refine hK1 _ _ ?_
  clear hK2 K2 hK1 K1
  refine x6x x9x (by rfl) ?_
  refine x0x rfl ?_
  refine x2x rfl ?_
  refine y4y ?_
  exact ⟨.inr rfl, [γ 0], rfl, rfl, HE.row rfl (by rw [List.drop_length, List.map_nil, List.append_nil]) HE.nil⟩
 try simp at hc3
 obtain ⟨p, hp⟩ : ∃ p, l[i]? = some p := r5r (by omega)
 have hAl : ((mkB k i).map a1l).length = i := by rw [List.length_map, b8n]
 rw [a0w hp, List.map_cons]
 rw [show a1l p = [.pv (.int .u8 (p : Int))] from rfl]
 refine y1y ?_
 refine hK2 _ _ ?_
 clear hK2 K2
 refine x4x fun K4 hK4 => ?_
 refine y5y ?_
 refine x6x x9x (by rfl) ?_
 refine x0x rfl ?_
 refine x0x rfl ?_
 refine x0x rfl ?_
 refine r8r (((k + i) % 256 : Nat) : Int) rfl y3y a1c rfl rfl (c3w _) ?_
 refine a0p rfl rfl w4w rfl a1c rfl rfl hAl ?_
 refine r2r hAl rfl rfl a1c rfl rfl rfl rfl rfl rfl rfl (by simp only [a3i]; rfl) ?_
 refine y2y x9x (by rfl) ?_
 refine x0x rfl ?_
 refine v0v (b := 1) rfl rfl (by omega) ?_
 refine x2x rfl ?_
 refine hK4 _ _ ?_
 clear hK4 K4
 refine y2y x9x (by rfl) ?_
 refine x0x rfl ?_
 refine v0v (b := 1) rfl rfl (by omega) ?_
 refine x2x rfl ?_
 exact ⟨i + 1, ⟨by omega, by omega⟩, [], (x7x 1 rfl (x7x 5 rfl Cov.nil)), (x7x 0 rfl Cov.nil), (HE.row rfl (by rw [b9x, List.map_append, List.append_assoc]; rfl) HE.nil), HE.nil, rfl⟩
end
section
theorem b0a (a b : Ev) : a1f Try.prog 72 [.agg (s6s a), .agg (s6s b)] (.pv (.bool (decide (a = b)))) := by
 refine z5z x9x (fn := Try.f72) (by kernel_rfl) (by kernel_rfl) rfl (outs := [.pv (.bool (decide (a = b)))]) (by rfl) (v2v rfl) 2 ?_
 refine x6x x9x (by rfl) ?_
 refine p6p (id := 0) rfl rfl rfl ?_
 refine p6p (id := 1) rfl rfl rfl ?_
 refine x2x rfl ?_
 refine x4x fun K1 hK1 => ?_
 refine x6x x9x (by rfl) ?_
 refine x1x rfl u3u rfl rfl y3y rfl rfl ?_
 refine x3x rfl y3y rfl rfl ?_
 refine x1x rfl u3u rfl rfl y3y rfl rfl ?_
 refine x3x rfl y3y rfl rfl ?_
 refine y6y rfl rfl rfl ?_
 refine y0y rfl (fun hc2 => ?_) (fun hc2 => ?_)
 ·try simp at hc2
  refine x6x x9x (by rfl) ?_
  refine x2x rfl ?_
  refine y4y ⟨.inr rfl, ?_⟩
  clear hK1 K1
  refine z0z rfl ?_ rfl
  exact kF (by intro h; subst h; simp_all)
 try simp at hc2
 refine y1y ?_
 refine hK1 _ _ ?_
 clear hK1 K1
 refine x4x fun K3 hK3 => ?_
 refine x6x x9x (by rfl) ?_
 refine x1x rfl u3u rfl rfl y3y rfl rfl ?_
 refine x3x rfl y3y rfl rfl ?_
 refine x1x rfl u3u rfl rfl y3y rfl rfl ?_
 refine x3x rfl y3y rfl rfl ?_
 refine y6y rfl rfl rfl ?_
 refine y0y rfl (fun hc4 => ?_) (fun hc4 => ?_)
 ·try simp at hc4
  refine x6x x9x (by rfl) ?_
  refine x2x rfl ?_
  refine y4y ⟨.inr rfl, ?_⟩
  clear hK3 K3
  refine z0z rfl ?_ rfl
  exact kF (by intro h; subst h; simp_all)
 try simp at hc4
 refine y1y ?_
 refine hK3 _ _ ?_
 clear hK3 K3
 refine x4x fun K5 hK5 => ?_
 refine x6x x9x (by rfl) ?_
 refine x1x rfl u3u rfl rfl y3y rfl rfl ?_
 refine x3x rfl y3y rfl rfl ?_
 refine x1x rfl u3u rfl rfl y3y rfl rfl ?_
 refine x3x rfl y3y rfl rfl ?_
 refine y6y rfl rfl rfl ?_
 refine y0y rfl (fun hc6 => ?_) (fun hc6 => ?_)
 ·try simp at hc6
  refine x6x x9x (by rfl) ?_
  refine x2x rfl ?_
  refine y4y ⟨.inr rfl, ?_⟩
  clear hK5 K5
  refine z0z rfl ?_ rfl
  exact kF (by intro h; subst h; simp_all)
 try simp at hc6
 refine y1y ?_
 refine hK5 _ _ ?_
 clear hK5 K5
 refine x4x fun K7 hK7 => ?_
 refine x6x x9x (by rfl) ?_
 refine x1x rfl u3u rfl rfl y3y rfl rfl ?_
 refine x3x rfl y3y rfl rfl ?_
 refine x1x rfl u3u rfl rfl y3y rfl rfl ?_
 refine x3x rfl y3y rfl rfl ?_
 refine y6y rfl rfl rfl ?_
 refine y0y rfl (fun hc8 => ?_) (fun hc8 => ?_)
 ·try simp at hc8
  refine x6x x9x (by rfl) ?_
  refine x2x rfl ?_
  refine y4y ⟨.inr rfl, ?_⟩
  clear hK7 K7
  refine z0z rfl ?_ rfl
  exact kF (by intro h; subst h; simp_all)
 try simp at hc8
 refine y1y ?_
 refine hK7 _ _ ?_
 clear hK7 K7
 refine x4x fun K9 hK9 => ?_
 refine x6x x9x (by rfl) ?_
 refine x1x rfl u3u rfl rfl y3y rfl rfl ?_
 refine x3x rfl y3y rfl rfl ?_
 refine x1x rfl u3u rfl rfl y3y rfl rfl ?_
 refine x3x rfl y3y rfl rfl ?_
 refine y6y rfl rfl rfl ?_
 refine y0y rfl (fun hc10 => ?_) (fun hc10 => ?_)
 ·try simp at hc10
  refine x6x x9x (by rfl) ?_
  refine x2x rfl ?_
  refine y4y ⟨.inr rfl, ?_⟩
  clear hK9 K9
  refine z0z rfl ?_ rfl
  exact kF (by intro h; subst h; simp_all)
 try simp at hc10
 refine y1y ?_
 refine hK9 _ _ ?_
 clear hK9 K9
 refine x4x fun K11 hK11 => ?_
 refine x6x x9x (by rfl) ?_
 refine x1x rfl u3u rfl rfl y3y rfl rfl ?_
 refine x3x rfl y3y rfl rfl ?_
 refine x1x rfl u3u rfl rfl y3y rfl rfl ?_
 refine x3x rfl y3y rfl rfl ?_
 refine y6y rfl rfl rfl ?_
 refine y0y rfl (fun hc12 => ?_) (fun hc12 => ?_)
 ·try simp at hc12
  refine x6x x9x (by rfl) ?_
  refine x2x rfl ?_
  refine y4y ⟨.inr rfl, ?_⟩
  clear hK11 K11
  refine z0z rfl ?_ rfl
  exact kF (by intro h; subst h; simp_all)
 try simp at hc12
 refine y1y ?_
 refine hK11 _ _ ?_
 clear hK11 K11
 refine x4x fun K13 hK13 => ?_
 refine x6x x9x (by rfl) ?_
 refine x1x rfl u3u rfl rfl y3y rfl rfl ?_
 refine x3x rfl y3y rfl rfl ?_
 refine x1x rfl u3u rfl rfl y3y rfl rfl ?_
 refine x3x rfl y3y rfl rfl ?_
 refine y6y rfl rfl rfl ?_
 refine y0y rfl (fun hc14 => ?_) (fun hc14 => ?_)
 ·try simp at hc14
  refine x6x x9x (by rfl) ?_
  refine x2x rfl ?_
  refine y4y ⟨.inr rfl, ?_⟩
  clear hK13 K13
  refine z0z rfl ?_ rfl
  exact kF (by intro h; subst h; simp_all)
 try simp at hc14
 refine y1y ?_
 refine hK13 _ _ ?_
 clear hK13 K13
 refine x6x x9x (by rfl) ?_
 refine x2x rfl ?_
 refine y4y ⟨.inr rfl, ?_⟩
 refine z0z rfl ?_ rfl
 exact kT (by cases a; cases b; simp_all)
theorem b3l (a b : Ou) : a1f Try.prog 73 [.agg (a0n a), .agg (a0n b)] (.pv (.bool (decide (a = b)))) := by
 refine z5z x9x (fn := Try.f73) (by kernel_rfl) (by kernel_rfl) rfl (outs := [.pv (.bool (decide (a = b)))]) (by rfl) (v2v rfl) 2 ?_
 refine x6x x9x (by rfl) ?_
 refine p6p (id := 0) rfl rfl rfl ?_
 refine p6p (id := 1) rfl rfl rfl ?_
 refine x2x rfl ?_
 refine x4x fun K1 hK1 => ?_
 refine x6x x9x (by rfl) ?_
 refine x1x rfl u7u rfl rfl y3y rfl rfl ?_
 refine x3x rfl y3y rfl rfl ?_
 refine x1x rfl u7u rfl rfl y3y rfl rfl ?_
 refine x3x rfl y3y rfl rfl ?_
 refine y6y rfl rfl rfl ?_
 refine y0y rfl (fun hc2 => ?_) (fun hc2 => ?_)
 ·try simp at hc2
  refine x6x x9x (by rfl) ?_
  refine x2x rfl ?_
  refine y4y ⟨.inr rfl, ?_⟩
  clear hK1 K1
  refine z0z rfl ?_ rfl
  exact kF (by intro h; subst h; simp_all)
 try simp at hc2
 refine y1y ?_
 refine hK1 _ _ ?_
 clear hK1 K1
 refine x4x fun K3 hK3 => ?_
 refine x6x x9x (by rfl) ?_
 refine x1x rfl u7u rfl rfl y3y rfl rfl ?_
 refine x3x rfl y3y rfl rfl ?_
 refine x1x rfl u7u rfl rfl y3y rfl rfl ?_
 refine x3x rfl y3y rfl rfl ?_
 refine y6y rfl rfl rfl ?_
 refine y0y rfl (fun hc4 => ?_) (fun hc4 => ?_)
 ·try simp at hc4
  refine x6x x9x (by rfl) ?_
  refine x2x rfl ?_
  refine y4y ⟨.inr rfl, ?_⟩
  clear hK3 K3
  refine z0z rfl ?_ rfl
  exact kF (by intro h; subst h; simp_all)
 try simp at hc4
 refine y1y ?_
 refine hK3 _ _ ?_
 clear hK3 K3
 refine x4x fun K5 hK5 => ?_
 refine x6x x9x (by rfl) ?_
 refine x1x rfl u7u rfl rfl y3y rfl rfl ?_
 refine x3x rfl y3y rfl rfl ?_
 refine x1x rfl u7u rfl rfl y3y rfl rfl ?_
 refine x3x rfl y3y rfl rfl ?_
 refine y6y rfl rfl rfl ?_
 refine y0y rfl (fun hc6 => ?_) (fun hc6 => ?_)
 ·try simp at hc6
  refine x6x x9x (by rfl) ?_
  refine x2x rfl ?_
  refine y4y ⟨.inr rfl, ?_⟩
  clear hK5 K5
  refine z0z rfl ?_ rfl
  exact kF (by intro h; subst h; simp_all)
 try simp at hc6
 refine y1y ?_
 refine hK5 _ _ ?_
 clear hK5 K5
 refine x4x fun K7 hK7 => ?_
 refine x6x x9x (by rfl) ?_
 refine x1x rfl u7u rfl rfl y3y rfl rfl ?_
 refine x3x rfl y3y rfl rfl ?_
 refine x1x rfl u7u rfl rfl y3y rfl rfl ?_
 refine x3x rfl y3y rfl rfl ?_
 refine y6y rfl rfl rfl ?_
 refine y0y rfl (fun hc8 => ?_) (fun hc8 => ?_)
 ·try simp at hc8
  refine x6x x9x (by rfl) ?_
  refine x2x rfl ?_
  refine y4y ⟨.inr rfl, ?_⟩
  clear hK7 K7
  refine z0z rfl ?_ rfl
  exact kF (by intro h; subst h; simp_all)
 try simp at hc8
 refine y1y ?_
 refine hK7 _ _ ?_
 clear hK7 K7
 refine x4x fun K9 hK9 => ?_
 refine x6x x9x (by rfl) ?_
 refine x1x rfl u7u rfl rfl y3y rfl rfl ?_
 refine x3x rfl y3y rfl rfl ?_
 refine x1x rfl u7u rfl rfl y3y rfl rfl ?_
 refine x3x rfl y3y rfl rfl ?_
 refine y6y rfl rfl rfl ?_
 refine y0y rfl (fun hc10 => ?_) (fun hc10 => ?_)
 ·try simp at hc10
  refine x6x x9x (by rfl) ?_
  refine x2x rfl ?_
  refine y4y ⟨.inr rfl, ?_⟩
  clear hK9 K9
  refine z0z rfl ?_ rfl
  exact kF (by intro h; subst h; simp_all)
 try simp at hc10
 refine y1y ?_
 refine hK9 _ _ ?_
 clear hK9 K9
 refine x6x x9x (by rfl) ?_
 refine x2x rfl ?_
 refine y4y ⟨.inr rfl, ?_⟩
 refine z0z rfl ?_ rfl
 exact kT (by cases a; cases b; simp_all)
theorem a6l (c c' : Bool) (l l' : List Int) : a1f Try.prog 40 [s7s c l, s7s c' l'] (.pv (.bool (decide (l = l')))) := by
 refine z5z x9x (fn := Try.f40) (by kernel_rfl) (by kernel_rfl) rfl (outs := [.pv (.bool (decide (l = l')))]) (by rfl) (v2v rfl) 0 ?_
 refine q6q 0 rfl fun hlen => ?_
 refine x6x x9x (by rfl) ?_
 refine x2x rfl ?_
 refine x4x fun K1 hK1 => ?_
 refine x6x x9x (by rfl) ?_
 refine x0x rfl ?_
 refine u6u rfl u5u rfl ?_
 refine x0x rfl ?_
 refine u6u rfl u5u rfl ?_
 refine y6y rfl rfl rfl ?_
 refine y0y rfl (fun hc2 => ?_) (fun hc2 => ?_)
 ·try simp at hc2
  refine x6x x9x (by rfl) ?_
  refine x2x rfl ?_
  refine y4y ⟨.inr rfl, ?_⟩
  clear hK1 K1
  refine z0z rfl ?_ rfl
  exact c3p (by omega)
 try simp at hc2
 refine y1y ?_
 refine hK1 _ _ ?_
 clear hK1 K1
 refine x4x fun K3 hK3 => ?_
 refine x6x x9x (by rfl) ?_
 refine x2x rfl ?_
 refine y5y ?_
 refine v1v (ι := Nat) (fun i γ1 => [(5, .pv (.int .i64 (i : Int)))]) (fun i γ1 => []) (fun i => i ≤ l.length ∧ l.length = l'.length ∧ l.take i = l'.take i) (fun i => l.length - i) (x7x 0 rfl (x7x 1 rfl Cov.nil)) HE.nil 0 ⟨by omega, by omega, rfl⟩ [] (x7x 5 rfl Cov.nil) HE.nil rfl fun i γ1 hi => ?_
 try dsimp only [List.cons_append, List.nil_append]
 obtain ⟨h1, h2, h3⟩ := hi
 refine x4x fun K4 hK4 => ?_
 refine x6x x9x (by rfl) ?_
 refine x0x rfl ?_
 refine x0x rfl ?_
 refine u6u rfl u5u rfl ?_
 refine y6y rfl rfl rfl ?_
 refine y0y rfl (fun hc5 => ?_) (fun hc5 => ?_)
 rotate_left
 ·try simp at hc5
  refine v3v ?_
  refine hK3 _ _ ?_
  clear hK4 K4 hK3 K3
  refine x6x x9x (by rfl) ?_
  refine x2x rfl ?_
  refine y4y ⟨.inr rfl, ?_⟩
  refine z0z rfl ?_ rfl
  exact eqT h3 (by omega) (by omega)
 try simp at hc5
 refine y1y ?_
 refine hK4 _ _ ?_
 clear hK4 K4
 refine x4x fun K6 hK6 => ?_
 refine y5y ?_
 refine q5q x9x s9s (by rfl) ?_
 refine x0x rfl ?_
 refine x0x rfl ?_
 obtain ⟨x, hx⟩ : ∃ x, l[i]? = some x := r5r (by omega)
 refine z9z rfl rfl u5u rfl y3y rfl hx ?_
 refine y7y rfl y3y rfl ?_
 refine x0x rfl ?_
 refine x0x rfl ?_
 obtain ⟨y, hy⟩ : ∃ y, l'[i]? = some y := r5r (by omega)
 refine z9z rfl rfl u5u rfl y3y rfl hy ?_
 refine y7y rfl y3y rfl ?_
 refine y6y rfl rfl rfl ?_
 refine ⟨by kernel_rfl, ?_⟩
 refine y0y rfl (fun hc7 => ?_) (fun hc7 => ?_)
 rotate_left
 ·try simp at hc7
  refine y1y ?_
  refine hK6 _ _ ?_
  clear hK6 K6
  refine y2y x9x (by rfl) ?_
  refine x0x rfl ?_
  refine u0u (.int .i64 ((i + 1 : Nat) : Int)) rfl rfl rfl (p8p rfl (by omega) (by omega) (by have := hlen; omega)) ?_
  refine x2x rfl ?_
  exact ⟨i + 1, ⟨⟨by omega, h2, a3t h3 hx hy (by assumption)⟩, by omega⟩, [], (x7x 5 rfl Cov.nil), (x7x 0 rfl (x7x 1 rfl Cov.nil)), HE.nil, HE.nil, rfl⟩
 try simp at hc7
 refine x6x x9x (by rfl) ?_
 refine x2x rfl ?_
 refine y4y ⟨.inr rfl, ?_⟩
 clear hK6 K6 hK3 K3
 refine z0z rfl ?_ rfl
 exact c3q hx hy (by assumption)
theorem a9j (c c' : Bool) (l l' : List Ev) : a1f Try.prog 41 [b2x c l, b2x c' l'] (.pv (.bool (decide (l = l')))) := by
 refine z5z x9x (fn := Try.f41) (by kernel_rfl) (by kernel_rfl) rfl (outs := [.pv (.bool (decide (l = l')))]) (by rfl) (v2v rfl) 0 ?_
 refine q6q 0 rfl fun hlen => ?_
 refine x6x x9x (by rfl) ?_
 refine x2x rfl ?_
 refine x4x fun K1 hK1 => ?_
 refine x6x x9x (by rfl) ?_
 refine x0x rfl ?_
 refine u6u rfl w8w rfl ?_
 refine x0x rfl ?_
 refine u6u rfl w8w rfl ?_
 refine y6y rfl rfl rfl ?_
 refine y0y rfl (fun hc2 => ?_) (fun hc2 => ?_)
 ·try simp at hc2
  refine x6x x9x (by rfl) ?_
  refine x2x rfl ?_
  refine y4y ⟨.inr rfl, ?_⟩
  clear hK1 K1
  refine z0z rfl ?_ rfl
  exact c3p (by omega)
 try simp at hc2
 refine y1y ?_
 refine hK1 _ _ ?_
 clear hK1 K1
 refine x4x fun K3 hK3 => ?_
 refine x6x x9x (by rfl) ?_
 refine x2x rfl ?_
 refine y5y ?_
 refine v1v (ι := Nat) (fun i γ1 => [(5, .pv (.int .i64 (i : Int)))]) (fun i γ1 => []) (fun i => i ≤ l.length ∧ l.length = l'.length ∧ l.take i = l'.take i) (fun i => l.length - i) (x7x 0 rfl (x7x 1 rfl Cov.nil)) HE.nil 0 ⟨by omega, by omega, rfl⟩ [] (x7x 5 rfl Cov.nil) HE.nil rfl fun i γ1 hi => ?_
 try dsimp only [List.cons_append, List.nil_append]
 obtain ⟨h1, h2, h3⟩ := hi
 refine x4x fun K4 hK4 => ?_
 refine x6x x9x (by rfl) ?_
 refine x0x rfl ?_
 refine x0x rfl ?_
 refine u6u rfl w8w rfl ?_
 refine y6y rfl rfl rfl ?_
 refine y0y rfl (fun hc5 => ?_) (fun hc5 => ?_)
 rotate_left
 ·try simp at hc5
  refine v3v ?_
  refine hK3 _ _ ?_
  clear hK4 K4 hK3 K3
  refine x6x x9x (by rfl) ?_
  refine x2x rfl ?_
  refine y4y ⟨.inr rfl, ?_⟩
  refine z0z rfl ?_ rfl
  exact eqT h3 (by omega) (by omega)
 try simp at hc5
 refine y1y ?_
 refine hK4 _ _ ?_
 clear hK4 K4
 refine x4x fun K6 hK6 => ?_
 refine y5y ?_
 refine q5q x9x s9s (by rfl) ?_
 refine x0x rfl ?_
 refine x0x rfl ?_
 obtain ⟨x, hx⟩ : ∃ x, l[i]? = some x := r5r (by omega)
 refine z9z rfl rfl w8w rfl u3u rfl hx ?_
 refine p4p rfl u3u rfl rfl ?_
 refine x0x rfl ?_
 refine x0x rfl ?_
 obtain ⟨y, hy⟩ : ∃ y, l'[i]? = some y := r5r (by omega)
 refine z9z rfl rfl w8w rfl u3u rfl hy ?_
 refine p4p rfl u3u rfl rfl ?_
 refine z2z rfl rfl rfl (b0a ..) ?_
 refine q1q rfl ?_
 refine ⟨by kernel_rfl, ?_⟩
 refine y0y rfl (fun hc7 => ?_) (fun hc7 => ?_)
 rotate_left
 ·try simp at hc7
  refine y1y ?_
  refine hK6 _ _ ?_
  clear hK6 K6
  refine y2y x9x (by rfl) ?_
  refine x0x rfl ?_
  refine u0u (.int .i64 ((i + 1 : Nat) : Int)) rfl rfl rfl (p8p rfl (by omega) (by omega) (by have := hlen; omega)) ?_
  refine x2x rfl ?_
  exact ⟨i + 1, ⟨⟨by omega, h2, a3t h3 hx hy (by assumption)⟩, by omega⟩, [], (x7x 5 rfl Cov.nil), (x7x 0 rfl (x7x 1 rfl Cov.nil)), HE.nil, HE.nil, rfl⟩
 try simp at hc7
 refine x6x x9x (by rfl) ?_
 refine x2x rfl ?_
 refine y4y ⟨.inr rfl, ?_⟩
 clear hK6 K6 hK3 K3
 refine z0z rfl ?_ rfl
 exact c3q hx hy (by assumption)
theorem b1x (c c' : Bool) (l l' : List Ou) : a1f Try.prog 42 [b2y c l, b2y c' l'] (.pv (.bool (decide (l = l')))) := by
 refine z5z x9x (fn := Try.f42) (by kernel_rfl) (by kernel_rfl) rfl (outs := [.pv (.bool (decide (l = l')))]) (by rfl) (v2v rfl) 0 ?_
 refine q6q 0 rfl fun hlen => ?_
 refine x6x x9x (by rfl) ?_
 refine x2x rfl ?_
 refine x4x fun K1 hK1 => ?_
 refine x6x x9x (by rfl) ?_
 refine x0x rfl ?_
 refine u6u rfl w7w rfl ?_
 refine x0x rfl ?_
 refine u6u rfl w7w rfl ?_
 refine y6y rfl rfl rfl ?_
 refine y0y rfl (fun hc2 => ?_) (fun hc2 => ?_)
 ·try simp at hc2
  refine x6x x9x (by rfl) ?_
  refine x2x rfl ?_
  refine y4y ⟨.inr rfl, ?_⟩
  clear hK1 K1
  refine z0z rfl ?_ rfl
  exact c3p (by omega)
 try simp at hc2
 refine y1y ?_
 refine hK1 _ _ ?_
 clear hK1 K1
 refine x4x fun K3 hK3 => ?_
 refine x6x x9x (by rfl) ?_
 refine x2x rfl ?_
 refine y5y ?_
 refine v1v (ι := Nat) (fun i γ1 => [(5, .pv (.int .i64 (i : Int)))]) (fun i γ1 => []) (fun i => i ≤ l.length ∧ l.length = l'.length ∧ l.take i = l'.take i) (fun i => l.length - i) (x7x 0 rfl (x7x 1 rfl Cov.nil)) HE.nil 0 ⟨by omega, by omega, rfl⟩ [] (x7x 5 rfl Cov.nil) HE.nil rfl fun i γ1 hi => ?_
 try dsimp only [List.cons_append, List.nil_append]
 obtain ⟨h1, h2, h3⟩ := hi
 refine x4x fun K4 hK4 => ?_
 refine x6x x9x (by rfl) ?_
 refine x0x rfl ?_
 refine x0x rfl ?_
 refine u6u rfl w7w rfl ?_
 refine y6y rfl rfl rfl ?_
 refine y0y rfl (fun hc5 => ?_) (fun hc5 => ?_)
 rotate_left
 ·try simp at hc5
  refine v3v ?_
  refine hK3 _ _ ?_
  clear hK4 K4 hK3 K3
  refine x6x x9x (by rfl) ?_
  refine x2x rfl ?_
  refine y4y ⟨.inr rfl, ?_⟩
  refine z0z rfl ?_ rfl
  exact eqT h3 (by omega) (by omega)
 try simp at hc5
 refine y1y ?_
 refine hK4 _ _ ?_
 clear hK4 K4
 refine x4x fun K6 hK6 => ?_
 refine y5y ?_
 refine q5q x9x s9s (by rfl) ?_
 refine x0x rfl ?_
 refine x0x rfl ?_
 obtain ⟨x, hx⟩ : ∃ x, l[i]? = some x := r5r (by omega)
 refine z9z rfl rfl w7w rfl u7u rfl hx ?_
 refine p4p rfl u7u rfl rfl ?_
 refine x0x rfl ?_
 refine x0x rfl ?_
 obtain ⟨y, hy⟩ : ∃ y, l'[i]? = some y := r5r (by omega)
 refine z9z rfl rfl w7w rfl u7u rfl hy ?_
 refine p4p rfl u7u rfl rfl ?_
 refine z2z rfl rfl rfl (b3l ..) ?_
 refine q1q rfl ?_
 refine ⟨by kernel_rfl, ?_⟩
 refine y0y rfl (fun hc7 => ?_) (fun hc7 => ?_)
 rotate_left
 ·try simp at hc7
  refine y1y ?_
  refine hK6 _ _ ?_
  clear hK6 K6
  refine y2y x9x (by rfl) ?_
  refine x0x rfl ?_
  refine u0u (.int .i64 ((i + 1 : Nat) : Int)) rfl rfl rfl (p8p rfl (by omega) (by omega) (by have := hlen; omega)) ?_
  refine x2x rfl ?_
  exact ⟨i + 1, ⟨⟨by omega, h2, a3t h3 hx hy (by assumption)⟩, by omega⟩, [], (x7x 5 rfl Cov.nil), (x7x 0 rfl (x7x 1 rfl Cov.nil)), HE.nil, HE.nil, rfl⟩
 try simp at hc7
 refine x6x x9x (by rfl) ?_
 refine x2x rfl ?_
 refine y4y ⟨.inr rfl, ?_⟩
 clear hK6 K6 hK3 K3
 refine z0z rfl ?_ rfl
 exact c3q hx hy (by assumption)
end
section
theorem a3h (c c' : Bool) (a b : Wo) : a1f Try.prog 12 [.agg (a5z c a), .agg (a5z c' b)] (.pv (.bool (decide (a = b)))) := by
 refine z5z x9x (fn := Try.f12) (by kernel_rfl) (by kernel_rfl) rfl (outs := [.pv (.bool (decide (a = b)))]) (by rfl) (v2v rfl) 2 ?_
 refine x6x x9x (by rfl) ?_
 refine p6p (id := 0) rfl rfl rfl ?_
 refine p6p (id := 1) rfl rfl rfl ?_
 refine x2x rfl ?_
 refine x4x fun K1 hK1 => ?_
 refine x6x x9x (by rfl) ?_
 refine x1x rfl z7z rfl rfl y3y rfl rfl ?_
 refine x3x rfl y3y rfl rfl ?_
 refine x1x rfl z7z rfl rfl y3y rfl rfl ?_
 refine x3x rfl y3y rfl rfl ?_
 refine y6y rfl rfl rfl ?_
 refine y0y rfl (fun hc2 => ?_) (fun hc2 => ?_)
 ·try simp at hc2
  refine x6x x9x (by rfl) ?_
  refine x2x rfl ?_
  refine y4y ⟨.inr rfl, ?_⟩
  clear hK1 K1
  refine z0z rfl ?_ rfl
  exact kF (by intro h; subst h; simp_all)
 try simp at hc2
 refine y1y ?_
 refine hK1 _ _ ?_
 clear hK1 K1
 refine x4x fun K3 hK3 => ?_
 refine x6x x9x (by rfl) ?_
 refine x1x rfl z7z rfl rfl y3y rfl rfl ?_
 refine x3x rfl y3y rfl rfl ?_
 refine x1x rfl z7z rfl rfl y3y rfl rfl ?_
 refine x3x rfl y3y rfl rfl ?_
 refine y6y rfl rfl rfl ?_
 refine y0y rfl (fun hc4 => ?_) (fun hc4 => ?_)
 ·try simp at hc4
  refine x6x x9x (by rfl) ?_
  refine x2x rfl ?_
  refine y4y ⟨.inr rfl, ?_⟩
  clear hK3 K3
  refine z0z rfl ?_ rfl
  exact kF (by intro h; subst h; simp_all)
 try simp at hc4
 refine y1y ?_
 refine hK3 _ _ ?_
 clear hK3 K3
 refine x4x fun K5 hK5 => ?_
 refine x6x x9x (by rfl) ?_
 refine x1x rfl z7z rfl rfl y3y rfl rfl ?_
 refine x3x rfl y3y rfl rfl ?_
 refine x1x rfl z7z rfl rfl y3y rfl rfl ?_
 refine x3x rfl y3y rfl rfl ?_
 refine y6y rfl rfl rfl ?_
 refine y0y rfl (fun hc6 => ?_) (fun hc6 => ?_)
 ·try simp at hc6
  refine x6x x9x (by rfl) ?_
  refine x2x rfl ?_
  refine y4y ⟨.inr rfl, ?_⟩
  clear hK5 K5
  refine z0z rfl ?_ rfl
  exact kF (by intro h; subst h; simp_all)
 try simp at hc6
 refine y1y ?_
 refine hK5 _ _ ?_
 clear hK5 K5
 refine x4x fun K7 hK7 => ?_
 refine x6x x9x (by rfl) ?_
 refine x1x rfl z7z rfl rfl y3y rfl rfl ?_
 refine x3x rfl y3y rfl rfl ?_
 refine x1x rfl z7z rfl rfl y3y rfl rfl ?_
 refine x3x rfl y3y rfl rfl ?_
 refine y6y rfl rfl rfl ?_
 refine y0y rfl (fun hc8 => ?_) (fun hc8 => ?_)
 ·try simp at hc8
  refine x6x x9x (by rfl) ?_
  refine x2x rfl ?_
  refine y4y ⟨.inr rfl, ?_⟩
  clear hK7 K7
  refine z0z rfl ?_ rfl
  exact kF (by intro h; subst h; simp_all)
 try simp at hc8
 refine y1y ?_
 refine hK7 _ _ ?_
 clear hK7 K7
 refine x4x fun K9 hK9 => ?_
 refine x6x x9x (by rfl) ?_
 refine x1x rfl z7z rfl rfl y3y rfl rfl ?_
 refine x3x rfl y3y rfl rfl ?_
 refine x1x rfl z7z rfl rfl y3y rfl rfl ?_
 refine x3x rfl y3y rfl rfl ?_
 refine y6y rfl rfl rfl ?_
 refine y0y rfl (fun hc10 => ?_) (fun hc10 => ?_)
 ·try simp at hc10
  refine x6x x9x (by rfl) ?_
  refine x2x rfl ?_
  refine y4y ⟨.inr rfl, ?_⟩
  clear hK9 K9
  refine z0z rfl ?_ rfl
  exact kF (by intro h; subst h; simp_all)
 try simp at hc10
 refine y1y ?_
 refine hK9 _ _ ?_
 clear hK9 K9
 refine x4x fun K11 hK11 => ?_
 refine x6x x9x (by rfl) ?_
 refine x1x rfl z7z rfl rfl y3y rfl rfl ?_
 refine x3x rfl y3y rfl rfl ?_
 refine x1x rfl z7z rfl rfl y3y rfl rfl ?_
 refine x3x rfl y3y rfl rfl ?_
 refine y6y rfl rfl rfl ?_
 refine y0y rfl (fun hc12 => ?_) (fun hc12 => ?_)
 ·try simp at hc12
  refine x6x x9x (by rfl) ?_
  refine x2x rfl ?_
  refine y4y ⟨.inr rfl, ?_⟩
  clear hK11 K11
  refine z0z rfl ?_ rfl
  exact kF (by intro h; subst h; simp_all)
 try simp at hc12
 refine y1y ?_
 refine hK11 _ _ ?_
 clear hK11 K11
 refine x4x fun K13 hK13 => ?_
 refine x6x x9x (by rfl) ?_
 refine x1x rfl z7z rfl rfl y3y rfl rfl ?_
 refine x3x rfl y3y rfl rfl ?_
 refine x1x rfl z7z rfl rfl y3y rfl rfl ?_
 refine x3x rfl y3y rfl rfl ?_
 refine y6y rfl rfl rfl ?_
 refine y0y rfl (fun hc14 => ?_) (fun hc14 => ?_)
 ·try simp at hc14
  refine x6x x9x (by rfl) ?_
  refine x2x rfl ?_
  refine y4y ⟨.inr rfl, ?_⟩
  clear hK13 K13
  refine z0z rfl ?_ rfl
  exact kF (by intro h; subst h; simp_all)
 try simp at hc14
 refine y1y ?_
 refine hK13 _ _ ?_
 clear hK13 K13
 refine x4x fun K15 hK15 => ?_
 refine x6x x9x (by rfl) ?_
 refine x1x rfl z7z rfl rfl u5u rfl rfl ?_
 refine x3x rfl u5u rfl rfl ?_
 refine x1x rfl z7z rfl rfl u5u rfl rfl ?_
 refine x3x rfl u5u rfl rfl ?_
 refine z2z rfl rfl rfl (a6l ..) ?_
 refine q1q rfl ?_
 refine y0y rfl (fun hc16 => ?_) (fun hc16 => ?_)
 ·try simp at hc16
  refine x6x x9x (by rfl) ?_
  refine x2x rfl ?_
  refine y4y ⟨.inr rfl, ?_⟩
  clear hK15 K15
  refine z0z rfl ?_ rfl
  exact kF (by intro h; subst h; simp_all)
 try simp at hc16
 refine y1y ?_
 refine hK15 _ _ ?_
 clear hK15 K15
 refine x4x fun K17 hK17 => ?_
 refine x6x x9x (by rfl) ?_
 refine x1x rfl z7z rfl rfl u5u rfl rfl ?_
 refine x3x rfl u5u rfl rfl ?_
 refine x1x rfl z7z rfl rfl u5u rfl rfl ?_
 refine x3x rfl u5u rfl rfl ?_
 refine z2z rfl rfl rfl (a6l ..) ?_
 refine q1q rfl ?_
 refine y0y rfl (fun hc18 => ?_) (fun hc18 => ?_)
 ·try simp at hc18
  refine x6x x9x (by rfl) ?_
  refine x2x rfl ?_
  refine y4y ⟨.inr rfl, ?_⟩
  clear hK17 K17
  refine z0z rfl ?_ rfl
  exact kF (by intro h; subst h; simp_all)
 try simp at hc18
 refine y1y ?_
 refine hK17 _ _ ?_
 clear hK17 K17
 refine x4x fun K19 hK19 => ?_
 refine x6x x9x (by rfl) ?_
 refine x1x rfl z7z rfl rfl w8w rfl rfl ?_
 refine x3x rfl w8w rfl rfl ?_
 refine x1x rfl z7z rfl rfl w8w rfl rfl ?_
 refine x3x rfl w8w rfl rfl ?_
 refine z2z rfl rfl rfl (a9j ..) ?_
 refine q1q rfl ?_
 refine y0y rfl (fun hc20 => ?_) (fun hc20 => ?_)
 ·try simp at hc20
  refine x6x x9x (by rfl) ?_
  refine x2x rfl ?_
  refine y4y ⟨.inr rfl, ?_⟩
  clear hK19 K19
  refine z0z rfl ?_ rfl
  exact kF (by intro h; subst h; simp_all)
 try simp at hc20
 refine y1y ?_
 refine hK19 _ _ ?_
 clear hK19 K19
 refine x4x fun K21 hK21 => ?_
 refine x6x x9x (by rfl) ?_
 refine x1x rfl z7z rfl rfl w7w rfl rfl ?_
 refine x3x rfl w7w rfl rfl ?_
 refine x1x rfl z7z rfl rfl w7w rfl rfl ?_
 refine x3x rfl w7w rfl rfl ?_
 refine z2z rfl rfl rfl (b1x ..) ?_
 refine q1q rfl ?_
 refine y0y rfl (fun hc22 => ?_) (fun hc22 => ?_)
 ·try simp at hc22
  refine x6x x9x (by rfl) ?_
  refine x2x rfl ?_
  refine y4y ⟨.inr rfl, ?_⟩
  clear hK21 K21
  refine z0z rfl ?_ rfl
  exact kF (by intro h; subst h; simp_all)
 try simp at hc22
 refine y1y ?_
 refine hK21 _ _ ?_
 clear hK21 K21
 refine x6x x9x (by rfl) ?_
 refine x2x rfl ?_
 refine y4y ⟨.inr rfl, ?_⟩
 refine z0z rfl ?_ rfl
 exact kT (by cases a; cases b; simp_all)
end
section
theorem a4g (l : List Int) (k : Nat) (hk : k + szs zI l ≤ 1000000000) : Meth Try.prog 43 1 [0] [.ref 0 0, .pv (.int .i64 (k : Int))] [(0, (0, .row 3 1 (l.map a3p)))] (.pv (.int .i64 ((k + szs zI l : Nat) : Int))) [(0, (0, .row 3 1 ((mks zI kI k l).map a3p)))] := by
 refine v8v x9x (fn := Try.f43) (by kernel_rfl) (by kernel_rfl) rfl (O0 := [.pv (.int .i64 ((k + szs zI l : Nat) : Int))]) 1 0 (v2v rfl) (by rfl) (by repeat (first | exact BndH.nil | refine BndH.row (w3w fun _ => rfl) ?_)) (by repeat (first | exact BndH.nil | refine BndH.row (w3w fun _ => rfl) ?_)) (by rfl) fun γ => ?_
 show Ex Try.prog _ _ [(0, .ref 0 (γ 0)), (1, .pv (.int .i64 (k : Int)))] [(0, ((γ 0), .row 3 1 (l.map a3p)))] _
 have hml := a6v zI kI k l
 have hll := a6w zI (fun p => by unfold zI; omega) l
 refine x6x x9x (by rfl) ?_
 refine x2x rfl ?_
 refine x4x fun K1 hK1 => ?_
 refine x6x x9x (by rfl) ?_
 refine x2x rfl ?_
 refine y5y ?_
 refine v1v (ι := Nat) (fun i γ1 => [(1, .pv (.int .i64 ((k + szs zI (l.take i) : Nat) : Int))), (5, .pv (.int .i64 (i : Int)))]) (fun i γ1 => [(0, ((γ 0), .row 3 1 (((mks zI kI k l).take i).map a3p ++ (l.drop i).map a3p)))]) (fun i => i ≤ l.length) (fun i => l.length - i) (x7x 0 rfl Cov.nil) HE.nil 0 (by omega) [] (Cov.cons' (t := 1) rfl (by rw [List.take_zero]; rfl) (x7x 5 rfl Cov.nil)) (HE.row rfl (by rw [List.take_zero, List.drop_zero]; rfl) HE.nil) rfl fun i γ1 hi => ?_
 try dsimp only [List.cons_append, List.nil_append]
 refine x4x fun K2 hK2 => ?_
 refine x6x x9x (by rfl) ?_
 refine x0x rfl ?_
 refine x0x rfl ?_
 refine a5h (n := l.length) rfl u5u rfl rfl (by rw [List.length_append, List.length_map, List.length_map, List.length_take, List.length_drop]; omega) ?_
 refine y6y rfl rfl rfl ?_
 refine y0y rfl (fun hc3 => ?_) (fun hc3 => ?_)
 rotate_left
 ·try simp at hc3
  obtain rfl : i = l.length := by omega
  refine v3v ?_
  refine hK1 _ _ ?_
  clear hK2 K2 hK1 K1
  refine x6x x9x (by rfl) ?_
  refine x0x rfl ?_
  refine x2x rfl ?_
  refine y4y ?_
  exact ⟨.inr rfl, [γ 0], rfl, congrArg (fun v : Nat => some [AV.pv (.int .i64 (v : Int))]) (by rw [List.take_length]), HE.row rfl (by rw [List.take_of_length_le (by omega), List.drop_length, List.map_nil, List.append_nil]) HE.nil⟩
 try simp at hc3
 obtain ⟨p, hp⟩ : ∃ p, l[i]? = some p := r5r (by omega)
 have hmk := a6x zI kI (k := k) hp
 have hat := b0i zI hp
 have hzp : zI p = 1 := rfl
 have hAl : (((mks zI kI k l).take i).map a3p).length = i := by rw [List.length_map, List.length_take]; omega
 rw [a0w hp, List.map_cons]
 rw [show a3p p = [pI p] from rfl]
 obtain ⟨q, hq⟩ : ∃ q, q = k + szs zI (l.take i) := ⟨_, rfl⟩
 rw [← hq] at hmk ⊢
 refine y1y ?_
 refine hK2 _ _ ?_
 clear hK2 K2
 refine x4x fun K4 hK4 => ?_
 refine y5y ?_
 refine x6x x9x (by rfl) ?_
 refine x0x rfl ?_
 refine x0x rfl ?_
 refine x0x rfl ?_
 refine a0p rfl rfl u5u rfl y3y rfl rfl hAl ?_
 refine r2r hAl rfl rfl y3y rfl rfl rfl rfl rfl rfl rfl (by simp only [a3i]; rfl) ?_
 refine y2y x9x (by rfl) ?_
 refine x0x rfl ?_
 refine v0v (b := 1) rfl rfl (by omega) ?_
 refine x2x rfl ?_
 refine hK4 _ _ ?_
 clear hK4 K4
 refine y2y x9x (by rfl) ?_
 refine x0x rfl ?_
 refine v0v (b := 1) rfl rfl (by omega) ?_
 refine x2x rfl ?_
 exact ⟨i + 1, ⟨by omega, by omega⟩, [], (Cov.cons' (t := 1) rfl (by rw [a3d zI hp]; exact congrArg (fun v : Nat => AV.pv (.int .i64 (v : Int))) (by omega)) (x7x 5 rfl Cov.nil)), (x7x 0 rfl Cov.nil), (HE.row rfl (by rw [s3s hmk, List.map_append, List.append_assoc]; rfl) HE.nil), HE.nil, rfl⟩
theorem a7d (l : List Ev) (k : Nat) (hk : k + szs zEv l ≤ 1000000000) : Meth Try.prog 44 1 [0] [.ref 0 0, .pv (.int .i64 (k : Int))] [(0, (0, .row 81 7 (l.map s6s)))] (.pv (.int .i64 ((k + szs zEv l : Nat) : Int))) [(0, (0, .row 81 7 ((mks zEv kEv k l).map s6s)))] := by
 refine v8v x9x (fn := Try.f44) (by kernel_rfl) (by kernel_rfl) rfl (O0 := [.pv (.int .i64 ((k + szs zEv l : Nat) : Int))]) 1 0 (v2v rfl) (by rfl) (by repeat (first | exact BndH.nil | refine BndH.row (w3w fun _ => rfl) ?_)) (by repeat (first | exact BndH.nil | refine BndH.row (w3w fun _ => rfl) ?_)) (by rfl) fun γ => ?_
 show Ex Try.prog _ _ [(0, .ref 0 (γ 0)), (1, .pv (.int .i64 (k : Int)))] [(0, ((γ 0), .row 81 7 (l.map s6s)))] _
 have hml := a6v zEv kEv k l
 have hll := a6w zEv (fun p => by unfold zEv; omega) l
 refine x6x x9x (by rfl) ?_
 refine x2x rfl ?_
 refine x4x fun K1 hK1 => ?_
 refine x6x x9x (by rfl) ?_
 refine x2x rfl ?_
 refine y5y ?_
 refine v1v (ι := Nat) (fun i γ1 => [(1, .pv (.int .i64 ((k + szs zEv (l.take i) : Nat) : Int))), (5, .pv (.int .i64 (i : Int)))]) (fun i γ1 => [(0, ((γ 0), .row 81 7 (((mks zEv kEv k l).take i).map s6s ++ (l.drop i).map s6s)))]) (fun i => i ≤ l.length) (fun i => l.length - i) (x7x 0 rfl Cov.nil) HE.nil 0 (by omega) [] (Cov.cons' (t := 1) rfl (by rw [List.take_zero]; rfl) (x7x 5 rfl Cov.nil)) (HE.row rfl (by rw [List.take_zero, List.drop_zero]; rfl) HE.nil) rfl fun i γ1 hi => ?_
 try dsimp only [List.cons_append, List.nil_append]
 refine x4x fun K2 hK2 => ?_
 refine x6x x9x (by rfl) ?_
 refine x0x rfl ?_
 refine x0x rfl ?_
 refine a5h (n := l.length) rfl w8w rfl rfl (by rw [List.length_append, List.length_map, List.length_map, List.length_take, List.length_drop]; omega) ?_
 refine y6y rfl rfl rfl ?_
 refine y0y rfl (fun hc3 => ?_) (fun hc3 => ?_)
 rotate_left
 ·try simp at hc3
  obtain rfl : i = l.length := by omega
  refine v3v ?_
  refine hK1 _ _ ?_
  clear hK2 K2 hK1 K1
  refine x6x x9x (by rfl) ?_
  refine x0x rfl ?_
  refine x2x rfl ?_
  refine y4y ?_
  exact ⟨.inr rfl, [γ 0], rfl, congrArg (fun v : Nat => some [AV.pv (.int .i64 (v : Int))]) (by rw [List.take_length]), HE.row rfl (by rw [List.take_of_length_le (by omega), List.drop_length, List.map_nil, List.append_nil]) HE.nil⟩
 try simp at hc3
 obtain ⟨p, hp⟩ : ∃ p, l[i]? = some p := r5r (by omega)
 have hmk := a6x zEv kEv (k := k) hp
 have hat := b0i zEv hp
 have hzp : zEv p = 7 := rfl
 have hAl : (((mks zEv kEv k l).take i).map s6s).length = i := by rw [List.length_map, List.length_take]; omega
 rw [a0w hp, List.map_cons]
 rw [show s6s p = [pI p.time, pI p.to, pI p.from', pI p.count, pI p.n, pI p.kind, pI p.arg] from rfl]
 obtain ⟨q, hq⟩ : ∃ q, q = k + szs zEv (l.take i) := ⟨_, rfl⟩
 rw [← hq] at hmk ⊢
 refine y1y ?_
 refine hK2 _ _ ?_
 clear hK2 K2
 refine x4x fun K4 hK4 => ?_
 refine y5y ?_
 refine x6x x9x (by rfl) ?_
 refine x0x rfl ?_
 refine x0x rfl ?_
 refine x0x rfl ?_
 refine a0p rfl rfl w8w rfl u3u rfl rfl hAl ?_
 refine x1x rfl u3u rfl rfl y3y rfl rfl ?_
 refine r2r hAl rfl rfl y3y rfl rfl rfl rfl rfl rfl rfl (by simp only [a3i]; rfl) ?_
 refine x6x x9x (by rfl) ?_
 refine x0x rfl ?_
 refine v0v (b := 1) rfl rfl (by omega) ?_
 refine x2x rfl ?_
 refine x6x x9x (by rfl) ?_
 refine x0x rfl ?_
 refine x0x rfl ?_
 refine x0x rfl ?_
 refine a0p rfl rfl w8w rfl u3u rfl rfl hAl ?_
 refine x1x rfl u3u rfl rfl y3y rfl rfl ?_
 refine r2r hAl rfl rfl y3y rfl rfl rfl rfl rfl rfl rfl (by simp only [a3i]; rfl) ?_
 refine x6x x9x (by rfl) ?_
 refine x0x rfl ?_
 refine v0v (b := 1) rfl rfl (by omega) ?_
 refine x2x rfl ?_
 refine x6x x9x (by rfl) ?_
 refine x0x rfl ?_
 refine x0x rfl ?_
 refine x0x rfl ?_
 refine a0p rfl rfl w8w rfl u3u rfl rfl hAl ?_
 refine x1x rfl u3u rfl rfl y3y rfl rfl ?_
 refine r2r hAl rfl rfl y3y rfl rfl rfl rfl rfl rfl rfl (by simp only [a3i]; rfl) ?_
 refine x6x x9x (by rfl) ?_
 refine x0x rfl ?_
 refine v0v (b := 1) rfl rfl (by omega) ?_
 refine x2x rfl ?_
 refine x6x x9x (by rfl) ?_
 refine x0x rfl ?_
 refine x0x rfl ?_
 refine x0x rfl ?_
 refine a0p rfl rfl w8w rfl u3u rfl rfl hAl ?_
 refine x1x rfl u3u rfl rfl y3y rfl rfl ?_
 refine r2r hAl rfl rfl y3y rfl rfl rfl rfl rfl rfl rfl (by simp only [a3i]; rfl) ?_
 refine x6x x9x (by rfl) ?_
 refine x0x rfl ?_
 refine v0v (b := 1) rfl rfl (by omega) ?_
 refine x2x rfl ?_
 refine x6x x9x (by rfl) ?_
 refine x0x rfl ?_
 refine x0x rfl ?_
 refine x0x rfl ?_
 refine a0p rfl rfl w8w rfl u3u rfl rfl hAl ?_
 refine x1x rfl u3u rfl rfl y3y rfl rfl ?_
 refine r2r hAl rfl rfl y3y rfl rfl rfl rfl rfl rfl rfl (by simp only [a3i]; rfl) ?_
 refine x6x x9x (by rfl) ?_
 refine x0x rfl ?_
 refine v0v (b := 1) rfl rfl (by omega) ?_
 refine x2x rfl ?_
 refine x6x x9x (by rfl) ?_
 refine x0x rfl ?_
 refine x0x rfl ?_
 refine x0x rfl ?_
 refine a0p rfl rfl w8w rfl u3u rfl rfl hAl ?_
 refine x1x rfl u3u rfl rfl y3y rfl rfl ?_
 refine r2r hAl rfl rfl y3y rfl rfl rfl rfl rfl rfl rfl (by simp only [a3i]; rfl) ?_
 refine x6x x9x (by rfl) ?_
 refine x0x rfl ?_
 refine v0v (b := 1) rfl rfl (by omega) ?_
 refine x2x rfl ?_
 refine x6x x9x (by rfl) ?_
 refine x0x rfl ?_
 refine x0x rfl ?_
 refine x0x rfl ?_
 refine a0p rfl rfl w8w rfl u3u rfl rfl hAl ?_
 refine x1x rfl u3u rfl rfl y3y rfl rfl ?_
 refine r2r hAl rfl rfl y3y rfl rfl rfl rfl rfl rfl rfl (by simp only [a3i]; rfl) ?_
 refine y2y x9x (by rfl) ?_
 refine x0x rfl ?_
 refine v0v (b := 1) rfl rfl (by omega) ?_
 refine x2x rfl ?_
 refine hK4 _ _ ?_
 clear hK4 K4
 refine y2y x9x (by rfl) ?_
 refine x0x rfl ?_
 refine v0v (b := 1) rfl rfl (by omega) ?_
 refine x2x rfl ?_
 exact ⟨i + 1, ⟨by omega, by omega⟩, [], (Cov.cons' (t := 1) rfl (by rw [a3d zEv hp]; exact congrArg (fun v : Nat => AV.pv (.int .i64 (v : Int))) (by omega)) (x7x 5 rfl Cov.nil)), (x7x 0 rfl Cov.nil), (HE.row rfl (by rw [s3s hmk, List.map_append, List.append_assoc]; rfl) HE.nil), HE.nil, rfl⟩
theorem a9k (l : List Ou) (k : Nat) (hk : k + szs zOu l ≤ 1000000000) : Meth Try.prog 45 1 [0] [.ref 0 0, .pv (.int .i64 (k : Int))] [(0, (0, .row 84 5 (l.map a0n)))] (.pv (.int .i64 ((k + szs zOu l : Nat) : Int))) [(0, (0, .row 84 5 ((mks zOu kOu k l).map a0n)))] := by
 refine v8v x9x (fn := Try.f45) (by kernel_rfl) (by kernel_rfl) rfl (O0 := [.pv (.int .i64 ((k + szs zOu l : Nat) : Int))]) 1 0 (v2v rfl) (by rfl) (by repeat (first | exact BndH.nil | refine BndH.row (w3w fun _ => rfl) ?_)) (by repeat (first | exact BndH.nil | refine BndH.row (w3w fun _ => rfl) ?_)) (by rfl) fun γ => ?_
 show Ex Try.prog _ _ [(0, .ref 0 (γ 0)), (1, .pv (.int .i64 (k : Int)))] [(0, ((γ 0), .row 84 5 (l.map a0n)))] _
 have hml := a6v zOu kOu k l
 have hll := a6w zOu (fun p => by unfold zOu; omega) l
 refine x6x x9x (by rfl) ?_
 refine x2x rfl ?_
 refine x4x fun K1 hK1 => ?_
 refine x6x x9x (by rfl) ?_
 refine x2x rfl ?_
 refine y5y ?_
 refine v1v (ι := Nat) (fun i γ1 => [(1, .pv (.int .i64 ((k + szs zOu (l.take i) : Nat) : Int))), (5, .pv (.int .i64 (i : Int)))]) (fun i γ1 => [(0, ((γ 0), .row 84 5 (((mks zOu kOu k l).take i).map a0n ++ (l.drop i).map a0n)))]) (fun i => i ≤ l.length) (fun i => l.length - i) (x7x 0 rfl Cov.nil) HE.nil 0 (by omega) [] (Cov.cons' (t := 1) rfl (by rw [List.take_zero]; rfl) (x7x 5 rfl Cov.nil)) (HE.row rfl (by rw [List.take_zero, List.drop_zero]; rfl) HE.nil) rfl fun i γ1 hi => ?_
 try dsimp only [List.cons_append, List.nil_append]
 refine x4x fun K2 hK2 => ?_
 refine x6x x9x (by rfl) ?_
 refine x0x rfl ?_
 refine x0x rfl ?_
 refine a5h (n := l.length) rfl w7w rfl rfl (by rw [List.length_append, List.length_map, List.length_map, List.length_take, List.length_drop]; omega) ?_
 refine y6y rfl rfl rfl ?_
 refine y0y rfl (fun hc3 => ?_) (fun hc3 => ?_)
 rotate_left
 ·try simp at hc3
  obtain rfl : i = l.length := by omega
  refine v3v ?_
  refine hK1 _ _ ?_
  clear hK2 K2 hK1 K1
  refine x6x x9x (by rfl) ?_
  refine x0x rfl ?_
  refine x2x rfl ?_
  refine y4y ?_
  exact ⟨.inr rfl, [γ 0], rfl, congrArg (fun v : Nat => some [AV.pv (.int .i64 (v : Int))]) (by rw [List.take_length]), HE.row rfl (by rw [List.take_of_length_le (by omega), List.drop_length, List.map_nil, List.append_nil]) HE.nil⟩
 try simp at hc3
 obtain ⟨p, hp⟩ : ∃ p, l[i]? = some p := r5r (by omega)
 have hmk := a6x zOu kOu (k := k) hp
 have hat := b0i zOu hp
 have hzp : zOu p = 5 := rfl
 have hAl : (((mks zOu kOu k l).take i).map a0n).length = i := by rw [List.length_map, List.length_take]; omega
 rw [a0w hp, List.map_cons]
 rw [show a0n p = [pI p.time, pI p.proc, pI p.count, pI p.n, pI p.value] from rfl]
 obtain ⟨q, hq⟩ : ∃ q, q = k + szs zOu (l.take i) := ⟨_, rfl⟩
 rw [← hq] at hmk ⊢
 refine y1y ?_
 refine hK2 _ _ ?_
 clear hK2 K2
 refine x4x fun K4 hK4 => ?_
 refine y5y ?_
 refine x6x x9x (by rfl) ?_
 refine x0x rfl ?_
 refine x0x rfl ?_
 refine x0x rfl ?_
 refine a0p rfl rfl w7w rfl u7u rfl rfl hAl ?_
 refine x1x rfl u7u rfl rfl y3y rfl rfl ?_
 refine r2r hAl rfl rfl y3y rfl rfl rfl rfl rfl rfl rfl (by simp only [a3i]; rfl) ?_
 refine x6x x9x (by rfl) ?_
 refine x0x rfl ?_
 refine v0v (b := 1) rfl rfl (by omega) ?_
 refine x2x rfl ?_
 refine x6x x9x (by rfl) ?_
 refine x0x rfl ?_
 refine x0x rfl ?_
 refine x0x rfl ?_
 refine a0p rfl rfl w7w rfl u7u rfl rfl hAl ?_
 refine x1x rfl u7u rfl rfl y3y rfl rfl ?_
 refine r2r hAl rfl rfl y3y rfl rfl rfl rfl rfl rfl rfl (by simp only [a3i]; rfl) ?_
 refine x6x x9x (by rfl) ?_
 refine x0x rfl ?_
 refine v0v (b := 1) rfl rfl (by omega) ?_
 refine x2x rfl ?_
 refine x6x x9x (by rfl) ?_
 refine x0x rfl ?_
 refine x0x rfl ?_
 refine x0x rfl ?_
 refine a0p rfl rfl w7w rfl u7u rfl rfl hAl ?_
 refine x1x rfl u7u rfl rfl y3y rfl rfl ?_
 refine r2r hAl rfl rfl y3y rfl rfl rfl rfl rfl rfl rfl (by simp only [a3i]; rfl) ?_
 refine x6x x9x (by rfl) ?_
 refine x0x rfl ?_
 refine v0v (b := 1) rfl rfl (by omega) ?_
 refine x2x rfl ?_
 refine x6x x9x (by rfl) ?_
 refine x0x rfl ?_
 refine x0x rfl ?_
 refine x0x rfl ?_
 refine a0p rfl rfl w7w rfl u7u rfl rfl hAl ?_
 refine x1x rfl u7u rfl rfl y3y rfl rfl ?_
 refine r2r hAl rfl rfl y3y rfl rfl rfl rfl rfl rfl rfl (by simp only [a3i]; rfl) ?_
 refine x6x x9x (by rfl) ?_
 refine x0x rfl ?_
 refine v0v (b := 1) rfl rfl (by omega) ?_
 refine x2x rfl ?_
 refine x6x x9x (by rfl) ?_
 refine x0x rfl ?_
 refine x0x rfl ?_
 refine x0x rfl ?_
 refine a0p rfl rfl w7w rfl u7u rfl rfl hAl ?_
 refine x1x rfl u7u rfl rfl y3y rfl rfl ?_
 refine r2r hAl rfl rfl y3y rfl rfl rfl rfl rfl rfl rfl (by simp only [a3i]; rfl) ?_
 refine y2y x9x (by rfl) ?_
 refine x0x rfl ?_
 refine v0v (b := 1) rfl rfl (by omega) ?_
 refine x2x rfl ?_
 refine hK4 _ _ ?_
 clear hK4 K4
 refine y2y x9x (by rfl) ?_
 refine x0x rfl ?_
 refine v0v (b := 1) rfl rfl (by omega) ?_
 refine x2x rfl ?_
 exact ⟨i + 1, ⟨by omega, by omega⟩, [], (Cov.cons' (t := 1) rfl (by rw [a3d zOu hp]; exact congrArg (fun v : Nat => AV.pv (.int .i64 (v : Int))) (by omega)) (x7x 5 rfl Cov.nil)), (x7x 0 rfl Cov.nil), (HE.row rfl (by rw [s3s hmk, List.map_append, List.append_assoc]; rfl) HE.nil), HE.nil, rfl⟩
end
section
theorem a4h (c : Bool) (l : List Int) (k : Nat) (hk : k + szs zI l ≤ 1000000000) : a1f Try.prog 46 [s7s c (mks zI kI k l), .pv (.int .i64 (k : Int))] (.pv (.int .i64 ((k + szs zI l : Nat) : Int))) := by
 refine z5z x9x (fn := Try.f46) (by kernel_rfl) (by kernel_rfl) rfl (outs := [.pv (.int .i64 ((k + szs zI l : Nat) : Int))]) (by rfl) (v2v rfl) 0 ?_
 have hml := a6v zI kI k l
 have hll := a6w zI (fun p => by unfold zI; omega) l
 refine x6x x9x (by rfl) ?_
 refine x2x rfl ?_
 refine x4x fun K1 hK1 => ?_
 refine x6x x9x (by rfl) ?_
 refine x2x rfl ?_
 refine y5y ?_
 refine v1v (ι := Nat) (fun i γ1 => [(1, .pv (.int .i64 ((k + szs zI (l.take i) : Nat) : Int))), (5, .pv (.int .i64 (i : Int)))]) (fun i γ1 => []) (fun i => i ≤ l.length) (fun i => l.length - i) (x7x 0 rfl Cov.nil) HE.nil 0 (by omega) [] (Cov.cons' (t := 1) rfl (by rw [List.take_zero]; rfl) (x7x 5 rfl Cov.nil)) HE.nil rfl fun i γ1 hi => ?_
 try dsimp only [List.cons_append, List.nil_append]
 refine x4x fun K2 hK2 => ?_
 refine x6x x9x (by rfl) ?_
 refine x0x rfl ?_
 refine x0x rfl ?_
 refine u6u rfl u5u rfl ?_
 refine y6y rfl rfl rfl ?_
 refine y0y rfl (fun hc3 => ?_) (fun hc3 => ?_)
 rotate_left
 ·try simp at hc3
  obtain rfl : i = l.length := by omega
  refine v3v ?_
  refine hK1 _ _ ?_
  clear hK2 K2 hK1 K1
  refine x6x x9x (by rfl) ?_
  refine x0x rfl ?_
  refine x2x rfl ?_
  refine y4y ⟨.inr rfl, ?_⟩
  refine z0z rfl ?_ rfl
  rw [List.take_length]
 try simp at hc3
 obtain ⟨p, hp⟩ : ∃ p, l[i]? = some p := r5r (by omega)
 have hmk := a6x zI kI (k := k) hp
 have hat := b0i zI hp
 have hzp : zI p = 1 := rfl
 obtain ⟨q, hq⟩ : ∃ q, q = k + szs zI (l.take i) := ⟨_, rfl⟩
 rw [← hq] at hmk ⊢
 refine y1y ?_
 refine hK2 _ _ ?_
 clear hK2 K2
 refine x4x fun K4 hK4 => ?_
 refine y5y ?_
 refine x4x fun K5 hK5 => ?_
 refine x6x x9x (by rfl) ?_
 refine x0x rfl ?_
 refine x0x rfl ?_
 refine z9z rfl rfl u5u rfl y3y rfl (by assumption) ?_
 refine y7y rfl y3y rfl ?_
 refine x0x rfl ?_
 refine y6y rfl rfl rfl ?_
 refine y0y rfl (fun hc6 => ?_) (fun hc6 => ?_)
 ·(simp [kI, kEv, kOu, kPa, kLa, kVi, mEv, mOu, mSt] at hc6; done)
 try simp at hc6
 refine y1y ?_
 refine hK5 _ _ ?_
 clear hK5 K5
 refine y2y x9x (by rfl) ?_
 refine x0x rfl ?_
 refine v0v (b := 1) rfl rfl (by omega) ?_
 refine x2x rfl ?_
 refine hK4 _ _ ?_
 clear hK4 K4
 refine y2y x9x (by rfl) ?_
 refine x0x rfl ?_
 refine v0v (b := 1) rfl rfl (by omega) ?_
 refine x2x rfl ?_
 exact ⟨i + 1, ⟨by omega, by omega⟩, [], (Cov.cons' (t := 1) rfl (by rw [a3d zI hp]; exact congrArg (fun v : Nat => AV.pv (.int .i64 (v : Int))) (by omega)) (x7x 5 rfl Cov.nil)), (x7x 0 rfl Cov.nil), HE.nil, HE.nil, rfl⟩
theorem a7e (c : Bool) (l : List Ev) (k : Nat) (hk : k + szs zEv l ≤ 1000000000) : a1f Try.prog 47 [b2x c (mks zEv kEv k l), .pv (.int .i64 (k : Int))] (.pv (.int .i64 ((k + szs zEv l : Nat) : Int))) := by
 refine z5z x9x (fn := Try.f47) (by kernel_rfl) (by kernel_rfl) rfl (outs := [.pv (.int .i64 ((k + szs zEv l : Nat) : Int))]) (by rfl) (v2v rfl) 0 ?_
 have hml := a6v zEv kEv k l
 have hll := a6w zEv (fun p => by unfold zEv; omega) l
 refine x6x x9x (by rfl) ?_
 refine x2x rfl ?_
 refine x4x fun K1 hK1 => ?_
 refine x6x x9x (by rfl) ?_
 refine x2x rfl ?_
 refine y5y ?_
 refine v1v (ι := Nat) (fun i γ1 => [(1, .pv (.int .i64 ((k + szs zEv (l.take i) : Nat) : Int))), (5, .pv (.int .i64 (i : Int)))]) (fun i γ1 => []) (fun i => i ≤ l.length) (fun i => l.length - i) (x7x 0 rfl Cov.nil) HE.nil 0 (by omega) [] (Cov.cons' (t := 1) rfl (by rw [List.take_zero]; rfl) (x7x 5 rfl Cov.nil)) HE.nil rfl fun i γ1 hi => ?_
 try dsimp only [List.cons_append, List.nil_append]
 refine x4x fun K2 hK2 => ?_
 refine x6x x9x (by rfl) ?_
 refine x0x rfl ?_
 refine x0x rfl ?_
 refine u6u rfl w8w rfl ?_
 refine y6y rfl rfl rfl ?_
 refine y0y rfl (fun hc3 => ?_) (fun hc3 => ?_)
 rotate_left
 ·try simp at hc3
  obtain rfl : i = l.length := by omega
  refine v3v ?_
  refine hK1 _ _ ?_
  clear hK2 K2 hK1 K1
  refine x6x x9x (by rfl) ?_
  refine x0x rfl ?_
  refine x2x rfl ?_
  refine y4y ⟨.inr rfl, ?_⟩
  refine z0z rfl ?_ rfl
  rw [List.take_length]
 try simp at hc3
 obtain ⟨p, hp⟩ : ∃ p, l[i]? = some p := r5r (by omega)
 have hmk := a6x zEv kEv (k := k) hp
 have hat := b0i zEv hp
 have hzp : zEv p = 7 := rfl
 obtain ⟨q, hq⟩ : ∃ q, q = k + szs zEv (l.take i) := ⟨_, rfl⟩
 rw [← hq] at hmk ⊢
 refine y1y ?_
 refine hK2 _ _ ?_
 clear hK2 K2
 refine x4x fun K4 hK4 => ?_
 refine y5y ?_
 refine x4x fun K5 hK5 => ?_
 refine x6x x9x (by rfl) ?_
 refine x0x rfl ?_
 refine x0x rfl ?_
 refine z9z rfl rfl w8w rfl u3u rfl (by assumption) ?_
 refine x1x rfl u3u rfl rfl y3y rfl rfl ?_
 refine y7y rfl y3y rfl ?_
 refine x0x rfl ?_
 refine y6y rfl rfl rfl ?_
 refine y0y rfl (fun hc6 => ?_) (fun hc6 => ?_)
 ·(simp [kI, kEv, kOu, kPa, kLa, kVi, mEv, mOu, mSt] at hc6; done)
 try simp at hc6
 refine y1y ?_
 refine hK5 _ _ ?_
 clear hK5 K5
 refine x6x x9x (by rfl) ?_
 refine x0x rfl ?_
 refine v0v (b := 1) rfl rfl (by omega) ?_
 refine x2x rfl ?_
 refine x4x fun K7 hK7 => ?_
 refine x6x x9x (by rfl) ?_
 refine x0x rfl ?_
 refine x0x rfl ?_
 refine z9z rfl rfl w8w rfl u3u rfl (by assumption) ?_
 refine x1x rfl u3u rfl rfl y3y rfl rfl ?_
 refine y7y rfl y3y rfl ?_
 refine x0x rfl ?_
 refine y6y rfl rfl rfl ?_
 refine y0y rfl (fun hc8 => ?_) (fun hc8 => ?_)
 ·(simp [kI, kEv, kOu, kPa, kLa, kVi, mEv, mOu, mSt] at hc8; done)
 try simp at hc8
 refine y1y ?_
 refine hK7 _ _ ?_
 clear hK7 K7
 refine x6x x9x (by rfl) ?_
 refine x0x rfl ?_
 refine v0v (b := 1) rfl rfl (by omega) ?_
 refine x2x rfl ?_
 refine x4x fun K9 hK9 => ?_
 refine x6x x9x (by rfl) ?_
 refine x0x rfl ?_
 refine x0x rfl ?_
 refine z9z rfl rfl w8w rfl u3u rfl (by assumption) ?_
 refine x1x rfl u3u rfl rfl y3y rfl rfl ?_
 refine y7y rfl y3y rfl ?_
 refine x0x rfl ?_
 refine y6y rfl rfl rfl ?_
 refine y0y rfl (fun hc10 => ?_) (fun hc10 => ?_)
 ·(simp [kI, kEv, kOu, kPa, kLa, kVi, mEv, mOu, mSt] at hc10; done)
 try simp at hc10
 refine y1y ?_
 refine hK9 _ _ ?_
 clear hK9 K9
 refine x6x x9x (by rfl) ?_
 refine x0x rfl ?_
 refine v0v (b := 1) rfl rfl (by omega) ?_
 refine x2x rfl ?_
 refine x4x fun K11 hK11 => ?_
 refine x6x x9x (by rfl) ?_
 refine x0x rfl ?_
 refine x0x rfl ?_
 refine z9z rfl rfl w8w rfl u3u rfl (by assumption) ?_
 refine x1x rfl u3u rfl rfl y3y rfl rfl ?_
 refine y7y rfl y3y rfl ?_
 refine x0x rfl ?_
 refine y6y rfl rfl rfl ?_
 refine y0y rfl (fun hc12 => ?_) (fun hc12 => ?_)
 ·(simp [kI, kEv, kOu, kPa, kLa, kVi, mEv, mOu, mSt] at hc12; done)
 try simp at hc12
 refine y1y ?_
 refine hK11 _ _ ?_
 clear hK11 K11
 refine x6x x9x (by rfl) ?_
 refine x0x rfl ?_
 refine v0v (b := 1) rfl rfl (by omega) ?_
 refine x2x rfl ?_
 refine x4x fun K13 hK13 => ?_
 refine x6x x9x (by rfl) ?_
 refine x0x rfl ?_
 refine x0x rfl ?_
 refine z9z rfl rfl w8w rfl u3u rfl (by assumption) ?_
 refine x1x rfl u3u rfl rfl y3y rfl rfl ?_
 refine y7y rfl y3y rfl ?_
 refine x0x rfl ?_
 refine y6y rfl rfl rfl ?_
 refine y0y rfl (fun hc14 => ?_) (fun hc14 => ?_)
 ·(simp [kI, kEv, kOu, kPa, kLa, kVi, mEv, mOu, mSt] at hc14; done)
 try simp at hc14
 refine y1y ?_
 refine hK13 _ _ ?_
 clear hK13 K13
 refine x6x x9x (by rfl) ?_
 refine x0x rfl ?_
 refine v0v (b := 1) rfl rfl (by omega) ?_
 refine x2x rfl ?_
 refine x4x fun K15 hK15 => ?_
 refine x6x x9x (by rfl) ?_
 refine x0x rfl ?_
 refine x0x rfl ?_
 refine z9z rfl rfl w8w rfl u3u rfl (by assumption) ?_
 refine x1x rfl u3u rfl rfl y3y rfl rfl ?_
 refine y7y rfl y3y rfl ?_
 refine x0x rfl ?_
 refine y6y rfl rfl rfl ?_
 refine y0y rfl (fun hc16 => ?_) (fun hc16 => ?_)
 ·(simp [kI, kEv, kOu, kPa, kLa, kVi, mEv, mOu, mSt] at hc16; done)
 try simp at hc16
 refine y1y ?_
 refine hK15 _ _ ?_
 clear hK15 K15
 refine x6x x9x (by rfl) ?_
 refine x0x rfl ?_
 refine v0v (b := 1) rfl rfl (by omega) ?_
 refine x2x rfl ?_
 refine x4x fun K17 hK17 => ?_
 refine x6x x9x (by rfl) ?_
 refine x0x rfl ?_
 refine x0x rfl ?_
 refine z9z rfl rfl w8w rfl u3u rfl (by assumption) ?_
 refine x1x rfl u3u rfl rfl y3y rfl rfl ?_
 refine y7y rfl y3y rfl ?_
 refine x0x rfl ?_
 refine y6y rfl rfl rfl ?_
 refine y0y rfl (fun hc18 => ?_) (fun hc18 => ?_)
 ·(simp [kI, kEv, kOu, kPa, kLa, kVi, mEv, mOu, mSt] at hc18; done)
 try simp at hc18
 refine y1y ?_
 refine hK17 _ _ ?_
 clear hK17 K17
 refine y2y x9x (by rfl) ?_
 refine x0x rfl ?_
 refine v0v (b := 1) rfl rfl (by omega) ?_
 refine x2x rfl ?_
 refine hK4 _ _ ?_
 clear hK4 K4
 refine y2y x9x (by rfl) ?_
 refine x0x rfl ?_
 refine v0v (b := 1) rfl rfl (by omega) ?_
 refine x2x rfl ?_
 exact ⟨i + 1, ⟨by omega, by omega⟩, [], (Cov.cons' (t := 1) rfl (by rw [a3d zEv hp]; exact congrArg (fun v : Nat => AV.pv (.int .i64 (v : Int))) (by omega)) (x7x 5 rfl Cov.nil)), (x7x 0 rfl Cov.nil), HE.nil, HE.nil, rfl⟩
theorem a9l (c : Bool) (l : List Ou) (k : Nat) (hk : k + szs zOu l ≤ 1000000000) : a1f Try.prog 48 [b2y c (mks zOu kOu k l), .pv (.int .i64 (k : Int))] (.pv (.int .i64 ((k + szs zOu l : Nat) : Int))) := by
 refine z5z x9x (fn := Try.f48) (by kernel_rfl) (by kernel_rfl) rfl (outs := [.pv (.int .i64 ((k + szs zOu l : Nat) : Int))]) (by rfl) (v2v rfl) 0 ?_
 have hml := a6v zOu kOu k l
 have hll := a6w zOu (fun p => by unfold zOu; omega) l
 refine x6x x9x (by rfl) ?_
 refine x2x rfl ?_
 refine x4x fun K1 hK1 => ?_
 refine x6x x9x (by rfl) ?_
 refine x2x rfl ?_
 refine y5y ?_
 refine v1v (ι := Nat) (fun i γ1 => [(1, .pv (.int .i64 ((k + szs zOu (l.take i) : Nat) : Int))), (5, .pv (.int .i64 (i : Int)))]) (fun i γ1 => []) (fun i => i ≤ l.length) (fun i => l.length - i) (x7x 0 rfl Cov.nil) HE.nil 0 (by omega) [] (Cov.cons' (t := 1) rfl (by rw [List.take_zero]; rfl) (x7x 5 rfl Cov.nil)) HE.nil rfl fun i γ1 hi => ?_
 try dsimp only [List.cons_append, List.nil_append]
 refine x4x fun K2 hK2 => ?_
 refine x6x x9x (by rfl) ?_
 refine x0x rfl ?_
 refine x0x rfl ?_
 refine u6u rfl w7w rfl ?_
 refine y6y rfl rfl rfl ?_
 refine y0y rfl (fun hc3 => ?_) (fun hc3 => ?_)
 rotate_left
 ·try simp at hc3
  obtain rfl : i = l.length := by omega
  refine v3v ?_
  refine hK1 _ _ ?_
  clear hK2 K2 hK1 K1
  refine x6x x9x (by rfl) ?_
  refine x0x rfl ?_
  refine x2x rfl ?_
  refine y4y ⟨.inr rfl, ?_⟩
  refine z0z rfl ?_ rfl
  rw [List.take_length]
 try simp at hc3
 obtain ⟨p, hp⟩ : ∃ p, l[i]? = some p := r5r (by omega)
 have hmk := a6x zOu kOu (k := k) hp
 have hat := b0i zOu hp
 have hzp : zOu p = 5 := rfl
 obtain ⟨q, hq⟩ : ∃ q, q = k + szs zOu (l.take i) := ⟨_, rfl⟩
 rw [← hq] at hmk ⊢
 refine y1y ?_
 refine hK2 _ _ ?_
 clear hK2 K2
 refine x4x fun K4 hK4 => ?_
 refine y5y ?_
 refine x4x fun K5 hK5 => ?_
 refine x6x x9x (by rfl) ?_
 refine x0x rfl ?_
 refine x0x rfl ?_
 refine z9z rfl rfl w7w rfl u7u rfl (by assumption) ?_
 refine x1x rfl u7u rfl rfl y3y rfl rfl ?_
 refine y7y rfl y3y rfl ?_
 refine x0x rfl ?_
 refine y6y rfl rfl rfl ?_
 refine y0y rfl (fun hc6 => ?_) (fun hc6 => ?_)
 ·(simp [kI, kEv, kOu, kPa, kLa, kVi, mEv, mOu, mSt] at hc6; done)
 try simp at hc6
 refine y1y ?_
 refine hK5 _ _ ?_
 clear hK5 K5
 refine x6x x9x (by rfl) ?_
 refine x0x rfl ?_
 refine v0v (b := 1) rfl rfl (by omega) ?_
 refine x2x rfl ?_
 refine x4x fun K7 hK7 => ?_
 refine x6x x9x (by rfl) ?_
 refine x0x rfl ?_
 refine x0x rfl ?_
 refine z9z rfl rfl w7w rfl u7u rfl (by assumption) ?_
 refine x1x rfl u7u rfl rfl y3y rfl rfl ?_
 refine y7y rfl y3y rfl ?_
 refine x0x rfl ?_
 refine y6y rfl rfl rfl ?_
 refine y0y rfl (fun hc8 => ?_) (fun hc8 => ?_)
 ·(simp [kI, kEv, kOu, kPa, kLa, kVi, mEv, mOu, mSt] at hc8; done)
 try simp at hc8
 refine y1y ?_
 refine hK7 _ _ ?_
 clear hK7 K7
 refine x6x x9x (by rfl) ?_
 refine x0x rfl ?_
 refine v0v (b := 1) rfl rfl (by omega) ?_
 refine x2x rfl ?_
 refine x4x fun K9 hK9 => ?_
 refine x6x x9x (by rfl) ?_
 refine x0x rfl ?_
 refine x0x rfl ?_
 refine z9z rfl rfl w7w rfl u7u rfl (by assumption) ?_
 refine x1x rfl u7u rfl rfl y3y rfl rfl ?_
 refine y7y rfl y3y rfl ?_
 refine x0x rfl ?_
 refine y6y rfl rfl rfl ?_
 refine y0y rfl (fun hc10 => ?_) (fun hc10 => ?_)
 ·(simp [kI, kEv, kOu, kPa, kLa, kVi, mEv, mOu, mSt] at hc10; done)
 try simp at hc10
 refine y1y ?_
 refine hK9 _ _ ?_
 clear hK9 K9
 refine x6x x9x (by rfl) ?_
 refine x0x rfl ?_
 refine v0v (b := 1) rfl rfl (by omega) ?_
 refine x2x rfl ?_
 refine x4x fun K11 hK11 => ?_
 refine x6x x9x (by rfl) ?_
 refine x0x rfl ?_
 refine x0x rfl ?_
 refine z9z rfl rfl w7w rfl u7u rfl (by assumption) ?_
 refine x1x rfl u7u rfl rfl y3y rfl rfl ?_
 refine y7y rfl y3y rfl ?_
 refine x0x rfl ?_
 refine y6y rfl rfl rfl ?_
 refine y0y rfl (fun hc12 => ?_) (fun hc12 => ?_)
 ·(simp [kI, kEv, kOu, kPa, kLa, kVi, mEv, mOu, mSt] at hc12; done)
 try simp at hc12
 refine y1y ?_
 refine hK11 _ _ ?_
 clear hK11 K11
 refine x6x x9x (by rfl) ?_
 refine x0x rfl ?_
 refine v0v (b := 1) rfl rfl (by omega) ?_
 refine x2x rfl ?_
 refine x4x fun K13 hK13 => ?_
 refine x6x x9x (by rfl) ?_
 refine x0x rfl ?_
 refine x0x rfl ?_
 refine z9z rfl rfl w7w rfl u7u rfl (by assumption) ?_
 refine x1x rfl u7u rfl rfl y3y rfl rfl ?_
 refine y7y rfl y3y rfl ?_
 refine x0x rfl ?_
 refine y6y rfl rfl rfl ?_
 refine y0y rfl (fun hc14 => ?_) (fun hc14 => ?_)
 ·(simp [kI, kEv, kOu, kPa, kLa, kVi, mEv, mOu, mSt] at hc14; done)
 try simp at hc14
 refine y1y ?_
 refine hK13 _ _ ?_
 clear hK13 K13
 refine y2y x9x (by rfl) ?_
 refine x0x rfl ?_
 refine v0v (b := 1) rfl rfl (by omega) ?_
 refine x2x rfl ?_
 refine hK4 _ _ ?_
 clear hK4 K4
 refine y2y x9x (by rfl) ?_
 refine x0x rfl ?_
 refine v0v (b := 1) rfl rfl (by omega) ?_
 refine x2x rfl ?_
 exact ⟨i + 1, ⟨by omega, by omega⟩, [], (Cov.cons' (t := 1) rfl (by rw [a3d zOu hp]; exact congrArg (fun v : Nat => AV.pv (.int .i64 (v : Int))) (by omega)) (x7x 5 rfl Cov.nil)), (x7x 0 rfl Cov.nil), HE.nil, HE.nil, rfl⟩
end
section
theorem a9m (p : Wo) (k : Nat) (hk : k + zWl p ≤ 1000000000) : Meth Try.prog 15 4 [0, 1, 2, 3] [.agg [pI p.kind, pI p.from', pI p.to, pI p.inc, pI p.version, pI p.round, pI p.g, .ref 0 0, .ref 1 0, .ref 2 0, .ref 3 0], .pv (.int .i64 (k : Int))] [(0, (0, .row 3 1 (p.incs.map a3p))), (1, (0, .row 3 1 (p.versions.map a3p))), (2, (0, .row 81 7 (p.events.map s6s))), (3, (0, .row 84 5 (p.outs.map a0n)))] (.pv (.int .i64 ((k + zWl p : Nat) : Int))) [(0, (0, .row 3 1 ((kWl k p).incs.map a3p))), (1, (0, .row 3 1 ((kWl k p).versions.map a3p))), (2, (0, .row 81 7 ((kWl k p).events.map s6s))), (3, (0, .row 84 5 ((kWl k p).outs.map a0n)))] := by
 refine v8v x9x (fn := Try.f15) (by kernel_rfl) (by kernel_rfl) rfl (O0 := [.pv (.int .i64 ((k + zWl p : Nat) : Int))]) 4 1 (v2v rfl) (by rfl) (by repeat (first | exact BndH.nil | refine BndH.row (w3w fun _ => rfl) ?_)) (by repeat (first | exact BndH.nil | refine BndH.row (w3w fun _ => rfl) ?_)) (by rfl) fun γ => ?_
 show Ex Try.prog _ _ [(0, .agg [pI p.kind, pI p.from', pI p.to, pI p.inc, pI p.version, pI p.round, pI p.g, .ref 0 (γ 0), .ref 1 (γ 1), .ref 2 (γ 2), .ref 3 (γ 3)]), (1, .pv (.int .i64 (k : Int)))] [(0, ((γ 0), .row 3 1 (p.incs.map a3p))), (1, ((γ 1), .row 3 1 (p.versions.map a3p))), (2, ((γ 2), .row 81 7 (p.events.map s6s))), (3, ((γ 3), .row 84 5 (p.outs.map a0n))), (4, (0, .dead))] _
 have hz : zWl p = szs zI p.incs + szs zI p.versions + szs zEv p.events + szs zOu p.outs := rfl
 refine x6x x9x (by rfl) ?_
 refine p6p (id := 4) rfl rfl rfl ?_
 refine x2x rfl ?_
 refine x6x x9x (by rfl) ?_
 refine x1x rfl z7z rfl rfl u5u rfl rfl ?_
 refine x3x rfl u5u rfl rfl ?_
 refine x0x rfl ?_
 refine z6z [0] [_] (a4g p.incs k (by omega)) rfl rfl rfl (by decide) rfl rfl (by repeat (first | exact InH.nil | refine InH.cons rfl ?_)) (by (simp only [pI, y8y, y9y, w5w, gl, nx, w0w, Nat.beq]; rfl)) (by (simp only [pI, y8y, y9y, w5w, gl, nx, w0w, Nat.beq]; rfl)) ?_
 refine x2x rfl ?_
 refine x6x x9x (by rfl) ?_
 refine x1x rfl z7z rfl rfl u5u rfl rfl ?_
 refine x3x rfl u5u rfl rfl ?_
 refine x0x rfl ?_
 refine z6z [1] [_] (a4g p.versions (k + szs zI p.incs) (by omega)) rfl rfl rfl (by decide) rfl rfl (by repeat (first | exact InH.nil | refine InH.cons rfl ?_)) (by (simp only [pI, y8y, y9y, w5w, gl, nx, w0w, Nat.beq]; rfl)) (by (simp only [pI, y8y, y9y, w5w, gl, nx, w0w, Nat.beq]; rfl)) ?_
 refine x2x rfl ?_
 refine x6x x9x (by rfl) ?_
 refine x1x rfl z7z rfl rfl w8w rfl rfl ?_
 refine x3x rfl w8w rfl rfl ?_
 refine x0x rfl ?_
 refine z6z [2] [_] (a7d p.events (k + szs zI p.incs + szs zI p.versions) (by omega)) rfl rfl rfl (by decide) rfl rfl (by repeat (first | exact InH.nil | refine InH.cons rfl ?_)) (by (simp only [pI, y8y, y9y, w5w, gl, nx, w0w, Nat.beq]; rfl)) (by (simp only [pI, y8y, y9y, w5w, gl, nx, w0w, Nat.beq]; rfl)) ?_
 refine x2x rfl ?_
 refine x6x x9x (by rfl) ?_
 refine x1x rfl z7z rfl rfl w7w rfl rfl ?_
 refine x3x rfl w7w rfl rfl ?_
 refine x0x rfl ?_
 refine z6z [3] [_] (a9k p.outs (k + szs zI p.incs + szs zI p.versions + szs zEv p.events) (by omega)) rfl rfl rfl (by decide) rfl rfl (by repeat (first | exact InH.nil | refine InH.cons rfl ?_)) (by (simp only [pI, y8y, y9y, w5w, gl, nx, w0w, Nat.beq]; rfl)) (by (simp only [pI, y8y, y9y, w5w, gl, nx, w0w, Nat.beq]; rfl)) ?_
 refine x2x rfl ?_
 refine x6x x9x (by rfl) ?_
 refine x0x rfl ?_
 refine x2x rfl ?_
 refine y4y ?_
 exact ⟨.inr rfl, [γ 0, γ 1, γ 2, γ 3], rfl, congrArg (fun v : Nat => some [AV.pv (.int .i64 (v : Int))]) (by omega), HE.row rfl rfl (HE.row rfl rfl (HE.row rfl rfl (HE.row rfl rfl HE.nil)))⟩
theorem a4i (c : Bool) (p : Wo) (k : Nat) (hk : k + zWl p ≤ 1000000000) : a1f Try.prog 16 [.agg (a5z c (kWl k p)), .pv (.int .i64 (k : Int))] (.pv (.int .i64 ((k + zWl p : Nat) : Int))) := by
 refine z5z x9x (fn := Try.f16) (by kernel_rfl) (by kernel_rfl) rfl (outs := [.pv (.int .i64 ((k + zWl p : Nat) : Int))]) (by rfl) (v2v rfl) 1 ?_
 have hz : zWl p = szs zI p.incs + szs zI p.versions + szs zEv p.events + szs zOu p.outs := rfl
 refine x6x x9x (by rfl) ?_
 refine p6p (id := 0) rfl rfl rfl ?_
 refine x2x rfl ?_
 refine x6x x9x (by rfl) ?_
 refine x1x rfl z7z rfl rfl u5u rfl rfl ?_
 refine x3x rfl u5u rfl rfl ?_
 refine x0x rfl ?_
 refine z2z rfl rfl rfl (a4h c p.incs (k) (by omega)) ?_
 refine x2x rfl ?_
 refine x4x fun K1 hK1 => ?_
 refine x6x x9x (by rfl) ?_
 refine x0x rfl ?_
 refine y6y rfl rfl rfl ?_
 refine y0y rfl (fun hc2 => ?_) (fun hc2 => ?_)
 ·(simp [kI, kEv, kOu, kPa, kLa, kVi, kWo, mEv, mOu, mSt] at hc2; omega)
 try simp at hc2
 refine y1y ?_
 refine hK1 _ _ ?_
 clear hK1 K1
 refine x6x x9x (by rfl) ?_
 refine x1x rfl z7z rfl rfl u5u rfl rfl ?_
 refine x3x rfl u5u rfl rfl ?_
 refine x0x rfl ?_
 refine z2z rfl rfl rfl (a4h c p.versions (k + szs zI p.incs) (by omega)) ?_
 refine x2x rfl ?_
 refine x4x fun K3 hK3 => ?_
 refine x6x x9x (by rfl) ?_
 refine x0x rfl ?_
 refine y6y rfl rfl rfl ?_
 refine y0y rfl (fun hc4 => ?_) (fun hc4 => ?_)
 ·(simp [kI, kEv, kOu, kPa, kLa, kVi, kWo, mEv, mOu, mSt] at hc4; omega)
 try simp at hc4
 refine y1y ?_
 refine hK3 _ _ ?_
 clear hK3 K3
 refine x6x x9x (by rfl) ?_
 refine x1x rfl z7z rfl rfl w8w rfl rfl ?_
 refine x3x rfl w8w rfl rfl ?_
 refine x0x rfl ?_
 refine z2z rfl rfl rfl (a7e c p.events (k + szs zI p.incs + szs zI p.versions) (by omega)) ?_
 refine x2x rfl ?_
 refine x4x fun K5 hK5 => ?_
 refine x6x x9x (by rfl) ?_
 refine x0x rfl ?_
 refine y6y rfl rfl rfl ?_
 refine y0y rfl (fun hc6 => ?_) (fun hc6 => ?_)
 ·(simp [kI, kEv, kOu, kPa, kLa, kVi, kWo, mEv, mOu, mSt] at hc6; omega)
 try simp at hc6
 refine y1y ?_
 refine hK5 _ _ ?_
 clear hK5 K5
 refine x6x x9x (by rfl) ?_
 refine x1x rfl z7z rfl rfl w7w rfl rfl ?_
 refine x3x rfl w7w rfl rfl ?_
 refine x0x rfl ?_
 refine z2z rfl rfl rfl (a9l c p.outs (k + szs zI p.incs + szs zI p.versions + szs zEv p.events) (by omega)) ?_
 refine x2x rfl ?_
 refine x4x fun K7 hK7 => ?_
 refine x6x x9x (by rfl) ?_
 refine x0x rfl ?_
 refine y6y rfl rfl rfl ?_
 refine y0y rfl (fun hc8 => ?_) (fun hc8 => ?_)
 ·(simp [kI, kEv, kOu, kPa, kLa, kVi, kWo, mEv, mOu, mSt] at hc8; omega)
 try simp at hc8
 refine y1y ?_
 refine hK7 _ _ ?_
 clear hK7 K7
 refine x6x x9x (by rfl) ?_
 refine x0x rfl ?_
 refine x2x rfl ?_
 refine y4y ⟨.inr rfl, ?_⟩
 refine z0z rfl ?_ rfl
 exact congrArg (fun v : Nat => [AV.pv (.int .i64 (v : Int))]) (by omega)
end
section
theorem b8q {α : Type} (c : Nat) : ∀ l : List α, szs (fun _ => c) l = c * l.length
 | [] => rfl
 | a :: l => by
  show c + szs (fun _ => c) l = c * (l.length + 1)
  rw [b8q c l, Nat.mul_succ, Nat.add_comm]
theorem c3z {w : Wo} (h : a0c w) : zWl w ≤ 5000 := by
 have h1 := a3j h.2.1
 have h2 := a3j h.2.2.1
 have h3 := (a0o h.2.2.2.1).1
 have h4 := (a0o h.2.2.2.2).1
 show szs (fun _ => 1) w.incs + szs (fun _ => 1) w.versions + szs (fun _ => 7) w.events + szs (fun _ => 5) w.outs ≤ 5000
 rw [b8q, b8q, b8q, b8q]
 omega
theorem c0a (bs : List Nat) : zWl (q8q bs).1 ≤ 5000 := by
 unfold q8q
 by_cases h : a9u bs
 ·rw [if_pos h]
  have hw : a0c (sW bs).1 := Classical.byContradiction fun hn => h.2.1 (by have := h.2.2; rw [b1l hn] at this; exact this.symm)
  exact c3z hw
 ·rw [if_neg h]; show (0 : Nat) + 0 + 0 + 0 ≤ 5000; omega
end
section
theorem a2v (bs : List Nat) (hbs : ∀ b ∈ bs, b < 256) : a1f Try.prog 4 [v7v true bs] (.pv (.bool (true))) := by
 refine z5z x9x (fn := Try.f4) (by kernel_rfl) (by kernel_rfl) rfl (outs := [.pv (.bool (true))]) (by rfl) (v2v rfl) 15 ?_
 refine x6x x9x (by rfl) ?_
 refine x2x rfl ?_
 refine x4x fun K1 hK1 => ?_
 refine x6x x9x (by rfl) ?_
 refine x0x rfl ?_
 refine u6u rfl w4w rfl ?_
 refine y6y rfl rfl rfl ?_
 refine y0y rfl (fun hc2 => ?_) (fun hc2 => ?_)
 ·try simp at hc2
  refine x6x x9x (by rfl) ?_
  refine x2x rfl ?_
  refine y4y ⟨.inr rfl, ?_⟩
  clear hK1 K1
  exact z0z rfl rfl rfl
 try simp at hc2
 have hl : bs.length ≤ 1048576 := by omega
 have hbl : bs.length ≤ 100000000 := by omega
 have hz : 1 + zWl (q8q bs).1 ≤ 1000000000 := by have := c0a bs; omega
 refine y1y ?_
 refine hK1 _ _ ?_
 clear hK1 K1
 refine x6x x9x (by rfl) ?_
 refine x0x rfl ?_
 refine z6z [3] [_] (a1g true bs hl) rfl rfl rfl (by decide) rfl rfl (by repeat (first | exact InH.nil | refine InH.cons rfl ?_)) (by (simp only [pI, y8y, y9y, w5w, gl, nx, w0w, Nat.beq]; rfl)) (by (simp only [pI, y8y, y9y, w5w, gl, nx, w0w, Nat.beq]; rfl)) ?_
 refine a3c rfl rfl rfl (by exact a9c rfl .nil) (a7c false bs hbs hbl) (by exact .tup (a5k (b9r _) (a5k (.pv _) c4d))) ?_
 refine x0x rfl ?_
 refine a1t rfl rfl ?_
 refine a1t rfl rfl ?_
 refine q0q (id := 0) z7z a3b rfl ?_
 refine v6v rfl rfl z7z rfl rfl rfl rfl ?_
 refine x2x rfl ?_
 refine x6x x9x (by rfl) ?_
 refine x0x rfl ?_
 refine z6z [4] [_] (a1g true bs hl) rfl rfl rfl (by decide) rfl rfl (by repeat (first | exact InH.nil | refine InH.cons rfl ?_)) (by (simp only [pI, y8y, y9y, w5w, gl, nx, w0w, Nat.beq]; rfl)) (by (simp only [pI, y8y, y9y, w5w, gl, nx, w0w, Nat.beq]; rfl)) ?_
 refine x2x rfl ?_
 refine x6x x9x (by rfl) ?_
 refine x0x rfl ?_
 refine a5v [5, 6, 7, 8] [_, _, _, _] (a1w false bs hbs hbl) rfl rfl rfl (LendM.base (a9c rfl .nil)) rfl (by decide) rfl rfl (by repeat (first | exact InH.nil | refine InH.cons rfl ?_)) (by (simp only [pI, y8y, y9y, w5w, gl, nx, w0w, Nat.beq]; rfl)) (by (simp only [pI, y8y, y9y, w5w, gl, nx, w0w, Nat.beq]; rfl)) rfl rfl (b2t rfl) (by repeat (first | exact StrH.nil | refine StrH.dead ?_)) (by exact c3s .nil) ?_
 refine x0x rfl ?_
 refine a1t rfl rfl ?_
 refine a1t rfl rfl ?_
 refine q0q (id := 1) z7z a3b rfl ?_
 refine v6v rfl rfl z7z rfl rfl rfl rfl ?_
 refine x2x rfl ?_
 rw [b3j bs]
 refine x4x fun K3 hK3 => ?_
 refine x6x x9x (by rfl) ?_
 refine u2u rfl z7z rfl rfl rfl ?_
 refine u2u rfl z7z rfl rfl rfl ?_
 refine a3c rfl rfl rfl (by exact a8w rfl rfl rfl rfl (c2f rfl rfl .nil)) (a3h false true (q8q bs).1 (q8q bs).1) (by exact .pv _) ?_
 refine q1q rfl ?_
 refine x0x rfl ?_
 refine a0l rfl rfl (fun hg4 => ?_) (fun hg4 => ?_)
 rotate_left
 ·(simp at hg4; done)
 try simp at hg4
 refine x0x rfl ?_
 refine z1z rfl rfl ?_
 refine x0x rfl ?_
 refine z1z rfl rfl ?_
 refine a7n rfl rfl (by intro p q h h'; cases h; cases h'; rfl) (.inr rfl) (b1c Try.underlying4 _ _ _ _) ?_
 refine x8x rfl rfl ?_
 refine y0y rfl (fun hc5 => ?_) (fun hc5 => ?_)
 ·(simp at hc5; done)
 try simp at hc5
 refine y1y ?_
 refine hK3 _ _ ?_
 clear hK3 K3
 refine x4x fun K6 hK6 => ?_
 refine x6x x9x (by rfl) ?_
 refine x0x rfl ?_
 refine x0x rfl ?_
 refine z6z [9] [_] (a1g true bs hl) rfl rfl rfl (by decide) rfl rfl (by repeat (first | exact InH.nil | refine InH.cons rfl ?_)) (by (simp only [pI, y8y, y9y, w5w, gl, nx, w0w, Nat.beq]; rfl)) (by (simp only [pI, y8y, y9y, w5w, gl, nx, w0w, Nat.beq]; rfl)) ?_
 refine a3c rfl rfl rfl (by exact a9c rfl (a9c rfl .nil)) (a9z false false bs bs) (by exact .pv _) ?_
 refine q1q rfl ?_
 refine y0y rfl (fun hc7 => ?_) (fun hc7 => ?_)
 ·(simp at hc7; done)
 try simp at hc7
 refine y1y ?_
 refine hK6 _ _ ?_
 clear hK6 K6
 refine x6x x9x (by rfl) ?_
 refine x2x rfl ?_
 refine x6x x9x (by rfl) ?_
 refine x0x rfl ?_
 refine x0x rfl ?_
 refine z6z [4] [_] (a7t bs 1 (by omega)) rfl rfl rfl (by decide) rfl rfl (by repeat (first | exact InH.nil | refine InH.cons rfl ?_)) (by (simp only [pI, y8y, y9y, w5w, gl, nx, w0w, Nat.beq]; rfl)) (by (simp only [pI, y8y, y9y, w5w, gl, nx, w0w, Nat.beq]; rfl)) ?_
 refine x2x rfl ?_
 refine x4x fun K8 hK8 => ?_
 refine x6x x9x (by rfl) ?_
 refine x0x rfl ?_
 refine y6y rfl rfl rfl ?_
 refine x0x rfl ?_
 refine a0l rfl rfl (fun hg9 => ?_) (fun hg9 => ?_)
 rotate_left
 ·(simp at hg9; omega)
 try simp at hg9
 refine u2u rfl z7z rfl rfl rfl ?_
 refine z1z rfl rfl ?_
 refine u2u rfl z7z rfl rfl rfl ?_
 refine z1z rfl rfl ?_
 refine a3c rfl rfl rfl (by exact a8w rfl rfl rfl rfl (c2f rfl rfl .nil)) (a3h false true (q8q bs).1 (q8q bs).1) (by exact .pv _) ?_
 refine z1z rfl rfl ?_
 refine q1q rfl ?_
 refine x8x rfl rfl ?_
 refine x0x rfl ?_
 refine a0l rfl rfl (fun hg10 => ?_) (fun hg10 => ?_)
 rotate_left
 ·(simp at hg10; done)
 try simp at hg10
 refine x0x rfl ?_
 refine z1z rfl rfl ?_
 refine x0x rfl ?_
 refine z1z rfl rfl ?_
 refine a7n rfl rfl (by intro p q h h'; cases h; cases h'; rfl) (.inr rfl) (b1c Try.underlying4 _ _ _ _) ?_
 refine x8x rfl rfl ?_
 refine y0y rfl (fun hc11 => ?_) (fun hc11 => ?_)
 ·(simp at hc11; done)
 try simp at hc11
 refine y1y ?_
 refine hK8 _ _ ?_
 clear hK8 K8
 refine x6x x9x (by rfl) ?_
 refine x2x rfl ?_
 refine x6x x9x (by rfl) ?_
 refine u2u rfl z7z rfl rfl rfl ?_
 refine x0x rfl ?_
 refine z6z [5, 6, 7, 8] [_, _, _, _] (a9m (q8q bs).1 1 hz) rfl rfl rfl (by decide) rfl rfl (by repeat (first | exact InH.nil | refine InH.cons rfl ?_)) (by (simp only [pI, y8y, y9y, w5w, gl, nx, w0w, Nat.beq]; rfl)) (by (simp only [pI, y8y, y9y, w5w, gl, nx, w0w, Nat.beq]; rfl)) ?_
 refine x2x rfl ?_
 refine x6x x9x (by rfl) ?_
 refine x2x rfl ?_
 refine x6x x9x (by rfl) ?_
 refine u2u rfl z7z rfl rfl rfl ?_
 refine x0x rfl ?_
 refine a3c rfl rfl rfl (by exact a8w (w := kWl 1 (q8q bs).1) rfl rfl rfl rfl (.cl rfl .nil)) (a4i false (q8q bs).1 1 hz) (by exact .pv _) ?_
 refine x2x rfl ?_
 refine x4x fun K12 hK12 => ?_
 refine x6x x9x (by rfl) ?_
 refine x0x rfl ?_
 refine y6y rfl rfl rfl ?_
 refine y0y rfl (fun hc13 => ?_) (fun hc13 => ?_)
 ·(simp at hc13; omega)
 try simp at hc13
 refine y1y ?_
 refine hK12 _ _ ?_
 clear hK12 K12
 refine x4x fun K14 hK14 => ?_
 refine x6x x9x (by rfl) ?_
 refine x0x rfl ?_
 refine x0x rfl ?_
 refine y6y rfl rfl rfl ?_
 refine y0y rfl (fun hc15 => ?_) (fun hc15 => ?_)
 ·(simp at hc15; done)
 try simp at hc15
 refine y1y ?_
 refine hK14 _ _ ?_
 clear hK14 K14
 refine x6x x9x (by rfl) ?_
 refine x0x rfl ?_
 refine z6z [10] [_] (a1g true bs hl) rfl rfl rfl (by decide) rfl rfl (by repeat (first | exact InH.nil | refine InH.cons rfl ?_)) (by (simp only [pI, y8y, y9y, w5w, gl, nx, w0w, Nat.beq]; rfl)) (by (simp only [pI, y8y, y9y, w5w, gl, nx, w0w, Nat.beq]; rfl)) ?_
 refine a5v [11, 12, 13, 14] [_, _, _, _] (a1w false bs hbs hbl) rfl rfl rfl (LendM.base (a9c rfl .nil)) rfl (by decide) rfl rfl (by repeat (first | exact InH.nil | refine InH.cons rfl ?_)) (by (simp only [pI, y8y, y9y, w5w, gl, nx, w0w, Nat.beq]; rfl)) (by (simp only [pI, y8y, y9y, w5w, gl, nx, w0w, Nat.beq]; rfl)) rfl rfl (b2t rfl) (by repeat (first | exact StrH.nil | refine StrH.dead ?_)) (by exact c3s .nil) ?_
 refine x0x rfl ?_
 refine a1t rfl rfl ?_
 refine a1t rfl rfl ?_
 refine q0q (id := 2) z7z a3b rfl ?_
 refine v6v rfl rfl z7z rfl rfl rfl rfl ?_
 refine x2x rfl ?_
 rw [b3j bs]
 refine x4x fun K16 hK16 => ?_
 refine x6x x9x (by rfl) ?_
 refine u2u rfl z7z rfl rfl rfl ?_
 refine u2u rfl z7z rfl rfl rfl ?_
 refine a3c rfl rfl rfl (by exact a8w rfl rfl rfl rfl (c2f rfl rfl .nil)) (a3h false true (q8q bs).1 (q8q bs).1) (by exact .pv _) ?_
 refine q1q rfl ?_
 refine x0x rfl ?_
 refine a0l rfl rfl (fun hg17 => ?_) (fun hg17 => ?_)
 rotate_left
 ·(simp at hg17; done)
 try simp at hg17
 refine x0x rfl ?_
 refine z1z rfl rfl ?_
 refine x0x rfl ?_
 refine z1z rfl rfl ?_
 refine a7n rfl rfl (by intro p q h h'; cases h; cases h'; rfl) (.inr rfl) (b1c Try.underlying4 _ _ _ _) ?_
 refine x8x rfl rfl ?_
 refine y0y rfl (fun hc18 => ?_) (fun hc18 => ?_)
 ·(simp at hc18; done)
 try simp at hc18
 refine y1y ?_
 refine hK16 _ _ ?_
 clear hK16 K16
 refine x6x x9x (by rfl) ?_
 refine x2x rfl ?_
 refine x6x x9x (by rfl) ?_
 refine u2u rfl z7z rfl rfl rfl ?_
 refine x0x rfl ?_
 refine a3c rfl rfl rfl (by exact a8w (w := kWl 1 (q8q bs).1) rfl rfl rfl rfl (.cl rfl .nil)) (a4i false (q8q bs).1 1 hz) (by exact .pv _) ?_
 refine x2x rfl ?_
 refine x4x fun K19 hK19 => ?_
 refine x6x x9x (by rfl) ?_
 refine x0x rfl ?_
 refine y6y rfl rfl rfl ?_
 refine y0y rfl (fun hc20 => ?_) (fun hc20 => ?_)
 ·(simp at hc20; omega)
 try simp at hc20
 refine y1y ?_
 refine hK19 _ _ ?_
 clear hK19 K19
 refine x4x fun K21 hK21 => ?_
 refine x6x x9x (by rfl) ?_
 refine x0x rfl ?_
 refine x0x rfl ?_
 refine y6y rfl rfl rfl ?_
 refine y0y rfl (fun hc22 => ?_) (fun hc22 => ?_)
 ·(simp at hc22; done)
 try simp at hc22
 refine y1y ?_
 refine hK21 _ _ ?_
 clear hK21 K21
 refine x6x x9x (by rfl) ?_
 refine x2x rfl ?_
 refine y4y ⟨.inr rfl, ?_⟩
 exact z0z rfl rfl rfl
end
section
def X0 (w : World) : Cx := ⟨fun b => b < w.heap.size, fun b => b < w.heap.size, fun _ _ => none, fun _ _ => none⟩
theorem c0b (w : World) : SRh (X0 w) ⟨w, fun _ => False, fun b => b < w.heap.size, fun b => b < w.heap.size⟩ (fun _ => none) w := by
 refine ⟨fun _ => [], ?_, ?_, ?_, ?_, ?_, ?_, ?_, ?_, ?_, rfl, rfl, rfl, Nat.le_refl _, fun _ _ _ => rfl⟩
 ·intro id g e h; cases h
 ·intro id ge b h; cases h
 ·intro id id' ge ge' b h; cases h
 ·intro b hb; exact ⟨hb, fun id ge h => by cases h⟩
 ·intro b hb; exact hb
 ·intro b hb; exact .inl hb
 ·intro b hb; exact .inl hb
 ·intro id ge b h; cases h
 ·intro id g h; exact ⟨rfl, rfl⟩
theorem b4k (hC : a1f P f avs (.pv u)) (w : World) (vs : List Value) (hl : vs.length = avs.length) (hr : ∀ (i : Nat) (a : AV) (v : Value), avs[i]? = some a → vs[i]? = some v → VR (X0 w) w a v) :
  Calls P f vs.toArray w fun e w' => e = .returned u ∧ Below w.heap.size w w' :=
 (hC.2 (X0 w) _ (fun _ => none) w vs (c0b w) hl hr (fun id ge h => by cases h)).mono fun e w' ⟨v, he, X', hX, hS, hk, hv⟩ => by
  rw [hv.pv_inv] at he
  obtain ⟨F, hS⟩ := hS
  exact ⟨he, hS.os, hS.tape, hS.output, hS.size, fun k hk => hS.keep k hk (fun h => h)⟩
def c2o (k : IntKind) (w : World) (a : Option Addr) (len cap : Nat) (zs : List Int) : Prop :=
 (a = none ∧ len = 0 ∧ cap = 0 ∧ zs = []) ∨
 ∃ x, a = some x ∧ len ≤ cap ∧ cap ≤ maxLen ∧ zs.length = cap ∧ (∀ i, i < zs.length → w.cell? (x.add i) = some (.int k (zs.getD i 0))) ∧ ∀ n ∈ zs, (Lit.int k n).wf = true
theorem b8r (h : c2o .u8 w a len cap zs) : ∃ bs : List Nat, (∀ b ∈ bs, b < 256) ∧ VR (X0 w) w (v7v true bs) (.slice a len cap) := by
 rcases h with ⟨rfl, rfl, rfl, rfl⟩ | ⟨x, rfl, hl, hm, hz, hc, hw⟩
 ·exact ⟨[], (fun b hb => by cases hb), .cl (.row none 0 (fun _ _ => undef) (Nat.le_refl _) (Nat.zero_le _) (fun j x hx => by simp at hx) (fun j i x y hx => by simp at hx) (fun h => by simp at h) (fun ad j i x y hA => by cases hA) (fun j i x y hx => by simp at hx))⟩
 ·have hb : ∀ n ∈ zs, 0 ≤ n ∧ n < 256 := fun n hn => by
   have := hw n hn
   simp only [Lit.wf, Bool.and_eq_true, decide_eq_true_eq, IntKind.min, IntKind.max] at this
   simp [IntKind.signed, IntKind.bits] at this
   omega
  refine ⟨(zs.take len).map Int.toNat, fun b hb' => ?_, ?_⟩
  ·obtain ⟨n, hn, rfl⟩ := List.mem_map.1 hb'
   have := hb n (List.mem_of_mem_take hn)
   omega
  ·have hlen : ((zs.take len).map Int.toNat).length = len := by rw [List.length_map, List.length_take]; omega
   have hg : ∀ (j : Nat) (y : List AV), (((zs.take len).map Int.toNat).map a1l)[j]? = some y → j < len ∧ ∃ n, zs[j]? = some n ∧ y = [.pv (.int .u8 n)] := fun j y hy => by
    rw [List.getElem?_map, List.getElem?_map, List.getElem?_take] at hy
    split at hy
    ·rename_i hj
     cases hn : zs[j]? with
     | none => rw [hn] at hy; cases hy
     | some n =>
      rw [hn] at hy
      refine ⟨hj, n, rfl, ?_⟩
      have h0 := hb n (List.mem_of_getElem? hn)
      simp only [Option.map_some, Option.some.injEq] at hy
      rw [← hy, a1l, Int.toNat_of_nonneg h0.1]
    ·cases hy
   have key := CR.row (ok1 := (X0 w).ok1) (ok2 := (X0 w).ok2) (w := w) (m := true) (ty := 5) (sz := 1) (xs := ((zs.take len).map Int.toNat).map a1l) (some x) cap (fun j _ => .int .u8 (zs.getD j 0))
    (by rw [List.length_map, hlen]; exact hl) hm (fun j y hy => by obtain ⟨_, n, _, rfl⟩ := hg j y hy; rfl)
    (fun j i y z hy hz' => by
     obtain ⟨_, n, _, rfl⟩ := hg j y hy
     cases i with
     | zero => simp at hz'; subst hz'; rfl
     | succ i => simp at hz')
    (fun hp => ⟨x, rfl, by
     rw [List.length_map, hlen] at hp
     have := hc 0 (by omega)
     have h2 := World.block_lt_of_cell? w _ this
     show x.block < w.heap.size
     simpa [Addr.add] using h2⟩)
    (fun ad j i y z hA hy hz' => by
     cases hA
     obtain ⟨hj, n, hn, rfl⟩ := hg j y hy
     cases i with
     | zero =>
      have := hc j (by omega)
      simpa using this
     | succ i => simp at hz')
    (fun j i y z hy hz' => by
     obtain ⟨hj, n, hn, rfl⟩ := hg j y hy
     cases i with
     | zero =>
      simp at hz'; subst hz'
      rw [List.getD_eq_getElem?_getD, hn]
      exact .pv _
     | succ i => simp at hz')
   rw [List.length_map, hlen] at key
   exact .cl key
end
end Go.Proofs.Ytdelokimkggeaaa.Am
