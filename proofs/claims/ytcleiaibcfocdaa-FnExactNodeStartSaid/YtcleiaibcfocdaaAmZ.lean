/- The bridge: what a contract of the abstract machine says of a call out of a handed world. -/
import Derived.Test.YtcleiaibcfocdaaAmD
import Derived.Below
set_option linter.unusedVariables false
set_option linter.unusedSimpArgs false
namespace Go.Proofs.Ytcleiaibcfocdaa.Am
open Go Go.RowKit

def X0 (w : World) : Cx := ⟨fun b => b < w.heap.size, fun b => b < w.heap.size, fun _ _ => none, fun _ _ => none⟩
theorem start_sr (w : World) : SRh (X0 w) ⟨w, fun _ => False, fun b => b < w.heap.size, fun b => b < w.heap.size⟩ (fun _ => none) w := by
  refine ⟨fun _ => [], ?_, ?_, ?_, ?_, ?_, ?_, ?_, ?_, ?_, rfl, rfl, rfl, Nat.le_refl _, fun _ _ _ => rfl⟩
  · intro id g e h; cases h
  · intro id ge b h; cases h
  · intro id id' ge ge' b h; cases h
  · intro b hb; exact ⟨hb, fun id ge h => by cases h⟩
  · intro b hb; exact hb
  · intro b hb; exact .inl hb
  · intro b hb; exact .inl hb
  · intro id ge b h; cases h
  · intro id g h; exact ⟨rfl, rfl⟩
theorem start_calls {P : Program} {f : FuncId} {avs : List AV} {u : Value} (hC : Pure P f avs (.pv u)) (w : World) (vs : List Value) (hl : vs.length = avs.length) (hr : ∀ (i : Nat) (a : AV) (v : Value), avs[i]? = some a → vs[i]? = some v → VR (X0 w) w a v) :
    Calls P f vs.toArray w fun e w' => e = .returned u ∧ Below w.heap.size w w' :=
  (hC.2 (X0 w) _ (fun _ => none) w vs (start_sr w) hl hr (fun id ge h => by cases h)).mono fun e w' ⟨v, he, X', hX, hS, hk, hv⟩ => by
    rw [hv.pv_inv] at he
    obtain ⟨F, hS⟩ := hS
    exact ⟨he, hS.os, hS.tape, hS.output, hS.size, fun k hk => hS.keep k hk (fun h => h)⟩
def IsRow (k : IntKind) (w : World) (a : Option Addr) (len cap : Nat) (zs : List Int) : Prop :=
  (a = none ∧ len = 0 ∧ cap = 0 ∧ zs = []) ∨
  ∃ x, a = some x ∧ len ≤ cap ∧ cap ≤ maxLen ∧ zs.length = cap ∧ (∀ i, i < zs.length → w.cell? (x.add i) = some (.int k (zs.getD i 0))) ∧ ∀ n ∈ zs, (Lit.int k n).wf = true
theorem bytes_rel {w : World} {a : Option Addr} {len cap : Nat} {zs : List Int} (h : IsRow .u8 w a len cap zs) : ∃ bs : List Nat, (∀ b ∈ bs, b < 256) ∧ VR (X0 w) w (rBytes true bs) (.slice a len cap) := by
  rcases h with ⟨rfl, rfl, rfl, rfl⟩ | ⟨x, rfl, hl, hm, hz, hc, hw⟩
  · exact ⟨[], (fun b hb => by cases hb), .cl (.row none 0 (fun _ _ => undef) (Nat.le_refl _) (Nat.zero_le _) (fun j x hx => by simp at hx) (fun j i x y hx => by simp at hx) (fun h => by simp at h) (fun ad j i x y hA => by cases hA) (fun j i x y hx => by simp at hx))⟩
  · have hb : ∀ n ∈ zs, 0 ≤ n ∧ n < 256 := fun n hn => by
      have := hw n hn
      simp only [Lit.wf, Bool.and_eq_true, decide_eq_true_eq, IntKind.min, IntKind.max] at this
      simp [IntKind.signed, IntKind.bits] at this
      omega
    refine ⟨(zs.take len).map Int.toNat, fun b hb' => ?_, ?_⟩
    · obtain ⟨n, hn, rfl⟩ := List.mem_map.1 hb'
      have := hb n (List.mem_of_mem_take hn)
      omega
    · have hlen : ((zs.take len).map Int.toNat).length = len := by rw [List.length_map, List.length_take]; omega
      have hg : ∀ (j : Nat) (y : List AV), (((zs.take len).map Int.toNat).map encB)[j]? = some y → j < len ∧ ∃ n, zs[j]? = some n ∧ y = [.pv (.int .u8 n)] := fun j y hy => by
        rw [List.getElem?_map, List.getElem?_map, List.getElem?_take] at hy
        split at hy
        · rename_i hj
          cases hn : zs[j]? with
          | none => rw [hn] at hy; cases hy
          | some n =>
            rw [hn] at hy
            refine ⟨hj, n, rfl, ?_⟩
            have h0 := hb n (List.mem_of_getElem? hn)
            simp only [Option.map_some, Option.some.injEq] at hy
            rw [← hy, encB, Int.toNat_of_nonneg h0.1]
        · cases hy
      have key := CR.row (ok1 := (X0 w).ok1) (ok2 := (X0 w).ok2) (w := w) (m := true) (ty := 5) (sz := 1) (xs := ((zs.take len).map Int.toNat).map encB) (some x) cap (fun j _ => .int .u8 (zs.getD j 0))
        (by rw [List.length_map, hlen]; exact hl) hm (fun j y hy => by obtain ⟨_, n, _, rfl⟩ := hg j y hy; rfl)
        (fun j i y z hy hz' => by
          obtain ⟨_, n, _, rfl⟩ := hg j y hy
          cases i with
          | zero => simp at hz'; subst hz'; rfl
          | succ i => simp at hz')
        (fun hp => ⟨x, rfl, by
          rw [List.length_map, hlen] at hp
          have := hc 0 (by omega)
          have h2 := World.block_lt_of_cell? w _ this
          show x.block < w.heap.size
          simpa [Addr.add] using h2⟩)
        (fun ad j i y z hA hy hz' => by
          cases hA
          obtain ⟨hj, n, hn, rfl⟩ := hg j y hy
          cases i with
          | zero =>
            have := hc j (by omega)
            simpa using this
          | succ i => simp at hz')
        (fun j i y z hy hz' => by
          obtain ⟨hj, n, hn, rfl⟩ := hg j y hy
          cases i with
          | zero =>
            simp at hz'; subst hz'
            rw [List.getD_eq_getElem?_getD, hn]
            exact .pv _
          | succ i => simp at hz')
      rw [List.length_map, hlen] at key
      exact .cl key
end Go.Proofs.Ytcleiaibcfocdaa.Am
