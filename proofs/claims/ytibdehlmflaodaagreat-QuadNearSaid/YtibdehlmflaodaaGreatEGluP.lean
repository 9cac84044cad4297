import Derived.Deep.SlicePairs
import Derived.Laws.IdiomArrays
import Derived.Test.YtibdehlmflaodaaGreatEGlue
import Derived.Test.YtibdehlmflaodaaGreatEQu
/- Points and indices as arguments. -/
set_option linter.unusedVariables false
set_option linter.unusedSimpArgs false
namespace Go.Proofs.YtibdehlmflaodaaGreat
open Go.ChangeShapes Go.WideShapes Go.ChangeAt Go.RowKit Go.Joins
section
variable {H : Type} {enc : TypeId × Value → H} {W : World} {base : Nat} {held : Bool}
set_option maxRecDepth 100000 in
theorem open_pts {r : Reach} {b0 : Nat} {v : Value} {d : DataW H} {p : List MemPlace} (hv : Value.okWide Tryz.prog W r b0 24 v) (h : DataW.Trod enc Tryz.prog W base (fun _ => true) held 24 v d p) : ∃ l, Pts W v l := by
 obtain ⟨a0, len0, cap0, rfl⟩ := okWide_slice Tryz.underlying24 hv
 obtain ⟨fuel, hf⟩ := h
 replace hf : DataW.trod enc Tryz.prog W base (fun _ => true) held fuel 24 [.slice a0 len0 cap0] = some (d, p) := hf
 rcases Deep.open_slice_pairs Tryz.underlying24 Tryz.underlying23 (by kernel_rfl) rfl rfl (by kernel_rfl) (by kernel_rfl) hf with ⟨e, _⟩ | ⟨a, len, cap, m, n, V0, V1, D0, D1, P0, P1, e, _, hle, _, hm, _, hx⟩
 ·
  simp only [List.cons.injEq, and_true] at e
  rw [e]
  exact ⟨[], fun k => by simp, none, 0, rfl, Nat.le_refl _, fun h => absurd rfl h⟩
 ·
  simp only [List.cons.injEq, and_true] at e
  rw [e]
  rw [if_pos rfl] at hm
  have hz : ∀ i, i < len → ∃ z : Int × Int, (V0 i = .int .i64 z.1 ∧ V1 i = .int .i64 z.2) ∧ (-9223372036854775808 ≤ z.1 ∧ z.1 ≤ 9223372036854775807 ∧ -9223372036854775808 ≤ z.2 ∧ z.2 ≤ 9223372036854775807) := fun i hi => by
   obtain ⟨-, -, h0, h1⟩ := hx i (by omega)
   obtain ⟨x, e0, _, w0⟩ := DataW.trod_int Tryz.underlying2 h0
   obtain ⟨y, e1, _, w1⟩ := DataW.trod_int Tryz.underlying2 h1
   simp only [List.cons.injEq, and_true] at e0 e1
   have b0 := i64_wf' w0
   have b1 := i64_wf' w1
   exact ⟨(x, y), ⟨e0, e1⟩, b0.1, b0.2, b1.1, b1.2⟩
  obtain ⟨z, hz⟩ := Deep.choose_lt hz
  have gl : ∀ k, ((List.range len).map z).getD k (0, 0) = if k < len then z k else (0, 0) := fun k => by
   by_cases g : k < len
   · rw [if_pos g]; simp [List.getD, g]
   · rw [if_neg g]; simp [List.getD, g]
  refine ⟨(List.range len).map z, fun k => ?_, some a, cap, by simp, by simpa using hle, fun hne => ?_⟩
  ·
   rw [gl]
   by_cases g : k < len
   · rw [if_pos g]; exact (hz k g).2
   · rw [if_neg g]; simp
  ·
   have hp : 0 < len := by
    rcases Nat.eq_zero_or_pos len with h0 | h0
    · exact absurd (by rw [h0]; rfl) hne
    · exact h0
   obtain ⟨b, off, spot⟩ := a
   have hspot : spot = none := by
    have h0 := (hx 0 (by omega)).1
    simpa [Addr.add] using World.cell?_spot h0
   subst hspot
   have c0 := (hx 0 (by omega)).1
   refine ⟨b, off, rfl, ?_, fun t ht => ?_⟩
   ·
    have : W.cell? ⟨b, off + 0 * 2, none⟩ = some (V0 0) := by rw [← Go.WideShapes.add_plain]; exact c0
    exact cell_lt this
   ·
    rw [List.length_map, List.length_range] at ht
    rw [gl, if_pos ht]
    obtain ⟨h0, h1, -, -⟩ := hx t (by omega)
    obtain ⟨⟨e0, e1⟩, -⟩ := hz t ht
    rw [Go.WideShapes.add_plain] at h0 h1
    exact ⟨by rw [h0, e0], by rw [show off + t * 2 + 1 = off + (t * 2 + 1) by omega, h1, e1]⟩
end
end Go.Proofs.YtibdehlmflaodaaGreat
