import Derived.Test.YtmpambmpknaldaaIGlue
import Derived.Test.YtmpambmpknaldaaIRowU
import Derived.Test.YtmpambmpknaldaaIVa
/- Lists of int64 and fractions as arguments. -/
set_option linter.unusedVariables false
set_option linter.unusedSimpArgs false
namespace Go.Proofs.Ytmpambmpknaldaa
open Go.ChangeShapes Go.WideShapes Go.ChangeAt Go.RowKit Go.Joins
section
variable {H : Type} {enc : TypeId × Value → H} {W : World} {base : Nat} {held : Bool} {n : Nat}
theorem cellsJ : Try.prog.cellsOf 2 = 1 := by kernel_rfl
set_option maxRecDepth 100000 in
theorem open_i64sArg {r : Reach} {b0 : Nat} {v : Value} {d : DataW H} {p : List MemPlace} (hv : Value.okWide Try.prog W r b0 22 v) (h : DataW.Trod enc Try.prog W base (fun _ => true) held 22 v d p) : ∃ l, IntsR W v l := by
 obtain ⟨a0, len0, cap0, rfl⟩ := okWide_slice Try.underlying22 hv
 obtain ⟨fuel, hf⟩ := h
 replace hf : DataW.trod enc Try.prog W base (fun _ => true) held fuel 22 [.slice a0 len0 cap0] = some (d, p) := hf
 rcases open_ints Try.underlying22 Try.underlying2 cellsJ hf with ⟨e, _⟩ | ⟨a, len, cap, zs, e, _, hle, _, hl, _, hcell, hwf⟩
 ·
  simp only [List.cons.injEq, and_true] at e
  rw [e]
  exact ⟨[], IntsR.nil W⟩
 ·
  simp only [List.cons.injEq, and_true] at e
  rw [e]
  rw [if_pos rfl] at hl
  have lt : (zs.take len).length = len := by rw [List.length_take]; omega
  refine ⟨zs.take len, some a, cap, by rw [lt], by omega, fun hne => ?_⟩
  have hp : 0 < zs.length := by
   rcases Nat.eq_zero_or_pos len with h0 | h0
   · exact absurd (by rw [h0, List.take_zero]) hne
   · omega
  obtain ⟨b, off, rfl, hc⟩ := Go.ints_at hcell hp
  refine ⟨b, off, rfl, cell_lt (hc 0 hp), fun t ht => ?_⟩
  rw [lt] at ht
  rw [hc t (by omega)]
  simp [List.getD, List.getElem?_take, ht]
end
end Go.Proofs.Ytmpambmpknaldaa
