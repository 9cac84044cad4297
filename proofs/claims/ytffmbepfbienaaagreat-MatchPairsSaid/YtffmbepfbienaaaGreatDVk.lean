import Derived.Test.YtffmbepfbienaaaGreatDVi
import Derived.Test.YtffmbepfbienaaaGreatDQx
import Derived.Deep.Upon
set_option linter.unusedVariables false
set_option linter.unusedSimpArgs false
namespace Go.Proofs.YtffmbepfbienaaaGreat
open Go.RowKit
theorem QAs.at {w : World} {v : Value} {qa : List Arr} (h : QAs w v qa) : ∃ (ao : Option Addr) (cap : Nat) (CS : Nat → Array Value), v = .slice ao qa.length cap ∧ ∀ t, t < qa.length → ∃ b o, ao = some ⟨b, o, none⟩ ∧ b < w.heap.size ∧ QF w (CS t) (kA (qa.getD t noArr)) (rA (qa.getD t noArr)) ∧ ∀ j, j < 20 → w.cell? ⟨b, o + t * 20 + j, none⟩ = (CS t)[j]? := by
 obtain ⟨ao, cap, e, hc, CS, h1, h2⟩ := h
 refine ⟨ao, cap, CS, e, fun t ht => ?_⟩
 obtain ⟨b, o, e2, hb, h3⟩ := h2 (by omega)
 exact ⟨b, o, e2, hb, h1 t ht, h3 t ht⟩
end Go.Proofs.YtffmbepfbienaaaGreat
