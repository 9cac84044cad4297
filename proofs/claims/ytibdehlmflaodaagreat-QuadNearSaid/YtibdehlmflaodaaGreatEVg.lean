import Derived.Test.YtibdehlmflaodaaGreatEVe
import Derived.Test.YtibdehlmflaodaaGreatEGluQ
set_option linter.unusedVariables false
set_option linter.unusedSimpArgs false
namespace Go.Proofs.YtibdehlmflaodaaGreat
open Go.RowKit
theorem IntsR.at {w : World} {ao : Option Addr} {n cap : Nat} {l : List Int} (h : IntsR w (.slice ao n cap) l) {t : Nat} (ht : t < l.length) : ∃ b o, ao = some ⟨b, o, none⟩ ∧ b < w.heap.size ∧ w.cell? ⟨b, o + t, none⟩ = some (.int .i64 (l.getD t 0)) := by
 obtain ⟨ao', cap', e, _, h2⟩ := h
 injection e with e1 e2 e3
 subst e1
 obtain ⟨b, o, e, hb, hc⟩ := h2 (fun e => by rw [e] at ht; cases ht)
 exact ⟨b, o, e, hb, hc t ht⟩
def greatQ (la lb : Nat → Nat) : Nat → Bool
 | 0 => false
 | i + 1 => greatQ la lb i || (decide (6 < la i) || decide (6 < lb i))
end Go.Proofs.YtibdehlmflaodaaGreat
