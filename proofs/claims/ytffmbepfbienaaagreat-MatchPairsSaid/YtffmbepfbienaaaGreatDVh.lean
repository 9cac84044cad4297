import Derived.Test.YtffmbepfbienaaaGreatDVe
import Derived.Test.YtffmbepfbienaaaGreatDQx
import Derived.Test.YtffmbepfbienaaaGreatDTz
import Derived.Test.YtffmbepfbienaaaGreatDQj
/- Lists of quads that a function collects. -/
set_option linter.unusedVariables false
set_option linter.unusedSimpArgs false
namespace Go.Proofs.YtffmbepfbienaaaGreat
open Go.RowKit
def QAs (w : World) (v : Value) (qa : List Arr) : Prop := ∃ ao cap, v = .slice ao qa.length cap ∧ qa.length ≤ cap ∧ ∃ CS : Nat → Array Value, (∀ t, t < qa.length → QF w (CS t) (kA (qa.getD t noArr)) (rA (qa.getD t noArr))) ∧
 (0 < qa.length → ∃ b o, ao = some ⟨b, o, none⟩ ∧ b < w.heap.size ∧ QCells w b o qa.length CS)
theorem QAs.steps {w w' : World} {v : Value} {qa : List Arr} (h : QAs w v qa) (s : Steps w w') : QAs w' v qa := by
 obtain ⟨ao, cap, e, hc, CS, h1, h2⟩ := h
 refine ⟨ao, cap, e, hc, CS, fun t ht => (h1 t ht).steps s, fun hn => ?_⟩
 obtain ⟨b, o, e2, hb, h3⟩ := h2 hn
 exact ⟨b, o, e2, Nat.lt_of_lt_of_le hb s.size, fun t ht j hj => (s.cell (p := ⟨b, _, none⟩) hb).trans (h3 t ht j hj)⟩
theorem QAs.nil (w : World) : QAs w (.slice none 0 0) [] := ⟨none, 0, rfl, Nat.le_refl _, fun _ => #[], fun t ht => (by cases ht), fun h => (by cases h)⟩
theorem QAs.shape {w : World} {v : Value} {qa : List Arr} (h : QAs w v qa) : ∃ ao cap, v = .slice ao qa.length cap := by obtain ⟨ao, cap, e, _⟩ := h; exact ⟨ao, cap, e⟩
def flat (l : List (Array Value)) : List Value := l.flatMap (·.toList)
def Coll (w : World) (base : Nat) (ow : Value) (qa : List Arr) : Prop := ∃ cs : List (Array Value), RowU w base 83 20 ow qa.length (flat cs) ∧ cs.length = qa.length ∧ ∀ t, t < qa.length → QF w (cs.getD t #[]) (kA (qa.getD t noArr)) (rA (qa.getD t noArr))
theorem Coll.nil (w : World) (base : Nat) : Coll w base (.slice none 0 0) [] := ⟨[], RowU.nil _ _ _ _, rfl, fun t ht => (by cases ht)⟩
theorem Coll.keep {w w' : World} {base : Nat} {ow : Value} {qa : List Arr} (h : Coll w base ow qa) (hk : ∀ g, ow.ownBlock = some g → w'.heap[g]? = w.heap[g]?) (kp : Keeps w w') : Coll w' base ow qa := by
 obtain ⟨cs, h1, h2, h3⟩ := h
 exact ⟨cs, h1.keep hk, h2, fun t ht => (h3 t ht).keeps kp⟩
theorem Coll.lt {w : World} {base : Nat} {ow : Value} {qa : List Arr} (h : Coll w base ow qa) : ∀ g, ow.ownBlock = some g → base ≤ g ∧ g < w.heap.size := by obtain ⟨cs, h1, _⟩ := h; exact h1.lt
theorem Coll.steps {w w' : World} {base : Nat} {ow : Value} {qa : List Arr} (h : Coll w base ow qa) (s : Steps w w') : Coll w' base ow qa := h.keep (fun g hg => s.block g (h.lt g hg).2) (Keeps.steps s)
theorem Coll.len {w : World} {base : Nat} {ow : Value} {qa : List Arr} (h : Coll w base ow qa) : ∃ a c, ow = .slice a qa.length c := by obtain ⟨cs, h1, _⟩ := h; exact h1.len
section
variable {ops : Array Oper} {rest : List Oper} {o : Oper} {a : Act} {w : World} {Q : Exit → Act → World → Prop}
end
def allS (l : PL) (most : Int) : Int × List Arr :=
 if chkP l ≠ 0 then (chkP l, []) else if most < 0 ∨ 12 < most then (2, []) else (0, qs l (fours (min most (l.length : Int)).toNat))
end Go.Proofs.YtffmbepfbienaaaGreat
