import Derived.Test.YtmpambmpknaldaaIRowU
import Derived.Test.YtmpambmpknaldaaIVa
import Derived.Test.YtmpambmpknaldaaIMb
set_option linter.unusedVariables false
set_option linter.unusedSimpArgs false
namespace Go.Proofs.Ytmpambmpknaldaa
open Go.RowKit
def Sums (w : World) (v : Value) (l : List Int) : Prop := ∃ (n1 : Bool) (n2 : Option Addr) (n3 n4 : Nat) (s1 : Bool) (s2 : Option Addr) (s3 s4 : Nat) (q1 : Bool) (q2 : Option Addr) (q3 q4 : Nat), v = .agg #[.bool n1, .slice n2 n3 n4, .bool s1, .slice s2 s3 s4, .bool q1, .slice q2 q3 q4] ∧
 Num w (.agg #[.bool n1, .slice n2 n3 n4]) (nI l) ∧ Num w (.agg #[.bool s1, .slice s2 s3 s4]) (sumI l) ∧ Num w (.agg #[.bool q1, .slice q2 q3 q4]) (sqsI l)
theorem Sums.keeps {w w' : World} {v : Value} {l : List Int} (h : Sums w v l) (k : Keeps w w') : Sums w' v l := by
 obtain ⟨n1, n2, n3, n4, s1, s2, s3, s4, q1, q2, q3, q4, e, h1, h2, h3⟩ := h
 exact ⟨n1, n2, n3, n4, s1, s2, s3, s4, q1, q2, q3, q4, e, h1.keeps k, h2.keeps k, h3.keeps k⟩
theorem Sums.steps {w w' : World} {v : Value} {l : List Int} (h : Sums w v l) (k : Steps w w') : Sums w' v l := h.keeps (Keeps.steps k)
theorem valL.get {l : List Int} (h : valL l) {i : Nat} (hi : i < l.length) : -4294967296 ≤ l.getD i 0 ∧ l.getD i 0 ≤ 4294967296 := h.2 _ (getD_mem hi)
theorem Sums.shape {w : World} {v : Value} {l : List Int} (h : Sums w v l) : ∃ (n1 : Bool) (n2 : Option Addr) (n3 n4 : Nat) (s1 : Bool) (s2 : Option Addr) (s3 s4 : Nat) (q1 : Bool) (q2 : Option Addr) (q3 q4 : Nat), v = .agg #[.bool n1, .slice n2 n3 n4, .bool s1, .slice s2 s3 s4, .bool q1, .slice q2 q3 q4] ∧ Num w (.agg #[.bool n1, .slice n2 n3 n4]) (nI l) := by
 obtain ⟨n1, n2, n3, n4, s1, s2, s3, s4, q1, q2, q3, q4, e, h1, h2, h3⟩ := h
 exact ⟨n1, n2, n3, n4, s1, s2, s3, s4, q1, q2, q3, q4, e, h1⟩
def FE (w : World) (v : Value) (c : Int) (r : Rat) : Prop := if c = 0 then FR w v r else v = .agg #[.bool false, .slice none 0 0, .bool false, .slice none 0 0]
theorem FE.ok {w : World} {v : Value} {r : Rat} (h : FR w v r) : FE w v 0 r := by unfold FE; rw [if_pos rfl]; exact h
theorem FE.bad {w : World} {c : Int} {r : Rat} (h : c ≠ 0) : FE w (.agg #[.bool false, .slice none 0 0, .bool false, .slice none 0 0]) c r := by unfold FE; rw [if_neg h]
theorem askV_val {l : List Int} (h : askV l = 0) : valL l ∧ l ≠ [] := by
 obtain ⟨h1, h2, h3⟩ := askV_ok h
 refine ⟨⟨h2, fun x hx => ?_⟩, h1⟩
 obtain ⟨i, hi, rfl⟩ := List.getElem_of_mem hx
 have := h3 i hi
 rw [List.getD, List.getElem?_eq_getElem hi] at this
 exact this
end Go.Proofs.Ytmpambmpknaldaa
