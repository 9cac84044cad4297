import Derived.Test.YtffmbepfbienaaaGreatCVb
import Derived.Great.BuildSlice
set_option linter.unusedVariables false
set_option linter.unusedSimpArgs false
namespace Go.Proofs.YtffmbepfbienaaaGreat
open Go.RowKit
theorem FB.shape {w : World} {v : Value} {o : Option Rat} (h : FB w v o) : ∃ a s n c b t m d, v = .agg #[.bool a, .slice s n c, .bool b, .slice t m d] := by
 cases o with
 | none => exact Bad.shape h
 | some r => exact FR.shape h
def okC (b : Bool) : Int := if b then 0 else 8
theorem fcheck_fb {v : Value} {o : Option Rat} (w : World) (h : FB w v o) : Calls Tryz.prog 58 #[v] w fun e w' => e = .returned (.int .i64 (okC o.isSome)) ∧ Steps w w' := by
 cases o with
 | none => exact fcheck_bad w h
 | some r => exact fcheck_q w h
theorem rfcheck_fb {v : Value} {o : Option Rat} (w : World) (h : FB w v o) : Calls Tryz.prog 86 #[v] w fun e w' => e = .returned (.int .i64 (okC o.isSome)) ∧ Steps w w' := by
 cases o with
 | none => exact rfcheck_bad w h
 | some r => exact rfcheck_q w h
def limB : Option Rat → Bool
 | some r => !decide (r < 0)
 | none => false
theorem FB.neg {w : World} {a b : Bool} {s t : Value} {o : Option Rat} (h : FB w (.agg #[.bool a, s, .bool b, t]) o) : limB o = (o.isSome && !a) := by
 cases o with
 | none => rfl
 | some r =>
  obtain ⟨_, _, _, _, _, _, e, _⟩ := FR.nums h
  simp only [Value.agg.injEq, Array.mk.injEq, List.cons.injEq, and_true, Value.bool.injEq] at e
  rw [e.1]; simp [limB]
theorem run_index_agg {P : Program} (t e : TypeId) (n sz : Nat) (cs : Array Value) (i : Nat) (d : TypeDesc) (w : World) (ht : P.underlying t = some (.array n e)) (hu : P.underlying e = some d)
  (hd : (match d with | .struct _ | .array _ _ => true | _ => false) = true) (hi : (P.info? e).map (·.size) = some sz) (h : i < n) :
  (Instr.index t (.agg cs) (.int .i64 i)).run P w = .ok (.agg (cs.extract (i * sz) (i * sz + sz))) w := by
 have hagg : (isAgg e).run P w = .ok true w := by
  unfold isAgg
  rw [Sem.run_bind, run_underlying hu w]
  cases d <;> simp_all
 cases hq : P.info? e with
 | none => simp [hq] at hi
 | some j =>
  have hs : j.size = sz := by simpa [hq] using hi
  have h2 : (0 : Int) ≤ (i : Int) ∧ (i : Int) < (n : Int) := by omega
  simp [Instr.index, run_underlying ht, asIntOf, h2, part, hagg, sizeOf, typeInfo, hq, hs, go_sem, Sem.run_bind, h]
theorem QX.code {w : World} {cs : Array Value} {r : Nat → Option Rat} (h : QX w cs r) {i : Nat} (hi : i < 4) : ∃ a1 a2 a3 a4 a5 a6 a7 a8, cs.extract (4 + i * 4) (8 + i * 4) = #[.bool a1, .slice a2 a3 a4, .bool a5, .slice a6 a7 a8] ∧
  FB w (.agg #[.bool a1, .slice a2 a3 a4, .bool a5, .slice a6 a7 a8]) (r i) := by
 obtain ⟨h1, h2, h3, h4⟩ := h
 obtain ⟨a1, a2, a3, a4, a5, a6, a7, a8, c0, c1, c2, c3, f⟩ := h4 i hi
 refine ⟨a1, a2, a3, a4, a5, a6, a7, a8, ?_, f⟩
 apply Array.ext'
 simp only [Array.toList_extract, List.extract_eq_take_drop]
 have e : ∀ j : Nat, cs.toList[j]? = cs[j]? := fun j => by first | rfl | exact Array.getElem?_toList.symm | exact Array.getElem?_toList
 apply List.ext_getElem?
 intro j
 rw [List.getElem?_take]
 rw [List.getElem?_drop, e]
 rcases (show j = 0 ∨ j = 1 ∨ j = 2 ∨ j = 3 ∨ 4 ≤ j by omega) with rfl | rfl | rfl | rfl | g
 · rw [if_pos (by omega)]; exact c0
 · rw [if_pos (by omega)]; exact c1
 · rw [if_pos (by omega)]; exact c2
 · rw [if_pos (by omega)]; exact c3
 · rw [if_neg (by omega)]; simp; omega
theorem QX.ix {w : World} {cs : Array Value} {r : Nat → Option Rat} (h : QX w cs r) {i : Nat} (hi : i < 4) : ∃ a1 a2 a3 a4 a5 a6 a7 a8,
  (∀ w', (Instr.index 81 (.agg (cs.extract 4 20)) (.int .i64 i)).run Tryz.prog w' = .ok (.agg #[.bool a1, .slice a2 a3 a4, .bool a5, .slice a6 a7 a8]) w') ∧
  FB w (.agg #[.bool a1, .slice a2 a3 a4, .bool a5, .slice a6 a7 a8]) (r i) := by
 obtain ⟨a1, a2, a3, a4, a5, a6, a7, a8, e, f⟩ := h.code hi
 refine ⟨a1, a2, a3, a4, a5, a6, a7, a8, fun w' => ?_, f⟩
 rw [run_index_agg 81 28 4 4 _ i _ w' Tryz.underlying81 Tryz.underlying28 rfl (by kernel_rfl) hi]
 rw [Array.extract_extract, ← e]
 congr 3
 have := h.1
 congr 2; omega
theorem QX.one {w : World} {g : Nat} {CA : Array Value} {r : Nat → Option Rat} (h : QX w CA r) (hb : Blk w g 83 CA) : QSl w (.slice (some ⟨g, 0, none⟩) 1 1) 1 (fun _ => CA) (fun _ => r) := by
 refine ⟨fun _ _ => h, _, _, rfl, Nat.le_refl _, fun _ => ⟨g, 0, rfl, hb.lt, fun t ht j hj => ?_⟩⟩
 obtain rfl : t = 0 := by omega
 have := hb.cell j
 show w.cell? ⟨g, 0 + 0 * 20 + j, none⟩ = CA[j]?
 rw [show 0 + 0 * 20 + j = j by omega]
 exact this
def two {α : Type} (a b : α) (t : Nat) : α := if t = 0 then a else b
theorem QX.two {w : World} {g : Nat} {CA CB : Array Value} {r s : Nat → Option Rat} (h : QX w CA r) (h' : QX w CB s) (hb : Blk w g 83 (CA ++ CB)) : QSl w (.slice (some ⟨g, 0, none⟩) 2 2) 2 (two CA CB) (two r s) := by
 refine ⟨fun t ht => ?_, _, _, rfl, Nat.le_refl _, fun _ => ⟨g, 0, rfl, hb.lt, fun t ht j hj => ?_⟩⟩
 ·
  rcases (show t = 0 ∨ t = 1 by omega) with rfl | rfl
  · exact h
  · exact h'
 ·
  have hc := hb.cell (0 + t * 20 + j)
  rw [hc]
  have e := h.1
  rcases (show t = 0 ∨ t = 1 by omega) with rfl | rfl
  · rw [Array.getElem?_append_left (by omega), show 0 + 0 * 20 + j = j by omega]; rfl
  · rw [Array.getElem?_append_right (by omega), show 0 + 1 * 20 + j - CA.size = j by omega]; rfl
section
variable {ops : Array Oper} {rest : List Oper} {o : Oper} {a : Act} {w : World} {Q : Exit → Act → World → Prop}
end
def nearS (r s : Nat → Option Rat) (o : Option Rat) : Bool × Int :=
 if wholeQ r 4 && wholeQ s 4 then (if limB o then (nearQ (rq r) (rq s) (rq (fun _ => o) 0) 4, 0) else (false, 2)) else (false, 8)
end Go.Proofs.YtffmbepfbienaaaGreat
