import Derived.Test.YtffmbepfbienaaaGreatDVb
import Derived.Great.BuildSlice
set_option linter.unusedVariables false
set_option linter.unusedSimpArgs false
namespace Go.Proofs.YtffmbepfbienaaaGreat
open Go.RowKit
theorem FB.shape {w : World} {v : Value} {o : Option Rat} (h : FB w v o) : ∃ a s n c b t m d, v = .agg #[.bool a, .slice s n c, .bool b, .slice t m d] := by
 cases o with
 | none => exact Bad.shape h
 | some r => exact FR.shape h
def okC (b : Bool) : Int := if b then 0 else 8
theorem fcheck_fb {v : Value} {o : Option Rat} (w : World) (h : FB w v o) : Calls Tryz.prog 58 #[v] w fun e w' => e = .returned (.int .i64 (okC o.isSome)) ∧ Steps w w' := by
 cases o with
 | none => exact fcheck_bad w h
 | some r => exact fcheck_q w h
theorem rfcheck_fb {v : Value} {o : Option Rat} (w : World) (h : FB w v o) : Calls Tryz.prog 86 #[v] w fun e w' => e = .returned (.int .i64 (okC o.isSome)) ∧ Steps w w' := by
 cases o with
 | none => exact rfcheck_bad w h
 | some r => exact rfcheck_q w h
def limB : Option Rat → Bool
 | some r => !decide (r < 0)
 | none => false
theorem QX.one {w : World} {g : Nat} {CA : Array Value} {r : Nat → Option Rat} (h : QX w CA r) (hb : Blk w g 83 CA) : QSl w (.slice (some ⟨g, 0, none⟩) 1 1) 1 (fun _ => CA) (fun _ => r) := by
 refine ⟨fun _ _ => h, _, _, rfl, Nat.le_refl _, fun _ => ⟨g, 0, rfl, hb.lt, fun t ht j hj => ?_⟩⟩
 obtain rfl : t = 0 := by omega
 have := hb.cell j
 show w.cell? ⟨g, 0 + 0 * 20 + j, none⟩ = CA[j]?
 rw [show 0 + 0 * 20 + j = j by omega]
 exact this
def two {α : Type} (a b : α) (t : Nat) : α := if t = 0 then a else b
section
variable {ops : Array Oper} {rest : List Oper} {o : Oper} {a : Act} {w : World} {Q : Exit → Act → World → Prop}
end
def nearS (r s : Nat → Option Rat) (o : Option Rat) : Bool × Int :=
 if wholeQ r 4 && wholeQ s 4 then (if limB o then (nearQ (rq r) (rq s) (rq (fun _ => o) 0) 4, 0) else (false, 2)) else (false, 8)
end Go.Proofs.YtffmbepfbienaaaGreat
