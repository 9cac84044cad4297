import Derived.Test.YtibdehlmflaodaaCVb
import Derived.Great.BuildSlice
namespace Go.Proofs.Ytibdehlmflaodaa
open Go.RowKit
theorem FB.shape {w : World} {v : Value} {o : Option Rat} (h : FB w v o) : ∃ a s n c b t m d, v = .agg #[.bool a, .slice s n c, .bool b, .slice t m d] := by
  cases o with
  | none => exact Bad.shape h
  | some r => exact FR.shape h
def okC (b : Bool) : Int := if b then 0 else 8
def limB : Option Rat → Bool
  | some r => !decide (r < 0)
  | none => false
theorem FB.neg {w : World} {a b : Bool} {s t : Value} {o : Option Rat} (h : FB w (.agg #[.bool a, s, .bool b, t]) o) : limB o = (o.isSome && !a) := by
  cases o with
  | none => rfl
  | some r =>
    obtain ⟨_, _, _, _, _, _, e, _⟩ := FR.nums h
    simp only [Value.agg.injEq, Array.mk.injEq, List.cons.injEq, and_true, Value.bool.injEq] at e
    rw [e.1]; simp [limB]
theorem QX.code {w : World} {cs : Array Value} {r : Nat → Option Rat} (h : QX w cs r) {i : Nat} (hi : i < 4) : ∃ a1 a2 a3 a4 a5 a6 a7 a8, cs.extract (4 + i * 4) (8 + i * 4) = #[.bool a1, .slice a2 a3 a4, .bool a5, .slice a6 a7 a8] ∧
    FB w (.agg #[.bool a1, .slice a2 a3 a4, .bool a5, .slice a6 a7 a8]) (r i) := by
  obtain ⟨h1, h2, h3, h4⟩ := h
  obtain ⟨a1, a2, a3, a4, a5, a6, a7, a8, c0, c1, c2, c3, f⟩ := h4 i hi
  refine ⟨a1, a2, a3, a4, a5, a6, a7, a8, ?_, f⟩
  apply Array.ext'
  simp only [Array.toList_extract, List.extract_eq_take_drop]
  have e : ∀ j : Nat, cs.toList[j]? = cs[j]? := fun j => by first | rfl | exact Array.getElem?_toList.symm | exact Array.getElem?_toList
  apply List.ext_getElem?
  intro j
  rw [List.getElem?_take]
  rw [List.getElem?_drop, e]
  rcases (show j = 0 ∨ j = 1 ∨ j = 2 ∨ j = 3 ∨ 4 ≤ j by omega) with rfl | rfl | rfl | rfl | g
  · rw [if_pos (by omega)]; exact c0
  · rw [if_pos (by omega)]; exact c1
  · rw [if_pos (by omega)]; exact c2
  · rw [if_pos (by omega)]; exact c3
  · rw [if_neg (by omega)]; simp; omega
theorem QX.one {w : World} {g : Nat} {CA : Array Value} {r : Nat → Option Rat} (h : QX w CA r) (hb : Blk w g 31 CA) : QSl w (.slice (some ⟨g, 0, none⟩) 1 1) 1 (fun _ => CA) (fun _ => r) := by
  refine ⟨fun _ _ => h, _, _, rfl, Nat.le_refl _, fun _ => ⟨g, 0, rfl, hb.lt, fun t ht j hj => ?_⟩⟩
  obtain rfl : t = 0 := by omega
  have := hb.cell j
  show w.cell? ⟨g, 0 + 0 * 20 + j, none⟩ = CA[j]?
  rw [show 0 + 0 * 20 + j = j by omega]
  exact this
def two {α : Type} (a b : α) (t : Nat) : α := if t = 0 then a else b
theorem QX.two {w : World} {g : Nat} {CA CB : Array Value} {r s : Nat → Option Rat} (h : QX w CA r) (h' : QX w CB s) (hb : Blk w g 31 (CA ++ CB)) : QSl w (.slice (some ⟨g, 0, none⟩) 2 2) 2 (two CA CB) (two r s) := by
  refine ⟨fun t ht => ?_, _, _, rfl, Nat.le_refl _, fun _ => ⟨g, 0, rfl, hb.lt, fun t ht j hj => ?_⟩⟩
  · rcases (show t = 0 ∨ t = 1 by omega) with rfl | rfl
    · exact h
    · exact h'
  · have hc := hb.cell (0 + t * 20 + j)
    rw [hc]
    have e := h.1
    rcases (show t = 0 ∨ t = 1 by omega) with rfl | rfl
    · rw [Array.getElem?_append_left (by omega), show 0 + 0 * 20 + j = j by omega]; rfl
    · rw [Array.getElem?_append_right (by omega), show 0 + 1 * 20 + j - CA.size = j by omega]; rfl
end Go.Proofs.Ytibdehlmflaodaa
namespace Go.Proofs.Ytibdehlmflaodaa
open Go.RowKit
theorem arr20 (C : Array Value) (h : C.size = 20) : ∃ c0 c1 c2 c3 c4 c5 c6 c7 c8 c9 c10 c11 c12 c13 c14 c15 c16 c17 c18 c19, C = #[c0, c1, c2, c3, c4, c5, c6, c7, c8, c9, c10, c11, c12, c13, c14, c15, c16, c17, c18, c19] := by
  obtain ⟨l⟩ := C
  replace h : l.length = 20 := h
  match l, h with
  | [c0, c1, c2, c3, c4, c5, c6, c7, c8, c9, c10, c11, c12, c13, c14, c15, c16, c17, c18, c19], _ => exact ⟨_, _, _, _, _, _, _, _, _, _, _, _, _, _, _, _, _, _, _, _, rfl⟩
theorem infoQ : ∃ ie z, Try.prog.info? 31 = some ie ∧ ie.size = 20 ∧ ie.zero = some z ∧ z.cells = #[.int .i64 0, .int .i64 0, .int .i64 0, .int .i64 0, .bool false, .slice none 0 0, .bool false, .slice none 0 0, .bool false, .slice none 0 0, .bool false, .slice none 0 0, .bool false, .slice none 0 0, .bool false, .slice none 0 0, .bool false, .slice none 0 0, .bool false, .slice none 0 0] := by
  obtain ⟨ie, hie⟩ : ∃ ie, Try.prog.info? 31 = some ie := Option.isSome_iff_exists.1 (by kernel_rfl)
  have h1 : (Try.prog.info? 31).map (·.size) = some 20 := by kernel_rfl
  have h2 : ((Try.prog.info? 31).bind (·.zero)).map (·.cells) = some #[.int .i64 0, .int .i64 0, .int .i64 0, .int .i64 0, .bool false, .slice none 0 0, .bool false, .slice none 0 0, .bool false, .slice none 0 0, .bool false, .slice none 0 0, .bool false, .slice none 0 0, .bool false, .slice none 0 0, .bool false, .slice none 0 0, .bool false, .slice none 0 0] := by kernel_rfl
  rw [hie] at h1 h2
  simp only [Option.map_some, Option.some.injEq, Option.bind_some] at h1 h2
  obtain ⟨z, hz, e⟩ := Option.map_eq_some_iff.1 h2
  exact ⟨ie, z, hie, h1, hz, e⟩
set_option maxRecDepth 100000 in
theorem fill1 (C : Array Value) (h : C.size = 20) : Instr.fill (fun i => some (i * 20, 20)) ((Array.range (1 * 20)).map ((#[.int .i64 0, .int .i64 0, .int .i64 0, .int .i64 0, .bool false, .slice none 0 0, .bool false, .slice none 0 0, .bool false, .slice none 0 0, .bool false, .slice none 0 0, .bool false, .slice none 0 0, .bool false, .slice none 0 0, .bool false, .slice none 0 0, .bool false, .slice none 0 0] : Array Value)[· % 20]!)) [(0, .agg C)] = some C := by
  obtain ⟨c0, c1, c2, c3, c4, c5, c6, c7, c8, c9, c10, c11, c12, c13, c14, c15, c16, c17, c18, c19, rfl⟩ := arr20 C h
  kernel_rfl
section
variable {ops : Array Oper} {rest : List Oper} {o : Oper} {a : Act} {w : World} {Q : Exit → Act → World → Prop}
theorem wp_quad1 {K : Act → World → Prop} (x : Operand) (ho : o.op = .buildSlice 45 1 #[(0, x)]) (C : Array Value) (hx : a.eval x = .agg C) (h : C.size = 20)
    (hk : K (a.put o.dst (.slice (some ⟨w.heap.size, 0, none⟩) 1 1)) (w.alloc (.cells C 31))) : o.wp Try.prog a w K Q := by
  obtain ⟨ie, z, h1, h2, h3, h4⟩ := infoQ
  refine wp_buildSlice 45 31 1 _ ho C ie z Try.underlying45 h1 h3 (by rw [h2]; decide) (by rw [h2]; decide) ?_ hk
  rw [h2, h4]
  simp only [List.map_toArray, List.map_cons, List.map_nil, hx]
  exact fill1 C h
end
def nearS (r s : Nat → Option Rat) (o : Option Rat) : Bool × Int :=
  if wholeQ r 4 && wholeQ s 4 then (if limB o then (nearQ (rq r) (rq s) (rq (fun _ => o) 0) 4, 0) else (false, 2)) else (false, 8)
end Go.Proofs.Ytibdehlmflaodaa
