import Derived.Test.YtibdehlmflaodaaGreatNVb
import Derived.Great.BuildSlice
set_option linter.unusedVariables false
set_option linter.unusedSimpArgs false
set_option maxHeartbeats 6400000
set_option maxRecDepth 1000000
namespace Go.Proofs.YtibdehlmflaodaaGreat
open Go.RowKit
theorem FB.shape {w : World} {v : Value} {o : Option Rat} (h : FB w v o) : ∃ a s n c b t m d, v = .agg #[.bool a, .slice s n c, .bool b, .slice t m d] := by
 cases o with
 | none => exact Bad.shape h
 | some r => exact FR.shape h
def okC (b : Bool) : Int := if b then 0 else 8
theorem fcheck_fb {v : Value} {o : Option Rat} (w : World) (h : FB w v o) : Calls Tryz.prog 22 #[v] w fun e w' => e = .returned (.int .i64 (okC o.isSome)) ∧ Steps w w' := by
 cases o with
 | none => exact fcheck_bad w h
 | some r => exact fcheck_q w h
def limB : Option Rat → Bool
 | some r => !decide (r < 0)
 | none => false
theorem FB.neg {w : World} {a b : Bool} {s t : Value} {o : Option Rat} (h : FB w (.agg #[.bool a, s, .bool b, t]) o) : limB o = (o.isSome && !a) := by
 cases o with
 | none => rfl
 | some r =>
  obtain ⟨_, _, _, _, _, _, e, _⟩ := FR.nums h
  simp only [Value.agg.injEq, Array.mk.injEq, List.cons.injEq, and_true, Value.bool.injEq] at e
  rw [e.1]; simp [limB]
theorem run_index_agg {P : Program} (t e : TypeId) (n sz : Nat) (cs : Array Value) (i : Nat) (d : TypeDesc) (w : World) (ht : P.underlying t = some (.array n e)) (hu : P.underlying e = some d)
  (hd : (match d with | .struct _ | .array _ _ => true | _ => false) = true) (hi : (P.info? e).map (·.size) = some sz) (h : i < n) :
  (Instr.index t (.agg cs) (.int .i64 i)).run P w = .ok (.agg (cs.extract (i * sz) (i * sz + sz))) w := by
 have hagg : (isAgg e).run P w = .ok true w := by
  unfold isAgg
  rw [Sem.run_bind, run_underlying hu w]
  cases d <;> simp_all
 cases hq : P.info? e with
 | none => simp [hq] at hi
 | some j =>
  have hs : j.size = sz := by simpa [hq] using hi
  have h2 : (0 : Int) ≤ (i : Int) ∧ (i : Int) < (n : Int) := by omega
  simp [Instr.index, run_underlying ht, asIntOf, h2, part, hagg, sizeOf, typeInfo, hq, hs, go_sem, Sem.run_bind, h]
theorem QX.code {w : World} {cs : Array Value} {r : Nat → Option Rat} (h : QX w cs r) {i : Nat} (hi : i < 4) : ∃ a1 a2 a3 a4 a5 a6 a7 a8, cs.extract (4 + i * 4) (8 + i * 4) = #[.bool a1, .slice a2 a3 a4, .bool a5, .slice a6 a7 a8] ∧
  FB w (.agg #[.bool a1, .slice a2 a3 a4, .bool a5, .slice a6 a7 a8]) (r i) := by
 obtain ⟨h1, h2, h3, h4⟩ := h
 obtain ⟨a1, a2, a3, a4, a5, a6, a7, a8, c0, c1, c2, c3, f⟩ := h4 i hi
 refine ⟨a1, a2, a3, a4, a5, a6, a7, a8, ?_, f⟩
 apply Array.ext'
 simp only [Array.toList_extract, List.extract_eq_take_drop]
 have e : ∀ j : Nat, cs.toList[j]? = cs[j]? := fun j => by first | rfl | exact Array.getElem?_toList.symm | exact Array.getElem?_toList
 apply List.ext_getElem?
 intro j
 rw [List.getElem?_take]
 rw [List.getElem?_drop, e]
 rcases (show j = 0 ∨ j = 1 ∨ j = 2 ∨ j = 3 ∨ 4 ≤ j by omega) with rfl | rfl | rfl | rfl | g
 · rw [if_pos (by omega)]; exact c0
 · rw [if_pos (by omega)]; exact c1
 · rw [if_pos (by omega)]; exact c2
 · rw [if_pos (by omega)]; exact c3
 · rw [if_neg (by omega)]; simp; omega
theorem QX.ix {w : World} {cs : Array Value} {r : Nat → Option Rat} (h : QX w cs r) {i : Nat} (hi : i < 4) : ∃ a1 a2 a3 a4 a5 a6 a7 a8,
  (∀ w', (Instr.index 31 (.agg (cs.extract 4 20)) (.int .i64 i)).run Tryz.prog w' = .ok (.agg #[.bool a1, .slice a2 a3 a4, .bool a5, .slice a6 a7 a8]) w') ∧
  FB w (.agg #[.bool a1, .slice a2 a3 a4, .bool a5, .slice a6 a7 a8]) (r i) := by
 obtain ⟨a1, a2, a3, a4, a5, a6, a7, a8, e, f⟩ := h.code hi
 refine ⟨a1, a2, a3, a4, a5, a6, a7, a8, fun w' => ?_, f⟩
 rw [run_index_agg 31 30 4 4 _ i _ w' Tryz.underlying31 Tryz.underlying30 rfl (by kernel_rfl) hi]
 rw [Array.extract_extract, ← e]
 congr 3
 have := h.1
 congr 2; omega
theorem QX.one {w : World} {g : Nat} {CA : Array Value} {r : Nat → Option Rat} (h : QX w CA r) (hb : Blk w g 33 CA) : QSl w (.slice (some ⟨g, 0, none⟩) 1 1) 1 (fun _ => CA) (fun _ => r) := by
 refine ⟨fun _ _ => h, _, _, rfl, Nat.le_refl _, fun _ => ⟨g, 0, rfl, hb.lt, fun t ht j hj => ?_⟩⟩
 obtain rfl : t = 0 := by omega
 have := hb.cell j
 show w.cell? ⟨g, 0 + 0 * 20 + j, none⟩ = CA[j]?
 rw [show 0 + 0 * 20 + j = j by omega]
 exact this
def two {α : Type} (a b : α) (t : Nat) : α := if t = 0 then a else b
theorem QX.two {w : World} {g : Nat} {CA CB : Array Value} {r s : Nat → Option Rat} (h : QX w CA r) (h' : QX w CB s) (hb : Blk w g 33 (CA ++ CB)) : QSl w (.slice (some ⟨g, 0, none⟩) 2 2) 2 (two CA CB) (two r s) := by
 refine ⟨fun t ht => ?_, _, _, rfl, Nat.le_refl _, fun _ => ⟨g, 0, rfl, hb.lt, fun t ht j hj => ?_⟩⟩
 ·
  rcases (show t = 0 ∨ t = 1 by omega) with rfl | rfl
  · exact h
  · exact h'
 ·
  have hc := hb.cell (0 + t * 20 + j)
  rw [hc]
  have e := h.1
  rcases (show t = 0 ∨ t = 1 by omega) with rfl | rfl
  · rw [Array.getElem?_append_left (by omega), show 0 + 0 * 20 + j = j by omega]; rfl
  · rw [Array.getElem?_append_right (by omega), show 0 + 1 * 20 + j - CA.size = j by omega]; rfl
theorem wholeL_no {R : Nat → Nat → Option Rat} {t n i : Nat} (ht : t < n) (hi : i < 4) (h : (R t i).isSome = false) : wholeL R n = false :=
 wholeL_stay (i := t + 1) (by unfold wholeL; rw [wholeQ_stay (i := i + 1) (by unfold wholeQ; rw [h, Bool.and_false]) 4 (by omega), Bool.and_false]) n (by omega)
theorem wholeQ_yes {r : Nat → Option Rat} {i : Nat} (hq : wholeQ r i = true) (h : (r i).isSome = true) : wholeQ r (i + 1) = true := by unfold wholeQ; rw [hq, h]; rfl
theorem wholeL_yes {R : Nat → Nat → Option Rat} {t : Nat} (hq : wholeL R t = true) (h : wholeQ (R t) 4 = true) : wholeL R (t + 1) = true := by unfold wholeL; rw [hq, h]; rfl
theorem qwhole {v : Value} {n : Nat} {CS : Nat → Array Value} {R : Nat → Nat → Option Rat} (w : World) (h : QSl w v n CS R) (hn : n ≤ 1000) :
  Calls Tryz.prog 21 #[v] w fun e w' => e = .returned (.bool (wholeL R n)) ∧ Steps w w' := by
 have HS := Hid.mk_ h
 obtain ⟨ao, cap, rfl⟩ := h.shape
 clear h
 go_enter Tryz.func21, Tryz.ntmps21
 go_wp2_with fail
 go_loopw [9] (fun kk wr => ∃ t : Nat, t ≤ n ∧ kk = .int .i64 t ∧ wholeL R t = true ∧ Below w.heap.size w wr ∧ Keeps w wr) (fun kk _ => n - (intOf kk).toNat)
 case atStart => exact ⟨0, by omega, rfl, rfl, belowB, keepsB⟩
 case round =>
  obtain ⟨t, ht, rfl, hw, B, kk⟩ := hrel
  rcases Nat.lt_or_ge t n with tn | tn
  ·
   have hlt : decide ((t : Int) < (n : Int)) = true := decide_eq_true (by omega)
   obtain ⟨b, o, rfl, hb, hcell⟩ := HS.out.at tn
   have qx := HS.out.1 t tn
   obtain ⟨C, hC⟩ : ∃ C, CS t = C := ⟨_, rfl⟩
   rw [hC] at hcell qx
   have hsz := qx.1
   have hone := qx.2.1
   have hcw : ∀ j, j < C.size → wr.cell? ⟨b, o + t * 20 + j, none⟩ = C[j]? := fun j hj => (B.cell (p := ⟨b, _, none⟩) hb).trans (hcell j (by omega))
   have ia : (Tryz.prog.info? 33).map (·.size) = some C.size := by rw [hsz]; kernel_rfl
   have hsd : (C.extract 4 20).size = 16 := by rw [Array.size_extract]; omega
   have ib : (Tryz.prog.info? 31).map (·.size) = some (C.extract 4 20).size := by rw [hsd]; kernel_rfl
   have HQ : Hid (QX w C (R t)) := Hid.mk_ qx
   clear hcell hC qx
   repeat' (first | (refine load_at rfl 33 (.tmp 11) rfl b (o + t * 20) rfl C _ hcw Tryz.underlying33 rfl ia ?_) | (refine store_big rfl 33 (.tmp 4) (.tmp 12) rfl wr.heap.size C rfl rfl 33 #[.int .i64 0, .int .i64 0, .int .i64 0, .int .i64 0, .bool false, .slice none 0 0, .bool false, .slice none 0 0, .bool false, .slice none 0 0, .bool false, .slice none 0 0, .bool false, .slice none 0 0, .bool false, .slice none 0 0, .bool false, .slice none 0 0, .bool false, .slice none 0 0] ownK ia hsz.symm hone (fun w2 r2 => ?_); have hD : ∀ j, j < (C.extract 4 20).size → w2.cell? ⟨wr.heap.size, 4 + j, none⟩ = (C.extract 4 20)[j]? := (fun j hj => by have := r2.blk.cell (4 + j); rw [this, Array.getElem?_extract, if_pos (by omega)])) | (refine load_at rfl 31 (.tmp 13) rfl wr.heap.size 4 rfl (C.extract 4 20) _ hD Tryz.underlying31 rfl ib ?_) | go_values | go_skip | go_guarded | go_step | go_upon)
   have B2 : Below w.heap.size w w2 := r2.below (B.alloc B.size _) B.size
   have k2 : Keeps w w2 := kk.trans (Keeps.trans keepsB (r2.keeps rfl))
   clear r2 hcw ia hone hsz hD ib hsd
   obtain ⟨D, hDD⟩ : ∃ D, C.extract 4 20 = D := ⟨_, rfl⟩
   rw [hDD]
   have HX : ∀ i : Nat, i < 4 → ∃ a1 a2 a3 a4 a5 a6 a7 a8, (∀ w', (Instr.index 31 (.agg D) (.int .i64 i)).run Tryz.prog w' = .ok (.agg #[.bool a1, .slice a2 a3 a4, .bool a5, .slice a6 a7 a8]) w') ∧ FB w (.agg #[.bool a1, .slice a2 a3 a4, .bool a5, .slice a6 a7 a8]) (R t i) := fun i hi => by rw [← hDD]; exact HQ.out.ix hi
   have HX' := Hid.mk_ HX
   clear HX HQ hDD
   go_loopw [15] (fun kk wq => ∃ i : Nat, i ≤ 4 ∧ kk = .int .i64 i ∧ wholeQ (R t) i = true ∧ Below w.heap.size w wq ∧ Keeps w wq) (fun kk _ => 4 - (intOf kk).toNat)
   case atStart => exact ⟨0, by omega, rfl, rfl, B2, k2⟩
   case round =>
    clear B kk B2 k2
    obtain ⟨i, hi, rfl, hq, B, kk⟩ := hrel
    rcases Nat.lt_or_ge i 4 with i4 | i4
    ·
     have hl4 : decide ((i : Int) < 4) = true := decide_eq_true (by omega)
     obtain ⟨a1, a2, a3, a4, a5, a6, a7, a8, ix, fb⟩ := HX'.out i i4
     have ck : ∀ w', Keeps w w' → Calls Tryz.prog 22 #[.agg #[.bool a1, .slice a2 a3 a4, .bool a5, .slice a6 a7 a8]] w' fun e w2 => e = .returned (.int .i64 (okC (R t i).isSome)) ∧ Steps w' w2 := fun w' k => fcheck_fb w' (fb.keeps k)
     have NO := fun h => wholeL_no (R := R) tn i4 h
     have YES := fun h => wholeQ_yes hq h
     obtain ⟨s, hs⟩ : ∃ s, (R t i).isSome = s := ⟨_, rfl⟩
     rw [hs] at ck NO YES
     clear fb hs hq
     have zz := B.size
     go_wp2_with fail
     refine (ck _ (kk.trans keepsB)).mono ?_
     rintro e w5 ⟨rfl, hs5⟩
     have B5 : Below w.heap.size w w5 := belowA hs5
     have k5 : Keeps w w5 := (kk.trans keepsB).then_ hs5
     clear hs5 ck ix B kk
     cases s with
     | false =>
      have e8 : (okC false == 0) = false := rfl
      have N0 := NO rfl
      clear NO YES
      rw [show okC false = 8 from rfl]
      go_wp2
      go_returns
      exact ⟨by rw [N0]; rfl, belowB⟩
     | true =>
      have Y0 := YES rfl
      clear NO YES
      rw [show okC true = 0 from rfl]
      go_wp2
      go_roundw
      case rel => exact ⟨i + 1, by omega, by go_num, Y0, B5, k5⟩
      case measure => simp [intOf]; omega
    ·
     obtain rfl : i = 4 := by omega
     have Y0 := wholeL_yes hw hq
     go_wp2
     go_roundw
     case rel => exact ⟨t + 1, by omega, by go_num, Y0, B, kk⟩
     case measure => simp [intOf]; omega
  ·
   obtain rfl : t = n := by omega
   go_wp2
   go_returns
   exact ⟨by rw [hw]; rfl, B⟩
theorem arr20 (C : Array Value) (h : C.size = 20) : ∃ c0 c1 c2 c3 c4 c5 c6 c7 c8 c9 c10 c11 c12 c13 c14 c15 c16 c17 c18 c19, C = #[c0, c1, c2, c3, c4, c5, c6, c7, c8, c9, c10, c11, c12, c13, c14, c15, c16, c17, c18, c19] := by
 obtain ⟨l⟩ := C
 replace h : l.length = 20 := h
 match l, h with
 | [c0, c1, c2, c3, c4, c5, c6, c7, c8, c9, c10, c11, c12, c13, c14, c15, c16, c17, c18, c19], _ => exact ⟨_, _, _, _, _, _, _, _, _, _, _, _, _, _, _, _, _, _, _, _, rfl⟩
theorem infoQ : ∃ ie z, Tryz.prog.info? 33 = some ie ∧ ie.size = 20 ∧ ie.zero = some z ∧ z.cells = #[.int .i64 0, .int .i64 0, .int .i64 0, .int .i64 0, .bool false, .slice none 0 0, .bool false, .slice none 0 0, .bool false, .slice none 0 0, .bool false, .slice none 0 0, .bool false, .slice none 0 0, .bool false, .slice none 0 0, .bool false, .slice none 0 0, .bool false, .slice none 0 0] := by
 obtain ⟨ie, hie⟩ : ∃ ie, Tryz.prog.info? 33 = some ie := Option.isSome_iff_exists.1 (by kernel_rfl)
 have h1 : (Tryz.prog.info? 33).map (·.size) = some 20 := by kernel_rfl
 have h2 : ((Tryz.prog.info? 33).bind (·.zero)).map (·.cells) = some #[.int .i64 0, .int .i64 0, .int .i64 0, .int .i64 0, .bool false, .slice none 0 0, .bool false, .slice none 0 0, .bool false, .slice none 0 0, .bool false, .slice none 0 0, .bool false, .slice none 0 0, .bool false, .slice none 0 0, .bool false, .slice none 0 0, .bool false, .slice none 0 0] := by kernel_rfl
 rw [hie] at h1 h2
 simp only [Option.map_some, Option.some.injEq, Option.bind_some] at h1 h2
 obtain ⟨z, hz, e⟩ := Option.map_eq_some_iff.1 h2
 exact ⟨ie, z, hie, h1, hz, e⟩
theorem fill1 (C : Array Value) (h : C.size = 20) : Instr.fill (fun i => some (i * 20, 20)) ((Array.range (1 * 20)).map ((#[.int .i64 0, .int .i64 0, .int .i64 0, .int .i64 0, .bool false, .slice none 0 0, .bool false, .slice none 0 0, .bool false, .slice none 0 0, .bool false, .slice none 0 0, .bool false, .slice none 0 0, .bool false, .slice none 0 0, .bool false, .slice none 0 0, .bool false, .slice none 0 0] : Array Value)[· % 20]!)) [(0, .agg C)] = some C := by
 obtain ⟨c0, c1, c2, c3, c4, c5, c6, c7, c8, c9, c10, c11, c12, c13, c14, c15, c16, c17, c18, c19, rfl⟩ := arr20 C h
 kernel_rfl
theorem fill2 (C D : Array Value) (h : C.size = 20) (h' : D.size = 20) : Instr.fill (fun i => some (i * 20, 20)) ((Array.range (2 * 20)).map ((#[.int .i64 0, .int .i64 0, .int .i64 0, .int .i64 0, .bool false, .slice none 0 0, .bool false, .slice none 0 0, .bool false, .slice none 0 0, .bool false, .slice none 0 0, .bool false, .slice none 0 0, .bool false, .slice none 0 0, .bool false, .slice none 0 0, .bool false, .slice none 0 0] : Array Value)[· % 20]!)) [(0, .agg C), (1, .agg D)] = some (C ++ D) := by
 obtain ⟨c0, c1, c2, c3, c4, c5, c6, c7, c8, c9, c10, c11, c12, c13, c14, c15, c16, c17, c18, c19, rfl⟩ := arr20 C h
 obtain ⟨d0, d1, d2, d3, d4, d5, d6, d7, d8, d9, d10, d11, d12, d13, d14, d15, d16, d17, d18, d19, rfl⟩ := arr20 D h'
 kernel_rfl
section
variable {ops : Array Oper} {rest : List Oper} {o : Oper} {a : Act} {w : World} {Q : Exit → Act → World → Prop}
theorem wp_quad1 {K : Act → World → Prop} (x : Operand) (ho : o.op = .buildSlice 38 1 #[(0, x)]) (C : Array Value) (hx : a.eval x = .agg C) (h : C.size = 20)
  (hk : K (a.put o.dst (.slice (some ⟨w.heap.size, 0, none⟩) 1 1)) (w.alloc (.cells C 33))) : o.wp Tryz.prog a w K Q := by
 obtain ⟨ie, z, h1, h2, h3, h4⟩ := infoQ
 refine wp_buildSlice 38 33 1 _ ho C ie z Tryz.underlying38 h1 h3 (by rw [h2]; decide) (by rw [h2]; decide) ?_ hk
 rw [h2, h4]
 simp only [List.map_toArray, List.map_cons, List.map_nil, hx]
 exact fill1 C h
theorem wp_quad2 {K : Act → World → Prop} (x y : Operand) (ho : o.op = .buildSlice 38 2 #[(0, x), (1, y)]) (C D : Array Value) (hx : a.eval x = .agg C) (hy : a.eval y = .agg D) (h : C.size = 20) (h' : D.size = 20)
  (hk : K (a.put o.dst (.slice (some ⟨w.heap.size, 0, none⟩) 2 2)) (w.alloc (.cells (C ++ D) 33))) : o.wp Tryz.prog a w K Q := by
 obtain ⟨ie, z, h1, h2, h3, h4⟩ := infoQ
 refine wp_buildSlice 38 33 2 _ ho (C ++ D) ie z Tryz.underlying38 h1 h3 (by rw [h2]; decide) (by rw [h2]; decide) ?_ hk
 rw [h2, h4]
 simp only [List.map_toArray, List.map_cons, List.map_nil, hx, hy]
 exact fill2 C D h h'
theorem quad2 (hgd : o.guard = none) (x y : Operand) (ho : o.op = .buildSlice 38 2 #[(0, x), (1, y)]) (C D : Array Value) (hx : a.eval x = .agg C) (hy : a.eval y = .agg D) (h : C.size = 20) (h' : D.size = 20)
  (hk : wpList Tryz.prog ops Q rest (a.put o.dst (.slice (some ⟨w.heap.size, 0, none⟩) 2 2)) (w.alloc (.cells (C ++ D) 33))) : wpList Tryz.prog ops Q (o :: rest) a w :=
 wpList_plain hgd fun _ hK => wp_quad2 x y ho C D hx hy h h' (hK _ _ hk)
theorem quad1G (hw : Region.wanted o (yielded ops a.tmps) = true) (x : Operand) (ho : o.op = .buildSlice 38 1 #[(0, x)]) (C : Array Value) (hx : a.eval x = .agg C) (h : C.size = 20)
  (hk : wpList Tryz.prog ops Q rest (a.put o.dst (.slice (some ⟨w.heap.size, 0, none⟩) 1 1)) (w.alloc (.cells C 33))) : wpList Tryz.prog ops Q (o :: rest) a w := by
 unfold wpList
 rw [if_pos hw]
 exact .inl (wp_quad1 x ho C hx h hk)
end
def nearS (r s : Nat → Option Rat) (o : Option Rat) : Bool × Int :=
 if wholeQ r 4 && wholeQ s 4 then (if limB o then (nearQ (rq r) (rq s) (rq (fun _ => o) 0) 4, 0) else (false, 2)) else (false, 8)
theorem wholeL_two (r s : Nat → Option Rat) : wholeL (two r s) 2 = (wholeQ r 4 && wholeQ s 4) := by
 show ((true && wholeQ r 4) && wholeQ s 4) = _
 rw [Bool.true_and]
theorem wholeL_one (r : Nat → Option Rat) : wholeL (fun _ => r) 1 = wholeQ r 4 := by
 show (true && wholeQ r 4) = _
 rw [Bool.true_and]
theorem lim_some {o : Option Rat} (h : limB o = true) : ∃ q, o = some q ∧ 0 ≤ q := by
 cases o with
 | none => cases h
 | some r => exact ⟨r, rfl, Rat.not_lt.1 (by unfold limB at h; simpa using h)⟩
theorem qNear {CA CB : Array Value} {vf : Value} {ra rb : Nat → Option Rat} {o : Option Rat} (w : World) (ha : QX w CA ra) (hb : QX w CB rb) (hf : FB w vf o) (sa : ∀ i, i < 4 → sz (rq ra i) 500) (sb : ∀ i, i < 4 → sz (rq rb i) 500) (sf : sz (rq (fun _ => o) 0) 500) :
  Calls Tryz.prog 8 #[.agg CA, .agg CB, vf] w fun e w' => e = .returned (.tuple #[.bool (nearS ra rb o).1, .int .i64 (nearS ra rb o).2]) ∧ Steps w w' := by
 have ia : (Tryz.prog.info? 33).map (·.size) = some CA.size := by rw [ha.1]; kernel_rfl
 have ib : (Tryz.prog.info? 33).map (·.size) = some CB.size := by rw [hb.1]; kernel_rfl
 have za := ha.1
 have zb := hb.1
 obtain ⟨t1, t2, t3, t4, t5, t6, t7, t8, rfl⟩ := hf.shape
 have wh : ∀ w' g, Keeps w w' → Blk w' g 33 (CA ++ CB) → Calls Tryz.prog 21 #[.slice (some ⟨g, 0, none⟩) 2 2] w' fun e w2 => e = .returned (.bool (wholeQ ra 4 && wholeQ rb 4)) ∧ Steps w' w2 := fun w' g k h => by
  have := qwhole w' ((ha.keeps k).two (hb.keeps k) h) (by omega)
  rw [wholeL_two] at this
  exact this
 have ck : ∀ w', Keeps w w' → Calls Tryz.prog 22 #[.agg #[.bool t1, .slice t2 t3 t4, .bool t5, .slice t6 t7 t8]] w' fun e w2 => e = .returned (.int .i64 (okC o.isSome)) ∧ Steps w' w2 := fun w' k => fcheck_fb w' (hf.keeps k)
 have nr : wholeQ ra 4 = true → wholeQ rb 4 = true → limB o = true → ∀ w', Keeps w w' → Calls Tryz.prog 23 #[.agg CA, .agg CB, .agg #[.bool t1, .slice t2 t3 t4, .bool t5, .slice t6 t7 t8]] w' fun e w2 => e = .returned (.tuple #[.bool (nearQ (rq ra) (rq rb) (rq (fun _ => o) 0) 4), .int .i64 0]) ∧ Steps w' w2 := fun h1 h2 h3 w' k => by
  obtain ⟨q, rfl, -⟩ := lim_some h3
  exact qnear w' ((ha.qv h1).keeps k) ((hb.qv h2).keeps k) (FR.keeps hf k) sa sb sf
 have hl := hf.neg
 have HN : Hid (nearS ra rb o = if wholeQ ra 4 && wholeQ rb 4 then (if limB o then (nearQ (rq ra) (rq rb) (rq (fun _ => o) 0) 4, 0) else (false, 2)) else (false, 8)) := Hid.mk_ rfl
 generalize nearS ra rb o = N at *
 generalize nearQ (rq ra) (rq rb) (rq (fun _ => o) 0) 4 = nq at *
 generalize wholeQ ra 4 = wa at *
 generalize wholeQ rb 4 = wb at *
 generalize limB o = lo at *
 generalize o.isSome = so at *
 clear ha hb hf sa sb sf
 go_enter Tryz.func8, Tryz.ntmps8
 repeat' (first | (refine load_big rfl 33 (.tmp 3) rfl (w.heap.size) rfl 33 CA _ ownK Tryz.underlying33 rfl ia ?_) | (refine load_big rfl 33 (.tmp 4) rfl (w.heap.size + 1) rfl 33 CB _ ownK Tryz.underlying33 rfl ib ?_) | (refine quad2 rfl (.tmp 8) (.tmp 9) rfl CA CB rfl rfl za zb ?_) | go_values | go_skip | go_guarded | go_step | go_upon)
 refine (wh _ _ keepsB ownK).mono ?_
 rintro e w1 ⟨rfl, hs1⟩
 have B : Below w.heap.size w w1 := belowA hs1
 have kk : Keeps w w1 := Keeps.then_ keepsB hs1
 have oa : Blk w1 (w.heap.size) 33 CA := Blk.stepsK hs1
 have ob : Blk w1 (w.heap.size + 1) 33 CB := Blk.stepsK hs1
 have oc : Blk w1 (w.heap.size + 1 + 1) 30 #[.bool t1, .slice t2 t3 t4, .bool t5, .slice t6 t7 t8] := Blk.stepsK hs1
 clear hs1 wh
 cases hw : (wa && wb) with
 | false =>
  clear ck nr
  go_wp2_with fail
  go_returns
  exact ⟨by rw [HN.out, hw]; rfl, belowB⟩
 | true =>
  obtain ⟨rfl, rfl⟩ : wa = true ∧ wb = true := by simpa using hw
  have HN2 : Hid (N = if lo then (nq, 0) else (false, 2)) := Hid.mk_ HN.out
  clear HN hw
  replace nr := nr rfl rfl
  have cc0 := oc.c 0 rfl
  have cc1 := oc.c 1 rfl
  have cc2 := oc.c 2 rfl
  have cc3 := oc.c 3 rfl
  go_wp2_with fail
  refine (ck _ (kk.trans keepsB)).mono ?_
  rintro e w2 ⟨rfl, hs2⟩
  replace kk : Keeps w w2 := (kk.trans keepsB).then_ hs2
  replace oa : Blk w2 (w.heap.size) 33 CA := Blk.stepsK hs2
  replace ob : Blk w2 (w.heap.size + 1) 33 CB := Blk.stepsK hs2
  replace oc : Blk w2 (w.heap.size + 1 + 1) 30 #[.bool t1, .slice t2 t3 t4, .bool t5, .slice t6 t7 t8] := Blk.stepsK hs2
  replace B : Below w.heap.size w w2 := belowA hs2
  clear cc0 cc1 cc2 cc3 hs2 ck
  have cc0 := oc.c 0 rfl
  have cc1 := oc.c 1 rfl
  have cc2 := oc.c 2 rfl
  have cc3 := oc.c 3 rfl
  cases so with
  | false =>
   have e0 : lo = false := hl
   rw [e0] at HN2
   clear nr hl
   rw [show okC false = 8 from rfl]
   go_wp2_with fail
   go_returns
   exact ⟨by rw [HN2.out]; rfl, belowB⟩
  | true =>
   rw [show okC true = 0 from rfl]
   cases t1 with
   | true =>
    have e0 : lo = false := hl
    rw [e0] at HN2
    clear nr hl
    go_wp2_with fail
    go_returns
    exact ⟨by rw [HN2.out]; rfl, belowB⟩
   | false =>
    have e0 : lo = true := hl
    rw [e0] at HN2
    replace nr := nr e0
    clear hl e0
    dsimp only
    repeat' (first | (refine load_big rfl 33 (.tmp 3) rfl (w.heap.size) rfl 33 CA _ oa Tryz.underlying33 rfl ia ?_) | (refine load_big rfl 33 (.tmp 4) rfl (w.heap.size + 1) rfl 33 CB _ ob Tryz.underlying33 rfl ib ?_) | go_values | go_skip | go_guarded | go_step | go_upon)
    refine (nr _ (kk.trans keepsB)).mono ?_
    rintro e w3 ⟨rfl, hs3⟩
    have B3 : Below w.heap.size w w3 := belowA hs3
    clear hs3 nr kk oa ob oc B cc0 cc1 cc2 cc3
    dsimp only
    go_wp2_with fail
    go_returns
    exact ⟨by rw [HN2.out]; rfl, belowB⟩
end Go.Proofs.YtibdehlmflaodaaGreat
