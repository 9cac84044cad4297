import Derived.ChangeKeysEq
import Derived.Test.YtffmbepfbienaaaGreatDQj
set_option linter.unusedVariables false
set_option linter.unusedSimpArgs false
namespace Go.Proofs.YtffmbepfbienaaaGreat
open Go.RowKit
def Frn (w : World) (x y : Int) (a b c d : Value) : Prop := Num w (.agg #[a, b]) x ∧ Num w (.agg #[c, d]) y
theorem Frn.keeps {w w' : World} {x y : Int} {a b c d : Value} (h : Frn w x y a b c d) (k : Keeps w w') : Frn w' x y a b c d := ⟨h.1.keeps k, h.2.keeps k⟩
theorem Num.parts2 {w : World} {a b : Value} {x : Int} (h : Num w (.agg #[a, b]) x) : ∃ g s n c, a = .bool g ∧ b = .slice s n c := by
 obtain ⟨s, e, hl⟩ := h
 obtain ⟨ao, cap, rfl⟩ := hl.shape
 simp only [Value.agg.injEq, Array.mk.injEq, List.cons.injEq, and_true] at e
 exact ⟨_, _, _, _, e.1, e.2⟩
set_option maxHeartbeats 6400000 in
set_option maxRecDepth 1000000 in
theorem rsameF {a b c d a' b' c' d' : Value} {x y : Int} (w : World) (h : Frn w x y a b c d) (h' : Frn w x y a' b' c' d') (fx : fits x) (fy : fits y) :
  Calls Tryz.prog 16 #[.agg #[a, b, c, d], .agg #[a', b', c', d']] w fun e w' => e = .returned (.bool true) ∧ Steps w w' := by
 have s1 : ∀ w', Steps w w' → Calls Tryz.prog 44 #[.agg #[a, b], .agg #[a', b']] w' fun e w2 => e = .returned (.bool true) ∧ Steps w' w2 := fun w' hs => by
  have := rsame w' (h.1.steps hs) (h'.1.steps hs) fx fx
  rwa [decide_eq_true rfl] at this
 have s2 : ∀ w', Steps w w' → Calls Tryz.prog 44 #[.agg #[c, d], .agg #[c', d']] w' fun e w2 => e = .returned (.bool true) ∧ Steps w' w2 := fun w' hs => by
  have := rsame w' (h.2.steps hs) (h'.2.steps hs) fy fy
  rwa [decide_eq_true rfl] at this
 obtain ⟨g1, t1, n1, q1, rfl, rfl⟩ := h.1.parts2
 obtain ⟨g2, t2, n2, q2, rfl, rfl⟩ := h.2.parts2
 obtain ⟨g3, t3, n3, q3, rfl, rfl⟩ := h'.1.parts2
 obtain ⟨g4, t4, n4, q4, rfl, rfl⟩ := h'.2.parts2
 clear h h' fx fy
 go_enter Tryz.func16, Tryz.ntmps16
 go_wp2_with fail
 refine (s1 _ belowB).mono ?_
 rintro e w1 ⟨rfl, hs1⟩
 have B : Below w.heap.size w w1 := belowA hs1
 have oa : Blk w1 (w.heap.size) 28 #[.bool g1, .slice t1 n1 q1, .bool g2, .slice t2 n2 q2] := Blk.stepsK hs1
 have ob : Blk w1 (w.heap.size + 1) 28 #[.bool g3, .slice t3 n3 q3, .bool g4, .slice t4 n4 q4] := Blk.stepsK hs1
 clear hs1 s1
 have ca2 := oa.q2
 have ca3 := oa.q3
 have cb2 := ob.q2
 have cb3 := ob.q3
 go_wp2_with fail
 refine (s2 _ B).mono ?_
 rintro e w2 ⟨rfl, hs2⟩
 have B2 := below_steps B (Nat.le_refl _) hs2
 clear oa ob ca2 ca3 cb2 cb3 hs2 B s2
 go_wp2
 go_returns
 exact ⟨rfl, belowB⟩
def QM (w : World) (cs : Array Value) (k p q : Nat → Int) : Prop := cs.size = 20 ∧ cs.all (·.oneCell') = true ∧ (∀ i, i < 4 → cs[i]? = some (.int .i64 (k i))) ∧
 ∀ i, i < 4 → ∃ a b c d, cs[4 + i * 4]? = some a ∧ cs[4 + i * 4 + 1]? = some b ∧ cs[4 + i * 4 + 2]? = some c ∧ cs[4 + i * 4 + 3]? = some d ∧ Frn w (p i) (q i) a b c d
theorem QM.keeps {w w' : World} {cs : Array Value} {k p q : Nat → Int} (h : QM w cs k p q) (kp : Keeps w w') : QM w' cs k p q := by
 obtain ⟨h1, h2, h3, h4⟩ := h
 refine ⟨h1, h2, h3, fun i hi => ?_⟩
 obtain ⟨a, b, c, d, c0, c1, c2, c3, f⟩ := h4 i hi
 exact ⟨a, b, c, d, c0, c1, c2, c3, f.keeps kp⟩
theorem QM.steps {w w' : World} {cs : Array Value} {k p q : Nat → Int} (h : QM w cs k p q) (s : Steps w w') : QM w' cs k p q := h.keeps (Keeps.steps s)
def given4 : PL := [(0, 0), (4, 0), (1, 1), (3, 2)]
def k0123 (i : Nat) : Int := match i with | 0 => 0 | 1 => 1 | 2 => 2 | _ => 3
end Go.Proofs.YtffmbepfbienaaaGreat
