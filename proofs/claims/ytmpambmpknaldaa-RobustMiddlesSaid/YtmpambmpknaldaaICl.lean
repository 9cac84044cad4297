import Derived.Test.YtmpambmpknaldaaICh
import Derived.Test.YtmpambmpknaldaaIQu
import Derived.Deep.Upon
set_option linter.unusedVariables false
set_option linter.unusedSimpArgs false
set_option maxHeartbeats 6400000
set_option maxRecDepth 1000000
namespace Go.Proofs.Ytmpambmpknaldaa
open Go.RowKit
def grB (n : Nat) : Bool := decide (1010 < n) || (decide (24 < n) && decide (n ≤ 1000))
theorem pvgreat {vl : Value} {l : List Int} (w : World) (hl : IntsR w vl l) :
  Calls Try.prog 4 #[vl] w fun e w' => e = .returned (.bool (grB l.length)) ∧ Steps w w' := by
 obtain ⟨la, lc, rfl⟩ := hl.shape
 obtain ⟨n, hn⟩ : ∃ n, l.length = n := ⟨_, rfl⟩
 rw [hn]
 clear hl hn
 rcases (show 1010 < n ∨ n ≤ 24 ∨ (24 < n ∧ n ≤ 1000) ∨ (1000 < n ∧ n ≤ 1010) by omega) with h | h | ⟨h, h'⟩ | ⟨h, h'⟩
 ·
  rw [show grB n = true by unfold grB; rw [decide_eq_true h]; rfl]
  have h1 : (1010 : Int) < (n : Int) := by omega
  clear h
  go_enter Try.func4, Try.ntmps4
  go_wp2
  go_returns
  exact ⟨rfl, belowB⟩
 ·
  rw [show grB n = false by unfold grB; rw [decide_eq_false (show ¬ 1010 < n by omega), decide_eq_false (show ¬ 24 < n by omega)]; rfl]
  have h1 : ¬ (1010 : Int) < (n : Int) := by omega
  have h2 : ¬ (24 : Int) < (n : Int) := by omega
  clear h
  go_enter Try.func4, Try.ntmps4
  go_wp2
  go_returns
  exact ⟨rfl, belowB⟩
 ·
  rw [show grB n = true by unfold grB; rw [decide_eq_true h, decide_eq_true h']; simp]
  have h1 : ¬ (1010 : Int) < (n : Int) := by omega
  have h2 : (24 : Int) < (n : Int) := by omega
  have h3 : (n : Int) ≤ 1000 := by omega
  clear h h'
  go_enter Try.func4, Try.ntmps4
  go_wp2
  go_returns
  exact ⟨rfl, belowB⟩
 ·
  rw [show grB n = false by unfold grB; rw [decide_eq_false (show ¬ 1010 < n by omega), decide_eq_false (show ¬ n ≤ 1000 by omega)]; simp]
  have h1 : ¬ (1010 : Int) < (n : Int) := by omega
  have h2 : (24 : Int) < (n : Int) := by omega
  have h3 : ¬ (n : Int) ≤ 1000 := by omega
  clear h h'
  go_enter Try.func4, Try.ntmps4
  go_wp2
  go_returns
  exact ⟨rfl, belowB⟩
theorem psameN {a b c d a' b' c' d' : Value} {x y : Int} (w : World) (h : Frn w x y a b c d) (h' : Frn w x y a' b' c' d') (fx : fits x) (fy : fits y) :
  Calls Try.prog 13 #[.agg #[a, b, c, d], .agg #[a', b', c', d']] w fun e w' => e = .returned (.bool true) ∧ Steps w w' := by
 obtain ⟨g1, s1, n1, c1, rfl, rfl⟩ := h.1.parts2
 obtain ⟨g2, s2, n2, c2, rfl, rfl⟩ := h.2.parts2
 obtain ⟨g3, s3, n3, c3, rfl, rfl⟩ := h'.1.parts2
 obtain ⟨g4, s4, n4, c4, rfl, rfl⟩ := h'.2.parts2
 have p1 : ∀ w', Keeps w w' → Calls Try.prog 25 #[.agg #[.bool g1, .slice s1 n1 c1], .agg #[.bool g3, .slice s3 n3 c3]] w' fun e w2 => e = .returned (.bool true) ∧ Steps w' w2 := fun w' k => by
  have := rsame w' (h.1.keeps k) (h'.1.keeps k) fx fx
  rwa [decide_eq_true rfl] at this
 have p2 : ∀ w', Keeps w w' → Calls Try.prog 25 #[.agg #[.bool g2, .slice s2 n2 c2], .agg #[.bool g4, .slice s4 n4 c4]] w' fun e w2 => e = .returned (.bool true) ∧ Steps w' w2 := fun w' k => by
  have := rsame w' (h.2.keeps k) (h'.2.keeps k) fy fy
  rwa [decide_eq_true rfl] at this
 clear h h' fx fy
 go_enter Try.func13, Try.ntmps13
 have kk := Keeps.refl w
 go_wp2_with fail
 refine (p1 _ (kk.trans keepsB)).mono ?_
 rintro e w1 ⟨rfl, hb1⟩
 have st : Steps _ w1 := hb1
 have B : Below w.heap.size w w1 := belowA st
 have kp : Keeps w w1 := Keeps.then_ keepsB st
 replace kk := kk.trans kp
 have oa : Blk w1 (w.heap.size) 28 #[.bool g1, .slice s1 n1 c1, .bool g2, .slice s2 n2 c2] := Blk.stepsK st
 have ob : Blk w1 (w.heap.size + 1) 28 #[.bool g3, .slice s3 n3 c3, .bool g4, .slice s4 n4 c4] := Blk.stepsK st
 clear kp
 clear st
 obtain ⟨ca0, ca1, ca2, ca3⟩ := oa.r3
 have la := oa.lt
 obtain ⟨cb0, cb1, cb2, cb3⟩ := ob.r3
 have lb := ob.lt
 go_wp2_with fail
 refine (p2 _ (kk.trans keepsB)).mono ?_
 rintro e w2 ⟨rfl, hb2⟩
 have st : Steps _ w2 := hb2
 have sk : Below w1.heap.size w1 w2 := belowA st
 replace B := below_steps B (Nat.le_refl _) sk
 replace oa := oa.steps sk
 replace ob := ob.steps sk
 replace kk := kk.then_ sk
 clear st sk ca0 ca1 ca2 ca3 la cb0 cb1 cb2 cb3 lb
 go_wp2_with fail
 refine bodyPost_ret (by simp [results, Try.results13, go_sem, ]; rfl) rfl ?_
 exact ⟨rfl, belowB⟩
theorem frn_zeroQ (w : World) : Frn w 0 0 (.bool false) (.slice none 0 0) (.bool false) (.slice none 0 0) := ⟨Num.zero _, Num.zero _⟩
theorem psame {va vb : Value} {c : Int} {r : Rat} (w : World) (h : FE w va c r) (h' : FE w vb c r) : Calls Try.prog 13 #[va, vb] w fun e w' => e = .returned (.bool true) ∧ Steps w w' := by
 unfold FE at h h'
 by_cases hc : c = 0
 ·
  rw [if_pos hc] at h h'
  obtain ⟨a2, a3, a4, a6, a7, a8, rfl, n1, n2, -⟩ := h.nums
  obtain ⟨b2, b3, b4, b6, b7, b8, rfl, m1, m2, -⟩ := h'.nums
  exact psameN w ⟨n1, n2⟩ ⟨m1, m2⟩ h.fit.1 h.fit.2
 ·
  rw [if_neg hc] at h h'
  subst h
  subst h'
  exact psameN w (frn_zeroQ w) (frn_zeroQ w) (by decide) (by decide)
theorem FE.keeps {w w' : World} {v : Value} {c : Int} {r : Rat} (h : FE w v c r) (k : Keeps w w') : FE w' v c r := by
 unfold FE at h ⊢
 split
 · rename_i e; rw [if_pos e] at h; exact FR.keeps h k
 · rename_i e; rw [if_neg e] at h; exact h
theorem FE.steps {w w' : World} {v : Value} {c : Int} {r : Rat} (h : FE w v c r) (s : Steps w w') : FE w' v c r := h.keeps (Keeps.steps s)
theorem FE.shape {w : World} {v : Value} {c : Int} {r : Rat} (h : FE w v c r) : ∃ (a : Bool) (s : Option Addr) (n d : Nat) (b : Bool) (t : Option Addr) (m e : Nat), v = .agg #[.bool a, .slice s n d, .bool b, .slice t m e] := by
 unfold FE at h
 split at h
 · exact FR.shape h
 · exact ⟨_, _, _, _, _, _, _, _, h⟩
end Go.Proofs.Ytmpambmpknaldaa
