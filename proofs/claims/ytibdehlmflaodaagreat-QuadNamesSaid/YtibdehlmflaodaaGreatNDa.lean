import Derived.Test.YtibdehlmflaodaaGreatNVi
import Derived.Test.YtibdehlmflaodaaGreatNVg
import Derived.Test.YtibdehlmflaodaaGreatNQu
/- QuadNear without the program: Find's answers with two limits, the greedy look for one in the other. -/
set_option linter.unusedVariables false
set_option linter.unusedSimpArgs false
set_option maxHeartbeats 6400000
set_option maxRecDepth 1000000
namespace Go.Proofs.YtibdehlmflaodaaGreat
open Go.RowKit
def cntF (p : Int → Bool) (L : List Int) (s : Nat) : Nat := ((L.take s).filter p).length
structure Greedy (A N : List Int) (ns : Nat → Nat) : Prop where
 zero : ns 0 = 0
 all : ns A.length = N.length
 le : ∀ s, ns s ≤ N.length
 step : ∀ s, s < A.length → (ns s < N.length ∧ N.getD (ns s) 0 = A.getD s 0 ∧ ns (s + 1) = ns s + 1) ∨ (ns (s + 1) = ns s ∧ (ns s < N.length → N.getD (ns s) 0 ≠ A.getD s 0))
def IsInt (n : Nat) (x : Value) : Prop := ∃ (a : Option Addr) (c : Nat), x = .tuple #[.slice a n c, .int .i64 0]
def GInt (n : Nat) (l : List Int) (x : Value) (W : World) : Prop := ∃ (a : Option Addr) (c : Nat), x = .tuple #[.slice a n c, .int .i64 0] ∧ IntsR W (.slice a n c) l
theorem GInt.get {n : Nat} {l : List Int} {a : Option Addr} {c : Nat} {W : World} (h : GInt n l (.tuple #[.slice a n c, .int .i64 0]) W) : IntsR W (.slice a n c) l := by
 obtain ⟨a', c', e, h⟩ := h
 simp only [Value.tuple.injEq, Array.mk.injEq, List.cons.injEq, and_true, Value.slice.injEq, true_and] at e
 obtain ⟨rfl, rfl⟩ := e
 exact h
structure NearW (w4 : World) (aa ab : Option Addr) (na nb ca cb : Nat) (CA CB : Nat → Array Value) (vo vw : Value) (LN LW : Nat → List Int) : Prop where
 n15 : na ≤ 15
 l15 : ∀ i, i < na → (LN i).length ≤ 15 ∧ (LW i).length ≤ 15
 atA : ∀ t, t < na → ∃ b o, aa = some ⟨b, o, none⟩ ∧ b < w4.heap.size ∧ (CA t).size = 20 ∧ ∀ j, j < 20 → w4.cell? ⟨b, o + t * 20 + j, none⟩ = (CA t)[j]?
 atB : ∀ t, t < nb → ∃ b o, ab = some ⟨b, o, none⟩ ∧ b < w4.heap.size ∧ (CB t).size = 20 ∧ ∀ j, j < 20 → w4.cell? ⟨b, o + t * 20 + j, none⟩ = (CB t)[j]?
 self : ∀ i, i < na → ∀ W z, Steps w4 W → FR W z (0 : Rat) → Calls Tryz.prog 8 #[.agg (CA i), .agg (CA i), z] W fun e w2 => e = .returned (.tuple #[.bool true, .int .i64 0]) ∧ Steps W w2
 near : ∀ i, i < na → ∀ W, Steps w4 W → Calls Tryz.prog 9 #[.slice ab nb cb, .agg (CA i), vo] W fun e w2 => ∃ a c, e = .returned (.tuple #[.slice a (LN i).length c, .int .i64 0]) ∧ IntsR w2 (.slice a (LN i).length c) (LN i) ∧ Steps W w2
 wide : ∀ i, i < na → ∀ W, Steps w4 W → Calls Tryz.prog 9 #[.slice ab nb cb, .agg (CA i), vw] W fun e w2 => ∃ a c, e = .returned (.tuple #[.slice a (LW i).length c, .int .i64 0]) ∧ IntsR w2 (.slice a (LW i).length c) (LW i) ∧ Steps W w2
 greedy : ∀ i, i < na → ∃ ns, Greedy (LW i) (LN i) ns
 got : ∀ i, i < na → ∀ s, s < (LN i).length → ∃ t : Nat, (LN i).getD s 0 = t ∧ t < nb ∧
  (∀ W, Steps w4 W → Calls Tryz.prog 8 #[.agg (CB t), .agg (CA i), vo] W fun e w2 => e = .returned (.tuple #[.bool true, .int .i64 0]) ∧ Steps W w2) ∧
  (∀ W, Steps w4 W → Calls Tryz.prog 8 #[.agg (CA i), .agg (CB t), vo] W fun e w2 => e = .returned (.tuple #[.bool true, .int .i64 0]) ∧ Steps W w2)
def sqL : PL := [(1, 1), (0, 0), (1, 0), (0, 1)]
def twL : PL := [(0, 0), (5, 0), (0, 0), (5, 0)]
def k3210 (i : Nat) : Int := match i with | 0 => 3 | 1 => 2 | 2 => 1 | _ => 0
def k0122 (i : Nat) : Int := match i with | 0 => 0 | 1 => 1 | 2 => 2 | _ => 2
def k0124 (i : Nat) : Int := match i with | 0 => 0 | 1 => 1 | 2 => 2 | _ => 4
def k0000 (_ : Nat) : Int := 0
def sqA : Arr := bestOf sqL (KK k3210)
def twA : Arr := bestOf twL (KK k0123)
theorem sq_vals : sqA.k0 = 0 ∧ sqA.k1 = 1 ∧ sqA.k2 = 3 ∧ sqA.k3 = 2 ∧ sqA.a1 = 1 ∧ sqA.a2 = -1 ∧ sqA.b1 = 1 ∧ sqA.b2 = 1 ∧ sqA.n = 2 := by decide +kernel
theorem tw_vals : twA.k0 = 0 ∧ twA.k1 = 1 ∧ twA.k2 = 2 ∧ twA.k3 = 3 ∧ twA.a1 = 0 ∧ twA.a2 = 0 ∧ twA.b1 = 25 ∧ twA.b2 = 0 ∧ twA.n = 25 := by decide +kernel
theorem okIdx4 {l : PL} (hl : l.length = 4) (k : Nat → Int) (h : k 0 = 0 ∧ k 1 = 1 ∧ k 2 = 2 ∧ k 3 = 3 ∨ k 0 = 3 ∧ k 1 = 2 ∧ k 2 = 1 ∧ k 3 = 0) : okIdx l.length k := fun i hi => by
 rw [hl]
 rcases h with ⟨h0, h1, h2, h3⟩ | ⟨h0, h1, h2, h3⟩ <;> rcases (show i = 0 ∨ i = 1 ∨ i = 2 ∨ i = 3 by omega) with rfl | rfl | rfl | rfl
 · exact ⟨⟨by omega, by omega⟩, fun m hm => by omega⟩
 · exact ⟨⟨by omega, by omega⟩, fun m hm => by rcases (show m = 0 by omega) with rfl; omega⟩
 · exact ⟨⟨by omega, by omega⟩, fun m hm => by rcases (show m = 0 ∨ m = 1 by omega) with rfl | rfl <;> omega⟩
 · exact ⟨⟨by omega, by omega⟩, fun m hm => by rcases (show m = 0 ∨ m = 1 ∨ m = 2 by omega) with rfl | rfl | rfl <;> omega⟩
 · exact ⟨⟨by omega, by omega⟩, fun m hm => by omega⟩
 · exact ⟨⟨by omega, by omega⟩, fun m hm => by rcases (show m = 0 by omega) with rfl; omega⟩
 · exact ⟨⟨by omega, by omega⟩, fun m hm => by rcases (show m = 0 ∨ m = 1 by omega) with rfl | rfl <;> omega⟩
 · exact ⟨⟨by omega, by omega⟩, fun m hm => by rcases (show m = 0 ∨ m = 1 ∨ m = 2 by omega) with rfl | rfl | rfl <;> omega⟩
theorem code_sq : codeS sqL k3210 = (0, sqA) := by
 unfold codeS
 rw [if_neg (by rw [show chkP sqL = 0 from by decide]; decide), if_neg (fun h => h (okIdx4 rfl k3210 (.inr ⟨rfl, rfl, rfl, rfl⟩))), if_neg (by rw [show wid sqL (KK k3210) = 2 from by decide +kernel]; decide)]
 rfl
theorem code_tw : codeS twL k0123 = (0, twA) := by
 unfold codeS
 rw [if_neg (by rw [show chkP twL = 0 from by decide]; decide), if_neg (fun h => h (okIdx4 rfl k0123 (.inl ⟨rfl, rfl, rfl, rfl⟩))), if_neg (by rw [show wid twL (KK k0123) = 25 from by decide +kernel]; decide)]
 rfl
theorem code_many : codeS (List.replicate 201 (0, 0)) k0123 = (4, noArr) := by
 have h : chkP (List.replicate 201 ((0 : Int), (0 : Int))) = 4 := by unfold chkP; rw [if_pos (by rw [List.length_replicate]; decide)]
 unfold codeS
 rw [if_pos (by rw [h]; decide), h]
theorem code_far : codeS [(1048577, 0)] k0000 = (8, noArr) := by
 have h : chkP [(1048577, 0)] = 8 := by decide
 unfold codeS
 rw [if_pos (by rw [h]; decide), h]
theorem code_22 : codeS sqL k0122 = (2, noArr) := by
 unfold codeS
 rw [if_neg (by rw [show chkP sqL = 0 from by decide]; decide), if_pos (fun h => (h 3 (by decide)).2 2 (by decide) rfl)]
theorem code_24 : codeS sqL k0124 = (2, noArr) := by
 unfold codeS
 rw [if_neg (by rw [show chkP sqL = 0 from by decide]; decide), if_pos (fun h => by have := (h 3 (by decide)).1.2; exact absurd this (by decide))]
theorem code_eq : codeS (List.replicate 4 (0, 0)) k0123 = (18, noArr) := by
 unfold codeS
 rw [if_neg (by rw [show chkP (List.replicate 4 (0, 0)) = 0 from by decide]; decide), if_neg (fun h => h (okIdx4 rfl k0123 (.inl ⟨rfl, rfl, rfl, rfl⟩))), if_pos (by decide +kernel)]
theorem all_5 : (allS (List.replicate 4 (0, 0) ++ sqL) 5).1 = 0 ∧ (allS (List.replicate 4 (0, 0) ++ sqL) 5).2.length = 4 := by decide +kernel
theorem all_13 : allS sqL 13 = (2, []) := by decide +kernel
theorem all_3 : allS sqL 3 = (0, []) := by decide +kernel
def halfR (i : Nat) : Rat := match i with | 1 => ((-1 : Int) : Rat) / ((2 : Int) : Rat) | _ => ((1 : Int) : Rat) / ((2 : Int) : Rat)
theorem sq_half (i : Nat) (hi : i < 4) : rA sqA i = halfR i := by
 rcases (show i = 0 ∨ i = 1 ∨ i = 2 ∨ i = 3 by omega) with rfl | rfl | rfl | rfl <;> decide +kernel
theorem tw_0 : rA twA 0 = ((0 : Int) : Rat) / ((1 : Int) : Rat) := by decide +kernel
theorem tw_2 : rA twA 2 = ((1 : Int) : Rat) / ((1 : Int) : Rat) := by decide +kernel
theorem near_zero (s : Nat → Option Rat) (o : Option Rat) : nearS (fun _ => none) s o = (false, 8) := by
 unfold nearS
 rw [show wholeQ (fun _ => none) 4 = false from rfl, Bool.false_and]; rfl
theorem near_neg : nearS (fun i => some (halfR i)) (fun i => some (halfR i)) (some (((-1 : Int) : Rat) / ((2 : Int) : Rat))) = (false, 2) := by decide +kernel
theorem find_many (R : Nat → Nat → Option Rat) (q : Nat → Option Rat) (o : Option Rat) : findS 501 R q o = ([], 4) := by unfold findS; rw [if_pos (by decide)]
def R3 (t i : Nat) : Option Rat := match t with | 1 => some (rA twA i) | _ => some (halfR i)
theorem find_3 : findS 3 R3 (fun i => some (halfR i)) (some (((1 : Int) : Rat) / ((4 : Int) : Rat))) = ([0, 2], 0) := by decide +kernel
theorem QN.cells {w : World} {v : Value} {a : Arr} (h : QN w v a) : ∃ (x0_1 : Bool) (x0_2 : Option Addr) (x0_3 x0_4 : Nat) (x0_5 : Bool) (x0_6 : Option Addr) (x0_7 x0_8 : Nat) (x1_1 : Bool) (x1_2 : Option Addr) (x1_3 x1_4 : Nat) (x1_5 : Bool) (x1_6 : Option Addr) (x1_7 x1_8 : Nat) (x2_1 : Bool) (x2_2 : Option Addr) (x2_3 x2_4 : Nat) (x2_5 : Bool) (x2_6 : Option Addr) (x2_7 x2_8 : Nat) (x3_1 : Bool) (x3_2 : Option Addr) (x3_3 x3_4 : Nat) (x3_5 : Bool) (x3_6 : Option Addr) (x3_7 x3_8 : Nat), v = .agg #[.int .i64 a.k0, .int .i64 a.k1, .int .i64 a.k2, .int .i64 a.k3, .bool x0_1, .slice x0_2 x0_3 x0_4, .bool x0_5, .slice x0_6 x0_7 x0_8, .bool x1_1, .slice x1_2 x1_3 x1_4, .bool x1_5, .slice x1_6 x1_7 x1_8, .bool x2_1, .slice x2_2 x2_3 x2_4, .bool x2_5, .slice x2_6 x2_7 x2_8, .bool x3_1, .slice x3_2 x3_3 x3_4, .bool x3_5, .slice x3_6 x3_7 x3_8] := by
 obtain ⟨c0, c1, c2, c3, c4, c5, c6, c7, c8, c9, c10, c11, c12, c13, c14, c15, rfl, ⟨n0, m0⟩, ⟨n1, m1⟩, ⟨n2, m2⟩, ⟨n3, m3⟩⟩ := h
 obtain ⟨_, _, _, _, rfl, rfl⟩ := n0.parts2
 obtain ⟨_, _, _, _, rfl, rfl⟩ := m0.parts2
 obtain ⟨_, _, _, _, rfl, rfl⟩ := n1.parts2
 obtain ⟨_, _, _, _, rfl, rfl⟩ := m1.parts2
 obtain ⟨_, _, _, _, rfl, rfl⟩ := n2.parts2
 obtain ⟨_, _, _, _, rfl, rfl⟩ := m2.parts2
 obtain ⟨_, _, _, _, rfl, rfl⟩ := n3.parts2
 obtain ⟨_, _, _, _, rfl, rfl⟩ := m3.parts2
 exact ⟨_, _, _, _, _, _, _, _, _, _, _, _, _, _, _, _, _, _, _, _, _, _, _, _, _, _, _, _, _, _, _, _, rfl⟩
theorem QN.frs {w : World} {v : Value} {a : Arr} (hn : 0 < a.n) (na : NumOk a) (h : QN w v a) : ∃ (x0_1 : Bool) (x0_2 : Option Addr) (x0_3 x0_4 : Nat) (x0_5 : Bool) (x0_6 : Option Addr) (x0_7 x0_8 : Nat) (x1_1 : Bool) (x1_2 : Option Addr) (x1_3 x1_4 : Nat) (x1_5 : Bool) (x1_6 : Option Addr) (x1_7 x1_8 : Nat) (x2_1 : Bool) (x2_2 : Option Addr) (x2_3 x2_4 : Nat) (x2_5 : Bool) (x2_6 : Option Addr) (x2_7 x2_8 : Nat) (x3_1 : Bool) (x3_2 : Option Addr) (x3_3 x3_4 : Nat) (x3_5 : Bool) (x3_6 : Option Addr) (x3_7 x3_8 : Nat), v = .agg #[.int .i64 a.k0, .int .i64 a.k1, .int .i64 a.k2, .int .i64 a.k3, .bool x0_1, .slice x0_2 x0_3 x0_4, .bool x0_5, .slice x0_6 x0_7 x0_8, .bool x1_1, .slice x1_2 x1_3 x1_4, .bool x1_5, .slice x1_6 x1_7 x1_8, .bool x2_1, .slice x2_2 x2_3 x2_4, .bool x2_5, .slice x2_6 x2_7 x2_8, .bool x3_1, .slice x3_2 x3_3 x3_4, .bool x3_5, .slice x3_6 x3_7 x3_8] ∧ FR w (.agg #[.bool x0_1, .slice x0_2 x0_3 x0_4, .bool x0_5, .slice x0_6 x0_7 x0_8]) (rA a 0) ∧ FR w (.agg #[.bool x1_1, .slice x1_2 x1_3 x1_4, .bool x1_5, .slice x1_6 x1_7 x1_8]) (rA a 1) ∧ FR w (.agg #[.bool x2_1, .slice x2_2 x2_3 x2_4, .bool x2_5, .slice x2_6 x2_7 x2_8]) (rA a 2) ∧ FR w (.agg #[.bool x3_1, .slice x3_2 x3_3 x3_4, .bool x3_5, .slice x3_6 x3_7 x3_8]) (rA a 3) := by
 obtain ⟨c0, c1, c2, c3, c4, c5, c6, c7, c8, c9, c10, c11, c12, c13, c14, c15, rfl, ⟨n0, m0⟩, ⟨n1, m1⟩, ⟨n2, m2⟩, ⟨n3, m3⟩⟩ := h
 have e1 : ∀ i, cP (cA a i) a.n = (rA a i).num := fun i => by unfold cP rA; rw [if_neg (by omega)]
 have e2 : ∀ i, cQ (cA a i) a.n = ((rA a i).den : Int) := fun i => by unfold cQ rA; rw [if_neg (by omega)]
 rw [show cP a.a1 a.n = (rA a 0).num from e1 0] at n0
 rw [show cQ a.a1 a.n = ((rA a 0).den : Int) from e2 0] at m0
 rw [show cP a.a2 a.n = (rA a 1).num from e1 1] at n1
 rw [show cQ a.a2 a.n = ((rA a 1).den : Int) from e2 1] at m1
 rw [show cP a.b1 a.n = (rA a 2).num from e1 2] at n2
 rw [show cQ a.b1 a.n = ((rA a 2).den : Int) from e2 2] at m2
 rw [show cP a.b2 a.n = (rA a 3).num from e1 3] at n3
 rw [show cQ a.b2 a.n = ((rA a 3).den : Int) from e2 3] at m3
 obtain ⟨_, _, _, _, rfl, rfl⟩ := n0.parts2
 obtain ⟨_, _, _, _, rfl, rfl⟩ := m0.parts2
 obtain ⟨_, _, _, _, rfl, rfl⟩ := n1.parts2
 obtain ⟨_, _, _, _, rfl, rfl⟩ := m1.parts2
 obtain ⟨_, _, _, _, rfl, rfl⟩ := n2.parts2
 obtain ⟨_, _, _, _, rfl, rfl⟩ := m2.parts2
 obtain ⟨_, _, _, _, rfl, rfl⟩ := n3.parts2
 obtain ⟨_, _, _, _, rfl, rfl⟩ := m3.parts2
 exact ⟨_, _, _, _, _, _, _, _, _, _, _, _, _, _, _, _, _, _, _, _, _, _, _, _, _, _, _, _, _, _, _, _, rfl, Frc.mk' n0 m0 (den_pos' _) (gcd_rat _) ((rA_sz na hn 0).fits (by omega)).1 ((rA_sz na hn 0).fits (by omega)).2, Frc.mk' n1 m1 (den_pos' _) (gcd_rat _) ((rA_sz na hn 1).fits (by omega)).1 ((rA_sz na hn 1).fits (by omega)).2, Frc.mk' n2 m2 (den_pos' _) (gcd_rat _) ((rA_sz na hn 2).fits (by omega)).1 ((rA_sz na hn 2).fits (by omega)).2, Frc.mk' n3 m3 (den_pos' _) (gcd_rat _) ((rA_sz na hn 3).fits (by omega)).1 ((rA_sz na hn 3).fits (by omega)).2⟩
theorem qf_of {x0_1 x0_5 x1_1 x1_5 x2_1 x2_5 x3_1 x3_5 : Bool} {x0_2 x0_6 x1_2 x1_6 x2_2 x2_6 x3_2 x3_6 : Option Addr} {x0_3 x0_4 x0_7 x0_8 x1_3 x1_4 x1_7 x1_8 x2_3 x2_4 x2_7 x2_8 x3_3 x3_4 x3_7 x3_8 : Nat} {w : World} {k0 k1 k2 k3 : Int} {k : Nat → Int} {r : Nat → Rat} (e : k 0 = k0 ∧ k 1 = k1 ∧ k 2 = k2 ∧ k 3 = k3) (f0 : FR w (.agg #[.bool x0_1, .slice x0_2 x0_3 x0_4, .bool x0_5, .slice x0_6 x0_7 x0_8]) (r 0)) (f1 : FR w (.agg #[.bool x1_1, .slice x1_2 x1_3 x1_4, .bool x1_5, .slice x1_6 x1_7 x1_8]) (r 1)) (f2 : FR w (.agg #[.bool x2_1, .slice x2_2 x2_3 x2_4, .bool x2_5, .slice x2_6 x2_7 x2_8]) (r 2)) (f3 : FR w (.agg #[.bool x3_1, .slice x3_2 x3_3 x3_4, .bool x3_5, .slice x3_6 x3_7 x3_8]) (r 3)) : QF w #[.int .i64 k0, .int .i64 k1, .int .i64 k2, .int .i64 k3, .bool x0_1, .slice x0_2 x0_3 x0_4, .bool x0_5, .slice x0_6 x0_7 x0_8, .bool x1_1, .slice x1_2 x1_3 x1_4, .bool x1_5, .slice x1_6 x1_7 x1_8, .bool x2_1, .slice x2_2 x2_3 x2_4, .bool x2_5, .slice x2_6 x2_7 x2_8, .bool x3_1, .slice x3_2 x3_3 x3_4, .bool x3_5, .slice x3_6 x3_7 x3_8] k r := by
 obtain ⟨rfl, rfl, rfl, rfl⟩ := e
 refine ⟨rfl, by simp [Value.oneCell'], fun i hi => ?_, fun i hi => ?_⟩
 · rcases (show i = 0 ∨ i = 1 ∨ i = 2 ∨ i = 3 by omega) with rfl | rfl | rfl | rfl <;> rfl
 ·
  rcases (show i = 0 ∨ i = 1 ∨ i = 2 ∨ i = 3 by omega) with rfl | rfl | rfl | rfl
  · exact ⟨_, _, _, _, _, _, _, _, rfl, rfl, rfl, rfl, f0⟩
  · exact ⟨_, _, _, _, _, _, _, _, rfl, rfl, rfl, rfl, f1⟩
  · exact ⟨_, _, _, _, _, _, _, _, rfl, rfl, rfl, rfl, f2⟩
  · exact ⟨_, _, _, _, _, _, _, _, rfl, rfl, rfl, rfl, f3⟩
theorem qx_of {x0_1 x0_5 x1_1 x1_5 x2_1 x2_5 x3_1 x3_5 : Bool} {x0_2 x0_6 x1_2 x1_6 x2_2 x2_6 x3_2 x3_6 : Option Addr} {x0_3 x0_4 x0_7 x0_8 x1_3 x1_4 x1_7 x1_8 x2_3 x2_4 x2_7 x2_8 x3_3 x3_4 x3_7 x3_8 : Nat} {w : World} {k0 k1 k2 k3 : Int} {r : Nat → Option Rat} (f0 : FB w (.agg #[.bool x0_1, .slice x0_2 x0_3 x0_4, .bool x0_5, .slice x0_6 x0_7 x0_8]) (r 0)) (f1 : FB w (.agg #[.bool x1_1, .slice x1_2 x1_3 x1_4, .bool x1_5, .slice x1_6 x1_7 x1_8]) (r 1)) (f2 : FB w (.agg #[.bool x2_1, .slice x2_2 x2_3 x2_4, .bool x2_5, .slice x2_6 x2_7 x2_8]) (r 2)) (f3 : FB w (.agg #[.bool x3_1, .slice x3_2 x3_3 x3_4, .bool x3_5, .slice x3_6 x3_7 x3_8]) (r 3)) : QX w #[.int .i64 k0, .int .i64 k1, .int .i64 k2, .int .i64 k3, .bool x0_1, .slice x0_2 x0_3 x0_4, .bool x0_5, .slice x0_6 x0_7 x0_8, .bool x1_1, .slice x1_2 x1_3 x1_4, .bool x1_5, .slice x1_6 x1_7 x1_8, .bool x2_1, .slice x2_2 x2_3 x2_4, .bool x2_5, .slice x2_6 x2_7 x2_8, .bool x3_1, .slice x3_2 x3_3 x3_4, .bool x3_5, .slice x3_6 x3_7 x3_8] r := by
 refine ⟨rfl, by simp [Value.oneCell'], rfl, fun i hi => ?_⟩
 ·
  rcases (show i = 0 ∨ i = 1 ∨ i = 2 ∨ i = 3 by omega) with rfl | rfl | rfl | rfl
  · exact ⟨_, _, _, _, _, _, _, _, rfl, rfl, rfl, rfl, f0⟩
  · exact ⟨_, _, _, _, _, _, _, _, rfl, rfl, rfl, rfl, f1⟩
  · exact ⟨_, _, _, _, _, _, _, _, rfl, rfl, rfl, rfl, f2⟩
  · exact ⟨_, _, _, _, _, _, _, _, rfl, rfl, rfl, rfl, f3⟩
theorem bad_zeroQ (w : World) : FB w (.agg #[.bool false, .slice none 0 0, .bool false, .slice none 0 0]) none :=
 ⟨_, _, _, _, [], [], rfl, Lim.nil w, Lim.nil w, fun h => h.2.2.2.1 rfl⟩
theorem qx_zero (w : World) : QX w #[.int .i64 0, .int .i64 0, .int .i64 0, .int .i64 0, .bool false, .slice none 0 0, .bool false, .slice none 0 0, .bool false, .slice none 0 0, .bool false, .slice none 0 0, .bool false, .slice none 0 0, .bool false, .slice none 0 0, .bool false, .slice none 0 0, .bool false, .slice none 0 0] (fun _ => none) :=
 qx_of (bad_zeroQ w) (bad_zeroQ w) (bad_zeroQ w) (bad_zeroQ w)
theorem sq_ok : NumOk sqA := ⟨by decide +kernel, by decide +kernel, by decide +kernel, by decide +kernel, by decide +kernel⟩
theorem tw_ok : NumOk twA := ⟨by decide +kernel, by decide +kernel, by decide +kernel, by decide +kernel, by decide +kernel⟩
theorem made_get2 {n k : Nat} (hk : k < n) : (madeCells #[.int .i64 0, .int .i64 0] n)[k]? = some (.int .i64 0) := by
 have hs : (madeCells #[Value.int .i64 0, .int .i64 0] n).size = n := size_madeCells _ _
 rw [Array.getElem?_eq_getElem (by omega)]
 have hm := Array.getElem_mem (xs := madeCells #[Value.int .i64 0, .int .i64 0] n) (i := k) (by omega)
 generalize (madeCells #[Value.int .i64 0, .int .i64 0] n)[k] = z at *
 unfold madeCells at hm
 rw [Array.mem_map] at hm
 obtain ⟨a, -, e⟩ := hm
 rw [← e, show (#[Value.int .i64 0, .int .i64 0] : Array Value).size = 2 from rfl]
 rcases (show a % 2 = 0 ∨ a % 2 = 1 by omega) with h | h <;> rw [h] <;> rfl
theorem pts_sq {w : World} {g : Nat} {t : TypeId} (hb : Blk w g t #[.int .i64 1, .int .i64 1, .int .i64 0, .int .i64 0, .int .i64 1, .int .i64 0, .int .i64 0, .int .i64 1]) : Pts w (.slice (some ⟨g, 0, none⟩) 4 4) [(1, 1), (0, 0), (1, 0), (0, 1)] := by
 refine ⟨fun k => ?_, some ⟨g, 0, none⟩, 4, rfl, by decide, fun _ => ⟨g, 0, rfl, hb.lt, fun t ht => ?_⟩⟩
 ·
  rcases (show k = 0 ∨ k = 1 ∨ k = 2 ∨ k = 3 ∨ 4 ≤ k by omega) with rfl | rfl | rfl | rfl | h
  · decide
  · decide
  · decide
  · decide
  · rw [show ([(1, 1), (0, 0), (1, 0), (0, 1)] : PL).getD k (0, 0) = (0, 0) by simp [List.getD, List.getElem?_eq_none, h]]; decide
 ·
  have ht' : t < 4 := ht
  rcases (show t = 0 ∨ t = 1 ∨ t = 2 ∨ t = 3 by omega) with rfl | rfl | rfl | rfl
  · exact ⟨hb.c 0 rfl, hb.c 1 rfl⟩
  · exact ⟨hb.c 2 rfl, hb.c 3 rfl⟩
  · exact ⟨hb.c 4 rfl, hb.c 5 rfl⟩
  · exact ⟨hb.c 6 rfl, hb.c 7 rfl⟩
theorem pts_tw {w : World} {g : Nat} {t : TypeId} (hb : Blk w g t #[.int .i64 0, .int .i64 0, .int .i64 5, .int .i64 0, .int .i64 0, .int .i64 0, .int .i64 5, .int .i64 0]) : Pts w (.slice (some ⟨g, 0, none⟩) 4 4) [(0, 0), (5, 0), (0, 0), (5, 0)] := by
 refine ⟨fun k => ?_, some ⟨g, 0, none⟩, 4, rfl, by decide, fun _ => ⟨g, 0, rfl, hb.lt, fun t ht => ?_⟩⟩
 ·
  rcases (show k = 0 ∨ k = 1 ∨ k = 2 ∨ k = 3 ∨ 4 ≤ k by omega) with rfl | rfl | rfl | rfl | h
  · decide
  · decide
  · decide
  · decide
  · rw [show ([(0, 0), (5, 0), (0, 0), (5, 0)] : PL).getD k (0, 0) = (0, 0) by simp [List.getD, List.getElem?_eq_none, h]]; decide
 ·
  have ht' : t < 4 := ht
  rcases (show t = 0 ∨ t = 1 ∨ t = 2 ∨ t = 3 by omega) with rfl | rfl | rfl | rfl
  · exact ⟨hb.c 0 rfl, hb.c 1 rfl⟩
  · exact ⟨hb.c 2 rfl, hb.c 3 rfl⟩
  · exact ⟨hb.c 4 rfl, hb.c 5 rfl⟩
  · exact ⟨hb.c 6 rfl, hb.c 7 rfl⟩
theorem pts_far {w : World} {g : Nat} {t : TypeId} (hb : Blk w g t #[.int .i64 1048577, .int .i64 0]) : Pts w (.slice (some ⟨g, 0, none⟩) 1 1) [(1048577, 0)] := by
 refine ⟨fun k => ?_, some ⟨g, 0, none⟩, 1, rfl, by decide, fun _ => ⟨g, 0, rfl, hb.lt, fun t ht => ?_⟩⟩
 ·
  rcases (show k = 0 ∨ 1 ≤ k by omega) with rfl | h
  · decide
  · rw [show ([(1048577, 0)] : PL).getD k (0, 0) = (0, 0) by simp [List.getD, List.getElem?_eq_none, h]]; decide
 ·
  have ht' : t < 1 := ht
  rcases (show t = 0 by omega) with rfl
  · exact ⟨hb.c 0 rfl, hb.c 1 rfl⟩
theorem pts_zeros {w : World} {g n : Nat} {t : TypeId} (hn : 0 < n) (hb : Blk w g t (madeCells #[.int .i64 0, .int .i64 0] (n * 2))) : Pts w (.slice (some ⟨g, 0, none⟩) n n) (List.replicate n (0, 0)) := by
 refine ⟨fun k => ?_, some ⟨g, 0, none⟩, n, by rw [List.length_replicate], by rw [List.length_replicate]; exact Nat.le_refl _, fun _ => ⟨g, 0, rfl, hb.lt, fun t ht => ?_⟩⟩
 ·
  have : (List.replicate n ((0 : Int), (0 : Int))).getD k (0, 0) = (0, 0) := by
   rw [List.getD_eq_getElem?_getD, List.getElem?_replicate]; split <;> rfl
  rw [this]; decide
 ·
  rw [List.length_replicate] at ht
  have : (List.replicate n ((0 : Int), (0 : Int))).getD t (0, 0) = (0, 0) := by
   rw [List.getD_eq_getElem?_getD, List.getElem?_replicate]; split <;> rfl
  rw [this]
  exact ⟨(hb.cell _).trans (made_get2 (by omega)), (hb.cell _).trans (made_get2 (by omega))⟩
theorem mk_pts (n : Nat) (h : n ≤ 1000) (w : World) : (Instr.makeSlice 24 (.int .i64 (n : Int)) (.int .i64 (n : Int))).run Tryz.prog w = .ok (.slice (some ⟨w.heap.size, 0, none⟩) n n) (w.alloc (.cells (madeCells #[.int .i64 0, .int .i64 0] (n * 2)) 23)) := by
 obtain ⟨ie, hie⟩ : ∃ ie, Tryz.prog.info? 23 = some ie := Option.isSome_iff_exists.1 (by kernel_rfl)
 have h1 : (Tryz.prog.info? 23).map (fun i => (i.zero, i.size, i.bytes)) = some (some (.agg #[.int .i64 0, .int .i64 0]), 2, 16) := by kernel_rfl
 rw [hie] at h1
 simp only [Option.map_some, Option.some.injEq, Prod.mk.injEq] at h1
 obtain ⟨hz, hs, hb⟩ := h1
 have := run_make (P := Tryz.prog) w 24 23 ie _ Tryz.underlying24 hie hz .i64 .i64 n n (by omega) (by omega) (by rw [hb]; omega) (by omega)
 rw [hs] at this
 exact this
theorem c1 {v : Value} (w : World) (h : Pts w v sqL) : Calls Tryz.prog 5 #[v, .agg #[.int .i64 3, .int .i64 2, .int .i64 1, .int .i64 0]] w fun e w' => ∃ (y0_1 : Bool) (y0_2 : Option Addr) (y0_3 y0_4 : Nat) (y0_5 : Bool) (y0_6 : Option Addr) (y0_7 y0_8 : Nat) (y1_1 : Bool) (y1_2 : Option Addr) (y1_3 y1_4 : Nat) (y1_5 : Bool) (y1_6 : Option Addr) (y1_7 y1_8 : Nat) (y2_1 : Bool) (y2_2 : Option Addr) (y2_3 y2_4 : Nat) (y2_5 : Bool) (y2_6 : Option Addr) (y2_7 y2_8 : Nat) (y3_1 : Bool) (y3_2 : Option Addr) (y3_3 y3_4 : Nat) (y3_5 : Bool) (y3_6 : Option Addr) (y3_7 y3_8 : Nat), e = .returned (.tuple #[.agg #[.int .i64 sqA.k0, .int .i64 sqA.k1, .int .i64 sqA.k2, .int .i64 sqA.k3, .bool y0_1, .slice y0_2 y0_3 y0_4, .bool y0_5, .slice y0_6 y0_7 y0_8, .bool y1_1, .slice y1_2 y1_3 y1_4, .bool y1_5, .slice y1_6 y1_7 y1_8, .bool y2_1, .slice y2_2 y2_3 y2_4, .bool y2_5, .slice y2_6 y2_7 y2_8, .bool y3_1, .slice y3_2 y3_3 y3_4, .bool y3_5, .slice y3_6 y3_7 y3_8], .int .i64 0]) ∧ FR w' (.agg #[.bool y0_1, .slice y0_2 y0_3 y0_4, .bool y0_5, .slice y0_6 y0_7 y0_8]) (rA sqA 0) ∧ FR w' (.agg #[.bool y1_1, .slice y1_2 y1_3 y1_4, .bool y1_5, .slice y1_6 y1_7 y1_8]) (rA sqA 1) ∧ FR w' (.agg #[.bool y2_1, .slice y2_2 y2_3 y2_4, .bool y2_5, .slice y2_6 y2_7 y2_8]) (rA sqA 2) ∧ FR w' (.agg #[.bool y3_1, .slice y3_2 y3_3 y3_4, .bool y3_5, .slice y3_6 y3_7 y3_8]) (rA sqA 3) ∧ Steps w w' := by
 refine (qcode k3210 w h (by decide) (fun i => by unfold k3210; (try split) <;> decide)).mono ?_
 rintro e w2 ⟨u, rfl, h1, h2⟩
 rw [code_sq] at h1 ⊢
 obtain ⟨y0_1, y0_2, y0_3, y0_4, y0_5, y0_6, y0_7, y0_8, y1_1, y1_2, y1_3, y1_4, y1_5, y1_6, y1_7, y1_8, y2_1, y2_2, y2_3, y2_4, y2_5, y2_6, y2_7, y2_8, y3_1, y3_2, y3_3, y3_4, y3_5, y3_6, y3_7, y3_8, rfl, f0, f1, f2, f3⟩ := h1.frs (by decide +kernel) sq_ok
 exact ⟨_, _, _, _, _, _, _, _, _, _, _, _, _, _, _, _, _, _, _, _, _, _, _, _, _, _, _, _, _, _, _, _, rfl, f0, f1, f2, f3, h2⟩
theorem c2 {v : Value} (w : World) (h : Pts w v twL) : Calls Tryz.prog 5 #[v, .agg #[.int .i64 0, .int .i64 1, .int .i64 2, .int .i64 3]] w fun e w' => ∃ (y0_1 : Bool) (y0_2 : Option Addr) (y0_3 y0_4 : Nat) (y0_5 : Bool) (y0_6 : Option Addr) (y0_7 y0_8 : Nat) (y1_1 : Bool) (y1_2 : Option Addr) (y1_3 y1_4 : Nat) (y1_5 : Bool) (y1_6 : Option Addr) (y1_7 y1_8 : Nat) (y2_1 : Bool) (y2_2 : Option Addr) (y2_3 y2_4 : Nat) (y2_5 : Bool) (y2_6 : Option Addr) (y2_7 y2_8 : Nat) (y3_1 : Bool) (y3_2 : Option Addr) (y3_3 y3_4 : Nat) (y3_5 : Bool) (y3_6 : Option Addr) (y3_7 y3_8 : Nat), e = .returned (.tuple #[.agg #[.int .i64 twA.k0, .int .i64 twA.k1, .int .i64 twA.k2, .int .i64 twA.k3, .bool y0_1, .slice y0_2 y0_3 y0_4, .bool y0_5, .slice y0_6 y0_7 y0_8, .bool y1_1, .slice y1_2 y1_3 y1_4, .bool y1_5, .slice y1_6 y1_7 y1_8, .bool y2_1, .slice y2_2 y2_3 y2_4, .bool y2_5, .slice y2_6 y2_7 y2_8, .bool y3_1, .slice y3_2 y3_3 y3_4, .bool y3_5, .slice y3_6 y3_7 y3_8], .int .i64 0]) ∧ FR w' (.agg #[.bool y0_1, .slice y0_2 y0_3 y0_4, .bool y0_5, .slice y0_6 y0_7 y0_8]) (rA twA 0) ∧ FR w' (.agg #[.bool y1_1, .slice y1_2 y1_3 y1_4, .bool y1_5, .slice y1_6 y1_7 y1_8]) (rA twA 1) ∧ FR w' (.agg #[.bool y2_1, .slice y2_2 y2_3 y2_4, .bool y2_5, .slice y2_6 y2_7 y2_8]) (rA twA 2) ∧ FR w' (.agg #[.bool y3_1, .slice y3_2 y3_3 y3_4, .bool y3_5, .slice y3_6 y3_7 y3_8]) (rA twA 3) ∧ Steps w w' := by
 refine (qcode k0123 w h (by decide) (fun i => by unfold k0123; (try split) <;> decide)).mono ?_
 rintro e w2 ⟨u, rfl, h1, h2⟩
 rw [code_tw] at h1 ⊢
 obtain ⟨y0_1, y0_2, y0_3, y0_4, y0_5, y0_6, y0_7, y0_8, y1_1, y1_2, y1_3, y1_4, y1_5, y1_6, y1_7, y1_8, y2_1, y2_2, y2_3, y2_4, y2_5, y2_6, y2_7, y2_8, y3_1, y3_2, y3_3, y3_4, y3_5, y3_6, y3_7, y3_8, rfl, f0, f1, f2, f3⟩ := h1.frs (by decide +kernel) tw_ok
 exact ⟨_, _, _, _, _, _, _, _, _, _, _, _, _, _, _, _, _, _, _, _, _, _, _, _, _, _, _, _, _, _, _, _, rfl, f0, f1, f2, f3, h2⟩
theorem c3 {v : Value} (w : World) (h : Pts w v (List.replicate 201 (0, 0))) : Calls Tryz.prog 5 #[v, .agg #[.int .i64 0, .int .i64 1, .int .i64 2, .int .i64 3]] w fun e w' => ∃ (y0_1 : Bool) (y0_2 : Option Addr) (y0_3 y0_4 : Nat) (y0_5 : Bool) (y0_6 : Option Addr) (y0_7 y0_8 : Nat) (y1_1 : Bool) (y1_2 : Option Addr) (y1_3 y1_4 : Nat) (y1_5 : Bool) (y1_6 : Option Addr) (y1_7 y1_8 : Nat) (y2_1 : Bool) (y2_2 : Option Addr) (y2_3 y2_4 : Nat) (y2_5 : Bool) (y2_6 : Option Addr) (y2_7 y2_8 : Nat) (y3_1 : Bool) (y3_2 : Option Addr) (y3_3 y3_4 : Nat) (y3_5 : Bool) (y3_6 : Option Addr) (y3_7 y3_8 : Nat), e = .returned (.tuple #[.agg #[.int .i64 noArr.k0, .int .i64 noArr.k1, .int .i64 noArr.k2, .int .i64 noArr.k3, .bool y0_1, .slice y0_2 y0_3 y0_4, .bool y0_5, .slice y0_6 y0_7 y0_8, .bool y1_1, .slice y1_2 y1_3 y1_4, .bool y1_5, .slice y1_6 y1_7 y1_8, .bool y2_1, .slice y2_2 y2_3 y2_4, .bool y2_5, .slice y2_6 y2_7 y2_8, .bool y3_1, .slice y3_2 y3_3 y3_4, .bool y3_5, .slice y3_6 y3_7 y3_8], .int .i64 4]) ∧ Steps w w' := by
 refine (qcode k0123 w h (by rw [List.length_replicate]; decide) (fun i => by unfold k0123; (try split) <;> decide)).mono ?_
 rintro e w2 ⟨u, rfl, h1, h2⟩
 rw [code_many] at h1 ⊢
 obtain ⟨y0_1, y0_2, y0_3, y0_4, y0_5, y0_6, y0_7, y0_8, y1_1, y1_2, y1_3, y1_4, y1_5, y1_6, y1_7, y1_8, y2_1, y2_2, y2_3, y2_4, y2_5, y2_6, y2_7, y2_8, y3_1, y3_2, y3_3, y3_4, y3_5, y3_6, y3_7, y3_8, rfl⟩ := h1.cells
 exact ⟨_, _, _, _, _, _, _, _, _, _, _, _, _, _, _, _, _, _, _, _, _, _, _, _, _, _, _, _, _, _, _, _, rfl, h2⟩
theorem c4 {v : Value} (w : World) (h : Pts w v [(1048577, 0)]) : Calls Tryz.prog 5 #[v, .agg #[.int .i64 0, .int .i64 0, .int .i64 0, .int .i64 0]] w fun e w' => ∃ (y0_1 : Bool) (y0_2 : Option Addr) (y0_3 y0_4 : Nat) (y0_5 : Bool) (y0_6 : Option Addr) (y0_7 y0_8 : Nat) (y1_1 : Bool) (y1_2 : Option Addr) (y1_3 y1_4 : Nat) (y1_5 : Bool) (y1_6 : Option Addr) (y1_7 y1_8 : Nat) (y2_1 : Bool) (y2_2 : Option Addr) (y2_3 y2_4 : Nat) (y2_5 : Bool) (y2_6 : Option Addr) (y2_7 y2_8 : Nat) (y3_1 : Bool) (y3_2 : Option Addr) (y3_3 y3_4 : Nat) (y3_5 : Bool) (y3_6 : Option Addr) (y3_7 y3_8 : Nat), e = .returned (.tuple #[.agg #[.int .i64 noArr.k0, .int .i64 noArr.k1, .int .i64 noArr.k2, .int .i64 noArr.k3, .bool y0_1, .slice y0_2 y0_3 y0_4, .bool y0_5, .slice y0_6 y0_7 y0_8, .bool y1_1, .slice y1_2 y1_3 y1_4, .bool y1_5, .slice y1_6 y1_7 y1_8, .bool y2_1, .slice y2_2 y2_3 y2_4, .bool y2_5, .slice y2_6 y2_7 y2_8, .bool y3_1, .slice y3_2 y3_3 y3_4, .bool y3_5, .slice y3_6 y3_7 y3_8], .int .i64 8]) ∧ Steps w w' := by
 refine (qcode k0000 w h (by decide) (fun i => by unfold k0000; (try split) <;> decide)).mono ?_
 rintro e w2 ⟨u, rfl, h1, h2⟩
 rw [code_far] at h1 ⊢
 obtain ⟨y0_1, y0_2, y0_3, y0_4, y0_5, y0_6, y0_7, y0_8, y1_1, y1_2, y1_3, y1_4, y1_5, y1_6, y1_7, y1_8, y2_1, y2_2, y2_3, y2_4, y2_5, y2_6, y2_7, y2_8, y3_1, y3_2, y3_3, y3_4, y3_5, y3_6, y3_7, y3_8, rfl⟩ := h1.cells
 exact ⟨_, _, _, _, _, _, _, _, _, _, _, _, _, _, _, _, _, _, _, _, _, _, _, _, _, _, _, _, _, _, _, _, rfl, h2⟩
theorem c5 {v : Value} (w : World) (h : Pts w v sqL) : Calls Tryz.prog 5 #[v, .agg #[.int .i64 0, .int .i64 1, .int .i64 2, .int .i64 2]] w fun e w' => ∃ (y0_1 : Bool) (y0_2 : Option Addr) (y0_3 y0_4 : Nat) (y0_5 : Bool) (y0_6 : Option Addr) (y0_7 y0_8 : Nat) (y1_1 : Bool) (y1_2 : Option Addr) (y1_3 y1_4 : Nat) (y1_5 : Bool) (y1_6 : Option Addr) (y1_7 y1_8 : Nat) (y2_1 : Bool) (y2_2 : Option Addr) (y2_3 y2_4 : Nat) (y2_5 : Bool) (y2_6 : Option Addr) (y2_7 y2_8 : Nat) (y3_1 : Bool) (y3_2 : Option Addr) (y3_3 y3_4 : Nat) (y3_5 : Bool) (y3_6 : Option Addr) (y3_7 y3_8 : Nat), e = .returned (.tuple #[.agg #[.int .i64 noArr.k0, .int .i64 noArr.k1, .int .i64 noArr.k2, .int .i64 noArr.k3, .bool y0_1, .slice y0_2 y0_3 y0_4, .bool y0_5, .slice y0_6 y0_7 y0_8, .bool y1_1, .slice y1_2 y1_3 y1_4, .bool y1_5, .slice y1_6 y1_7 y1_8, .bool y2_1, .slice y2_2 y2_3 y2_4, .bool y2_5, .slice y2_6 y2_7 y2_8, .bool y3_1, .slice y3_2 y3_3 y3_4, .bool y3_5, .slice y3_6 y3_7 y3_8], .int .i64 2]) ∧ Steps w w' := by
 refine (qcode k0122 w h (by decide) (fun i => by unfold k0122; (try split) <;> decide)).mono ?_
 rintro e w2 ⟨u, rfl, h1, h2⟩
 rw [code_22] at h1 ⊢
 obtain ⟨y0_1, y0_2, y0_3, y0_4, y0_5, y0_6, y0_7, y0_8, y1_1, y1_2, y1_3, y1_4, y1_5, y1_6, y1_7, y1_8, y2_1, y2_2, y2_3, y2_4, y2_5, y2_6, y2_7, y2_8, y3_1, y3_2, y3_3, y3_4, y3_5, y3_6, y3_7, y3_8, rfl⟩ := h1.cells
 exact ⟨_, _, _, _, _, _, _, _, _, _, _, _, _, _, _, _, _, _, _, _, _, _, _, _, _, _, _, _, _, _, _, _, rfl, h2⟩
theorem c6 {v : Value} (w : World) (h : Pts w v sqL) : Calls Tryz.prog 5 #[v, .agg #[.int .i64 0, .int .i64 1, .int .i64 2, .int .i64 4]] w fun e w' => ∃ (y0_1 : Bool) (y0_2 : Option Addr) (y0_3 y0_4 : Nat) (y0_5 : Bool) (y0_6 : Option Addr) (y0_7 y0_8 : Nat) (y1_1 : Bool) (y1_2 : Option Addr) (y1_3 y1_4 : Nat) (y1_5 : Bool) (y1_6 : Option Addr) (y1_7 y1_8 : Nat) (y2_1 : Bool) (y2_2 : Option Addr) (y2_3 y2_4 : Nat) (y2_5 : Bool) (y2_6 : Option Addr) (y2_7 y2_8 : Nat) (y3_1 : Bool) (y3_2 : Option Addr) (y3_3 y3_4 : Nat) (y3_5 : Bool) (y3_6 : Option Addr) (y3_7 y3_8 : Nat), e = .returned (.tuple #[.agg #[.int .i64 noArr.k0, .int .i64 noArr.k1, .int .i64 noArr.k2, .int .i64 noArr.k3, .bool y0_1, .slice y0_2 y0_3 y0_4, .bool y0_5, .slice y0_6 y0_7 y0_8, .bool y1_1, .slice y1_2 y1_3 y1_4, .bool y1_5, .slice y1_6 y1_7 y1_8, .bool y2_1, .slice y2_2 y2_3 y2_4, .bool y2_5, .slice y2_6 y2_7 y2_8, .bool y3_1, .slice y3_2 y3_3 y3_4, .bool y3_5, .slice y3_6 y3_7 y3_8], .int .i64 2]) ∧ Steps w w' := by
 refine (qcode k0124 w h (by decide) (fun i => by unfold k0124; (try split) <;> decide)).mono ?_
 rintro e w2 ⟨u, rfl, h1, h2⟩
 rw [code_24] at h1 ⊢
 obtain ⟨y0_1, y0_2, y0_3, y0_4, y0_5, y0_6, y0_7, y0_8, y1_1, y1_2, y1_3, y1_4, y1_5, y1_6, y1_7, y1_8, y2_1, y2_2, y2_3, y2_4, y2_5, y2_6, y2_7, y2_8, y3_1, y3_2, y3_3, y3_4, y3_5, y3_6, y3_7, y3_8, rfl⟩ := h1.cells
 exact ⟨_, _, _, _, _, _, _, _, _, _, _, _, _, _, _, _, _, _, _, _, _, _, _, _, _, _, _, _, _, _, _, _, rfl, h2⟩
theorem c7 {v : Value} (w : World) (h : Pts w v (List.replicate 4 (0, 0))) : Calls Tryz.prog 5 #[v, .agg #[.int .i64 0, .int .i64 1, .int .i64 2, .int .i64 3]] w fun e w' => ∃ (y0_1 : Bool) (y0_2 : Option Addr) (y0_3 y0_4 : Nat) (y0_5 : Bool) (y0_6 : Option Addr) (y0_7 y0_8 : Nat) (y1_1 : Bool) (y1_2 : Option Addr) (y1_3 y1_4 : Nat) (y1_5 : Bool) (y1_6 : Option Addr) (y1_7 y1_8 : Nat) (y2_1 : Bool) (y2_2 : Option Addr) (y2_3 y2_4 : Nat) (y2_5 : Bool) (y2_6 : Option Addr) (y2_7 y2_8 : Nat) (y3_1 : Bool) (y3_2 : Option Addr) (y3_3 y3_4 : Nat) (y3_5 : Bool) (y3_6 : Option Addr) (y3_7 y3_8 : Nat), e = .returned (.tuple #[.agg #[.int .i64 noArr.k0, .int .i64 noArr.k1, .int .i64 noArr.k2, .int .i64 noArr.k3, .bool y0_1, .slice y0_2 y0_3 y0_4, .bool y0_5, .slice y0_6 y0_7 y0_8, .bool y1_1, .slice y1_2 y1_3 y1_4, .bool y1_5, .slice y1_6 y1_7 y1_8, .bool y2_1, .slice y2_2 y2_3 y2_4, .bool y2_5, .slice y2_6 y2_7 y2_8, .bool y3_1, .slice y3_2 y3_3 y3_4, .bool y3_5, .slice y3_6 y3_7 y3_8], .int .i64 18]) ∧ Steps w w' := by
 refine (qcode k0123 w h (by rw [List.length_replicate]; decide) (fun i => by unfold k0123; (try split) <;> decide)).mono ?_
 rintro e w2 ⟨u, rfl, h1, h2⟩
 rw [code_eq] at h1 ⊢
 obtain ⟨y0_1, y0_2, y0_3, y0_4, y0_5, y0_6, y0_7, y0_8, y1_1, y1_2, y1_3, y1_4, y1_5, y1_6, y1_7, y1_8, y2_1, y2_2, y2_3, y2_4, y2_5, y2_6, y2_7, y2_8, y3_1, y3_2, y3_3, y3_4, y3_5, y3_6, y3_7, y3_8, rfl⟩ := h1.cells
 exact ⟨_, _, _, _, _, _, _, _, _, _, _, _, _, _, _, _, _, _, _, _, _, _, _, _, _, _, _, _, _, _, _, _, rfl, h2⟩
theorem infoPq : ∃ ie z, Tryz.prog.info? 23 = some ie ∧ ie.size = 2 ∧ ie.bytes = 16 ∧ ie.zero = some z ∧ z.cells.size = 2 := by
 obtain ⟨ie, hie⟩ : ∃ ie, Tryz.prog.info? 23 = some ie := Option.isSome_iff_exists.1 (by kernel_rfl)
 have h1 : (Tryz.prog.info? 23).map (·.size) = some 2 := by kernel_rfl
 have h2 : ((Tryz.prog.info? 23).bind (·.zero)).map (·.cells.size) = some 2 := by kernel_rfl
 have h3 : (Tryz.prog.info? 23).map (·.bytes) = some 16 := by kernel_rfl
 rw [hie] at h1 h2 h3
 simp only [Option.map_some, Option.some.injEq, Option.bind_some] at h1 h2 h3
 obtain ⟨z, hz, e⟩ := Option.map_eq_some_iff.1 h2
 exact ⟨ie, z, hie, h1, h3, hz, e⟩
def z8 : List Value := [.int .i64 0, .int .i64 0, .int .i64 0, .int .i64 0, .int .i64 0, .int .i64 0, .int .i64 0, .int .i64 0]
def s8 : List Value := [.int .i64 1, .int .i64 1, .int .i64 0, .int .i64 0, .int .i64 1, .int .i64 0, .int .i64 0, .int .i64 1]
theorem pts_44 {w : World} {g c : Nat} {t : TypeId} {zc : Array Value} (hc : 8 ≤ c) (hb : Blk w g t (z8.toArray ++ s8.toArray ++ zc)) : Pts w (.slice (some ⟨g, 0, none⟩) 8 c) (List.replicate 4 (0, 0) ++ sqL) := by
 have hx : ∀ j, j < 16 → w.cell? ⟨g, j, none⟩ = (z8.toArray ++ s8.toArray)[j]? := fun j hj => by
  rw [hb.cell, Array.getElem?_append_left (by simp [z8, s8]; omega)]
 refine ⟨fun k => ?_, some ⟨g, 0, none⟩, c, rfl, hc, fun _ => ⟨g, 0, rfl, hb.lt, fun t ht => ?_⟩⟩
 ·
  rcases (show k = 0 ∨ k = 1 ∨ k = 2 ∨ k = 3 ∨ k = 4 ∨ k = 5 ∨ k = 6 ∨ k = 7 ∨ 8 ≤ k by omega) with rfl | rfl | rfl | rfl | rfl | rfl | rfl | rfl | h
  · decide
  · decide
  · decide
  · decide
  · decide
  · decide
  · decide
  · decide
  · rw [show ((List.replicate 4 (0, 0) ++ sqL : PL)).getD k (0, 0) = (0, 0) by simp [List.getD, List.getElem?_eq_none, h, sqL]]; decide
 ·
  have ht' : t < 8 := ht
  rcases (show t = 0 ∨ t = 1 ∨ t = 2 ∨ t = 3 ∨ t = 4 ∨ t = 5 ∨ t = 6 ∨ t = 7 by omega) with rfl | rfl | rfl | rfl | rfl | rfl | rfl | rfl
  · exact ⟨hx 0 (by omega), hx 1 (by omega)⟩
  · exact ⟨hx 2 (by omega), hx 3 (by omega)⟩
  · exact ⟨hx 4 (by omega), hx 5 (by omega)⟩
  · exact ⟨hx 6 (by omega), hx 7 (by omega)⟩
  · exact ⟨hx 8 (by omega), hx 9 (by omega)⟩
  · exact ⟨hx 10 (by omega), hx 11 (by omega)⟩
  · exact ⟨hx 12 (by omega), hx 13 (by omega)⟩
  · exact ⟨hx 14 (by omega), hx 15 (by omega)⟩
theorem app_pts44 {ops : Array Oper} {rest : List Oper} {o : Oper} {a : Act} {w : World} {Q : Exit → Act → World → Prop} (hgd : o.guard = none) (s x : Operand) (ho : o.op = .call { callee := .builtin .append, args := #[s, x], argTypes := #[24, 24] })
  (g g2 : Nat) (hs : a.eval s = .slice (some ⟨g, 0, none⟩) 4 4) (hb : Blk w g 23 (madeCells #[.int .i64 0, .int .i64 0] (4 * 2))) (hx : a.eval x = .slice (some ⟨g2, 0, none⟩) 4 4) (hb2 : Blk w g2 23 #[.int .i64 1, .int .i64 1, .int .i64 0, .int .i64 0, .int .i64 1, .int .i64 0, .int .i64 0, .int .i64 1])
  (h : ∀ g' c w', Pts w' (.slice g' 8 c) (List.replicate 4 (0, 0) ++ sqL) → Steps w w' → wpList Tryz.prog ops Q rest (a.put o.dst (.slice g' 8 c)) w') : wpList Tryz.prog ops Q (o :: rest) a w := by
 obtain ⟨ie, z, h1, h2, h3, h4, h5⟩ := infoPq
 refine wpList_plain hgd fun K hK' => ?_
 have hc0 : ∀ j u, z8[j]? = some u → w.cell? ((⟨g, 0, none⟩ : Addr).add j) = some u := fun j u hj => by
  have hj8 : j < 8 := by
   rcases Nat.lt_or_ge j 8 with h | h
   · exact h
   · rw [List.getElem?_eq_none (by simpa [z8] using h)] at hj; cases hj
  rw [show (⟨g, 0, none⟩ : Addr).add j = ⟨g, 0 + j, none⟩ from Addr.add_lit .., Nat.zero_add, hb.cell, made_get2 (by omega), ← hj]
  rcases (show j = 0 ∨ j = 1 ∨ j = 2 ∨ j = 3 ∨ j = 4 ∨ j = 5 ∨ j = 6 ∨ j = 7 by omega) with rfl | rfl | rfl | rfl | rfl | rfl | rfl | rfl <;> rfl
 have hc1 : ∀ j u, s8[j]? = some u → w.cell? ((⟨g2, 0, none⟩ : Addr).add j) = some u := fun j u hj => by
  rw [show (⟨g2, 0, none⟩ : Addr).add j = ⟨g2, 0 + j, none⟩ from Addr.add_lit .., Nat.zero_add, hb2.cell, ← hj]
  simp [s8]
 have hr := run_append_grow (P := Tryz.prog) w 24 o.type 23 ie z Tryz.underlying24 h1 h4 ⟨g, 0, none⟩ 4 4 z8 (by rw [h2]; rfl) hc0 ⟨g2, 0, none⟩ 4 4 s8 (by rw [h2]; rfl) hc1 (by omega) (by omega) (growslice_fits (by omega) (by rw [h3]; omega))
 have hge := grownCap_ge w (4 + 4) 4 23
 unfold Oper.wp
 simp [execOp, ho, resolve, invoke, builtin, hs, hx, hr, Result.andThen]
 exact hK' _ _ (h _ _ _ (pts_44 hge (heap_alloc_new w.drew _)) (Below.alloc (show Below w.heap.size w w.drew from belowB) (Nat.le_refl _) _))
theorem wp_build_big {P : Program} {o : Oper} {a : Act} {w : World} {K : Act → World → Prop} {Q : Exit → Act → World → Prop} (t : TypeId) (parts : Array (Nat × Operand)) (ho : o.op = .build t parts) (v : Array Value) (hv : P.built t (parts.map fun (i, x) => (i, a.eval x)).toList = some v)
  (h : K (a.put o.dst (.agg v)) w) : o.wp P a w K Q := wp_build t parts ho (by rw [hv]; rfl) (by rw [hv]; exact h)
def z20 : Array Value := #[.int .i64 0, .int .i64 0, .int .i64 0, .int .i64 0, .bool false, .slice none 0 0, .bool false, .slice none 0 0, .bool false, .slice none 0 0, .bool false, .slice none 0 0, .bool false, .slice none 0 0, .bool false, .slice none 0 0, .bool false, .slice none 0 0, .bool false, .slice none 0 0]
def hfO (i : Nat) : Option Rat := some (halfR i)
def twO (i : Nat) : Option Rat := some (rA twA i)
theorem sz_hf : ∀ i, i < 4 → sz (rq hfO i) 500 := fun i hi => by
 rcases (show i = 0 ∨ i = 1 ∨ i = 2 ∨ i = 3 by omega) with rfl | rfl | rfl | rfl <;> (unfold sz; decide +kernel)
theorem sz_tw : ∀ i, i < 4 → sz (rq twO i) 500 := fun i hi => by
 rcases (show i = 0 ∨ i = 1 ∨ i = 2 ∨ i = 3 by omega) with rfl | rfl | rfl | rfl <;> (unfold sz; decide +kernel)
theorem sz_no : ∀ i, i < 4 → sz (rq (fun _ => none) i) 500 := fun _ _ => show sz (0 : Rat) 500 from by unfold sz; decide +kernel
theorem sz_q0 : sz (rq (fun _ => some (((0 : Int) : Rat) / ((1 : Int) : Rat))) 0) 500 := by unfold sz; decide +kernel
theorem sz_q1 : sz (rq (fun _ => some (((-1 : Int) : Rat) / ((2 : Int) : Rat))) 0) 500 := by unfold sz; decide +kernel
theorem sz_q4 : sz (rq (fun _ => some (((1 : Int) : Rat) / ((4 : Int) : Rat))) 0) 500 := by unfold sz; decide +kernel
theorem nn1 {CB : Array Value} {vf : Value} (w : World) (hb : QX w CB hfO) (hf : FR w vf (((0 : Int) : Rat) / ((1 : Int) : Rat))) : Calls Tryz.prog 8 #[.agg z20, .agg CB, vf] w fun e w2 => e = .returned (.tuple #[.bool false, .int .i64 8]) ∧ Steps w w2 := by
 have := qNear (ra := fun _ => none) (rb := hfO) (o := some (((0 : Int) : Rat) / ((1 : Int) : Rat))) w (qx_zero w) hb hf sz_no sz_hf sz_q0
 rw [near_zero] at this
 exact this
theorem near_neg' : nearS hfO hfO (some (((-1 : Int) : Rat) / ((2 : Int) : Rat))) = (false, 2) := near_neg
theorem nn2 {CA : Array Value} {vf : Value} (w : World) (ha : QX w CA hfO) (hf : FR w vf (((-1 : Int) : Rat) / ((2 : Int) : Rat))) : Calls Tryz.prog 8 #[.agg CA, .agg CA, vf] w fun e w2 => e = .returned (.tuple #[.bool false, .int .i64 2]) ∧ Steps w w2 := by
 have := qNear (ra := hfO) (rb := hfO) (o := some (((-1 : Int) : Rat) / ((2 : Int) : Rat))) w ha ha hf sz_hf sz_hf sz_q1
 rw [near_neg'] at this
 exact this
theorem qsl_zero {w : World} {g c : Nat} {t : TypeId} (n : Nat) (hc : n ≤ c) (hb : Blk w g t (madeCells z20 (n * 20))) : QSl w (.slice (some ⟨g, 0, none⟩) n c) n (fun _ => z20) (fun _ _ => none) := by
 refine ⟨fun _ _ => qx_zero w, _, _, rfl, hc, fun _ => ⟨g, 0, rfl, hb.lt, fun t ht j hj => ?_⟩⟩
 rw [hb.cell, show 0 + t * 20 + j = t * 20 + j by omega]
 have hk : t * 20 + j < n * 20 := by omega
 rw [Array.getElem?_eq_getElem (by rw [size_madeCells]; exact hk)]
 unfold madeCells
 rw [Array.getElem_map, Array.getElem_range, show z20.size = 20 from rfl, show (t * 20 + j) % 20 = j by omega]
 rw [getElem!_pos z20 j (show j < z20.size from hj), Array.getElem?_eq_getElem (show j < z20.size from hj)]
theorem qmk (n : Nat) (h : n ≤ 1000) (w : World) : (Instr.makeSlice 38 (.int .i64 (n : Int)) (.int .i64 (n : Int))).run Tryz.prog w = .ok (.slice (some ⟨w.heap.size, 0, none⟩) n n) (w.alloc (.cells (madeCells z20 (n * 20)) 33)) := by
 obtain ⟨ie, hie⟩ : ∃ ie, Tryz.prog.info? 33 = some ie := Option.isSome_iff_exists.1 (by kernel_rfl)
 have h1 : (Tryz.prog.info? 33).map (fun i => (i.zero, i.size, i.bytes)) = some (some (.agg z20), 20, 288) := by kernel_rfl
 rw [hie] at h1
 simp only [Option.map_some, Option.some.injEq, Prod.mk.injEq] at h1
 obtain ⟨hz, hs, hb⟩ := h1
 have := run_make (P := Tryz.prog) w 38 33 ie _ Tryz.underlying38 hie hz .i64 .i64 n n (by omega) (by omega) (by rw [hb]; omega) (by omega)
 rw [hs] at this
 exact this
theorem qsl_three {w : World} {g c : Nat} {t : TypeId} {CH CT : Array Value} (hc : 3 ≤ c) (h1 : QX w CH hfO) (h2 : QX w CT twO) (hb : Blk w g t (CH ++ CT ++ CH)) : QSl w (.slice (some ⟨g, 0, none⟩) 3 c) 3 (fun t => if t = 1 then CT else CH) R3 := by
 have e1 := h1.1
 have e2 := h2.1
 refine ⟨fun t ht => ?_, _, _, rfl, hc, fun _ => ⟨g, 0, rfl, hb.lt, fun t ht j hj => ?_⟩⟩
 ·
  rcases (show t = 0 ∨ t = 1 ∨ t = 2 by omega) with rfl | rfl | rfl
  · exact h1
  · exact h2
  · exact h1
 ·
  rw [hb.cell]
  rcases (show t = 0 ∨ t = 1 ∨ t = 2 by omega) with rfl | rfl | rfl
  · rw [Array.append_assoc, Array.getElem?_append_left (by omega), show 0 + 0 * 20 + j = j by omega]; rfl
  · rw [Array.getElem?_append_left (by rw [Array.size_append]; omega), Array.getElem?_append_right (by omega), show 0 + 1 * 20 + j - CH.size = j by omega]; rfl
  · rw [Array.getElem?_append_right (by rw [Array.size_append]; omega), Array.size_append, show 0 + 2 * 20 + j - (CH.size + CT.size) = j by omega]; rfl
def IsSl (n : Nat) (x : Value) : Prop := ∃ g : Nat, x = .slice (some ⟨g, 0, none⟩) n n
def IsFd (n : Nat) (e : Int) (x : Value) : Prop := ∃ (a : Option Addr) (c : Nat), x = .tuple #[.slice a n c, .int .i64 e]
theorem sl_eq {a b n m : Nat} (h : Value.slice (some ⟨a, 0, none⟩) n m = .slice (some ⟨b, 0, none⟩) n m) : a = b := by
 injection h with h _ _
 injection h with h
 injection h
theorem fill3 (C D E : Array Value) (h : C.size = 20) (h' : D.size = 20) (h'' : E.size = 20) : Instr.fill (fun i => some (i * 20, 20)) ((Array.range (3 * 20)).map ((#[.int .i64 0, .int .i64 0, .int .i64 0, .int .i64 0, .bool false, .slice none 0 0, .bool false, .slice none 0 0, .bool false, .slice none 0 0, .bool false, .slice none 0 0, .bool false, .slice none 0 0, .bool false, .slice none 0 0, .bool false, .slice none 0 0, .bool false, .slice none 0 0] : Array Value)[· % 20]!)) [(0, .agg C), (1, .agg D), (2, .agg E)] = some (C ++ D ++ E) := by
 obtain ⟨c0, c1, c2, c3, c4, c5, c6, c7, c8, c9, c10, c11, c12, c13, c14, c15, c16, c17, c18, c19, rfl⟩ := arr20 C h
 obtain ⟨d0, d1, d2, d3, d4, d5, d6, d7, d8, d9, d10, d11, d12, d13, d14, d15, d16, d17, d18, d19, rfl⟩ := arr20 D h'
 obtain ⟨e0, e1, e2, e3, e4, e5, e6, e7, e8, e9, e10, e11, e12, e13, e14, e15, e16, e17, e18, e19, rfl⟩ := arr20 E h''
 kernel_rfl
theorem wp_quad3 {o : Oper} {a : Act} {w : World} {K : Act → World → Prop} {Q : Exit → Act → World → Prop} (x y z : Operand) (ho : o.op = .buildSlice 38 3 #[(0, x), (1, y), (2, z)]) (C D E : Array Value) (hx : a.eval x = .agg C) (hy : a.eval y = .agg D) (hz : a.eval z = .agg E) (h : C.size = 20) (h' : D.size = 20) (h'' : E.size = 20)
  (hk : K (a.put o.dst (.slice (some ⟨w.heap.size, 0, none⟩) 3 3)) (w.alloc (.cells (C ++ D ++ E) 33))) : o.wp Tryz.prog a w K Q := by
 obtain ⟨ie, z, h1, h2, h3, h4⟩ := infoQ
 refine wp_buildSlice 38 33 3 _ ho (C ++ D ++ E) ie z Tryz.underlying38 h1 h3 (by rw [h2]; decide) (by rw [h2]; decide) ?_ hk
 rw [h2, h4]
 simp only [List.map_toArray, List.map_cons, List.map_nil, hx, hy, hz]
 exact fill3 C D E h h' h''
theorem nn3 {CB : Array Value} {vf v : Value} (w : World) (h : QSl w v 501 (fun _ => z20) (fun _ _ => none)) (hb : QX w CB hfO) (hf : FR w vf (((0 : Int) : Rat) / ((1 : Int) : Rat))) : Calls Tryz.prog 9 #[v, .agg CB, vf] w fun e w2 => ∃ a c, e = .returned (.tuple #[.slice a 0 c, .int .i64 4]) ∧ Steps w w2 := by
 have := qFind (R := fun _ _ => none) (q := hfO) (o := some (((0 : Int) : Rat) / ((1 : Int) : Rat))) w h (by decide) hb hf (fun _ _ => sz_no) sz_hf sz_q0
 rw [find_many] at this
 refine this.mono ?_
 rintro e w2 ⟨u, rfl, hu, hs⟩
 obtain ⟨a, c, rfl⟩ := hu.shape
 exact ⟨_, _, rfl, hs⟩
theorem find_3' : findS 3 R3 hfO (some (((1 : Int) : Rat) / ((4 : Int) : Rat))) = ([0, 2], 0) := find_3
theorem nn4 {CB : Array Value} {vf v : Value} {CS : Nat → Array Value} (w : World) (h : QSl w v 3 CS R3) (hb : QX w CB hfO) (hf : FR w vf (((1 : Int) : Rat) / ((4 : Int) : Rat))) : Calls Tryz.prog 9 #[v, .agg CB, vf] w fun e w2 => ∃ u, e = .returned (.tuple #[u, .int .i64 0]) ∧ IntsR w2 u [0, 2] ∧ Steps w w2 := by
 have := qFind (R := R3) (q := hfO) (o := some (((1 : Int) : Rat) / ((4 : Int) : Rat))) w h (by decide) hb hf (fun t _ => by
  rcases (show t = 1 ∨ t ≠ 1 by omega) with rfl | ht
  · exact sz_tw
  · have e : R3 t = hfO := by
                funext i; unfold R3 hfO; split
                · omega
                · rfl
    rw [e]; exact sz_hf) sz_hf sz_q4
 rw [find_3'] at this
 exact this
def kH (i : Nat) : Int := match i with | 0 => 0 | 1 => 1 | 2 => 3 | _ => 2
theorem QF.qm {w : World} {cs : Array Value} {k : Nat → Int} {r : Nat → Rat} (h : QF w cs k r) : QM w cs k (fun i => (r i).num) (fun i => ((r i).den : Int)) := by
 obtain ⟨h1, h2, h3, h4⟩ := h
 refine ⟨h1, h2, h3, fun i hi => ?_⟩
 obtain ⟨a1, a2, a3, a4, a5, a6, a7, a8, c0, c1, c2, c3, f⟩ := h4 i hi
 obtain ⟨b2, b3, b4, b6, b7, b8, e, n1, n2, -⟩ := f.nums
 simp only [Value.agg.injEq, Array.mk.injEq, List.cons.injEq, and_true] at e
 obtain ⟨e1, e2, e3, e4⟩ := e
 refine ⟨_, _, _, _, c0, c1, c2, c3, ?_, ?_⟩
 · rw [e1, e2]; exact n1
 · rw [e3, e4]; exact n2
theorem nn5 {CA CB : Array Value} (w : World) (ha : QF w CA kH halfR) (hb : QF w CB kH halfR) : Calls Tryz.prog 10 #[.agg CA, .agg CB] w fun e w2 => e = .returned (.bool true) ∧ Steps w w2 := by
 have hf : ∀ i, i < 4 → sz (halfR i) 500 := sz_hf
 exact rSame w ha.qm hb.qm (fun i hi => ((hf i hi).fits (by omega)).1) (fun i hi => ((hf i hi).fits (by omega)).2)
theorem rsameRq {va vb : Value} {r : Rat} (w : World) (h : FR w va r) (h' : FR w vb r) : Calls Tryz.prog 11 #[va, vb] w fun e w' => e = .returned (.bool true) ∧ Steps w w' := by
 obtain ⟨f1, f2⟩ := h.fit
 obtain ⟨a2, a3, a4, a6, a7, a8, rfl, na, da, -⟩ := h.nums
 obtain ⟨b2, b3, b4, b6, b7, b8, rfl, nb, db, -⟩ := h'.nums
 exact rsameF w ⟨na, da⟩ ⟨nb, db⟩ f1 f2
theorem ints2_ {w : World} {g : Nat} {t : TypeId} {x y : Int} (h : Blk w g t #[.int .i64 x, .int .i64 y]) : IntsR w (.slice (some ⟨g, 0, none⟩) 2 2) [x, y] := by
 refine ⟨_, _, rfl, Nat.le_refl _, fun _ => ⟨g, 0, rfl, h.lt, fun k hk => ?_⟩⟩
 have hk' : k < 2 := hk
 rcases (show k = 0 ∨ k = 1 by omega) with rfl | rfl
 · exact h.c 0 rfl
 · exact h.c 1 rfl
theorem qnames_walk (w : World) : Calls Tryz.prog 3 #[] w fun e w' => e = .returned (.bool true) ∧ Steps w w' := by
 have mk1 : ∀ w, (Instr.makeSlice 24 (.int .i64 201) (.int .i64 201)).run Tryz.prog w = .ok (.slice (some ⟨w.heap.size, 0, none⟩) 201 201) (w.alloc (.cells (madeCells #[.int .i64 0, .int .i64 0] (201 * 2)) 23)) := fun w => mk_pts 201 (by omega) w
 have mk2 : ∀ w, (Instr.makeSlice 24 (.int .i64 4) (.int .i64 4)).run Tryz.prog w = .ok (.slice (some ⟨w.heap.size, 0, none⟩) 4 4) (w.alloc (.cells (madeCells #[.int .i64 0, .int .i64 0] (4 * 2)) 23)) := fun w => mk_pts 4 (by omega) w
 have SQ : ∀ w' (v : Value), Pts w' v sqL → Calls Tryz.prog 5 #[v, .agg #[.int .i64 3, .int .i64 2, .int .i64 1, .int .i64 0]] w' _ := fun w' v h => c1 w' h
 rw [sq_vals.1, sq_vals.2.1, sq_vals.2.2.1, sq_vals.2.2.2.1, sq_half 0 (by omega), sq_half 1 (by omega), sq_half 2 (by omega), sq_half 3 (by omega)] at SQ
 have TW : ∀ w' (v : Value), Pts w' v twL → Calls Tryz.prog 5 #[v, .agg #[.int .i64 0, .int .i64 1, .int .i64 2, .int .i64 3]] w' _ := fun w' v h => c2 w' h
 rw [tw_vals.1, tw_vals.2.1, tw_vals.2.2.1, tw_vals.2.2.2.1] at TW
 have OA := fun w' => lof 1 2 w' (by decide) (by decide) (by decide) (by decide) (by decide)
 have OB := fun w' => lof (-1) 2 w' (by decide) (by decide) (by decide) (by decide) (by decide)
 have A5 : ∀ w' v, Pts w' v (List.replicate 4 (0, 0) ++ sqL) → Calls Tryz.prog 7 #[v, .int .i64 5] w' fun e w2 => ∃ a c, e = .returned (.tuple #[.slice a 4 c, .int .i64 0]) ∧ Steps w' w2 := fun w' v h => by
  refine (qAll 5 w' h (by decide) (fun _ _ => by decide)).mono ?_
  rintro e w2 ⟨u, rfl, ⟨a, c, rfl, -⟩, hs⟩
  rw [all_5.1, all_5.2]
  exact ⟨_, _, rfl, hs⟩
 have A13 : ∀ w' v, Pts w' v sqL → Calls Tryz.prog 7 #[v, .int .i64 13] w' fun e w2 => ∃ a c, e = .returned (.tuple #[.slice a 0 c, .int .i64 2]) ∧ Steps w' w2 := fun w' v h => by
  refine (qAll 13 w' h (by decide) (fun _ _ => by decide)).mono ?_
  rintro e w2 ⟨u, rfl, ⟨a, c, rfl, -⟩, hs⟩
  rw [all_13]
  exact ⟨_, _, rfl, hs⟩
 have A3 : ∀ w' v, Pts w' v sqL → Calls Tryz.prog 7 #[v, .int .i64 3] w' fun e w2 => ∃ a c, e = .returned (.tuple #[.slice a 0 c, .int .i64 0]) ∧ Steps w' w2 := fun w' v h => by
  refine (qAll 3 w' h (by decide) (fun _ _ => by decide)).mono ?_
  rintro e w2 ⟨u, rfl, ⟨a, c, rfl, -⟩, hs⟩
  rw [all_3]
  exact ⟨_, _, rfl, hs⟩
 have OZ := fun w' => lof 0 1 w' (by decide) (by decide) (by decide) (by decide) (by decide)
 have OQ := fun w' => lof 1 4 w' (by decide) (by decide) (by decide) (by decide) (by decide)
 have OO := fun w' => lof 1 1 w' (by decide) (by decide) (by decide) (by decide) (by decide)
 have N1 : ∀ (w' : World) (vf : Value) (y0_1 y0_5 y1_1 y1_5 y2_1 y2_5 y3_1 y3_5 : Bool) (y0_2 y0_6 y1_2 y1_6 y2_2 y2_6 y3_2 y3_6 : Option Addr) (y0_3 y0_4 y0_7 y0_8 y1_3 y1_4 y1_7 y1_8 y2_3 y2_4 y2_7 y2_8 y3_3 y3_4 y3_7 y3_8 : Nat) (f0 : FR w' (.agg #[.bool y0_1, .slice y0_2 y0_3 y0_4, .bool y0_5, .slice y0_6 y0_7 y0_8]) (halfR 0)) (f1 : FR w' (.agg #[.bool y1_1, .slice y1_2 y1_3 y1_4, .bool y1_5, .slice y1_6 y1_7 y1_8]) (halfR 1)) (f2 : FR w' (.agg #[.bool y2_1, .slice y2_2 y2_3 y2_4, .bool y2_5, .slice y2_6 y2_7 y2_8]) (halfR 2)) (f3 : FR w' (.agg #[.bool y3_1, .slice y3_2 y3_3 y3_4, .bool y3_5, .slice y3_6 y3_7 y3_8]) (halfR 3)) (hf : FR w' vf (((0 : Int) : Rat) / ((1 : Int) : Rat))), Calls Tryz.prog 8 #[.agg #[.int .i64 0, .int .i64 0, .int .i64 0, .int .i64 0, .bool false, .slice none 0 0, .bool false, .slice none 0 0, .bool false, .slice none 0 0, .bool false, .slice none 0 0, .bool false, .slice none 0 0, .bool false, .slice none 0 0, .bool false, .slice none 0 0, .bool false, .slice none 0 0], .agg #[.int .i64 0, .int .i64 1, .int .i64 3, .int .i64 2, .bool y0_1, .slice y0_2 y0_3 y0_4, .bool y0_5, .slice y0_6 y0_7 y0_8, .bool y1_1, .slice y1_2 y1_3 y1_4, .bool y1_5, .slice y1_6 y1_7 y1_8, .bool y2_1, .slice y2_2 y2_3 y2_4, .bool y2_5, .slice y2_6 y2_7 y2_8, .bool y3_1, .slice y3_2 y3_3 y3_4, .bool y3_5, .slice y3_6 y3_7 y3_8], vf] w' fun e w2 => e = .returned (.tuple #[.bool false, .int .i64 8]) ∧ Steps w' w2 := fun w' vf y0_1 y0_5 y1_1 y1_5 y2_1 y2_5 y3_1 y3_5 y0_2 y0_6 y1_2 y1_6 y2_2 y2_6 y3_2 y3_6 y0_3 y0_4 y0_7 y0_8 y1_3 y1_4 y1_7 y1_8 y2_3 y2_4 y2_7 y2_8 y3_3 y3_4 y3_7 y3_8 f0 f1 f2 f3 hf => nn1 w' (qx_of (r := hfO) f0 f1 f2 f3) hf
 have N2 : ∀ (w' : World) (vf : Value) (y0_1 y0_5 y1_1 y1_5 y2_1 y2_5 y3_1 y3_5 : Bool) (y0_2 y0_6 y1_2 y1_6 y2_2 y2_6 y3_2 y3_6 : Option Addr) (y0_3 y0_4 y0_7 y0_8 y1_3 y1_4 y1_7 y1_8 y2_3 y2_4 y2_7 y2_8 y3_3 y3_4 y3_7 y3_8 : Nat) (f0 : FR w' (.agg #[.bool y0_1, .slice y0_2 y0_3 y0_4, .bool y0_5, .slice y0_6 y0_7 y0_8]) (halfR 0)) (f1 : FR w' (.agg #[.bool y1_1, .slice y1_2 y1_3 y1_4, .bool y1_5, .slice y1_6 y1_7 y1_8]) (halfR 1)) (f2 : FR w' (.agg #[.bool y2_1, .slice y2_2 y2_3 y2_4, .bool y2_5, .slice y2_6 y2_7 y2_8]) (halfR 2)) (f3 : FR w' (.agg #[.bool y3_1, .slice y3_2 y3_3 y3_4, .bool y3_5, .slice y3_6 y3_7 y3_8]) (halfR 3)) (hf : FR w' vf (((-1 : Int) : Rat) / ((2 : Int) : Rat))), Calls Tryz.prog 8 #[.agg #[.int .i64 0, .int .i64 1, .int .i64 3, .int .i64 2, .bool y0_1, .slice y0_2 y0_3 y0_4, .bool y0_5, .slice y0_6 y0_7 y0_8, .bool y1_1, .slice y1_2 y1_3 y1_4, .bool y1_5, .slice y1_6 y1_7 y1_8, .bool y2_1, .slice y2_2 y2_3 y2_4, .bool y2_5, .slice y2_6 y2_7 y2_8, .bool y3_1, .slice y3_2 y3_3 y3_4, .bool y3_5, .slice y3_6 y3_7 y3_8], .agg #[.int .i64 0, .int .i64 1, .int .i64 3, .int .i64 2, .bool y0_1, .slice y0_2 y0_3 y0_4, .bool y0_5, .slice y0_6 y0_7 y0_8, .bool y1_1, .slice y1_2 y1_3 y1_4, .bool y1_5, .slice y1_6 y1_7 y1_8, .bool y2_1, .slice y2_2 y2_3 y2_4, .bool y2_5, .slice y2_6 y2_7 y2_8, .bool y3_1, .slice y3_2 y3_3 y3_4, .bool y3_5, .slice y3_6 y3_7 y3_8], vf] w' fun e w2 => e = .returned (.tuple #[.bool false, .int .i64 2]) ∧ Steps w' w2 := fun w' vf y0_1 y0_5 y1_1 y1_5 y2_1 y2_5 y3_1 y3_5 y0_2 y0_6 y1_2 y1_6 y2_2 y2_6 y3_2 y3_6 y0_3 y0_4 y0_7 y0_8 y1_3 y1_4 y1_7 y1_8 y2_3 y2_4 y2_7 y2_8 y3_3 y3_4 y3_7 y3_8 f0 f1 f2 f3 hf => nn2 w' (qx_of (r := hfO) f0 f1 f2 f3) hf
 have N3 : ∀ (w' : World) (vf : Value) (y0_1 y0_5 y1_1 y1_5 y2_1 y2_5 y3_1 y3_5 : Bool) (y0_2 y0_6 y1_2 y1_6 y2_2 y2_6 y3_2 y3_6 : Option Addr) (y0_3 y0_4 y0_7 y0_8 y1_3 y1_4 y1_7 y1_8 y2_3 y2_4 y2_7 y2_8 y3_3 y3_4 y3_7 y3_8 : Nat) (f0 : FR w' (.agg #[.bool y0_1, .slice y0_2 y0_3 y0_4, .bool y0_5, .slice y0_6 y0_7 y0_8]) (halfR 0)) (f1 : FR w' (.agg #[.bool y1_1, .slice y1_2 y1_3 y1_4, .bool y1_5, .slice y1_6 y1_7 y1_8]) (halfR 1)) (f2 : FR w' (.agg #[.bool y2_1, .slice y2_2 y2_3 y2_4, .bool y2_5, .slice y2_6 y2_7 y2_8]) (halfR 2)) (f3 : FR w' (.agg #[.bool y3_1, .slice y3_2 y3_3 y3_4, .bool y3_5, .slice y3_6 y3_7 y3_8]) (halfR 3)) (hf : FR w' vf (((0 : Int) : Rat) / ((1 : Int) : Rat))) (g : Nat) (hb : Blk w' g 33 (madeCells z20 (501 * 20))), Calls Tryz.prog 9 #[.slice (some ⟨g, 0, none⟩) 501 501, .agg #[.int .i64 0, .int .i64 1, .int .i64 3, .int .i64 2, .bool y0_1, .slice y0_2 y0_3 y0_4, .bool y0_5, .slice y0_6 y0_7 y0_8, .bool y1_1, .slice y1_2 y1_3 y1_4, .bool y1_5, .slice y1_6 y1_7 y1_8, .bool y2_1, .slice y2_2 y2_3 y2_4, .bool y2_5, .slice y2_6 y2_7 y2_8, .bool y3_1, .slice y3_2 y3_3 y3_4, .bool y3_5, .slice y3_6 y3_7 y3_8], vf] w' fun e w2 => ∃ a c, e = .returned (.tuple #[.slice a 0 c, .int .i64 4]) ∧ Steps w' w2 := fun w' vf y0_1 y0_5 y1_1 y1_5 y2_1 y2_5 y3_1 y3_5 y0_2 y0_6 y1_2 y1_6 y2_2 y2_6 y3_2 y3_6 y0_3 y0_4 y0_7 y0_8 y1_3 y1_4 y1_7 y1_8 y2_3 y2_4 y2_7 y2_8 y3_3 y3_4 y3_7 y3_8 f0 f1 f2 f3 hf g hb => nn3 w' (qsl_zero 501 (Nat.le_refl _) hb) (qx_of (r := hfO) f0 f1 f2 f3) hf
 have N4 : ∀ (w' : World) (vf : Value) (y0_1 y0_5 y1_1 y1_5 y2_1 y2_5 y3_1 y3_5 : Bool) (y0_2 y0_6 y1_2 y1_6 y2_2 y2_6 y3_2 y3_6 : Option Addr) (y0_3 y0_4 y0_7 y0_8 y1_3 y1_4 y1_7 y1_8 y2_3 y2_4 y2_7 y2_8 y3_3 y3_4 y3_7 y3_8 : Nat) (f0 : FR w' (.agg #[.bool y0_1, .slice y0_2 y0_3 y0_4, .bool y0_5, .slice y0_6 y0_7 y0_8]) (halfR 0)) (f1 : FR w' (.agg #[.bool y1_1, .slice y1_2 y1_3 y1_4, .bool y1_5, .slice y1_6 y1_7 y1_8]) (halfR 1)) (f2 : FR w' (.agg #[.bool y2_1, .slice y2_2 y2_3 y2_4, .bool y2_5, .slice y2_6 y2_7 y2_8]) (halfR 2)) (f3 : FR w' (.agg #[.bool y3_1, .slice y3_2 y3_3 y3_4, .bool y3_5, .slice y3_6 y3_7 y3_8]) (halfR 3)) (z0_1 z0_5 z1_1 z1_5 z2_1 z2_5 z3_1 z3_5 : Bool) (z0_2 z0_6 z1_2 z1_6 z2_2 z2_6 z3_2 z3_6 : Option Addr) (z0_3 z0_4 z0_7 z0_8 z1_3 z1_4 z1_7 z1_8 z2_3 z2_4 z2_7 z2_8 z3_3 z3_4 z3_7 z3_8 : Nat) (z0 : FR w' (.agg #[.bool z0_1, .slice z0_2 z0_3 z0_4, .bool z0_5, .slice z0_6 z0_7 z0_8]) (rA twA 0)) (z1 : FR w' (.agg #[.bool z1_1, .slice z1_2 z1_3 z1_4, .bool z1_5, .slice z1_6 z1_7 z1_8]) (rA twA 1)) (z2 : FR w' (.agg #[.bool z2_1, .slice z2_2 z2_3 z2_4, .bool z2_5, .slice z2_6 z2_7 z2_8]) (rA twA 2)) (z3 : FR w' (.agg #[.bool z3_1, .slice z3_2 z3_3 z3_4, .bool z3_5, .slice z3_6 z3_7 z3_8]) (rA twA 3)) (hf : FR w' vf (((1 : Int) : Rat) / ((4 : Int) : Rat))) (g : Nat) (hb : Blk w' g 33 (#[.int .i64 0, .int .i64 1, .int .i64 3, .int .i64 2, .bool y0_1, .slice y0_2 y0_3 y0_4, .bool y0_5, .slice y0_6 y0_7 y0_8, .bool y1_1, .slice y1_2 y1_3 y1_4, .bool y1_5, .slice y1_6 y1_7 y1_8, .bool y2_1, .slice y2_2 y2_3 y2_4, .bool y2_5, .slice y2_6 y2_7 y2_8, .bool y3_1, .slice y3_2 y3_3 y3_4, .bool y3_5, .slice y3_6 y3_7 y3_8] ++ #[.int .i64 0, .int .i64 1, .int .i64 2, .int .i64 3, .bool z0_1, .slice z0_2 z0_3 z0_4, .bool z0_5, .slice z0_6 z0_7 z0_8, .bool z1_1, .slice z1_2 z1_3 z1_4, .bool z1_5, .slice z1_6 z1_7 z1_8, .bool z2_1, .slice z2_2 z2_3 z2_4, .bool z2_5, .slice z2_6 z2_7 z2_8, .bool z3_1, .slice z3_2 z3_3 z3_4, .bool z3_5, .slice z3_6 z3_7 z3_8] ++ #[.int .i64 0, .int .i64 1, .int .i64 3, .int .i64 2, .bool y0_1, .slice y0_2 y0_3 y0_4, .bool y0_5, .slice y0_6 y0_7 y0_8, .bool y1_1, .slice y1_2 y1_3 y1_4, .bool y1_5, .slice y1_6 y1_7 y1_8, .bool y2_1, .slice y2_2 y2_3 y2_4, .bool y2_5, .slice y2_6 y2_7 y2_8, .bool y3_1, .slice y3_2 y3_3 y3_4, .bool y3_5, .slice y3_6 y3_7 y3_8])), Calls Tryz.prog 9 #[.slice (some ⟨g, 0, none⟩) 3 3, .agg #[.int .i64 0, .int .i64 1, .int .i64 3, .int .i64 2, .bool y0_1, .slice y0_2 y0_3 y0_4, .bool y0_5, .slice y0_6 y0_7 y0_8, .bool y1_1, .slice y1_2 y1_3 y1_4, .bool y1_5, .slice y1_6 y1_7 y1_8, .bool y2_1, .slice y2_2 y2_3 y2_4, .bool y2_5, .slice y2_6 y2_7 y2_8, .bool y3_1, .slice y3_2 y3_3 y3_4, .bool y3_5, .slice y3_6 y3_7 y3_8], vf] w' fun e w2 => ∃ u, e = .returned (.tuple #[u, .int .i64 0]) ∧ IntsR w2 u [0, 2] ∧ Steps w' w2 := fun w' vf y0_1 y0_5 y1_1 y1_5 y2_1 y2_5 y3_1 y3_5 y0_2 y0_6 y1_2 y1_6 y2_2 y2_6 y3_2 y3_6 y0_3 y0_4 y0_7 y0_8 y1_3 y1_4 y1_7 y1_8 y2_3 y2_4 y2_7 y2_8 y3_3 y3_4 y3_7 y3_8 f0 f1 f2 f3 z0_1 z0_5 z1_1 z1_5 z2_1 z2_5 z3_1 z3_5 z0_2 z0_6 z1_2 z1_6 z2_2 z2_6 z3_2 z3_6 z0_3 z0_4 z0_7 z0_8 z1_3 z1_4 z1_7 z1_8 z2_3 z2_4 z2_7 z2_8 z3_3 z3_4 z3_7 z3_8 z0 z1 z2 z3 hf g hb => nn4 w' (qsl_three (Nat.le_refl _) (qx_of (r := hfO) f0 f1 f2 f3) (qx_of (r := twO) z0 z1 z2 z3) hb) (qx_of (r := hfO) f0 f1 f2 f3) hf
 have N5 : ∀ (w' : World) (y0_1 y0_5 y1_1 y1_5 y2_1 y2_5 y3_1 y3_5 : Bool) (y0_2 y0_6 y1_2 y1_6 y2_2 y2_6 y3_2 y3_6 : Option Addr) (y0_3 y0_4 y0_7 y0_8 y1_3 y1_4 y1_7 y1_8 y2_3 y2_4 y2_7 y2_8 y3_3 y3_4 y3_7 y3_8 : Nat) (f0 : FR w' (.agg #[.bool y0_1, .slice y0_2 y0_3 y0_4, .bool y0_5, .slice y0_6 y0_7 y0_8]) (halfR 0)) (f1 : FR w' (.agg #[.bool y1_1, .slice y1_2 y1_3 y1_4, .bool y1_5, .slice y1_6 y1_7 y1_8]) (halfR 1)) (f2 : FR w' (.agg #[.bool y2_1, .slice y2_2 y2_3 y2_4, .bool y2_5, .slice y2_6 y2_7 y2_8]) (halfR 2)) (f3 : FR w' (.agg #[.bool y3_1, .slice y3_2 y3_3 y3_4, .bool y3_5, .slice y3_6 y3_7 y3_8]) (halfR 3)) (z0_1 z0_5 z1_1 z1_5 z2_1 z2_5 z3_1 z3_5 : Bool) (z0_2 z0_6 z1_2 z1_6 z2_2 z2_6 z3_2 z3_6 : Option Addr) (z0_3 z0_4 z0_7 z0_8 z1_3 z1_4 z1_7 z1_8 z2_3 z2_4 z2_7 z2_8 z3_3 z3_4 z3_7 z3_8 : Nat) (z0 : FR w' (.agg #[.bool z0_1, .slice z0_2 z0_3 z0_4, .bool z0_5, .slice z0_6 z0_7 z0_8]) (halfR 0)) (z1 : FR w' (.agg #[.bool z1_1, .slice z1_2 z1_3 z1_4, .bool z1_5, .slice z1_6 z1_7 z1_8]) (halfR 1)) (z2 : FR w' (.agg #[.bool z2_1, .slice z2_2 z2_3 z2_4, .bool z2_5, .slice z2_6 z2_7 z2_8]) (halfR 2)) (z3 : FR w' (.agg #[.bool z3_1, .slice z3_2 z3_3 z3_4, .bool z3_5, .slice z3_6 z3_7 z3_8]) (halfR 3)), Calls Tryz.prog 10 #[.agg #[.int .i64 0, .int .i64 1, .int .i64 3, .int .i64 2, .bool y0_1, .slice y0_2 y0_3 y0_4, .bool y0_5, .slice y0_6 y0_7 y0_8, .bool y1_1, .slice y1_2 y1_3 y1_4, .bool y1_5, .slice y1_6 y1_7 y1_8, .bool y2_1, .slice y2_2 y2_3 y2_4, .bool y2_5, .slice y2_6 y2_7 y2_8, .bool y3_1, .slice y3_2 y3_3 y3_4, .bool y3_5, .slice y3_6 y3_7 y3_8], .agg #[.int .i64 0, .int .i64 1, .int .i64 3, .int .i64 2, .bool z0_1, .slice z0_2 z0_3 z0_4, .bool z0_5, .slice z0_6 z0_7 z0_8, .bool z1_1, .slice z1_2 z1_3 z1_4, .bool z1_5, .slice z1_6 z1_7 z1_8, .bool z2_1, .slice z2_2 z2_3 z2_4, .bool z2_5, .slice z2_6 z2_7 z2_8, .bool z3_1, .slice z3_2 z3_3 z3_4, .bool z3_5, .slice z3_6 z3_7 z3_8]] w' fun e w2 => e = .returned (.bool true) ∧ Steps w' w2 := fun w' y0_1 y0_5 y1_1 y1_5 y2_1 y2_5 y3_1 y3_5 y0_2 y0_6 y1_2 y1_6 y2_2 y2_6 y3_2 y3_6 y0_3 y0_4 y0_7 y0_8 y1_3 y1_4 y1_7 y1_8 y2_3 y2_4 y2_7 y2_8 y3_3 y3_4 y3_7 y3_8 f0 f1 f2 f3 z0_1 z0_5 z1_1 z1_5 z2_1 z2_5 z3_1 z3_5 z0_2 z0_6 z1_2 z1_6 z2_2 z2_6 z3_2 z3_6 z0_3 z0_4 z0_7 z0_8 z1_3 z1_4 z1_7 z1_8 z2_3 z2_4 z2_7 z2_8 z3_3 z3_4 z3_7 z3_8 z0 z1 z2 z3 => nn5 w' (qf_of (k := kH) (r := halfR) ⟨rfl, rfl, rfl, rfl⟩ f0 f1 f2 f3) (qf_of (k := kH) (r := halfR) ⟨rfl, rfl, rfl, rfl⟩ z0 z1 z2 z3)
 have qa4 := eq_at4 0 1 2 3
 have mk3 : ∀ w, (Instr.makeSlice 38 (.int .i64 501) (.int .i64 501)).run Tryz.prog w = .ok (.slice (some ⟨w.heap.size, 0, none⟩) 501 501) (w.alloc (.cells (madeCells z20 (501 * 20)) 33)) := fun w => qmk 501 (by omega) w
 generalize madeCells z20 (501 * 20) = MQ at N3 mk3
 rw [tw_0] at N4 TW
 rw [tw_2] at N4 TW
 generalize ((1 : Int) : Rat) / ((4 : Int) : Rat) = q4 at *
 generalize ((1 : Int) : Rat) / ((1 : Int) : Rat) = q1 at *
 generalize ((0 : Int) : Rat) / ((1 : Int) : Rat) = qz at *
 rw [show halfR 2 = halfR 0 from rfl, show halfR 3 = halfR 0 from rfl] at SQ N1 N2 N3 N4 N5
 generalize h0 : halfR 0 = r0 at *
 generalize h1 : halfR 1 = r1 at *
 rw [show ((1 : Int) : Rat) / ((2 : Int) : Rat) = r0 from h0] at OA
 rw [show ((-1 : Int) : Rat) / ((2 : Int) : Rat) = r1 from h1] at OB N2
 generalize rA twA 1 = t1 at *
 generalize rA twA 3 = t3 at *
 go_enter Tryz.func3, Tryz.ntmps3
 go_wp2_with fail
 refine (SQ _ _ (pts_sq ownK)).mono ?_
 rintro e w1 ⟨yq0_1, yq0_2, yq0_3, yq0_4, yq0_5, yq0_6, yq0_7, yq0_8, yq1_1, yq1_2, yq1_3, yq1_4, yq1_5, yq1_6, yq1_7, yq1_8, yq2_1, yq2_2, yq2_3, yq2_4, yq2_5, yq2_6, yq2_7, yq2_8, yq3_1, yq3_2, yq3_3, yq3_4, yq3_5, yq3_6, yq3_7, yq3_8, rfl, g0, g1, g2, g3, hb1⟩
 have st : Steps _ w1 := hb1
 have B : Below w.heap.size w w1 := belowA st
 have osl38 : Blk w1 (w.heap.size) 23 #[.int .i64 1, .int .i64 1, .int .i64 0, .int .i64 0, .int .i64 1, .int .i64 0, .int .i64 0, .int .i64 1] := Blk.stepsK st
 clear st
 have Fyq0 := Hid.mk_ g0
 clear g0
 have Fyq1 := Hid.mk_ g1
 clear g1
 have Fyq2 := Hid.mk_ g2
 clear g2
 have Fyq3 := Hid.mk_ g3
 clear g3
 have zsl38_1 : w.heap.size < w1.heap.size := osl38.lt
 have zz1 := B.size
 go_wp2_with (first
  | (
    (with_reducible show wpList _ _ _ (⟨none, .store _ _ _, _, _, _, _⟩ :: _) _ _)
    refine store_big rfl 33 (.tmp 2) (.tmp 43) rfl (w1.heap.size) #[.int .i64 0, .int .i64 1, .int .i64 3, .int .i64 2, .bool yq0_1, .slice yq0_2 yq0_3 yq0_4, .bool yq0_5, .slice yq0_6 yq0_7 yq0_8, .bool yq1_1, .slice yq1_2 yq1_3 yq1_4, .bool yq1_5, .slice yq1_6 yq1_7 yq1_8, .bool yq2_1, .slice yq2_2 yq2_3 yq2_4, .bool yq2_5, .slice yq2_6 yq2_7 yq2_8, .bool yq3_1, .slice yq3_2 yq3_3 yq3_4, .bool yq3_5, .slice yq3_6 yq3_7 yq3_8] rfl rfl 33 #[.int .i64 0, .int .i64 0, .int .i64 0, .int .i64 0, .bool false, .slice none 0 0, .bool false, .slice none 0 0, .bool false, .slice none 0 0, .bool false, .slice none 0 0, .bool false, .slice none 0 0, .bool false, .slice none 0 0, .bool false, .slice none 0 0, .bool false, .slice none 0 0] ownK (by kernel_rfl) rfl (by simp [Value.oneCell']) (fun w2 hrow => ?_)
    have Bn : Below w.heap.size w w2 := hrow.below belowB (by omega)
    have kp : Keeps w1 w2 := Keeps.trans keepsB (hrow.keeps rfl)
    replace osl38 : Blk w2 (w.heap.size) 23 #[.int .i64 1, .int .i64 1, .int .i64 0, .int .i64 0, .int .i64 1, .int .i64 0, .int .i64 0, .int .i64 1] := hrow.far ownK (show w.heap.size ≠ w1.heap.size by omega)
    have ovq : Blk w2 (w1.heap.size) 33 #[.int .i64 0, .int .i64 1, .int .i64 3, .int .i64 2, .bool yq0_1, .slice yq0_2 yq0_3 yq0_4, .bool yq0_5, .slice yq0_6 yq0_7 yq0_8, .bool yq1_1, .slice yq1_2 yq1_3 yq1_4, .bool yq1_5, .slice yq1_6 yq1_7 yq1_8, .bool yq2_1, .slice yq2_2 yq2_3 yq2_4, .bool yq2_5, .slice yq2_6 yq2_7 yq2_8, .bool yq3_1, .slice yq3_2 yq3_3 yq3_4, .bool yq3_5, .slice yq3_6 yq3_7 yq3_8] := hrow.blk
    replace B := Bn
    clear Bn hrow
    replace Fyq0 := Hid.mk_ (Fyq0.out.keeps kp)
    replace Fyq1 := Hid.mk_ (Fyq1.out.keeps kp)
    replace Fyq2 := Hid.mk_ (Fyq2.out.keeps kp)
    replace Fyq3 := Hid.mk_ (Fyq3.out.keeps kp)
    clear kp
    skip)
  )
 refine (OA _).mono ?_
 rintro e w3 ⟨vo1_, rfl, hvo1_, hb3⟩
 have st : Steps _ w3 := hb3
 have sk : Below w2.heap.size w2 w3 := belowA st
 replace B := below_steps B (Nat.le_refl _) sk
 replace osl38 := osl38.steps sk
 replace ovq := ovq.steps sk
 replace Fyq0 := Hid.mk_ (Fyq0.out.steps sk)
 replace Fyq1 := Hid.mk_ (Fyq1.out.steps sk)
 replace Fyq2 := Hid.mk_ (Fyq2.out.steps sk)
 replace Fyq3 := Hid.mk_ (Fyq3.out.steps sk)
 clear st sk
 obtain ⟨o1_1, o1_2, o1_3, o1_4, o1_5, o1_6, o1_7, o1_8, rfl⟩ := hvo1_.shape
 have Fo1_ := Hid.mk_ hvo1_
 clear hvo1_
 go_wp2_with fail
 refine (OB _).mono ?_
 rintro e w4 ⟨vo2_, rfl, hvo2_, hb4⟩
 have st : Steps _ w4 := hb4
 have sk : Below w3.heap.size w3 w4 := belowA st
 replace B := below_steps B (Nat.le_refl _) sk
 replace osl38 := osl38.steps sk
 replace ovq := ovq.steps sk
 replace Fyq0 := Hid.mk_ (Fyq0.out.steps sk)
 replace Fyq1 := Hid.mk_ (Fyq1.out.steps sk)
 replace Fyq2 := Hid.mk_ (Fyq2.out.steps sk)
 replace Fyq3 := Hid.mk_ (Fyq3.out.steps sk)
 replace Fo1_ := Hid.mk_ (Fo1_.out.steps sk)
 clear st sk
 obtain ⟨o2_1, o2_2, o2_3, o2_4, o2_5, o2_6, o2_7, o2_8, rfl⟩ := hvo2_.shape
 have Fo2_ := Hid.mk_ hvo2_
 clear hvo2_
 go_wp2_with fail
 refine (OA _).mono ?_
 rintro e w5 ⟨vo3_, rfl, hvo3_, hb5⟩
 have st : Steps _ w5 := hb5
 have sk : Below w4.heap.size w4 w5 := belowA st
 replace B := below_steps B (Nat.le_refl _) sk
 replace osl38 := osl38.steps sk
 replace ovq := ovq.steps sk
 replace Fyq0 := Hid.mk_ (Fyq0.out.steps sk)
 replace Fyq1 := Hid.mk_ (Fyq1.out.steps sk)
 replace Fyq2 := Hid.mk_ (Fyq2.out.steps sk)
 replace Fyq3 := Hid.mk_ (Fyq3.out.steps sk)
 replace Fo1_ := Hid.mk_ (Fo1_.out.steps sk)
 replace Fo2_ := Hid.mk_ (Fo2_.out.steps sk)
 clear st sk
 obtain ⟨o3_1, o3_2, o3_3, o3_4, o3_5, o3_6, o3_7, o3_8, rfl⟩ := hvo3_.shape
 have Fo3_ := Hid.mk_ hvo3_
 clear hvo3_
 go_wp2_with fail
 refine (OA _).mono ?_
 rintro e w6 ⟨vo4_, rfl, hvo4_, hb6⟩
 have st : Steps _ w6 := hb6
 have sk : Below w5.heap.size w5 w6 := belowA st
 replace B := below_steps B (Nat.le_refl _) sk
 replace osl38 := osl38.steps sk
 replace ovq := ovq.steps sk
 replace Fyq0 := Hid.mk_ (Fyq0.out.steps sk)
 replace Fyq1 := Hid.mk_ (Fyq1.out.steps sk)
 replace Fyq2 := Hid.mk_ (Fyq2.out.steps sk)
 replace Fyq3 := Hid.mk_ (Fyq3.out.steps sk)
 replace Fo1_ := Hid.mk_ (Fo1_.out.steps sk)
 replace Fo2_ := Hid.mk_ (Fo2_.out.steps sk)
 replace Fo3_ := Hid.mk_ (Fo3_.out.steps sk)
 clear st sk
 obtain ⟨o4_1, o4_2, o4_3, o4_4, o4_5, o4_6, o4_7, o4_8, rfl⟩ := hvo4_.shape
 have Fo4_ := Hid.mk_ hvo4_
 clear hvo4_
 have zvq_6 : w1.heap.size < w6.heap.size := ovq.lt
 have zz6 := B.size
 go_wp2_with (first
  | (
    (with_reducible show wpList _ _ _ (⟨some 50, _, _, _, _, _⟩ :: _) _ _)
    refine build_big rfl 31 #[(0, .tmp 46), (1, .tmp 47), (2, .tmp 48), (3, .tmp 49)] rfl #[.bool o1_1, .slice o1_2 o1_3 o1_4, .bool o1_5, .slice o1_6 o1_7 o1_8, .bool o2_1, .slice o2_2 o2_3 o2_4, .bool o2_5, .slice o2_6 o2_7 o2_8, .bool o3_1, .slice o3_2 o3_3 o3_4, .bool o3_5, .slice o3_6 o3_7 o3_8, .bool o4_1, .slice o4_2 o4_3 o4_4, .bool o4_5, .slice o4_6 o4_7 o4_8] (by kernel_rfl) ?_
    skip)
  | (
    (with_reducible show wpList _ _ _ (⟨some 51, _, _, _, _, _⟩ :: _) _ _)
    refine build_big rfl 33 #[(0, .tmp 45), (1, .tmp 50)] rfl #[.int .i64 0, .int .i64 1, .int .i64 3, .int .i64 2, .bool o1_1, .slice o1_2 o1_3 o1_4, .bool o1_5, .slice o1_6 o1_7 o1_8, .bool o2_1, .slice o2_2 o2_3 o2_4, .bool o2_5, .slice o2_6 o2_7 o2_8, .bool o3_1, .slice o3_2 o3_3 o3_4, .bool o3_5, .slice o3_6 o3_7 o3_8, .bool o4_1, .slice o4_2 o4_3 o4_4, .bool o4_5, .slice o4_6 o4_7 o4_8] (by kernel_rfl) ?_
    skip)
  | (
    (with_reducible show wpList _ _ _ (⟨none, .store _ _ _, _, _, _, _⟩ :: _) _ _)
    refine store_big rfl 33 (.tmp 4) (.tmp 51) rfl (w6.heap.size) #[.int .i64 0, .int .i64 1, .int .i64 3, .int .i64 2, .bool o1_1, .slice o1_2 o1_3 o1_4, .bool o1_5, .slice o1_6 o1_7 o1_8, .bool o2_1, .slice o2_2 o2_3 o2_4, .bool o2_5, .slice o2_6 o2_7 o2_8, .bool o3_1, .slice o3_2 o3_3 o3_4, .bool o3_5, .slice o3_6 o3_7 o3_8, .bool o4_1, .slice o4_2 o4_3 o4_4, .bool o4_5, .slice o4_6 o4_7 o4_8] rfl rfl 33 #[.int .i64 0, .int .i64 0, .int .i64 0, .int .i64 0, .bool false, .slice none 0 0, .bool false, .slice none 0 0, .bool false, .slice none 0 0, .bool false, .slice none 0 0, .bool false, .slice none 0 0, .bool false, .slice none 0 0, .bool false, .slice none 0 0, .bool false, .slice none 0 0] ownK (by kernel_rfl) rfl (by simp [Value.oneCell']) (fun w7 hrow => ?_)
    have Bn : Below w.heap.size w w7 := hrow.below belowB (by omega)
    have kp : Keeps w6 w7 := Keeps.trans keepsB (hrow.keeps rfl)
    replace osl38 : Blk w7 (w.heap.size) 23 #[.int .i64 1, .int .i64 1, .int .i64 0, .int .i64 0, .int .i64 1, .int .i64 0, .int .i64 0, .int .i64 1] := hrow.far ownK (show w.heap.size ≠ w6.heap.size by omega)
    replace ovq : Blk w7 (w1.heap.size) 33 #[.int .i64 0, .int .i64 1, .int .i64 3, .int .i64 2, .bool yq0_1, .slice yq0_2 yq0_3 yq0_4, .bool yq0_5, .slice yq0_6 yq0_7 yq0_8, .bool yq1_1, .slice yq1_2 yq1_3 yq1_4, .bool yq1_5, .slice yq1_6 yq1_7 yq1_8, .bool yq2_1, .slice yq2_2 yq2_3 yq2_4, .bool yq2_5, .slice yq2_6 yq2_7 yq2_8, .bool yq3_1, .slice yq3_2 yq3_3 yq3_4, .bool yq3_5, .slice yq3_6 yq3_7 yq3_8] := hrow.far ownK (show w1.heap.size ≠ w6.heap.size by omega)
    have ovh : Blk w7 (w6.heap.size) 33 #[.int .i64 0, .int .i64 1, .int .i64 3, .int .i64 2, .bool o1_1, .slice o1_2 o1_3 o1_4, .bool o1_5, .slice o1_6 o1_7 o1_8, .bool o2_1, .slice o2_2 o2_3 o2_4, .bool o2_5, .slice o2_6 o2_7 o2_8, .bool o3_1, .slice o3_2 o3_3 o3_4, .bool o3_5, .slice o3_6 o3_7 o3_8, .bool o4_1, .slice o4_2 o4_3 o4_4, .bool o4_5, .slice o4_6 o4_7 o4_8] := hrow.blk
    replace B := Bn
    clear Bn hrow
    replace Fyq0 := Hid.mk_ (Fyq0.out.keeps kp)
    replace Fyq1 := Hid.mk_ (Fyq1.out.keeps kp)
    replace Fyq2 := Hid.mk_ (Fyq2.out.keeps kp)
    replace Fyq3 := Hid.mk_ (Fyq3.out.keeps kp)
    replace Fo1_ := Hid.mk_ (Fo1_.out.keeps kp)
    replace Fo2_ := Hid.mk_ (Fo2_.out.keeps kp)
    replace Fo3_ := Hid.mk_ (Fo3_.out.keeps kp)
    replace Fo4_ := Hid.mk_ (Fo4_.out.keeps kp)
    clear kp
    have zvh_7 : w6.heap.size < w7.heap.size := ovh.lt
    have zz7 := B.size
    skip)
  )
 refine (TW _ _ (pts_tw ownK)).mono ?_
 rintro e w8 ⟨yr0_1, yr0_2, yr0_3, yr0_4, yr0_5, yr0_6, yr0_7, yr0_8, yr1_1, yr1_2, yr1_3, yr1_4, yr1_5, yr1_6, yr1_7, yr1_8, yr2_1, yr2_2, yr2_3, yr2_4, yr2_5, yr2_6, yr2_7, yr2_8, yr3_1, yr3_2, yr3_3, yr3_4, yr3_5, yr3_6, yr3_7, yr3_8, rfl, g0, g1, g2, g3, hb8⟩
 have st : Steps _ w8 := hb8
 have sk : Below w7.heap.size w7 w8 := belowA st
 replace B := below_steps B (Nat.le_refl _) sk
 have osl56 : Blk w8 (w7.heap.size) 23 #[.int .i64 0, .int .i64 0, .int .i64 5, .int .i64 0, .int .i64 0, .int .i64 0, .int .i64 5, .int .i64 0] := Blk.stepsK st
 replace osl38 := osl38.steps sk
 replace ovq := ovq.steps sk
 replace ovh := ovh.steps sk
 replace Fyq0 := Hid.mk_ (Fyq0.out.steps sk)
 replace Fyq1 := Hid.mk_ (Fyq1.out.steps sk)
 replace Fyq2 := Hid.mk_ (Fyq2.out.steps sk)
 replace Fyq3 := Hid.mk_ (Fyq3.out.steps sk)
 replace Fo1_ := Hid.mk_ (Fo1_.out.steps sk)
 replace Fo2_ := Hid.mk_ (Fo2_.out.steps sk)
 replace Fo3_ := Hid.mk_ (Fo3_.out.steps sk)
 replace Fo4_ := Hid.mk_ (Fo4_.out.steps sk)
 clear st sk
 have Fyr0 := Hid.mk_ g0
 clear g0
 have Fyr1 := Hid.mk_ g1
 clear g1
 have Fyr2 := Hid.mk_ g2
 clear g2
 have Fyr3 := Hid.mk_ g3
 clear g3
 have zsl56_8 : w7.heap.size < w8.heap.size := osl56.lt
 have zz8 := B.size
 go_wp2_with (first
  | (
    (with_reducible show wpList _ _ _ (⟨none, .store _ _ _, _, _, _, _⟩ :: _) _ _)
    refine store_big rfl 33 (.tmp 6) (.tmp 61) rfl (w8.heap.size) #[.int .i64 0, .int .i64 1, .int .i64 2, .int .i64 3, .bool yr0_1, .slice yr0_2 yr0_3 yr0_4, .bool yr0_5, .slice yr0_6 yr0_7 yr0_8, .bool yr1_1, .slice yr1_2 yr1_3 yr1_4, .bool yr1_5, .slice yr1_6 yr1_7 yr1_8, .bool yr2_1, .slice yr2_2 yr2_3 yr2_4, .bool yr2_5, .slice yr2_6 yr2_7 yr2_8, .bool yr3_1, .slice yr3_2 yr3_3 yr3_4, .bool yr3_5, .slice yr3_6 yr3_7 yr3_8] rfl rfl 33 #[.int .i64 0, .int .i64 0, .int .i64 0, .int .i64 0, .bool false, .slice none 0 0, .bool false, .slice none 0 0, .bool false, .slice none 0 0, .bool false, .slice none 0 0, .bool false, .slice none 0 0, .bool false, .slice none 0 0, .bool false, .slice none 0 0, .bool false, .slice none 0 0] ownK (by kernel_rfl) rfl (by simp [Value.oneCell']) (fun w9 hrow => ?_)
    have Bn : Below w.heap.size w w9 := hrow.below belowB (by omega)
    have kp : Keeps w8 w9 := Keeps.trans keepsB (hrow.keeps rfl)
    replace osl38 : Blk w9 (w.heap.size) 23 #[.int .i64 1, .int .i64 1, .int .i64 0, .int .i64 0, .int .i64 1, .int .i64 0, .int .i64 0, .int .i64 1] := hrow.far ownK (show w.heap.size ≠ w8.heap.size by omega)
    replace ovq : Blk w9 (w1.heap.size) 33 #[.int .i64 0, .int .i64 1, .int .i64 3, .int .i64 2, .bool yq0_1, .slice yq0_2 yq0_3 yq0_4, .bool yq0_5, .slice yq0_6 yq0_7 yq0_8, .bool yq1_1, .slice yq1_2 yq1_3 yq1_4, .bool yq1_5, .slice yq1_6 yq1_7 yq1_8, .bool yq2_1, .slice yq2_2 yq2_3 yq2_4, .bool yq2_5, .slice yq2_6 yq2_7 yq2_8, .bool yq3_1, .slice yq3_2 yq3_3 yq3_4, .bool yq3_5, .slice yq3_6 yq3_7 yq3_8] := hrow.far ownK (show w1.heap.size ≠ w8.heap.size by omega)
    replace ovh : Blk w9 (w6.heap.size) 33 #[.int .i64 0, .int .i64 1, .int .i64 3, .int .i64 2, .bool o1_1, .slice o1_2 o1_3 o1_4, .bool o1_5, .slice o1_6 o1_7 o1_8, .bool o2_1, .slice o2_2 o2_3 o2_4, .bool o2_5, .slice o2_6 o2_7 o2_8, .bool o3_1, .slice o3_2 o3_3 o3_4, .bool o3_5, .slice o3_6 o3_7 o3_8, .bool o4_1, .slice o4_2 o4_3 o4_4, .bool o4_5, .slice o4_6 o4_7 o4_8] := hrow.far ownK (show w6.heap.size ≠ w8.heap.size by omega)
    replace osl56 : Blk w9 (w7.heap.size) 23 #[.int .i64 0, .int .i64 0, .int .i64 5, .int .i64 0, .int .i64 0, .int .i64 0, .int .i64 5, .int .i64 0] := hrow.far ownK (show w7.heap.size ≠ w8.heap.size by omega)
    have ovr : Blk w9 (w8.heap.size) 33 #[.int .i64 0, .int .i64 1, .int .i64 2, .int .i64 3, .bool yr0_1, .slice yr0_2 yr0_3 yr0_4, .bool yr0_5, .slice yr0_6 yr0_7 yr0_8, .bool yr1_1, .slice yr1_2 yr1_3 yr1_4, .bool yr1_5, .slice yr1_6 yr1_7 yr1_8, .bool yr2_1, .slice yr2_2 yr2_3 yr2_4, .bool yr2_5, .slice yr2_6 yr2_7 yr2_8, .bool yr3_1, .slice yr3_2 yr3_3 yr3_4, .bool yr3_5, .slice yr3_6 yr3_7 yr3_8] := hrow.blk
    replace B := Bn
    clear Bn hrow
    replace Fyq0 := Hid.mk_ (Fyq0.out.keeps kp)
    replace Fyq1 := Hid.mk_ (Fyq1.out.keeps kp)
    replace Fyq2 := Hid.mk_ (Fyq2.out.keeps kp)
    replace Fyq3 := Hid.mk_ (Fyq3.out.keeps kp)
    replace Fo1_ := Hid.mk_ (Fo1_.out.keeps kp)
    replace Fo2_ := Hid.mk_ (Fo2_.out.keeps kp)
    replace Fo3_ := Hid.mk_ (Fo3_.out.keeps kp)
    replace Fo4_ := Hid.mk_ (Fo4_.out.keeps kp)
    replace Fyr0 := Hid.mk_ (Fyr0.out.keeps kp)
    replace Fyr1 := Hid.mk_ (Fyr1.out.keeps kp)
    replace Fyr2 := Hid.mk_ (Fyr2.out.keeps kp)
    replace Fyr3 := Hid.mk_ (Fyr3.out.keeps kp)
    clear kp
    have zvr_9 : w8.heap.size < w9.heap.size := ovr.lt
    have zz9 := B.size
    skip)
  )
 refine (c3 _ (pts_zeros (by decide) ownK)).mono ?_
 rintro e w10 ⟨ya0_1, ya0_2, ya0_3, ya0_4, ya0_5, ya0_6, ya0_7, ya0_8, ya1_1, ya1_2, ya1_3, ya1_4, ya1_5, ya1_6, ya1_7, ya1_8, ya2_1, ya2_2, ya2_3, ya2_4, ya2_5, ya2_6, ya2_7, ya2_8, ya3_1, ya3_2, ya3_3, ya3_4, ya3_5, ya3_6, ya3_7, ya3_8, rfl, hb10⟩
 have st : Steps _ w10 := hb10
 have sk : Below w9.heap.size w9 w10 := belowA st
 replace B := below_steps B (Nat.le_refl _) sk
 replace osl38 := osl38.steps sk
 replace ovq := ovq.steps sk
 replace ovh := ovh.steps sk
 replace osl56 := osl56.steps sk
 replace ovr := ovr.steps sk
 replace Fyq0 := Hid.mk_ (Fyq0.out.steps sk)
 replace Fyq1 := Hid.mk_ (Fyq1.out.steps sk)
 replace Fyq2 := Hid.mk_ (Fyq2.out.steps sk)
 replace Fyq3 := Hid.mk_ (Fyq3.out.steps sk)
 replace Fo1_ := Hid.mk_ (Fo1_.out.steps sk)
 replace Fo2_ := Hid.mk_ (Fo2_.out.steps sk)
 replace Fo3_ := Hid.mk_ (Fo3_.out.steps sk)
 replace Fo4_ := Hid.mk_ (Fo4_.out.steps sk)
 replace Fyr0 := Hid.mk_ (Fyr0.out.steps sk)
 replace Fyr1 := Hid.mk_ (Fyr1.out.steps sk)
 replace Fyr2 := Hid.mk_ (Fyr2.out.steps sk)
 replace Fyr3 := Hid.mk_ (Fyr3.out.steps sk)
 clear st sk
 have zvr_10 : w8.heap.size < w10.heap.size := ovr.lt
 have zz10 := B.size
 go_wp2_with (first
  | (
    (with_reducible show wpList _ _ _ (⟨none, .store _ _ _, _, _, _, _⟩ :: _) _ _)
    refine store_big rfl 33 (.tmp 8) (.tmp 67) rfl (w10.heap.size) #[.int .i64 0, .int .i64 0, .int .i64 0, .int .i64 0, .bool ya0_1, .slice ya0_2 ya0_3 ya0_4, .bool ya0_5, .slice ya0_6 ya0_7 ya0_8, .bool ya1_1, .slice ya1_2 ya1_3 ya1_4, .bool ya1_5, .slice ya1_6 ya1_7 ya1_8, .bool ya2_1, .slice ya2_2 ya2_3 ya2_4, .bool ya2_5, .slice ya2_6 ya2_7 ya2_8, .bool ya3_1, .slice ya3_2 ya3_3 ya3_4, .bool ya3_5, .slice ya3_6 ya3_7 ya3_8] rfl rfl 33 #[.int .i64 0, .int .i64 0, .int .i64 0, .int .i64 0, .bool false, .slice none 0 0, .bool false, .slice none 0 0, .bool false, .slice none 0 0, .bool false, .slice none 0 0, .bool false, .slice none 0 0, .bool false, .slice none 0 0, .bool false, .slice none 0 0, .bool false, .slice none 0 0] ownK (by kernel_rfl) rfl (by simp [Value.oneCell']) (fun w11 hrow => ?_)
    have Bn : Below w.heap.size w w11 := hrow.below belowB (by omega)
    have kp : Keeps w10 w11 := Keeps.trans keepsB (hrow.keeps rfl)
    replace osl38 : Blk w11 (w.heap.size) 23 #[.int .i64 1, .int .i64 1, .int .i64 0, .int .i64 0, .int .i64 1, .int .i64 0, .int .i64 0, .int .i64 1] := hrow.far ownK (show w.heap.size ≠ w10.heap.size by omega)
    replace ovq : Blk w11 (w1.heap.size) 33 #[.int .i64 0, .int .i64 1, .int .i64 3, .int .i64 2, .bool yq0_1, .slice yq0_2 yq0_3 yq0_4, .bool yq0_5, .slice yq0_6 yq0_7 yq0_8, .bool yq1_1, .slice yq1_2 yq1_3 yq1_4, .bool yq1_5, .slice yq1_6 yq1_7 yq1_8, .bool yq2_1, .slice yq2_2 yq2_3 yq2_4, .bool yq2_5, .slice yq2_6 yq2_7 yq2_8, .bool yq3_1, .slice yq3_2 yq3_3 yq3_4, .bool yq3_5, .slice yq3_6 yq3_7 yq3_8] := hrow.far ownK (show w1.heap.size ≠ w10.heap.size by omega)
    replace ovh : Blk w11 (w6.heap.size) 33 #[.int .i64 0, .int .i64 1, .int .i64 3, .int .i64 2, .bool o1_1, .slice o1_2 o1_3 o1_4, .bool o1_5, .slice o1_6 o1_7 o1_8, .bool o2_1, .slice o2_2 o2_3 o2_4, .bool o2_5, .slice o2_6 o2_7 o2_8, .bool o3_1, .slice o3_2 o3_3 o3_4, .bool o3_5, .slice o3_6 o3_7 o3_8, .bool o4_1, .slice o4_2 o4_3 o4_4, .bool o4_5, .slice o4_6 o4_7 o4_8] := hrow.far ownK (show w6.heap.size ≠ w10.heap.size by omega)
    replace osl56 : Blk w11 (w7.heap.size) 23 #[.int .i64 0, .int .i64 0, .int .i64 5, .int .i64 0, .int .i64 0, .int .i64 0, .int .i64 5, .int .i64 0] := hrow.far ownK (show w7.heap.size ≠ w10.heap.size by omega)
    replace ovr : Blk w11 (w8.heap.size) 33 #[.int .i64 0, .int .i64 1, .int .i64 2, .int .i64 3, .bool yr0_1, .slice yr0_2 yr0_3 yr0_4, .bool yr0_5, .slice yr0_6 yr0_7 yr0_8, .bool yr1_1, .slice yr1_2 yr1_3 yr1_4, .bool yr1_5, .slice yr1_6 yr1_7 yr1_8, .bool yr2_1, .slice yr2_2 yr2_3 yr2_4, .bool yr2_5, .slice yr2_6 yr2_7 yr2_8, .bool yr3_1, .slice yr3_2 yr3_3 yr3_4, .bool yr3_5, .slice yr3_6 yr3_7 yr3_8] := hrow.far ownK (show w8.heap.size ≠ w10.heap.size by omega)
    have ova : Blk w11 (w10.heap.size) 33 #[.int .i64 0, .int .i64 0, .int .i64 0, .int .i64 0, .bool ya0_1, .slice ya0_2 ya0_3 ya0_4, .bool ya0_5, .slice ya0_6 ya0_7 ya0_8, .bool ya1_1, .slice ya1_2 ya1_3 ya1_4, .bool ya1_5, .slice ya1_6 ya1_7 ya1_8, .bool ya2_1, .slice ya2_2 ya2_3 ya2_4, .bool ya2_5, .slice ya2_6 ya2_7 ya2_8, .bool ya3_1, .slice ya3_2 ya3_3 ya3_4, .bool ya3_5, .slice ya3_6 ya3_7 ya3_8] := hrow.blk
    replace B := Bn
    clear Bn hrow
    replace Fyq0 := Hid.mk_ (Fyq0.out.keeps kp)
    replace Fyq1 := Hid.mk_ (Fyq1.out.keeps kp)
    replace Fyq2 := Hid.mk_ (Fyq2.out.keeps kp)
    replace Fyq3 := Hid.mk_ (Fyq3.out.keeps kp)
    replace Fo1_ := Hid.mk_ (Fo1_.out.keeps kp)
    replace Fo2_ := Hid.mk_ (Fo2_.out.keeps kp)
    replace Fo3_ := Hid.mk_ (Fo3_.out.keeps kp)
    replace Fo4_ := Hid.mk_ (Fo4_.out.keeps kp)
    replace Fyr0 := Hid.mk_ (Fyr0.out.keeps kp)
    replace Fyr1 := Hid.mk_ (Fyr1.out.keeps kp)
    replace Fyr2 := Hid.mk_ (Fyr2.out.keeps kp)
    replace Fyr3 := Hid.mk_ (Fyr3.out.keeps kp)
    clear kp
    have zva_11 : w10.heap.size < w11.heap.size := ova.lt
    have zz11 := B.size
    skip)
  )
 refine (c4 _ (pts_far ownK)).mono ?_
 rintro e w12 ⟨yb0_1, yb0_2, yb0_3, yb0_4, yb0_5, yb0_6, yb0_7, yb0_8, yb1_1, yb1_2, yb1_3, yb1_4, yb1_5, yb1_6, yb1_7, yb1_8, yb2_1, yb2_2, yb2_3, yb2_4, yb2_5, yb2_6, yb2_7, yb2_8, yb3_1, yb3_2, yb3_3, yb3_4, yb3_5, yb3_6, yb3_7, yb3_8, rfl, hb12⟩
 have st : Steps _ w12 := hb12
 have sk : Below w11.heap.size w11 w12 := belowA st
 replace B := below_steps B (Nat.le_refl _) sk
 replace osl38 := osl38.steps sk
 replace ovq := ovq.steps sk
 replace ovh := ovh.steps sk
 replace osl56 := osl56.steps sk
 replace ovr := ovr.steps sk
 replace ova := ova.steps sk
 replace Fyq0 := Hid.mk_ (Fyq0.out.steps sk)
 replace Fyq1 := Hid.mk_ (Fyq1.out.steps sk)
 replace Fyq2 := Hid.mk_ (Fyq2.out.steps sk)
 replace Fyq3 := Hid.mk_ (Fyq3.out.steps sk)
 replace Fo1_ := Hid.mk_ (Fo1_.out.steps sk)
 replace Fo2_ := Hid.mk_ (Fo2_.out.steps sk)
 replace Fo3_ := Hid.mk_ (Fo3_.out.steps sk)
 replace Fo4_ := Hid.mk_ (Fo4_.out.steps sk)
 replace Fyr0 := Hid.mk_ (Fyr0.out.steps sk)
 replace Fyr1 := Hid.mk_ (Fyr1.out.steps sk)
 replace Fyr2 := Hid.mk_ (Fyr2.out.steps sk)
 replace Fyr3 := Hid.mk_ (Fyr3.out.steps sk)
 clear st sk
 have zva_12 : w10.heap.size < w12.heap.size := ova.lt
 have zz12 := B.size
 go_wp2_with (first
  | (
    (with_reducible show wpList _ _ _ (⟨none, .store _ _ _, _, _, _, _⟩ :: _) _ _)
    refine store_big rfl 33 (.tmp 10) (.tmp 74) rfl (w12.heap.size) #[.int .i64 0, .int .i64 0, .int .i64 0, .int .i64 0, .bool yb0_1, .slice yb0_2 yb0_3 yb0_4, .bool yb0_5, .slice yb0_6 yb0_7 yb0_8, .bool yb1_1, .slice yb1_2 yb1_3 yb1_4, .bool yb1_5, .slice yb1_6 yb1_7 yb1_8, .bool yb2_1, .slice yb2_2 yb2_3 yb2_4, .bool yb2_5, .slice yb2_6 yb2_7 yb2_8, .bool yb3_1, .slice yb3_2 yb3_3 yb3_4, .bool yb3_5, .slice yb3_6 yb3_7 yb3_8] rfl rfl 33 #[.int .i64 0, .int .i64 0, .int .i64 0, .int .i64 0, .bool false, .slice none 0 0, .bool false, .slice none 0 0, .bool false, .slice none 0 0, .bool false, .slice none 0 0, .bool false, .slice none 0 0, .bool false, .slice none 0 0, .bool false, .slice none 0 0, .bool false, .slice none 0 0] ownK (by kernel_rfl) rfl (by simp [Value.oneCell']) (fun w13 hrow => ?_)
    have Bn : Below w.heap.size w w13 := hrow.below belowB (by omega)
    have kp : Keeps w12 w13 := Keeps.trans keepsB (hrow.keeps rfl)
    replace osl38 : Blk w13 (w.heap.size) 23 #[.int .i64 1, .int .i64 1, .int .i64 0, .int .i64 0, .int .i64 1, .int .i64 0, .int .i64 0, .int .i64 1] := hrow.far ownK (show w.heap.size ≠ w12.heap.size by omega)
    replace ovq : Blk w13 (w1.heap.size) 33 #[.int .i64 0, .int .i64 1, .int .i64 3, .int .i64 2, .bool yq0_1, .slice yq0_2 yq0_3 yq0_4, .bool yq0_5, .slice yq0_6 yq0_7 yq0_8, .bool yq1_1, .slice yq1_2 yq1_3 yq1_4, .bool yq1_5, .slice yq1_6 yq1_7 yq1_8, .bool yq2_1, .slice yq2_2 yq2_3 yq2_4, .bool yq2_5, .slice yq2_6 yq2_7 yq2_8, .bool yq3_1, .slice yq3_2 yq3_3 yq3_4, .bool yq3_5, .slice yq3_6 yq3_7 yq3_8] := hrow.far ownK (show w1.heap.size ≠ w12.heap.size by omega)
    replace ovh : Blk w13 (w6.heap.size) 33 #[.int .i64 0, .int .i64 1, .int .i64 3, .int .i64 2, .bool o1_1, .slice o1_2 o1_3 o1_4, .bool o1_5, .slice o1_6 o1_7 o1_8, .bool o2_1, .slice o2_2 o2_3 o2_4, .bool o2_5, .slice o2_6 o2_7 o2_8, .bool o3_1, .slice o3_2 o3_3 o3_4, .bool o3_5, .slice o3_6 o3_7 o3_8, .bool o4_1, .slice o4_2 o4_3 o4_4, .bool o4_5, .slice o4_6 o4_7 o4_8] := hrow.far ownK (show w6.heap.size ≠ w12.heap.size by omega)
    replace osl56 : Blk w13 (w7.heap.size) 23 #[.int .i64 0, .int .i64 0, .int .i64 5, .int .i64 0, .int .i64 0, .int .i64 0, .int .i64 5, .int .i64 0] := hrow.far ownK (show w7.heap.size ≠ w12.heap.size by omega)
    replace ovr : Blk w13 (w8.heap.size) 33 #[.int .i64 0, .int .i64 1, .int .i64 2, .int .i64 3, .bool yr0_1, .slice yr0_2 yr0_3 yr0_4, .bool yr0_5, .slice yr0_6 yr0_7 yr0_8, .bool yr1_1, .slice yr1_2 yr1_3 yr1_4, .bool yr1_5, .slice yr1_6 yr1_7 yr1_8, .bool yr2_1, .slice yr2_2 yr2_3 yr2_4, .bool yr2_5, .slice yr2_6 yr2_7 yr2_8, .bool yr3_1, .slice yr3_2 yr3_3 yr3_4, .bool yr3_5, .slice yr3_6 yr3_7 yr3_8] := hrow.far ownK (show w8.heap.size ≠ w12.heap.size by omega)
    replace ova : Blk w13 (w10.heap.size) 33 #[.int .i64 0, .int .i64 0, .int .i64 0, .int .i64 0, .bool ya0_1, .slice ya0_2 ya0_3 ya0_4, .bool ya0_5, .slice ya0_6 ya0_7 ya0_8, .bool ya1_1, .slice ya1_2 ya1_3 ya1_4, .bool ya1_5, .slice ya1_6 ya1_7 ya1_8, .bool ya2_1, .slice ya2_2 ya2_3 ya2_4, .bool ya2_5, .slice ya2_6 ya2_7 ya2_8, .bool ya3_1, .slice ya3_2 ya3_3 ya3_4, .bool ya3_5, .slice ya3_6 ya3_7 ya3_8] := hrow.far ownK (show w10.heap.size ≠ w12.heap.size by omega)
    have ovb : Blk w13 (w12.heap.size) 33 #[.int .i64 0, .int .i64 0, .int .i64 0, .int .i64 0, .bool yb0_1, .slice yb0_2 yb0_3 yb0_4, .bool yb0_5, .slice yb0_6 yb0_7 yb0_8, .bool yb1_1, .slice yb1_2 yb1_3 yb1_4, .bool yb1_5, .slice yb1_6 yb1_7 yb1_8, .bool yb2_1, .slice yb2_2 yb2_3 yb2_4, .bool yb2_5, .slice yb2_6 yb2_7 yb2_8, .bool yb3_1, .slice yb3_2 yb3_3 yb3_4, .bool yb3_5, .slice yb3_6 yb3_7 yb3_8] := hrow.blk
    replace B := Bn
    clear Bn hrow
    replace Fyq0 := Hid.mk_ (Fyq0.out.keeps kp)
    replace Fyq1 := Hid.mk_ (Fyq1.out.keeps kp)
    replace Fyq2 := Hid.mk_ (Fyq2.out.keeps kp)
    replace Fyq3 := Hid.mk_ (Fyq3.out.keeps kp)
    replace Fo1_ := Hid.mk_ (Fo1_.out.keeps kp)
    replace Fo2_ := Hid.mk_ (Fo2_.out.keeps kp)
    replace Fo3_ := Hid.mk_ (Fo3_.out.keeps kp)
    replace Fo4_ := Hid.mk_ (Fo4_.out.keeps kp)
    replace Fyr0 := Hid.mk_ (Fyr0.out.keeps kp)
    replace Fyr1 := Hid.mk_ (Fyr1.out.keeps kp)
    replace Fyr2 := Hid.mk_ (Fyr2.out.keeps kp)
    replace Fyr3 := Hid.mk_ (Fyr3.out.keeps kp)
    clear kp
    skip)
  )
 refine (c5 _ (pts_sq ownK)).mono ?_
 rintro e w14 ⟨yc0_1, yc0_2, yc0_3, yc0_4, yc0_5, yc0_6, yc0_7, yc0_8, yc1_1, yc1_2, yc1_3, yc1_4, yc1_5, yc1_6, yc1_7, yc1_8, yc2_1, yc2_2, yc2_3, yc2_4, yc2_5, yc2_6, yc2_7, yc2_8, yc3_1, yc3_2, yc3_3, yc3_4, yc3_5, yc3_6, yc3_7, yc3_8, rfl, hb14⟩
 have st : Steps _ w14 := hb14
 have sk : Below w13.heap.size w13 w14 := belowA st
 replace B := below_steps B (Nat.le_refl _) sk
 replace osl38 := osl38.steps sk
 replace ovq := ovq.steps sk
 replace ovh := ovh.steps sk
 replace osl56 := osl56.steps sk
 replace ovr := ovr.steps sk
 replace ova := ova.steps sk
 replace ovb := ovb.steps sk
 replace Fyq0 := Hid.mk_ (Fyq0.out.steps sk)
 replace Fyq1 := Hid.mk_ (Fyq1.out.steps sk)
 replace Fyq2 := Hid.mk_ (Fyq2.out.steps sk)
 replace Fyq3 := Hid.mk_ (Fyq3.out.steps sk)
 replace Fo1_ := Hid.mk_ (Fo1_.out.steps sk)
 replace Fo2_ := Hid.mk_ (Fo2_.out.steps sk)
 replace Fo3_ := Hid.mk_ (Fo3_.out.steps sk)
 replace Fo4_ := Hid.mk_ (Fo4_.out.steps sk)
 replace Fyr0 := Hid.mk_ (Fyr0.out.steps sk)
 replace Fyr1 := Hid.mk_ (Fyr1.out.steps sk)
 replace Fyr2 := Hid.mk_ (Fyr2.out.steps sk)
 replace Fyr3 := Hid.mk_ (Fyr3.out.steps sk)
 clear st sk
 have zvb_14 : w12.heap.size < w14.heap.size := ovb.lt
 have zz14 := B.size
 go_wp2_with (first
  | (
    (with_reducible show wpList _ _ _ (⟨none, .store _ _ _, _, _, _, _⟩ :: _) _ _)
    refine store_big rfl 33 (.tmp 12) (.tmp 80) rfl (w14.heap.size) #[.int .i64 0, .int .i64 0, .int .i64 0, .int .i64 0, .bool yc0_1, .slice yc0_2 yc0_3 yc0_4, .bool yc0_5, .slice yc0_6 yc0_7 yc0_8, .bool yc1_1, .slice yc1_2 yc1_3 yc1_4, .bool yc1_5, .slice yc1_6 yc1_7 yc1_8, .bool yc2_1, .slice yc2_2 yc2_3 yc2_4, .bool yc2_5, .slice yc2_6 yc2_7 yc2_8, .bool yc3_1, .slice yc3_2 yc3_3 yc3_4, .bool yc3_5, .slice yc3_6 yc3_7 yc3_8] rfl rfl 33 #[.int .i64 0, .int .i64 0, .int .i64 0, .int .i64 0, .bool false, .slice none 0 0, .bool false, .slice none 0 0, .bool false, .slice none 0 0, .bool false, .slice none 0 0, .bool false, .slice none 0 0, .bool false, .slice none 0 0, .bool false, .slice none 0 0, .bool false, .slice none 0 0] ownK (by kernel_rfl) rfl (by simp [Value.oneCell']) (fun w15 hrow => ?_)
    have Bn : Below w.heap.size w w15 := hrow.below belowB (by omega)
    have kp : Keeps w14 w15 := Keeps.trans keepsB (hrow.keeps rfl)
    replace osl38 : Blk w15 (w.heap.size) 23 #[.int .i64 1, .int .i64 1, .int .i64 0, .int .i64 0, .int .i64 1, .int .i64 0, .int .i64 0, .int .i64 1] := hrow.far ownK (show w.heap.size ≠ w14.heap.size by omega)
    replace ovq : Blk w15 (w1.heap.size) 33 #[.int .i64 0, .int .i64 1, .int .i64 3, .int .i64 2, .bool yq0_1, .slice yq0_2 yq0_3 yq0_4, .bool yq0_5, .slice yq0_6 yq0_7 yq0_8, .bool yq1_1, .slice yq1_2 yq1_3 yq1_4, .bool yq1_5, .slice yq1_6 yq1_7 yq1_8, .bool yq2_1, .slice yq2_2 yq2_3 yq2_4, .bool yq2_5, .slice yq2_6 yq2_7 yq2_8, .bool yq3_1, .slice yq3_2 yq3_3 yq3_4, .bool yq3_5, .slice yq3_6 yq3_7 yq3_8] := hrow.far ownK (show w1.heap.size ≠ w14.heap.size by omega)
    replace ovh : Blk w15 (w6.heap.size) 33 #[.int .i64 0, .int .i64 1, .int .i64 3, .int .i64 2, .bool o1_1, .slice o1_2 o1_3 o1_4, .bool o1_5, .slice o1_6 o1_7 o1_8, .bool o2_1, .slice o2_2 o2_3 o2_4, .bool o2_5, .slice o2_6 o2_7 o2_8, .bool o3_1, .slice o3_2 o3_3 o3_4, .bool o3_5, .slice o3_6 o3_7 o3_8, .bool o4_1, .slice o4_2 o4_3 o4_4, .bool o4_5, .slice o4_6 o4_7 o4_8] := hrow.far ownK (show w6.heap.size ≠ w14.heap.size by omega)
    replace osl56 : Blk w15 (w7.heap.size) 23 #[.int .i64 0, .int .i64 0, .int .i64 5, .int .i64 0, .int .i64 0, .int .i64 0, .int .i64 5, .int .i64 0] := hrow.far ownK (show w7.heap.size ≠ w14.heap.size by omega)
    replace ovr : Blk w15 (w8.heap.size) 33 #[.int .i64 0, .int .i64 1, .int .i64 2, .int .i64 3, .bool yr0_1, .slice yr0_2 yr0_3 yr0_4, .bool yr0_5, .slice yr0_6 yr0_7 yr0_8, .bool yr1_1, .slice yr1_2 yr1_3 yr1_4, .bool yr1_5, .slice yr1_6 yr1_7 yr1_8, .bool yr2_1, .slice yr2_2 yr2_3 yr2_4, .bool yr2_5, .slice yr2_6 yr2_7 yr2_8, .bool yr3_1, .slice yr3_2 yr3_3 yr3_4, .bool yr3_5, .slice yr3_6 yr3_7 yr3_8] := hrow.far ownK (show w8.heap.size ≠ w14.heap.size by omega)
    replace ova : Blk w15 (w10.heap.size) 33 #[.int .i64 0, .int .i64 0, .int .i64 0, .int .i64 0, .bool ya0_1, .slice ya0_2 ya0_3 ya0_4, .bool ya0_5, .slice ya0_6 ya0_7 ya0_8, .bool ya1_1, .slice ya1_2 ya1_3 ya1_4, .bool ya1_5, .slice ya1_6 ya1_7 ya1_8, .bool ya2_1, .slice ya2_2 ya2_3 ya2_4, .bool ya2_5, .slice ya2_6 ya2_7 ya2_8, .bool ya3_1, .slice ya3_2 ya3_3 ya3_4, .bool ya3_5, .slice ya3_6 ya3_7 ya3_8] := hrow.far ownK (show w10.heap.size ≠ w14.heap.size by omega)
    replace ovb : Blk w15 (w12.heap.size) 33 #[.int .i64 0, .int .i64 0, .int .i64 0, .int .i64 0, .bool yb0_1, .slice yb0_2 yb0_3 yb0_4, .bool yb0_5, .slice yb0_6 yb0_7 yb0_8, .bool yb1_1, .slice yb1_2 yb1_3 yb1_4, .bool yb1_5, .slice yb1_6 yb1_7 yb1_8, .bool yb2_1, .slice yb2_2 yb2_3 yb2_4, .bool yb2_5, .slice yb2_6 yb2_7 yb2_8, .bool yb3_1, .slice yb3_2 yb3_3 yb3_4, .bool yb3_5, .slice yb3_6 yb3_7 yb3_8] := hrow.far ownK (show w12.heap.size ≠ w14.heap.size by omega)
    have ovc : Blk w15 (w14.heap.size) 33 #[.int .i64 0, .int .i64 0, .int .i64 0, .int .i64 0, .bool yc0_1, .slice yc0_2 yc0_3 yc0_4, .bool yc0_5, .slice yc0_6 yc0_7 yc0_8, .bool yc1_1, .slice yc1_2 yc1_3 yc1_4, .bool yc1_5, .slice yc1_6 yc1_7 yc1_8, .bool yc2_1, .slice yc2_2 yc2_3 yc2_4, .bool yc2_5, .slice yc2_6 yc2_7 yc2_8, .bool yc3_1, .slice yc3_2 yc3_3 yc3_4, .bool yc3_5, .slice yc3_6 yc3_7 yc3_8] := hrow.blk
    replace B := Bn
    clear Bn hrow
    replace Fyq0 := Hid.mk_ (Fyq0.out.keeps kp)
    replace Fyq1 := Hid.mk_ (Fyq1.out.keeps kp)
    replace Fyq2 := Hid.mk_ (Fyq2.out.keeps kp)
    replace Fyq3 := Hid.mk_ (Fyq3.out.keeps kp)
    replace Fo1_ := Hid.mk_ (Fo1_.out.keeps kp)
    replace Fo2_ := Hid.mk_ (Fo2_.out.keeps kp)
    replace Fo3_ := Hid.mk_ (Fo3_.out.keeps kp)
    replace Fo4_ := Hid.mk_ (Fo4_.out.keeps kp)
    replace Fyr0 := Hid.mk_ (Fyr0.out.keeps kp)
    replace Fyr1 := Hid.mk_ (Fyr1.out.keeps kp)
    replace Fyr2 := Hid.mk_ (Fyr2.out.keeps kp)
    replace Fyr3 := Hid.mk_ (Fyr3.out.keeps kp)
    clear kp
    skip)
  )
 refine (c6 _ (pts_sq ownK)).mono ?_
 rintro e w16 ⟨yd0_1, yd0_2, yd0_3, yd0_4, yd0_5, yd0_6, yd0_7, yd0_8, yd1_1, yd1_2, yd1_3, yd1_4, yd1_5, yd1_6, yd1_7, yd1_8, yd2_1, yd2_2, yd2_3, yd2_4, yd2_5, yd2_6, yd2_7, yd2_8, yd3_1, yd3_2, yd3_3, yd3_4, yd3_5, yd3_6, yd3_7, yd3_8, rfl, hb16⟩
 have st : Steps _ w16 := hb16
 have sk : Below w15.heap.size w15 w16 := belowA st
 replace B := below_steps B (Nat.le_refl _) sk
 replace osl38 := osl38.steps sk
 replace ovq := ovq.steps sk
 replace ovh := ovh.steps sk
 replace osl56 := osl56.steps sk
 replace ovr := ovr.steps sk
 replace ova := ova.steps sk
 replace ovb := ovb.steps sk
 replace ovc := ovc.steps sk
 replace Fyq0 := Hid.mk_ (Fyq0.out.steps sk)
 replace Fyq1 := Hid.mk_ (Fyq1.out.steps sk)
 replace Fyq2 := Hid.mk_ (Fyq2.out.steps sk)
 replace Fyq3 := Hid.mk_ (Fyq3.out.steps sk)
 replace Fo1_ := Hid.mk_ (Fo1_.out.steps sk)
 replace Fo2_ := Hid.mk_ (Fo2_.out.steps sk)
 replace Fo3_ := Hid.mk_ (Fo3_.out.steps sk)
 replace Fo4_ := Hid.mk_ (Fo4_.out.steps sk)
 replace Fyr0 := Hid.mk_ (Fyr0.out.steps sk)
 replace Fyr1 := Hid.mk_ (Fyr1.out.steps sk)
 replace Fyr2 := Hid.mk_ (Fyr2.out.steps sk)
 replace Fyr3 := Hid.mk_ (Fyr3.out.steps sk)
 clear st sk
 have zvc_16 : w14.heap.size < w16.heap.size := ovc.lt
 have zz16 := B.size
 go_wp2_with (first
  | (
    (with_reducible show wpList _ _ _ (⟨none, .store _ _ _, _, _, _, _⟩ :: _) _ _)
    refine store_big rfl 33 (.tmp 14) (.tmp 86) rfl (w16.heap.size) #[.int .i64 0, .int .i64 0, .int .i64 0, .int .i64 0, .bool yd0_1, .slice yd0_2 yd0_3 yd0_4, .bool yd0_5, .slice yd0_6 yd0_7 yd0_8, .bool yd1_1, .slice yd1_2 yd1_3 yd1_4, .bool yd1_5, .slice yd1_6 yd1_7 yd1_8, .bool yd2_1, .slice yd2_2 yd2_3 yd2_4, .bool yd2_5, .slice yd2_6 yd2_7 yd2_8, .bool yd3_1, .slice yd3_2 yd3_3 yd3_4, .bool yd3_5, .slice yd3_6 yd3_7 yd3_8] rfl rfl 33 #[.int .i64 0, .int .i64 0, .int .i64 0, .int .i64 0, .bool false, .slice none 0 0, .bool false, .slice none 0 0, .bool false, .slice none 0 0, .bool false, .slice none 0 0, .bool false, .slice none 0 0, .bool false, .slice none 0 0, .bool false, .slice none 0 0, .bool false, .slice none 0 0] ownK (by kernel_rfl) rfl (by simp [Value.oneCell']) (fun w17 hrow => ?_)
    have Bn : Below w.heap.size w w17 := hrow.below belowB (by omega)
    have kp : Keeps w16 w17 := Keeps.trans keepsB (hrow.keeps rfl)
    replace osl38 : Blk w17 (w.heap.size) 23 #[.int .i64 1, .int .i64 1, .int .i64 0, .int .i64 0, .int .i64 1, .int .i64 0, .int .i64 0, .int .i64 1] := hrow.far ownK (show w.heap.size ≠ w16.heap.size by omega)
    replace ovq : Blk w17 (w1.heap.size) 33 #[.int .i64 0, .int .i64 1, .int .i64 3, .int .i64 2, .bool yq0_1, .slice yq0_2 yq0_3 yq0_4, .bool yq0_5, .slice yq0_6 yq0_7 yq0_8, .bool yq1_1, .slice yq1_2 yq1_3 yq1_4, .bool yq1_5, .slice yq1_6 yq1_7 yq1_8, .bool yq2_1, .slice yq2_2 yq2_3 yq2_4, .bool yq2_5, .slice yq2_6 yq2_7 yq2_8, .bool yq3_1, .slice yq3_2 yq3_3 yq3_4, .bool yq3_5, .slice yq3_6 yq3_7 yq3_8] := hrow.far ownK (show w1.heap.size ≠ w16.heap.size by omega)
    replace ovh : Blk w17 (w6.heap.size) 33 #[.int .i64 0, .int .i64 1, .int .i64 3, .int .i64 2, .bool o1_1, .slice o1_2 o1_3 o1_4, .bool o1_5, .slice o1_6 o1_7 o1_8, .bool o2_1, .slice o2_2 o2_3 o2_4, .bool o2_5, .slice o2_6 o2_7 o2_8, .bool o3_1, .slice o3_2 o3_3 o3_4, .bool o3_5, .slice o3_6 o3_7 o3_8, .bool o4_1, .slice o4_2 o4_3 o4_4, .bool o4_5, .slice o4_6 o4_7 o4_8] := hrow.far ownK (show w6.heap.size ≠ w16.heap.size by omega)
    replace osl56 : Blk w17 (w7.heap.size) 23 #[.int .i64 0, .int .i64 0, .int .i64 5, .int .i64 0, .int .i64 0, .int .i64 0, .int .i64 5, .int .i64 0] := hrow.far ownK (show w7.heap.size ≠ w16.heap.size by omega)
    replace ovr : Blk w17 (w8.heap.size) 33 #[.int .i64 0, .int .i64 1, .int .i64 2, .int .i64 3, .bool yr0_1, .slice yr0_2 yr0_3 yr0_4, .bool yr0_5, .slice yr0_6 yr0_7 yr0_8, .bool yr1_1, .slice yr1_2 yr1_3 yr1_4, .bool yr1_5, .slice yr1_6 yr1_7 yr1_8, .bool yr2_1, .slice yr2_2 yr2_3 yr2_4, .bool yr2_5, .slice yr2_6 yr2_7 yr2_8, .bool yr3_1, .slice yr3_2 yr3_3 yr3_4, .bool yr3_5, .slice yr3_6 yr3_7 yr3_8] := hrow.far ownK (show w8.heap.size ≠ w16.heap.size by omega)
    replace ova : Blk w17 (w10.heap.size) 33 #[.int .i64 0, .int .i64 0, .int .i64 0, .int .i64 0, .bool ya0_1, .slice ya0_2 ya0_3 ya0_4, .bool ya0_5, .slice ya0_6 ya0_7 ya0_8, .bool ya1_1, .slice ya1_2 ya1_3 ya1_4, .bool ya1_5, .slice ya1_6 ya1_7 ya1_8, .bool ya2_1, .slice ya2_2 ya2_3 ya2_4, .bool ya2_5, .slice ya2_6 ya2_7 ya2_8, .bool ya3_1, .slice ya3_2 ya3_3 ya3_4, .bool ya3_5, .slice ya3_6 ya3_7 ya3_8] := hrow.far ownK (show w10.heap.size ≠ w16.heap.size by omega)
    replace ovb : Blk w17 (w12.heap.size) 33 #[.int .i64 0, .int .i64 0, .int .i64 0, .int .i64 0, .bool yb0_1, .slice yb0_2 yb0_3 yb0_4, .bool yb0_5, .slice yb0_6 yb0_7 yb0_8, .bool yb1_1, .slice yb1_2 yb1_3 yb1_4, .bool yb1_5, .slice yb1_6 yb1_7 yb1_8, .bool yb2_1, .slice yb2_2 yb2_3 yb2_4, .bool yb2_5, .slice yb2_6 yb2_7 yb2_8, .bool yb3_1, .slice yb3_2 yb3_3 yb3_4, .bool yb3_5, .slice yb3_6 yb3_7 yb3_8] := hrow.far ownK (show w12.heap.size ≠ w16.heap.size by omega)
    replace ovc : Blk w17 (w14.heap.size) 33 #[.int .i64 0, .int .i64 0, .int .i64 0, .int .i64 0, .bool yc0_1, .slice yc0_2 yc0_3 yc0_4, .bool yc0_5, .slice yc0_6 yc0_7 yc0_8, .bool yc1_1, .slice yc1_2 yc1_3 yc1_4, .bool yc1_5, .slice yc1_6 yc1_7 yc1_8, .bool yc2_1, .slice yc2_2 yc2_3 yc2_4, .bool yc2_5, .slice yc2_6 yc2_7 yc2_8, .bool yc3_1, .slice yc3_2 yc3_3 yc3_4, .bool yc3_5, .slice yc3_6 yc3_7 yc3_8] := hrow.far ownK (show w14.heap.size ≠ w16.heap.size by omega)
    have ovd : Blk w17 (w16.heap.size) 33 #[.int .i64 0, .int .i64 0, .int .i64 0, .int .i64 0, .bool yd0_1, .slice yd0_2 yd0_3 yd0_4, .bool yd0_5, .slice yd0_6 yd0_7 yd0_8, .bool yd1_1, .slice yd1_2 yd1_3 yd1_4, .bool yd1_5, .slice yd1_6 yd1_7 yd1_8, .bool yd2_1, .slice yd2_2 yd2_3 yd2_4, .bool yd2_5, .slice yd2_6 yd2_7 yd2_8, .bool yd3_1, .slice yd3_2 yd3_3 yd3_4, .bool yd3_5, .slice yd3_6 yd3_7 yd3_8] := hrow.blk
    replace B := Bn
    clear Bn hrow
    replace Fyq0 := Hid.mk_ (Fyq0.out.keeps kp)
    replace Fyq1 := Hid.mk_ (Fyq1.out.keeps kp)
    replace Fyq2 := Hid.mk_ (Fyq2.out.keeps kp)
    replace Fyq3 := Hid.mk_ (Fyq3.out.keeps kp)
    replace Fo1_ := Hid.mk_ (Fo1_.out.keeps kp)
    replace Fo2_ := Hid.mk_ (Fo2_.out.keeps kp)
    replace Fo3_ := Hid.mk_ (Fo3_.out.keeps kp)
    replace Fo4_ := Hid.mk_ (Fo4_.out.keeps kp)
    replace Fyr0 := Hid.mk_ (Fyr0.out.keeps kp)
    replace Fyr1 := Hid.mk_ (Fyr1.out.keeps kp)
    replace Fyr2 := Hid.mk_ (Fyr2.out.keeps kp)
    replace Fyr3 := Hid.mk_ (Fyr3.out.keeps kp)
    clear kp
    have zvd_17 : w16.heap.size < w17.heap.size := ovd.lt
    have zz17 := B.size
    skip)
  )
 refine (c7 _ (pts_zeros (by decide) ownK)).mono ?_
 rintro e w18 ⟨yg0_1, yg0_2, yg0_3, yg0_4, yg0_5, yg0_6, yg0_7, yg0_8, yg1_1, yg1_2, yg1_3, yg1_4, yg1_5, yg1_6, yg1_7, yg1_8, yg2_1, yg2_2, yg2_3, yg2_4, yg2_5, yg2_6, yg2_7, yg2_8, yg3_1, yg3_2, yg3_3, yg3_4, yg3_5, yg3_6, yg3_7, yg3_8, rfl, hb18⟩
 have st : Steps _ w18 := hb18
 have sk : Below w17.heap.size w17 w18 := belowA st
 replace B := below_steps B (Nat.le_refl _) sk
 replace osl38 := osl38.steps sk
 replace ovq := ovq.steps sk
 replace ovh := ovh.steps sk
 replace osl56 := osl56.steps sk
 replace ovr := ovr.steps sk
 replace ova := ova.steps sk
 replace ovb := ovb.steps sk
 replace ovc := ovc.steps sk
 replace ovd := ovd.steps sk
 replace Fyq0 := Hid.mk_ (Fyq0.out.steps sk)
 replace Fyq1 := Hid.mk_ (Fyq1.out.steps sk)
 replace Fyq2 := Hid.mk_ (Fyq2.out.steps sk)
 replace Fyq3 := Hid.mk_ (Fyq3.out.steps sk)
 replace Fo1_ := Hid.mk_ (Fo1_.out.steps sk)
 replace Fo2_ := Hid.mk_ (Fo2_.out.steps sk)
 replace Fo3_ := Hid.mk_ (Fo3_.out.steps sk)
 replace Fo4_ := Hid.mk_ (Fo4_.out.steps sk)
 replace Fyr0 := Hid.mk_ (Fyr0.out.steps sk)
 replace Fyr1 := Hid.mk_ (Fyr1.out.steps sk)
 replace Fyr2 := Hid.mk_ (Fyr2.out.steps sk)
 replace Fyr3 := Hid.mk_ (Fyr3.out.steps sk)
 clear st sk
 have zvd_18 : w16.heap.size < w18.heap.size := ovd.lt
 have zz18 := B.size
 go_wp2_with (first
  | (
    (with_reducible show wpList _ _ _ (⟨none, .store _ _ _, _, _, _, _⟩ :: _) _ _)
    refine store_big rfl 33 (.tmp 16) (.tmp 92) rfl (w18.heap.size) #[.int .i64 0, .int .i64 0, .int .i64 0, .int .i64 0, .bool yg0_1, .slice yg0_2 yg0_3 yg0_4, .bool yg0_5, .slice yg0_6 yg0_7 yg0_8, .bool yg1_1, .slice yg1_2 yg1_3 yg1_4, .bool yg1_5, .slice yg1_6 yg1_7 yg1_8, .bool yg2_1, .slice yg2_2 yg2_3 yg2_4, .bool yg2_5, .slice yg2_6 yg2_7 yg2_8, .bool yg3_1, .slice yg3_2 yg3_3 yg3_4, .bool yg3_5, .slice yg3_6 yg3_7 yg3_8] rfl rfl 33 #[.int .i64 0, .int .i64 0, .int .i64 0, .int .i64 0, .bool false, .slice none 0 0, .bool false, .slice none 0 0, .bool false, .slice none 0 0, .bool false, .slice none 0 0, .bool false, .slice none 0 0, .bool false, .slice none 0 0, .bool false, .slice none 0 0, .bool false, .slice none 0 0] ownK (by kernel_rfl) rfl (by simp [Value.oneCell']) (fun w19 hrow => ?_)
    have Bn : Below w.heap.size w w19 := hrow.below belowB (by omega)
    have kp : Keeps w18 w19 := Keeps.trans keepsB (hrow.keeps rfl)
    replace osl38 : Blk w19 (w.heap.size) 23 #[.int .i64 1, .int .i64 1, .int .i64 0, .int .i64 0, .int .i64 1, .int .i64 0, .int .i64 0, .int .i64 1] := hrow.far ownK (show w.heap.size ≠ w18.heap.size by omega)
    replace ovq : Blk w19 (w1.heap.size) 33 #[.int .i64 0, .int .i64 1, .int .i64 3, .int .i64 2, .bool yq0_1, .slice yq0_2 yq0_3 yq0_4, .bool yq0_5, .slice yq0_6 yq0_7 yq0_8, .bool yq1_1, .slice yq1_2 yq1_3 yq1_4, .bool yq1_5, .slice yq1_6 yq1_7 yq1_8, .bool yq2_1, .slice yq2_2 yq2_3 yq2_4, .bool yq2_5, .slice yq2_6 yq2_7 yq2_8, .bool yq3_1, .slice yq3_2 yq3_3 yq3_4, .bool yq3_5, .slice yq3_6 yq3_7 yq3_8] := hrow.far ownK (show w1.heap.size ≠ w18.heap.size by omega)
    replace ovh : Blk w19 (w6.heap.size) 33 #[.int .i64 0, .int .i64 1, .int .i64 3, .int .i64 2, .bool o1_1, .slice o1_2 o1_3 o1_4, .bool o1_5, .slice o1_6 o1_7 o1_8, .bool o2_1, .slice o2_2 o2_3 o2_4, .bool o2_5, .slice o2_6 o2_7 o2_8, .bool o3_1, .slice o3_2 o3_3 o3_4, .bool o3_5, .slice o3_6 o3_7 o3_8, .bool o4_1, .slice o4_2 o4_3 o4_4, .bool o4_5, .slice o4_6 o4_7 o4_8] := hrow.far ownK (show w6.heap.size ≠ w18.heap.size by omega)
    replace osl56 : Blk w19 (w7.heap.size) 23 #[.int .i64 0, .int .i64 0, .int .i64 5, .int .i64 0, .int .i64 0, .int .i64 0, .int .i64 5, .int .i64 0] := hrow.far ownK (show w7.heap.size ≠ w18.heap.size by omega)
    replace ovr : Blk w19 (w8.heap.size) 33 #[.int .i64 0, .int .i64 1, .int .i64 2, .int .i64 3, .bool yr0_1, .slice yr0_2 yr0_3 yr0_4, .bool yr0_5, .slice yr0_6 yr0_7 yr0_8, .bool yr1_1, .slice yr1_2 yr1_3 yr1_4, .bool yr1_5, .slice yr1_6 yr1_7 yr1_8, .bool yr2_1, .slice yr2_2 yr2_3 yr2_4, .bool yr2_5, .slice yr2_6 yr2_7 yr2_8, .bool yr3_1, .slice yr3_2 yr3_3 yr3_4, .bool yr3_5, .slice yr3_6 yr3_7 yr3_8] := hrow.far ownK (show w8.heap.size ≠ w18.heap.size by omega)
    replace ova : Blk w19 (w10.heap.size) 33 #[.int .i64 0, .int .i64 0, .int .i64 0, .int .i64 0, .bool ya0_1, .slice ya0_2 ya0_3 ya0_4, .bool ya0_5, .slice ya0_6 ya0_7 ya0_8, .bool ya1_1, .slice ya1_2 ya1_3 ya1_4, .bool ya1_5, .slice ya1_6 ya1_7 ya1_8, .bool ya2_1, .slice ya2_2 ya2_3 ya2_4, .bool ya2_5, .slice ya2_6 ya2_7 ya2_8, .bool ya3_1, .slice ya3_2 ya3_3 ya3_4, .bool ya3_5, .slice ya3_6 ya3_7 ya3_8] := hrow.far ownK (show w10.heap.size ≠ w18.heap.size by omega)
    replace ovb : Blk w19 (w12.heap.size) 33 #[.int .i64 0, .int .i64 0, .int .i64 0, .int .i64 0, .bool yb0_1, .slice yb0_2 yb0_3 yb0_4, .bool yb0_5, .slice yb0_6 yb0_7 yb0_8, .bool yb1_1, .slice yb1_2 yb1_3 yb1_4, .bool yb1_5, .slice yb1_6 yb1_7 yb1_8, .bool yb2_1, .slice yb2_2 yb2_3 yb2_4, .bool yb2_5, .slice yb2_6 yb2_7 yb2_8, .bool yb3_1, .slice yb3_2 yb3_3 yb3_4, .bool yb3_5, .slice yb3_6 yb3_7 yb3_8] := hrow.far ownK (show w12.heap.size ≠ w18.heap.size by omega)
    replace ovc : Blk w19 (w14.heap.size) 33 #[.int .i64 0, .int .i64 0, .int .i64 0, .int .i64 0, .bool yc0_1, .slice yc0_2 yc0_3 yc0_4, .bool yc0_5, .slice yc0_6 yc0_7 yc0_8, .bool yc1_1, .slice yc1_2 yc1_3 yc1_4, .bool yc1_5, .slice yc1_6 yc1_7 yc1_8, .bool yc2_1, .slice yc2_2 yc2_3 yc2_4, .bool yc2_5, .slice yc2_6 yc2_7 yc2_8, .bool yc3_1, .slice yc3_2 yc3_3 yc3_4, .bool yc3_5, .slice yc3_6 yc3_7 yc3_8] := hrow.far ownK (show w14.heap.size ≠ w18.heap.size by omega)
    replace ovd : Blk w19 (w16.heap.size) 33 #[.int .i64 0, .int .i64 0, .int .i64 0, .int .i64 0, .bool yd0_1, .slice yd0_2 yd0_3 yd0_4, .bool yd0_5, .slice yd0_6 yd0_7 yd0_8, .bool yd1_1, .slice yd1_2 yd1_3 yd1_4, .bool yd1_5, .slice yd1_6 yd1_7 yd1_8, .bool yd2_1, .slice yd2_2 yd2_3 yd2_4, .bool yd2_5, .slice yd2_6 yd2_7 yd2_8, .bool yd3_1, .slice yd3_2 yd3_3 yd3_4, .bool yd3_5, .slice yd3_6 yd3_7 yd3_8] := hrow.far ownK (show w16.heap.size ≠ w18.heap.size by omega)
    have ovg : Blk w19 (w18.heap.size) 33 #[.int .i64 0, .int .i64 0, .int .i64 0, .int .i64 0, .bool yg0_1, .slice yg0_2 yg0_3 yg0_4, .bool yg0_5, .slice yg0_6 yg0_7 yg0_8, .bool yg1_1, .slice yg1_2 yg1_3 yg1_4, .bool yg1_5, .slice yg1_6 yg1_7 yg1_8, .bool yg2_1, .slice yg2_2 yg2_3 yg2_4, .bool yg2_5, .slice yg2_6 yg2_7 yg2_8, .bool yg3_1, .slice yg3_2 yg3_3 yg3_4, .bool yg3_5, .slice yg3_6 yg3_7 yg3_8] := hrow.blk
    replace B := Bn
    clear Bn hrow
    replace Fyq0 := Hid.mk_ (Fyq0.out.keeps kp)
    replace Fyq1 := Hid.mk_ (Fyq1.out.keeps kp)
    replace Fyq2 := Hid.mk_ (Fyq2.out.keeps kp)
    replace Fyq3 := Hid.mk_ (Fyq3.out.keeps kp)
    replace Fo1_ := Hid.mk_ (Fo1_.out.keeps kp)
    replace Fo2_ := Hid.mk_ (Fo2_.out.keeps kp)
    replace Fo3_ := Hid.mk_ (Fo3_.out.keeps kp)
    replace Fo4_ := Hid.mk_ (Fo4_.out.keeps kp)
    replace Fyr0 := Hid.mk_ (Fyr0.out.keeps kp)
    replace Fyr1 := Hid.mk_ (Fyr1.out.keeps kp)
    replace Fyr2 := Hid.mk_ (Fyr2.out.keeps kp)
    replace Fyr3 := Hid.mk_ (Fyr3.out.keeps kp)
    clear kp
    have zvg_19 : w18.heap.size < w19.heap.size := ovg.lt
    have zz19 := B.size
    skip)
  | (
    (with_reducible show wpList _ _ _ (⟨some 97, _, _, _, _, _⟩ :: _) _ _)
    refine app_pts44 rfl (.tmp 95) (.tmp 96) rfl (w19.heap.size) (w.heap.size) rfl ownK rfl ownK (fun p11 c11 w20 hv11 hb11 => ?_)
    have st : Steps _ w20 := hb11
    have sk : Below w19.heap.size w19 w20 := belowA st
    replace B := below_steps B (Nat.le_refl _) sk
    replace osl38 := osl38.steps sk
    replace ovq := ovq.steps sk
    replace ovh := ovh.steps sk
    replace osl56 := osl56.steps sk
    replace ovr := ovr.steps sk
    replace ova := ova.steps sk
    replace ovb := ovb.steps sk
    replace ovc := ovc.steps sk
    replace ovd := ovd.steps sk
    replace ovg := ovg.steps sk
    replace Fyq0 := Hid.mk_ (Fyq0.out.steps sk)
    replace Fyq1 := Hid.mk_ (Fyq1.out.steps sk)
    replace Fyq2 := Hid.mk_ (Fyq2.out.steps sk)
    replace Fyq3 := Hid.mk_ (Fyq3.out.steps sk)
    replace Fo1_ := Hid.mk_ (Fo1_.out.steps sk)
    replace Fo2_ := Hid.mk_ (Fo2_.out.steps sk)
    replace Fo3_ := Hid.mk_ (Fo3_.out.steps sk)
    replace Fo4_ := Hid.mk_ (Fo4_.out.steps sk)
    replace Fyr0 := Hid.mk_ (Fyr0.out.steps sk)
    replace Fyr1 := Hid.mk_ (Fyr1.out.steps sk)
    replace Fyr2 := Hid.mk_ (Fyr2.out.steps sk)
    replace Fyr3 := Hid.mk_ (Fyr3.out.steps sk)
    clear st sk
    have Fp11 := Hid.mk_ hv11
    clear hv11
    skip)
  )
 refine (A5 _ _ (Fp11.out.steps belowB)).mono ?_
 rintro e w21 ⟨l11, d11, rfl, hb21⟩
 have st : Steps _ w21 := hb21
 have sk : Below w20.heap.size w20 w21 := belowA st
 replace B := below_steps B (Nat.le_refl _) sk
 replace osl38 := osl38.steps sk
 replace ovq := ovq.steps sk
 replace ovh := ovh.steps sk
 replace osl56 := osl56.steps sk
 replace ovr := ovr.steps sk
 replace ova := ova.steps sk
 replace ovb := ovb.steps sk
 replace ovc := ovc.steps sk
 replace ovd := ovd.steps sk
 replace ovg := ovg.steps sk
 replace Fyq0 := Hid.mk_ (Fyq0.out.steps sk)
 replace Fyq1 := Hid.mk_ (Fyq1.out.steps sk)
 replace Fyq2 := Hid.mk_ (Fyq2.out.steps sk)
 replace Fyq3 := Hid.mk_ (Fyq3.out.steps sk)
 replace Fo1_ := Hid.mk_ (Fo1_.out.steps sk)
 replace Fo2_ := Hid.mk_ (Fo2_.out.steps sk)
 replace Fo3_ := Hid.mk_ (Fo3_.out.steps sk)
 replace Fo4_ := Hid.mk_ (Fo4_.out.steps sk)
 replace Fyr0 := Hid.mk_ (Fyr0.out.steps sk)
 replace Fyr1 := Hid.mk_ (Fyr1.out.steps sk)
 replace Fyr2 := Hid.mk_ (Fyr2.out.steps sk)
 replace Fyr3 := Hid.mk_ (Fyr3.out.steps sk)
 clear st sk
 clear Fp11
 go_wp2_with fail
 refine (A13 _ _ (pts_sq ownK)).mono ?_
 rintro e w22 ⟨l12, d12, rfl, hb22⟩
 have st : Steps _ w22 := hb22
 have sk : Below w21.heap.size w21 w22 := belowA st
 replace B := below_steps B (Nat.le_refl _) sk
 replace osl38 := osl38.steps sk
 replace ovq := ovq.steps sk
 replace ovh := ovh.steps sk
 replace osl56 := osl56.steps sk
 replace ovr := ovr.steps sk
 replace ova := ova.steps sk
 replace ovb := ovb.steps sk
 replace ovc := ovc.steps sk
 replace ovd := ovd.steps sk
 replace ovg := ovg.steps sk
 replace Fyq0 := Hid.mk_ (Fyq0.out.steps sk)
 replace Fyq1 := Hid.mk_ (Fyq1.out.steps sk)
 replace Fyq2 := Hid.mk_ (Fyq2.out.steps sk)
 replace Fyq3 := Hid.mk_ (Fyq3.out.steps sk)
 replace Fo1_ := Hid.mk_ (Fo1_.out.steps sk)
 replace Fo2_ := Hid.mk_ (Fo2_.out.steps sk)
 replace Fo3_ := Hid.mk_ (Fo3_.out.steps sk)
 replace Fo4_ := Hid.mk_ (Fo4_.out.steps sk)
 replace Fyr0 := Hid.mk_ (Fyr0.out.steps sk)
 replace Fyr1 := Hid.mk_ (Fyr1.out.steps sk)
 replace Fyr2 := Hid.mk_ (Fyr2.out.steps sk)
 replace Fyr3 := Hid.mk_ (Fyr3.out.steps sk)
 clear st sk
 go_wp2_with fail
 refine (A3 _ _ (pts_sq ownK)).mono ?_
 rintro e w23 ⟨l13, d13, rfl, hb23⟩
 have st : Steps _ w23 := hb23
 have sk : Below w22.heap.size w22 w23 := belowA st
 replace B := below_steps B (Nat.le_refl _) sk
 replace osl38 := osl38.steps sk
 replace ovq := ovq.steps sk
 replace ovh := ovh.steps sk
 replace osl56 := osl56.steps sk
 replace ovr := ovr.steps sk
 replace ova := ova.steps sk
 replace ovb := ovb.steps sk
 replace ovc := ovc.steps sk
 replace ovd := ovd.steps sk
 replace ovg := ovg.steps sk
 replace Fyq0 := Hid.mk_ (Fyq0.out.steps sk)
 replace Fyq1 := Hid.mk_ (Fyq1.out.steps sk)
 replace Fyq2 := Hid.mk_ (Fyq2.out.steps sk)
 replace Fyq3 := Hid.mk_ (Fyq3.out.steps sk)
 replace Fo1_ := Hid.mk_ (Fo1_.out.steps sk)
 replace Fo2_ := Hid.mk_ (Fo2_.out.steps sk)
 replace Fo3_ := Hid.mk_ (Fo3_.out.steps sk)
 replace Fo4_ := Hid.mk_ (Fo4_.out.steps sk)
 replace Fyr0 := Hid.mk_ (Fyr0.out.steps sk)
 replace Fyr1 := Hid.mk_ (Fyr1.out.steps sk)
 replace Fyr2 := Hid.mk_ (Fyr2.out.steps sk)
 replace Fyr3 := Hid.mk_ (Fyr3.out.steps sk)
 clear st sk
 obtain ⟨cvh0, cvh1, cvh2, cvh3, cvh4, cvh5, cvh6, cvh7, cvh8, cvh9, cvh10, cvh11, cvh12, cvh13, cvh14, cvh15, cvh16, cvh17, cvh18, cvh19⟩ := ovh.r19
 have lvh := ovh.lt
 go_wp2_with fail
 have zvg_23 : w18.heap.size < w23.heap.size := ovg.lt
 have zz23 := B.size
 go_upto_region 14 with fail
 refine Reg.wp_chain_n (fun N0 D v W => Below w.heap.size w W ∧ Keeps w23 W ∧ N0 ≤ W.heap.size ∧ Blk W (w.heap.size) 23 #[.int .i64 1, .int .i64 1, .int .i64 0, .int .i64 0, .int .i64 1, .int .i64 0, .int .i64 0, .int .i64 1] ∧ Blk W (w1.heap.size) 33 #[.int .i64 0, .int .i64 1, .int .i64 3, .int .i64 2, .bool yq0_1, .slice yq0_2 yq0_3 yq0_4, .bool yq0_5, .slice yq0_6 yq0_7 yq0_8, .bool yq1_1, .slice yq1_2 yq1_3 yq1_4, .bool yq1_5, .slice yq1_6 yq1_7 yq1_8, .bool yq2_1, .slice yq2_2 yq2_3 yq2_4, .bool yq2_5, .slice yq2_6 yq2_7 yq2_8, .bool yq3_1, .slice yq3_2 yq3_3 yq3_4, .bool yq3_5, .slice yq3_6 yq3_7 yq3_8] ∧ Blk W (w6.heap.size) 33 #[.int .i64 0, .int .i64 1, .int .i64 3, .int .i64 2, .bool o1_1, .slice o1_2 o1_3 o1_4, .bool o1_5, .slice o1_6 o1_7 o1_8, .bool o2_1, .slice o2_2 o2_3 o2_4, .bool o2_5, .slice o2_6 o2_7 o2_8, .bool o3_1, .slice o3_2 o3_3 o3_4, .bool o3_5, .slice o3_6 o3_7 o3_8, .bool o4_1, .slice o4_2 o4_3 o4_4, .bool o4_5, .slice o4_6 o4_7 o4_8] ∧ Blk W (w7.heap.size) 23 #[.int .i64 0, .int .i64 0, .int .i64 5, .int .i64 0, .int .i64 0, .int .i64 0, .int .i64 5, .int .i64 0] ∧ Blk W (w8.heap.size) 33 #[.int .i64 0, .int .i64 1, .int .i64 2, .int .i64 3, .bool yr0_1, .slice yr0_2 yr0_3 yr0_4, .bool yr0_5, .slice yr0_6 yr0_7 yr0_8, .bool yr1_1, .slice yr1_2 yr1_3 yr1_4, .bool yr1_5, .slice yr1_6 yr1_7 yr1_8, .bool yr2_1, .slice yr2_2 yr2_3 yr2_4, .bool yr2_5, .slice yr2_6 yr2_7 yr2_8, .bool yr3_1, .slice yr3_2 yr3_3 yr3_4, .bool yr3_5, .slice yr3_6 yr3_7 yr3_8] ∧ Blk W (w10.heap.size) 33 #[.int .i64 0, .int .i64 0, .int .i64 0, .int .i64 0, .bool ya0_1, .slice ya0_2 ya0_3 ya0_4, .bool ya0_5, .slice ya0_6 ya0_7 ya0_8, .bool ya1_1, .slice ya1_2 ya1_3 ya1_4, .bool ya1_5, .slice ya1_6 ya1_7 ya1_8, .bool ya2_1, .slice ya2_2 ya2_3 ya2_4, .bool ya2_5, .slice ya2_6 ya2_7 ya2_8, .bool ya3_1, .slice ya3_2 ya3_3 ya3_4, .bool ya3_5, .slice ya3_6 ya3_7 ya3_8] ∧ Blk W (w12.heap.size) 33 #[.int .i64 0, .int .i64 0, .int .i64 0, .int .i64 0, .bool yb0_1, .slice yb0_2 yb0_3 yb0_4, .bool yb0_5, .slice yb0_6 yb0_7 yb0_8, .bool yb1_1, .slice yb1_2 yb1_3 yb1_4, .bool yb1_5, .slice yb1_6 yb1_7 yb1_8, .bool yb2_1, .slice yb2_2 yb2_3 yb2_4, .bool yb2_5, .slice yb2_6 yb2_7 yb2_8, .bool yb3_1, .slice yb3_2 yb3_3 yb3_4, .bool yb3_5, .slice yb3_6 yb3_7 yb3_8] ∧ Blk W (w14.heap.size) 33 #[.int .i64 0, .int .i64 0, .int .i64 0, .int .i64 0, .bool yc0_1, .slice yc0_2 yc0_3 yc0_4, .bool yc0_5, .slice yc0_6 yc0_7 yc0_8, .bool yc1_1, .slice yc1_2 yc1_3 yc1_4, .bool yc1_5, .slice yc1_6 yc1_7 yc1_8, .bool yc2_1, .slice yc2_2 yc2_3 yc2_4, .bool yc2_5, .slice yc2_6 yc2_7 yc2_8, .bool yc3_1, .slice yc3_2 yc3_3 yc3_4, .bool yc3_5, .slice yc3_6 yc3_7 yc3_8] ∧ Blk W (w16.heap.size) 33 #[.int .i64 0, .int .i64 0, .int .i64 0, .int .i64 0, .bool yd0_1, .slice yd0_2 yd0_3 yd0_4, .bool yd0_5, .slice yd0_6 yd0_7 yd0_8, .bool yd1_1, .slice yd1_2 yd1_3 yd1_4, .bool yd1_5, .slice yd1_6 yd1_7 yd1_8, .bool yd2_1, .slice yd2_2 yd2_3 yd2_4, .bool yd2_5, .slice yd2_6 yd2_7 yd2_8, .bool yd3_1, .slice yd3_2 yd3_3 yd3_4, .bool yd3_5, .slice yd3_6 yd3_7 yd3_8] ∧ Blk W (w18.heap.size) 33 #[.int .i64 0, .int .i64 0, .int .i64 0, .int .i64 0, .bool yg0_1, .slice yg0_2 yg0_3 yg0_4, .bool yg0_5, .slice yg0_6 yg0_7 yg0_8, .bool yg1_1, .slice yg1_2 yg1_3 yg1_4, .bool yg1_5, .slice yg1_6 yg1_7 yg1_8, .bool yg2_1, .slice yg2_2 yg2_3 yg2_4, .bool yg2_5, .slice yg2_6 yg2_7 yg2_8, .bool yg3_1, .slice yg3_2 yg3_3 yg3_4, .bool yg3_5, .slice yg3_6 yg3_7 yg3_8])
  (Reg.inl [2, 3]) (Reg.gv [(2, IsFr), (3, fun z_ => z_ = .tuple #[.bool false, .int .i64 8])]) (gw [(2, GFr (qz))]) (fun _ => Keeps) (fun _ _ => False) (Reg.pl [(3, [(2, some 114)]), (9, [(2, some 114), (3, some 115)])]) (Reg.pl [])
  (by kernel_rfl) (by kernel_rfl) (by kernel_rfl) (Reg.gv_some _ (by intro p hp; simp only [List.mem_cons, List.not_mem_nil, or_false] at hp; rcases hp with rfl | rfl <;> first | exact ⟨_, rfl⟩ | exact ⟨_, 0, rfl⟩ | exact ⟨_, none, 0, rfl⟩ | exact ⟨_, none, 0, 0, rfl⟩ | exact ⟨_, false, none, 0, 0, rfl⟩ | exact ⟨_, false, none, 0, 0, false, none, 0, 0, rfl⟩)) (fun N0 hN0 => ⟨fun v => ?_, fun D v v' W hv hj => ?_, fun D v k j W W' x _ _ _ _ hk hg => gwA hk hg, fun _ _ _ _ h => h.elim, fun ops' Q' hops hQ => ?_⟩)
 · exact ⟨belowB, keepsB, by first | with_reducible exact Nat.le_of_eq hN0.out | (simp only [World.size_drew]; with_reducible exact Nat.le_of_eq hN0.out), ownK, ownK, ownK, ownK, ownK, ownK, ownK, ownK, ownK, ownK⟩
 ·
  obtain ⟨j0, jk, jn, b_sl38, b_vq, b_vh, b_sl56, b_vr, b_va, b_vb, b_vc, b_vd, b_vg⟩ := hj
  exact ⟨j0, jk, jn, b_sl38, b_vq, b_vh, b_sl56, b_vr, b_va, b_vb, b_vc, b_vd, b_vg⟩
 have eN := hN0.out
 try simp only [World.size_alloc, World.size_setCell, World.size_drew, World.heap_drewN] at eN
 have i_sl38 : w.heap.size < N0 := by first | omega | (have h := osl38.lt; omega)
 have i_vq : w1.heap.size < N0 := by first | omega | (have h := ovq.lt; omega)
 have i_vh : w6.heap.size < N0 := by first | omega | (have h := ovh.lt; omega)
 have i_sl56 : w7.heap.size < N0 := by first | omega | (have h := osl56.lt; omega)
 have i_vr : w8.heap.size < N0 := by first | omega | (have h := ovr.lt; omega)
 have i_va : w10.heap.size < N0 := by first | omega | (have h := ova.lt; omega)
 have i_vb : w12.heap.size < N0 := by first | omega | (have h := ovb.lt; omega)
 have i_vc : w14.heap.size < N0 := by first | omega | (have h := ovc.lt; omega)
 have i_vd : w16.heap.size < N0 := by first | omega | (have h := ovd.lt; omega)
 have i_vg : w18.heap.size < N0 := by first | omega | (have h := ovg.lt; omega)
 have iw : w.heap.size ≤ N0 := by first | omega | (have h := B.size; omega)
 clear cvh0 cvh1 cvh2 cvh3 cvh4 cvh5 cvh6 cvh7 cvh8 cvh9 cvh10 cvh11 cvh12 cvh13 cvh14 cvh15 cvh16 cvh17 cvh18 cvh19 lvh
 clear hN0
 apply Reg.RP rfl rfl rfl 112 rfl rfl
 ·
  intro D v' W' hc hj hf K hK
  exact wp_build_big 33 #[] rfl #[.int .i64 0, .int .i64 0, .int .i64 0, .int .i64 0, .bool false, .slice none 0 0, .bool false, .slice none 0 0, .bool false, .slice none 0 0, .bool false, .slice none 0 0, .bool false, .slice none 0 0, .bool false, .slice none 0 0, .bool false, .slice none 0 0, .bool false, .slice none 0 0] (by kernel_rfl) hK.out
 · rfl
 apply Reg.RP rfl rfl rfl 113 rfl rfl
 ·
  intro D v' W' hc hj hf K hK
  obtain ⟨j0, jk, jn, b_sl38, b_vq, b_vh, b_sl56, b_vr, b_va, b_vb, b_vc, b_vd, b_vg⟩ := hj
  exact wp_load_row 33 (.tmp 4) rfl (w6.heap.size) rfl 33 #[.int .i64 0, .int .i64 1, .int .i64 3, .int .i64 2, .bool o1_1, .slice o1_2 o1_3 o1_4, .bool o1_5, .slice o1_6 o1_7 o1_8, .bool o2_1, .slice o2_2 o2_3 o2_4, .bool o2_5, .slice o2_6 o2_7 o2_8, .bool o3_1, .slice o3_2 o3_3 o3_4, .bool o3_5, .slice o3_6 o3_7 o3_8, .bool o4_1, .slice o4_2 o4_3 o4_4, .bool o4_5, .slice o4_6 o4_7 o4_8] (0, 0) _ b_vh Tryz.underlying33 rfl (by kernel_rfl) hK.out
 · rfl
 refine Reg.RC_call rfl (tlt rfl) rfl (fun D v' W' hc hj hf K hK => ?_) ?_
 ·
  obtain ⟨j0, jk, jn, b_sl38, b_vq, b_vh, b_sl56, b_vr, b_va, b_vb, b_vc, b_vd, b_vg⟩ := hj
  clear hf
  go_step
  refine (OZ W').mono ?_
  rintro e W2 ⟨u, rfl, hu, hs⟩
  obtain ⟨o5_1, o5_2, o5_3, o5_4, o5_5, o5_6, o5_7, o5_8, rfl⟩ := hu.shape
  exact hK.out _ W2 (Keeps.steps hs) ⟨jst j0 hs, jk.then_ hs, jsz jn hs, b_sl38.steps hs, b_vq.steps hs, b_vh.steps hs, b_sl56.steps hs, b_vr.steps hs, b_va.steps hs, b_vb.steps hs, b_vc.steps hs, b_vd.steps hs, b_vg.steps hs⟩ hu ⟨_, _, _, _, _, _, _, _, rfl⟩
 rintro _ ⟨o5_1, o5_2, o5_3, o5_4, o5_5, o5_6, o5_7, o5_8, rfl⟩
 refine Reg.at243 rfl ?_
 refine Reg.RC_call rfl (tlt rfl) rfl (fun D v' W' hc hj hf K hK => ?_) ?_
 ·
  obtain ⟨j0, jk, jn, b_sl38, b_vq, b_vh, b_sl56, b_vr, b_va, b_vb, b_vc, b_vd, b_vg⟩ := hj
  have g2 : GFr (qz) _ W' := (hf (2, some 114) (.head _) rfl).2.2
  have g2 : FR W' _ (qz) := g2
  clear hf
  go_step
  refine (N1 W' _ _ _ _ _ _ _ _ _ _ _ _ _ _ _ _ _ _ _ _ _ _ _ _ _ _ _ _ _ _ _ _ _ (Fo1_.out.keeps jk) (Fo2_.out.keeps jk) (Fo3_.out.keeps jk) (Fo4_.out.keeps jk) g2).mono ?_
  rintro e W2 ⟨rfl, hs⟩
  exact hK.out _ W2 (Keeps.steps hs) ⟨jst j0 hs, jk.then_ hs, jsz jn hs, b_sl38.steps hs, b_vq.steps hs, b_vh.steps hs, b_sl56.steps hs, b_vr.steps hs, b_va.steps hs, b_vb.steps hs, b_vc.steps hs, b_vd.steps hs, b_vg.steps hs⟩ trivial rfl
 rintro _ rfl
 refine Reg.at243 rfl ?_
 refine Reg.RP0 111 ?_
 refine Reg.RP0 116 ?_
 refine Reg.RP0 117 ?_
 refine Reg.RP0 24 ?_
 refine Reg.RP0 25 ?_
 refine Reg.RC_end (fun Dn v' w24 hd hj hf => ?_)
 obtain ⟨j0, jk, jn, b_sl38, b_vq, b_vh, b_sl56, b_vr, b_va, b_vb, b_vc, b_vd, b_vg⟩ := hj
 have B := j0
 have osl38 := b_sl38
 clear b_sl38
 have ovq := b_vq
 clear b_vq
 have ovh := b_vh
 clear b_vh
 have osl56 := b_sl56
 clear b_sl56
 have ovr := b_vr
 clear b_vr
 have ova := b_va
 clear b_va
 have ovb := b_vb
 clear b_vb
 have ovc := b_vc
 clear b_vc
 have ovd := b_vd
 clear b_vd
 have ovg := b_vg
 clear b_vg
 have Fo5_ : Hid (FR w24 (.agg #[.bool o5_1, .slice o5_2 o5_3 o5_4, .bool o5_5, .slice o5_6 o5_7 o5_8]) (qz)) := (hf (2, some 114) (.head _) rfl).2.2
 replace Fyq0 := Hid.mk_ (Fyq0.out.keeps jk)
 replace Fyq1 := Hid.mk_ (Fyq1.out.keeps jk)
 replace Fyq2 := Hid.mk_ (Fyq2.out.keeps jk)
 replace Fyq3 := Hid.mk_ (Fyq3.out.keeps jk)
 replace Fo1_ := Hid.mk_ (Fo1_.out.keeps jk)
 replace Fo2_ := Hid.mk_ (Fo2_.out.keeps jk)
 replace Fo3_ := Hid.mk_ (Fo3_.out.keeps jk)
 replace Fo4_ := Hid.mk_ (Fo4_.out.keeps jk)
 replace Fyr0 := Hid.mk_ (Fyr0.out.keeps jk)
 replace Fyr1 := Hid.mk_ (Fyr1.out.keeps jk)
 replace Fyr2 := Hid.mk_ (Fyr2.out.keeps jk)
 replace Fyr3 := Hid.mk_ (Fyr3.out.keeps jk)
 clear hd hf jk j0
 refine hQ _ _ ?_
 clear hQ hops Q' ops'
 obtain ⟨cvh0, cvh1, cvh2, cvh3, cvh4, cvh5, cvh6, cvh7, cvh8, cvh9, cvh10, cvh11, cvh12, cvh13, cvh14, cvh15, cvh16, cvh17, cvh18, cvh19⟩ := ovh.r19
 have lvh := ovh.lt
 go_wp2_with fail
 have zvg_24 : w18.heap.size < w24.heap.size := ovg.lt
 have zz24 := B.size
 go_upto_region 15 with fail
 refine Reg.wp_chain_n (fun N0 D v W => Below w.heap.size w W ∧ Keeps w24 W ∧ N0 ≤ W.heap.size ∧ Blk W (w.heap.size) 23 #[.int .i64 1, .int .i64 1, .int .i64 0, .int .i64 0, .int .i64 1, .int .i64 0, .int .i64 0, .int .i64 1] ∧ Blk W (w1.heap.size) 33 #[.int .i64 0, .int .i64 1, .int .i64 3, .int .i64 2, .bool yq0_1, .slice yq0_2 yq0_3 yq0_4, .bool yq0_5, .slice yq0_6 yq0_7 yq0_8, .bool yq1_1, .slice yq1_2 yq1_3 yq1_4, .bool yq1_5, .slice yq1_6 yq1_7 yq1_8, .bool yq2_1, .slice yq2_2 yq2_3 yq2_4, .bool yq2_5, .slice yq2_6 yq2_7 yq2_8, .bool yq3_1, .slice yq3_2 yq3_3 yq3_4, .bool yq3_5, .slice yq3_6 yq3_7 yq3_8] ∧ Blk W (w6.heap.size) 33 #[.int .i64 0, .int .i64 1, .int .i64 3, .int .i64 2, .bool o1_1, .slice o1_2 o1_3 o1_4, .bool o1_5, .slice o1_6 o1_7 o1_8, .bool o2_1, .slice o2_2 o2_3 o2_4, .bool o2_5, .slice o2_6 o2_7 o2_8, .bool o3_1, .slice o3_2 o3_3 o3_4, .bool o3_5, .slice o3_6 o3_7 o3_8, .bool o4_1, .slice o4_2 o4_3 o4_4, .bool o4_5, .slice o4_6 o4_7 o4_8] ∧ Blk W (w7.heap.size) 23 #[.int .i64 0, .int .i64 0, .int .i64 5, .int .i64 0, .int .i64 0, .int .i64 0, .int .i64 5, .int .i64 0] ∧ Blk W (w8.heap.size) 33 #[.int .i64 0, .int .i64 1, .int .i64 2, .int .i64 3, .bool yr0_1, .slice yr0_2 yr0_3 yr0_4, .bool yr0_5, .slice yr0_6 yr0_7 yr0_8, .bool yr1_1, .slice yr1_2 yr1_3 yr1_4, .bool yr1_5, .slice yr1_6 yr1_7 yr1_8, .bool yr2_1, .slice yr2_2 yr2_3 yr2_4, .bool yr2_5, .slice yr2_6 yr2_7 yr2_8, .bool yr3_1, .slice yr3_2 yr3_3 yr3_4, .bool yr3_5, .slice yr3_6 yr3_7 yr3_8] ∧ Blk W (w10.heap.size) 33 #[.int .i64 0, .int .i64 0, .int .i64 0, .int .i64 0, .bool ya0_1, .slice ya0_2 ya0_3 ya0_4, .bool ya0_5, .slice ya0_6 ya0_7 ya0_8, .bool ya1_1, .slice ya1_2 ya1_3 ya1_4, .bool ya1_5, .slice ya1_6 ya1_7 ya1_8, .bool ya2_1, .slice ya2_2 ya2_3 ya2_4, .bool ya2_5, .slice ya2_6 ya2_7 ya2_8, .bool ya3_1, .slice ya3_2 ya3_3 ya3_4, .bool ya3_5, .slice ya3_6 ya3_7 ya3_8] ∧ Blk W (w12.heap.size) 33 #[.int .i64 0, .int .i64 0, .int .i64 0, .int .i64 0, .bool yb0_1, .slice yb0_2 yb0_3 yb0_4, .bool yb0_5, .slice yb0_6 yb0_7 yb0_8, .bool yb1_1, .slice yb1_2 yb1_3 yb1_4, .bool yb1_5, .slice yb1_6 yb1_7 yb1_8, .bool yb2_1, .slice yb2_2 yb2_3 yb2_4, .bool yb2_5, .slice yb2_6 yb2_7 yb2_8, .bool yb3_1, .slice yb3_2 yb3_3 yb3_4, .bool yb3_5, .slice yb3_6 yb3_7 yb3_8] ∧ Blk W (w14.heap.size) 33 #[.int .i64 0, .int .i64 0, .int .i64 0, .int .i64 0, .bool yc0_1, .slice yc0_2 yc0_3 yc0_4, .bool yc0_5, .slice yc0_6 yc0_7 yc0_8, .bool yc1_1, .slice yc1_2 yc1_3 yc1_4, .bool yc1_5, .slice yc1_6 yc1_7 yc1_8, .bool yc2_1, .slice yc2_2 yc2_3 yc2_4, .bool yc2_5, .slice yc2_6 yc2_7 yc2_8, .bool yc3_1, .slice yc3_2 yc3_3 yc3_4, .bool yc3_5, .slice yc3_6 yc3_7 yc3_8] ∧ Blk W (w16.heap.size) 33 #[.int .i64 0, .int .i64 0, .int .i64 0, .int .i64 0, .bool yd0_1, .slice yd0_2 yd0_3 yd0_4, .bool yd0_5, .slice yd0_6 yd0_7 yd0_8, .bool yd1_1, .slice yd1_2 yd1_3 yd1_4, .bool yd1_5, .slice yd1_6 yd1_7 yd1_8, .bool yd2_1, .slice yd2_2 yd2_3 yd2_4, .bool yd2_5, .slice yd2_6 yd2_7 yd2_8, .bool yd3_1, .slice yd3_2 yd3_3 yd3_4, .bool yd3_5, .slice yd3_6 yd3_7 yd3_8] ∧ Blk W (w18.heap.size) 33 #[.int .i64 0, .int .i64 0, .int .i64 0, .int .i64 0, .bool yg0_1, .slice yg0_2 yg0_3 yg0_4, .bool yg0_5, .slice yg0_6 yg0_7 yg0_8, .bool yg1_1, .slice yg1_2 yg1_3 yg1_4, .bool yg1_5, .slice yg1_6 yg1_7 yg1_8, .bool yg2_1, .slice yg2_2 yg2_3 yg2_4, .bool yg2_5, .slice yg2_6 yg2_7 yg2_8, .bool yg3_1, .slice yg3_2 yg3_3 yg3_4, .bool yg3_5, .slice yg3_6 yg3_7 yg3_8])
  (Reg.inl [2, 3]) (Reg.gv [(2, IsFr), (3, fun z_ => z_ = .tuple #[.bool false, .int .i64 2])]) (gw [(2, GFr (r1))]) (fun _ => Keeps) (fun _ _ => False) (Reg.pl [(3, [(2, some 121)]), (9, [(2, some 121), (3, some 122)])]) (Reg.pl [])
  (by kernel_rfl) (by kernel_rfl) (by kernel_rfl) (Reg.gv_some _ (by intro p hp; simp only [List.mem_cons, List.not_mem_nil, or_false] at hp; rcases hp with rfl | rfl <;> first | exact ⟨_, rfl⟩ | exact ⟨_, 0, rfl⟩ | exact ⟨_, none, 0, rfl⟩ | exact ⟨_, none, 0, 0, rfl⟩ | exact ⟨_, false, none, 0, 0, rfl⟩ | exact ⟨_, false, none, 0, 0, false, none, 0, 0, rfl⟩)) (fun N0 hN0 => ⟨fun v => ?_, fun D v v' W hv hj => ?_, fun D v k j W W' x _ _ _ _ hk hg => gwA hk hg, fun _ _ _ _ h => h.elim, fun ops' Q' hops hQ => ?_⟩)
 · exact ⟨belowB, keepsB, by first | with_reducible exact Nat.le_of_eq hN0.out | (simp only [World.size_drew]; with_reducible exact Nat.le_of_eq hN0.out), ownK, ownK, ownK, ownK, ownK, ownK, ownK, ownK, ownK, ownK⟩
 ·
  obtain ⟨j0, jk, jn, b_sl38, b_vq, b_vh, b_sl56, b_vr, b_va, b_vb, b_vc, b_vd, b_vg⟩ := hj
  exact ⟨j0, jk, jn, b_sl38, b_vq, b_vh, b_sl56, b_vr, b_va, b_vb, b_vc, b_vd, b_vg⟩
 have eN := hN0.out
 try simp only [World.size_alloc, World.size_setCell, World.size_drew, World.heap_drewN] at eN
 have i_sl38 : w.heap.size < N0 := by first | omega | (have h := osl38.lt; omega)
 have i_vq : w1.heap.size < N0 := by first | omega | (have h := ovq.lt; omega)
 have i_vh : w6.heap.size < N0 := by first | omega | (have h := ovh.lt; omega)
 have i_sl56 : w7.heap.size < N0 := by first | omega | (have h := osl56.lt; omega)
 have i_vr : w8.heap.size < N0 := by first | omega | (have h := ovr.lt; omega)
 have i_va : w10.heap.size < N0 := by first | omega | (have h := ova.lt; omega)
 have i_vb : w12.heap.size < N0 := by first | omega | (have h := ovb.lt; omega)
 have i_vc : w14.heap.size < N0 := by first | omega | (have h := ovc.lt; omega)
 have i_vd : w16.heap.size < N0 := by first | omega | (have h := ovd.lt; omega)
 have i_vg : w18.heap.size < N0 := by first | omega | (have h := ovg.lt; omega)
 have iw : w.heap.size ≤ N0 := by first | omega | (have h := B.size; omega)
 clear cvh0 cvh1 cvh2 cvh3 cvh4 cvh5 cvh6 cvh7 cvh8 cvh9 cvh10 cvh11 cvh12 cvh13 cvh14 cvh15 cvh16 cvh17 cvh18 cvh19 lvh
 clear hN0
 apply Reg.RP rfl rfl rfl 119 rfl rfl
 ·
  intro D v' W' hc hj hf K hK
  obtain ⟨j0, jk, jn, b_sl38, b_vq, b_vh, b_sl56, b_vr, b_va, b_vb, b_vc, b_vd, b_vg⟩ := hj
  exact wp_load_row 33 (.tmp 4) rfl (w6.heap.size) rfl 33 #[.int .i64 0, .int .i64 1, .int .i64 3, .int .i64 2, .bool o1_1, .slice o1_2 o1_3 o1_4, .bool o1_5, .slice o1_6 o1_7 o1_8, .bool o2_1, .slice o2_2 o2_3 o2_4, .bool o2_5, .slice o2_6 o2_7 o2_8, .bool o3_1, .slice o3_2 o3_3 o3_4, .bool o3_5, .slice o3_6 o3_7 o3_8, .bool o4_1, .slice o4_2 o4_3 o4_4, .bool o4_5, .slice o4_6 o4_7 o4_8] (0, 0) _ b_vh Tryz.underlying33 rfl (by kernel_rfl) hK.out
 · rfl
 apply Reg.RP rfl rfl rfl 120 rfl rfl
 ·
  intro D v' W' hc hj hf K hK
  obtain ⟨j0, jk, jn, b_sl38, b_vq, b_vh, b_sl56, b_vr, b_va, b_vb, b_vc, b_vd, b_vg⟩ := hj
  exact wp_load_row 33 (.tmp 4) rfl (w6.heap.size) rfl 33 #[.int .i64 0, .int .i64 1, .int .i64 3, .int .i64 2, .bool o1_1, .slice o1_2 o1_3 o1_4, .bool o1_5, .slice o1_6 o1_7 o1_8, .bool o2_1, .slice o2_2 o2_3 o2_4, .bool o2_5, .slice o2_6 o2_7 o2_8, .bool o3_1, .slice o3_2 o3_3 o3_4, .bool o3_5, .slice o3_6 o3_7 o3_8, .bool o4_1, .slice o4_2 o4_3 o4_4, .bool o4_5, .slice o4_6 o4_7 o4_8] (0, 0) _ b_vh Tryz.underlying33 rfl (by kernel_rfl) hK.out
 · rfl
 refine Reg.RC_call rfl (tlt rfl) rfl (fun D v' W' hc hj hf K hK => ?_) ?_
 ·
  obtain ⟨j0, jk, jn, b_sl38, b_vq, b_vh, b_sl56, b_vr, b_va, b_vb, b_vc, b_vd, b_vg⟩ := hj
  clear hf
  go_step
  refine (OB W').mono ?_
  rintro e W2 ⟨u, rfl, hu, hs⟩
  obtain ⟨o6_1, o6_2, o6_3, o6_4, o6_5, o6_6, o6_7, o6_8, rfl⟩ := hu.shape
  exact hK.out _ W2 (Keeps.steps hs) ⟨jst j0 hs, jk.then_ hs, jsz jn hs, b_sl38.steps hs, b_vq.steps hs, b_vh.steps hs, b_sl56.steps hs, b_vr.steps hs, b_va.steps hs, b_vb.steps hs, b_vc.steps hs, b_vd.steps hs, b_vg.steps hs⟩ hu ⟨_, _, _, _, _, _, _, _, rfl⟩
 rintro _ ⟨o6_1, o6_2, o6_3, o6_4, o6_5, o6_6, o6_7, o6_8, rfl⟩
 refine Reg.at243 rfl ?_
 refine Reg.RC_call rfl (tlt rfl) rfl (fun D v' W' hc hj hf K hK => ?_) ?_
 ·
  obtain ⟨j0, jk, jn, b_sl38, b_vq, b_vh, b_sl56, b_vr, b_va, b_vb, b_vc, b_vd, b_vg⟩ := hj
  have g2 : GFr (r1) _ W' := (hf (2, some 121) (.head _) rfl).2.2
  have g2 : FR W' _ (r1) := g2
  clear hf
  go_step
  refine (N2 W' _ _ _ _ _ _ _ _ _ _ _ _ _ _ _ _ _ _ _ _ _ _ _ _ _ _ _ _ _ _ _ _ _ (Fo1_.out.keeps jk) (Fo2_.out.keeps jk) (Fo3_.out.keeps jk) (Fo4_.out.keeps jk) g2).mono ?_
  rintro e W2 ⟨rfl, hs⟩
  exact hK.out _ W2 (Keeps.steps hs) ⟨jst j0 hs, jk.then_ hs, jsz jn hs, b_sl38.steps hs, b_vq.steps hs, b_vh.steps hs, b_sl56.steps hs, b_vr.steps hs, b_va.steps hs, b_vb.steps hs, b_vc.steps hs, b_vd.steps hs, b_vg.steps hs⟩ trivial rfl
 rintro _ rfl
 refine Reg.at243 rfl ?_
 refine Reg.RP0 118 ?_
 refine Reg.RP0 123 ?_
 refine Reg.RP0 124 ?_
 refine Reg.RP0 26 ?_
 refine Reg.RP0 27 ?_
 refine Reg.RC_end (fun Dn v' w25 hd hj hf => ?_)
 obtain ⟨j0, jk, jn, b_sl38, b_vq, b_vh, b_sl56, b_vr, b_va, b_vb, b_vc, b_vd, b_vg⟩ := hj
 have B := j0
 have osl38 := b_sl38
 clear b_sl38
 have ovq := b_vq
 clear b_vq
 have ovh := b_vh
 clear b_vh
 have osl56 := b_sl56
 clear b_sl56
 have ovr := b_vr
 clear b_vr
 have ova := b_va
 clear b_va
 have ovb := b_vb
 clear b_vb
 have ovc := b_vc
 clear b_vc
 have ovd := b_vd
 clear b_vd
 have ovg := b_vg
 clear b_vg
 have Fo6_ : Hid (FR w25 (.agg #[.bool o6_1, .slice o6_2 o6_3 o6_4, .bool o6_5, .slice o6_6 o6_7 o6_8]) (r1)) := (hf (2, some 121) (.head _) rfl).2.2
 replace Fyq0 := Hid.mk_ (Fyq0.out.keeps jk)
 replace Fyq1 := Hid.mk_ (Fyq1.out.keeps jk)
 replace Fyq2 := Hid.mk_ (Fyq2.out.keeps jk)
 replace Fyq3 := Hid.mk_ (Fyq3.out.keeps jk)
 replace Fo1_ := Hid.mk_ (Fo1_.out.keeps jk)
 replace Fo2_ := Hid.mk_ (Fo2_.out.keeps jk)
 replace Fo3_ := Hid.mk_ (Fo3_.out.keeps jk)
 replace Fo4_ := Hid.mk_ (Fo4_.out.keeps jk)
 replace Fyr0 := Hid.mk_ (Fyr0.out.keeps jk)
 replace Fyr1 := Hid.mk_ (Fyr1.out.keeps jk)
 replace Fyr2 := Hid.mk_ (Fyr2.out.keeps jk)
 replace Fyr3 := Hid.mk_ (Fyr3.out.keeps jk)
 replace Fo5_ := Hid.mk_ (Fo5_.out.keeps jk)
 clear hd hf jk j0
 refine hQ _ _ ?_
 clear hQ hops Q' ops'
 obtain ⟨cvh0, cvh1, cvh2, cvh3, cvh4, cvh5, cvh6, cvh7, cvh8, cvh9, cvh10, cvh11, cvh12, cvh13, cvh14, cvh15, cvh16, cvh17, cvh18, cvh19⟩ := ovh.r19
 have lvh := ovh.lt
 go_wp2_with fail
 have zvg_25 : w18.heap.size < w25.heap.size := ovg.lt
 have zz25 := B.size
 go_upto_region 16 with fail
 refine Reg.wp_chain_n (fun N0 D v W => Below w.heap.size w W ∧ Keeps w25 W ∧ N0 ≤ W.heap.size ∧ Blk W (w.heap.size) 23 #[.int .i64 1, .int .i64 1, .int .i64 0, .int .i64 0, .int .i64 1, .int .i64 0, .int .i64 0, .int .i64 1] ∧ Blk W (w1.heap.size) 33 #[.int .i64 0, .int .i64 1, .int .i64 3, .int .i64 2, .bool yq0_1, .slice yq0_2 yq0_3 yq0_4, .bool yq0_5, .slice yq0_6 yq0_7 yq0_8, .bool yq1_1, .slice yq1_2 yq1_3 yq1_4, .bool yq1_5, .slice yq1_6 yq1_7 yq1_8, .bool yq2_1, .slice yq2_2 yq2_3 yq2_4, .bool yq2_5, .slice yq2_6 yq2_7 yq2_8, .bool yq3_1, .slice yq3_2 yq3_3 yq3_4, .bool yq3_5, .slice yq3_6 yq3_7 yq3_8] ∧ Blk W (w6.heap.size) 33 #[.int .i64 0, .int .i64 1, .int .i64 3, .int .i64 2, .bool o1_1, .slice o1_2 o1_3 o1_4, .bool o1_5, .slice o1_6 o1_7 o1_8, .bool o2_1, .slice o2_2 o2_3 o2_4, .bool o2_5, .slice o2_6 o2_7 o2_8, .bool o3_1, .slice o3_2 o3_3 o3_4, .bool o3_5, .slice o3_6 o3_7 o3_8, .bool o4_1, .slice o4_2 o4_3 o4_4, .bool o4_5, .slice o4_6 o4_7 o4_8] ∧ Blk W (w7.heap.size) 23 #[.int .i64 0, .int .i64 0, .int .i64 5, .int .i64 0, .int .i64 0, .int .i64 0, .int .i64 5, .int .i64 0] ∧ Blk W (w8.heap.size) 33 #[.int .i64 0, .int .i64 1, .int .i64 2, .int .i64 3, .bool yr0_1, .slice yr0_2 yr0_3 yr0_4, .bool yr0_5, .slice yr0_6 yr0_7 yr0_8, .bool yr1_1, .slice yr1_2 yr1_3 yr1_4, .bool yr1_5, .slice yr1_6 yr1_7 yr1_8, .bool yr2_1, .slice yr2_2 yr2_3 yr2_4, .bool yr2_5, .slice yr2_6 yr2_7 yr2_8, .bool yr3_1, .slice yr3_2 yr3_3 yr3_4, .bool yr3_5, .slice yr3_6 yr3_7 yr3_8] ∧ Blk W (w10.heap.size) 33 #[.int .i64 0, .int .i64 0, .int .i64 0, .int .i64 0, .bool ya0_1, .slice ya0_2 ya0_3 ya0_4, .bool ya0_5, .slice ya0_6 ya0_7 ya0_8, .bool ya1_1, .slice ya1_2 ya1_3 ya1_4, .bool ya1_5, .slice ya1_6 ya1_7 ya1_8, .bool ya2_1, .slice ya2_2 ya2_3 ya2_4, .bool ya2_5, .slice ya2_6 ya2_7 ya2_8, .bool ya3_1, .slice ya3_2 ya3_3 ya3_4, .bool ya3_5, .slice ya3_6 ya3_7 ya3_8] ∧ Blk W (w12.heap.size) 33 #[.int .i64 0, .int .i64 0, .int .i64 0, .int .i64 0, .bool yb0_1, .slice yb0_2 yb0_3 yb0_4, .bool yb0_5, .slice yb0_6 yb0_7 yb0_8, .bool yb1_1, .slice yb1_2 yb1_3 yb1_4, .bool yb1_5, .slice yb1_6 yb1_7 yb1_8, .bool yb2_1, .slice yb2_2 yb2_3 yb2_4, .bool yb2_5, .slice yb2_6 yb2_7 yb2_8, .bool yb3_1, .slice yb3_2 yb3_3 yb3_4, .bool yb3_5, .slice yb3_6 yb3_7 yb3_8] ∧ Blk W (w14.heap.size) 33 #[.int .i64 0, .int .i64 0, .int .i64 0, .int .i64 0, .bool yc0_1, .slice yc0_2 yc0_3 yc0_4, .bool yc0_5, .slice yc0_6 yc0_7 yc0_8, .bool yc1_1, .slice yc1_2 yc1_3 yc1_4, .bool yc1_5, .slice yc1_6 yc1_7 yc1_8, .bool yc2_1, .slice yc2_2 yc2_3 yc2_4, .bool yc2_5, .slice yc2_6 yc2_7 yc2_8, .bool yc3_1, .slice yc3_2 yc3_3 yc3_4, .bool yc3_5, .slice yc3_6 yc3_7 yc3_8] ∧ Blk W (w16.heap.size) 33 #[.int .i64 0, .int .i64 0, .int .i64 0, .int .i64 0, .bool yd0_1, .slice yd0_2 yd0_3 yd0_4, .bool yd0_5, .slice yd0_6 yd0_7 yd0_8, .bool yd1_1, .slice yd1_2 yd1_3 yd1_4, .bool yd1_5, .slice yd1_6 yd1_7 yd1_8, .bool yd2_1, .slice yd2_2 yd2_3 yd2_4, .bool yd2_5, .slice yd2_6 yd2_7 yd2_8, .bool yd3_1, .slice yd3_2 yd3_3 yd3_4, .bool yd3_5, .slice yd3_6 yd3_7 yd3_8] ∧ Blk W (w18.heap.size) 33 #[.int .i64 0, .int .i64 0, .int .i64 0, .int .i64 0, .bool yg0_1, .slice yg0_2 yg0_3 yg0_4, .bool yg0_5, .slice yg0_6 yg0_7 yg0_8, .bool yg1_1, .slice yg1_2 yg1_3 yg1_4, .bool yg1_5, .slice yg1_6 yg1_7 yg1_8, .bool yg2_1, .slice yg2_2 yg2_3 yg2_4, .bool yg2_5, .slice yg2_6 yg2_7 yg2_8, .bool yg3_1, .slice yg3_2 yg3_3 yg3_4, .bool yg3_5, .slice yg3_6 yg3_7 yg3_8] ∧ (D 0 = true → ∃ g : Nat, v 0 = .slice (some ⟨g, 0, none⟩) 501 501 ∧ Blk W g 33 (MQ)) ∧ (D 3 = true → True))
  (Reg.inl [0, 2, 3]) (Reg.gv [(2, IsFr), (0, IsSl 501), (3, IsFd 0 4)]) (gw [(2, GFr (qz))]) (fun _ => Keeps) (fun _ _ => False) (Reg.pl [(3, [(0, some 126), (2, some 128)]), (9, [(0, some 126), (2, some 128), (3, some 129)])]) (Reg.pl [])
  (by kernel_rfl) (by kernel_rfl) (by kernel_rfl) (Reg.gv_some _ (by intro p hp; simp only [List.mem_cons, List.not_mem_nil, or_false] at hp; rcases hp with rfl | rfl | rfl <;> first | exact ⟨_, rfl⟩ | exact ⟨_, 0, rfl⟩ | exact ⟨_, none, 0, rfl⟩ | exact ⟨_, none, 0, 0, rfl⟩ | exact ⟨_, false, none, 0, 0, rfl⟩ | exact ⟨_, false, none, 0, 0, false, none, 0, 0, rfl⟩)) (fun N0 hN0 => ⟨fun v => ?_, fun D v v' W hv hj => ?_, fun D v k j W W' x _ _ _ _ hk hg => gwA hk hg, fun _ _ _ _ h => h.elim, fun ops' Q' hops hQ => ?_⟩)
 · exact ⟨belowB, keepsB, by first | with_reducible exact Nat.le_of_eq hN0.out | (simp only [World.size_drew]; with_reducible exact Nat.le_of_eq hN0.out), ownK, ownK, ownK, ownK, ownK, ownK, ownK, ownK, ownK, ownK, (fun h => Bool.noConfusion h), (fun h => Bool.noConfusion h)⟩
 ·
  obtain ⟨j0, jk, jn, b_sl38, b_vq, b_vh, b_sl56, b_vr, b_va, b_vb, b_vc, b_vd, b_vg, m_0, m_3⟩ := hj
  exact ⟨j0, jk, jn, b_sl38, b_vq, b_vh, b_sl56, b_vr, b_va, b_vb, b_vc, b_vd, b_vg, fun h => by obtain ⟨g, e1, e2⟩ := m_0 h; exact ⟨g, (hv 0 h) ▸ e1, e2⟩, fun _ => trivial⟩
 have eN := hN0.out
 try simp only [World.size_alloc, World.size_setCell, World.size_drew, World.heap_drewN] at eN
 have i_sl38 : w.heap.size < N0 := by first | omega | (have h := osl38.lt; omega)
 have i_vq : w1.heap.size < N0 := by first | omega | (have h := ovq.lt; omega)
 have i_vh : w6.heap.size < N0 := by first | omega | (have h := ovh.lt; omega)
 have i_sl56 : w7.heap.size < N0 := by first | omega | (have h := osl56.lt; omega)
 have i_vr : w8.heap.size < N0 := by first | omega | (have h := ovr.lt; omega)
 have i_va : w10.heap.size < N0 := by first | omega | (have h := ova.lt; omega)
 have i_vb : w12.heap.size < N0 := by first | omega | (have h := ovb.lt; omega)
 have i_vc : w14.heap.size < N0 := by first | omega | (have h := ovc.lt; omega)
 have i_vd : w16.heap.size < N0 := by first | omega | (have h := ovd.lt; omega)
 have i_vg : w18.heap.size < N0 := by first | omega | (have h := ovg.lt; omega)
 have iw : w.heap.size ≤ N0 := by first | omega | (have h := B.size; omega)
 clear cvh0 cvh1 cvh2 cvh3 cvh4 cvh5 cvh6 cvh7 cvh8 cvh9 cvh10 cvh11 cvh12 cvh13 cvh14 cvh15 cvh16 cvh17 cvh18 cvh19 lvh
 clear hN0
 refine Reg.RC_call rfl (tlt rfl) rfl (fun D v' W' hc hj hf K hK => ?_) ?_
 ·
  obtain ⟨j0, jk, jn, b_sl38, b_vq, b_vh, b_sl56, b_vr, b_va, b_vb, b_vc, b_vd, b_vg, m_0, m_3⟩ := hj
  clear hf
  go_step
  have hs0 : ∀ o : Obj, Steps W' (W'.alloc o) := fun o => (Below.refl _ _).alloc (Nat.le_refl _) o
  exact hK.out _ _ (Keeps.steps (hs0 _)) ⟨below_steps j0 (Nat.le_refl _) (hs0 _), jk.then_ (hs0 _), Nat.le_trans jn ((hs0 _)).size, b_sl38.steps (hs0 _), b_vq.steps (hs0 _), b_vh.steps (hs0 _), b_sl56.steps (hs0 _), b_vr.steps (hs0 _), b_va.steps (hs0 _), b_vb.steps (hs0 _), b_vc.steps (hs0 _), b_vd.steps (hs0 _), b_vg.steps (hs0 _), fun _ => ⟨W'.heap.size, rfl, Blk.new _ _ _⟩, fun _ => trivial⟩ trivial ⟨_, rfl⟩
 rintro _ ⟨ms0, rfl⟩
 refine Reg.at243 rfl ?_
 apply Reg.RP rfl rfl rfl 127 rfl rfl
 ·
  intro D v' W' hc hj hf K hK
  obtain ⟨j0, jk, jn, b_sl38, b_vq, b_vh, b_sl56, b_vr, b_va, b_vb, b_vc, b_vd, b_vg, m_0, m_3⟩ := hj
  exact wp_load_row 33 (.tmp 4) rfl (w6.heap.size) rfl 33 #[.int .i64 0, .int .i64 1, .int .i64 3, .int .i64 2, .bool o1_1, .slice o1_2 o1_3 o1_4, .bool o1_5, .slice o1_6 o1_7 o1_8, .bool o2_1, .slice o2_2 o2_3 o2_4, .bool o2_5, .slice o2_6 o2_7 o2_8, .bool o3_1, .slice o3_2 o3_3 o3_4, .bool o3_5, .slice o3_6 o3_7 o3_8, .bool o4_1, .slice o4_2 o4_3 o4_4, .bool o4_5, .slice o4_6 o4_7 o4_8] (0, 0) _ b_vh Tryz.underlying33 rfl (by kernel_rfl) hK.out
 · rfl
 refine Reg.RC_call rfl (tlt rfl) rfl (fun D v' W' hc hj hf K hK => ?_) ?_
 ·
  obtain ⟨j0, jk, jn, b_sl38, b_vq, b_vh, b_sl56, b_vr, b_va, b_vb, b_vc, b_vd, b_vg, m_0, m_3⟩ := hj
  clear hf
  go_step
  refine (OZ W').mono ?_
  rintro e W2 ⟨u, rfl, hu, hs⟩
  obtain ⟨o7_1, o7_2, o7_3, o7_4, o7_5, o7_6, o7_7, o7_8, rfl⟩ := hu.shape
  exact hK.out _ W2 (Keeps.steps hs) ⟨jst j0 hs, jk.then_ hs, jsz jn hs, b_sl38.steps hs, b_vq.steps hs, b_vh.steps hs, b_sl56.steps hs, b_vr.steps hs, b_va.steps hs, b_vb.steps hs, b_vc.steps hs, b_vd.steps hs, b_vg.steps hs, fun h => by obtain ⟨g, e1, e2⟩ := m_0 h; exact ⟨g, e1, e2.steps hs⟩, fun _ => trivial⟩ hu ⟨_, _, _, _, _, _, _, _, rfl⟩
 rintro _ ⟨o7_1, o7_2, o7_3, o7_4, o7_5, o7_6, o7_7, o7_8, rfl⟩
 refine Reg.at243 rfl ?_
 refine Reg.RC_call rfl (tlt rfl) rfl (fun D v' W' hc hj hf K hK => ?_) ?_
 ·
  obtain ⟨j0, jk, jn, b_sl38, b_vq, b_vh, b_sl56, b_vr, b_va, b_vb, b_vc, b_vd, b_vg, m_0, m_3⟩ := hj
  have f0 := hf (0, some 126) (.head _) rfl
  obtain ⟨g, e1, bm⟩ := m_0 f0.1
  obtain rfl : ms0 = g := sl_eq (f0.2.1.symm.trans e1)
  have g2 : FR W' _ (qz) := (hf (2, some 128) (.tail _ (.head _)) rfl).2.2
  clear hf
  go_step
  refine (N3 W' _ _ _ _ _ _ _ _ _ _ _ _ _ _ _ _ _ _ _ _ _ _ _ _ _ _ _ _ _ _ _ _ _ (Fo1_.out.keeps jk) (Fo2_.out.keeps jk) (Fo3_.out.keeps jk) (Fo4_.out.keeps jk) g2 _ bm).mono ?_
  rintro e W2 ⟨a, c, rfl, hs⟩
  exact hK.out _ _ (Keeps.steps hs) ⟨jst j0 hs, jk.then_ hs, Nat.le_trans jn (hs).size, b_sl38.steps hs, b_vq.steps hs, b_vh.steps hs, b_sl56.steps hs, b_vr.steps hs, b_va.steps hs, b_vb.steps hs, b_vc.steps hs, b_vd.steps hs, b_vg.steps hs, fun h => by obtain ⟨g, e1, e2⟩ := m_0 h; exact ⟨g, e1, e2.steps hs⟩, fun _ => trivial⟩ trivial ⟨_, _, rfl⟩
 rintro _ ⟨fa, fc, rfl⟩
 refine Reg.at243 rfl ?_
 refine Reg.RP0 125 ?_
 refine Reg.RP0 130 ?_
 refine Reg.RP0 131 ?_
 refine Reg.RP0 28 ?_
 refine Reg.RP0 29 ?_
 refine Reg.RC_end (fun Dn v' w26 hd hj hf => ?_)
 obtain ⟨j0, jk, jn, b_sl38, b_vq, b_vh, b_sl56, b_vr, b_va, b_vb, b_vc, b_vd, b_vg, m_0, m_3⟩ := hj
 have B := j0
 have osl38 := b_sl38
 clear b_sl38
 have ovq := b_vq
 clear b_vq
 have ovh := b_vh
 clear b_vh
 have osl56 := b_sl56
 clear b_sl56
 have ovr := b_vr
 clear b_vr
 have ova := b_va
 clear b_va
 have ovb := b_vb
 clear b_vb
 have ovc := b_vc
 clear b_vc
 have ovd := b_vd
 clear b_vd
 have ovg := b_vg
 clear b_vg
 have Fo7_ : Hid (FR w26 (.agg #[.bool o7_1, .slice o7_2 o7_3 o7_4, .bool o7_5, .slice o7_6 o7_7 o7_8]) (qz)) := (hf (2, some 128) (.tail _ (.head _)) rfl).2.2
 replace Fyq0 := Hid.mk_ (Fyq0.out.keeps jk)
 replace Fyq1 := Hid.mk_ (Fyq1.out.keeps jk)
 replace Fyq2 := Hid.mk_ (Fyq2.out.keeps jk)
 replace Fyq3 := Hid.mk_ (Fyq3.out.keeps jk)
 replace Fo1_ := Hid.mk_ (Fo1_.out.keeps jk)
 replace Fo2_ := Hid.mk_ (Fo2_.out.keeps jk)
 replace Fo3_ := Hid.mk_ (Fo3_.out.keeps jk)
 replace Fo4_ := Hid.mk_ (Fo4_.out.keeps jk)
 replace Fyr0 := Hid.mk_ (Fyr0.out.keeps jk)
 replace Fyr1 := Hid.mk_ (Fyr1.out.keeps jk)
 replace Fyr2 := Hid.mk_ (Fyr2.out.keeps jk)
 replace Fyr3 := Hid.mk_ (Fyr3.out.keeps jk)
 replace Fo5_ := Hid.mk_ (Fo5_.out.keeps jk)
 replace Fo6_ := Hid.mk_ (Fo6_.out.keeps jk)
 clear hd hf jk j0 m_0 m_3
 refine hQ _ _ ?_
 clear hQ hops Q' ops'
 obtain ⟨cvh0, cvh1, cvh2, cvh3, cvh4, cvh5, cvh6, cvh7, cvh8, cvh9, cvh10, cvh11, cvh12, cvh13, cvh14, cvh15, cvh16, cvh17, cvh18, cvh19⟩ := ovh.r19
 have lvh := ovh.lt
 obtain ⟨cvr0, cvr1, cvr2, cvr3, cvr4, cvr5, cvr6, cvr7, cvr8, cvr9, cvr10, cvr11, cvr12, cvr13, cvr14, cvr15, cvr16, cvr17, cvr18, cvr19⟩ := ovr.r19
 have lvr := ovr.lt
 clear mk3 N3
 go_wp2_with fail
 have zvg_26 : w18.heap.size < w26.heap.size := ovg.lt
 have zz26 := B.size
 go_upto_region 17 with fail
 refine Reg.wp_chain_n (fun N0 D v W => Below w.heap.size w W ∧ Keeps w26 W ∧ N0 ≤ W.heap.size ∧ Blk W (w.heap.size) 23 #[.int .i64 1, .int .i64 1, .int .i64 0, .int .i64 0, .int .i64 1, .int .i64 0, .int .i64 0, .int .i64 1] ∧ Blk W (w1.heap.size) 33 #[.int .i64 0, .int .i64 1, .int .i64 3, .int .i64 2, .bool yq0_1, .slice yq0_2 yq0_3 yq0_4, .bool yq0_5, .slice yq0_6 yq0_7 yq0_8, .bool yq1_1, .slice yq1_2 yq1_3 yq1_4, .bool yq1_5, .slice yq1_6 yq1_7 yq1_8, .bool yq2_1, .slice yq2_2 yq2_3 yq2_4, .bool yq2_5, .slice yq2_6 yq2_7 yq2_8, .bool yq3_1, .slice yq3_2 yq3_3 yq3_4, .bool yq3_5, .slice yq3_6 yq3_7 yq3_8] ∧ Blk W (w6.heap.size) 33 #[.int .i64 0, .int .i64 1, .int .i64 3, .int .i64 2, .bool o1_1, .slice o1_2 o1_3 o1_4, .bool o1_5, .slice o1_6 o1_7 o1_8, .bool o2_1, .slice o2_2 o2_3 o2_4, .bool o2_5, .slice o2_6 o2_7 o2_8, .bool o3_1, .slice o3_2 o3_3 o3_4, .bool o3_5, .slice o3_6 o3_7 o3_8, .bool o4_1, .slice o4_2 o4_3 o4_4, .bool o4_5, .slice o4_6 o4_7 o4_8] ∧ Blk W (w7.heap.size) 23 #[.int .i64 0, .int .i64 0, .int .i64 5, .int .i64 0, .int .i64 0, .int .i64 0, .int .i64 5, .int .i64 0] ∧ Blk W (w8.heap.size) 33 #[.int .i64 0, .int .i64 1, .int .i64 2, .int .i64 3, .bool yr0_1, .slice yr0_2 yr0_3 yr0_4, .bool yr0_5, .slice yr0_6 yr0_7 yr0_8, .bool yr1_1, .slice yr1_2 yr1_3 yr1_4, .bool yr1_5, .slice yr1_6 yr1_7 yr1_8, .bool yr2_1, .slice yr2_2 yr2_3 yr2_4, .bool yr2_5, .slice yr2_6 yr2_7 yr2_8, .bool yr3_1, .slice yr3_2 yr3_3 yr3_4, .bool yr3_5, .slice yr3_6 yr3_7 yr3_8] ∧ Blk W (w10.heap.size) 33 #[.int .i64 0, .int .i64 0, .int .i64 0, .int .i64 0, .bool ya0_1, .slice ya0_2 ya0_3 ya0_4, .bool ya0_5, .slice ya0_6 ya0_7 ya0_8, .bool ya1_1, .slice ya1_2 ya1_3 ya1_4, .bool ya1_5, .slice ya1_6 ya1_7 ya1_8, .bool ya2_1, .slice ya2_2 ya2_3 ya2_4, .bool ya2_5, .slice ya2_6 ya2_7 ya2_8, .bool ya3_1, .slice ya3_2 ya3_3 ya3_4, .bool ya3_5, .slice ya3_6 ya3_7 ya3_8] ∧ Blk W (w12.heap.size) 33 #[.int .i64 0, .int .i64 0, .int .i64 0, .int .i64 0, .bool yb0_1, .slice yb0_2 yb0_3 yb0_4, .bool yb0_5, .slice yb0_6 yb0_7 yb0_8, .bool yb1_1, .slice yb1_2 yb1_3 yb1_4, .bool yb1_5, .slice yb1_6 yb1_7 yb1_8, .bool yb2_1, .slice yb2_2 yb2_3 yb2_4, .bool yb2_5, .slice yb2_6 yb2_7 yb2_8, .bool yb3_1, .slice yb3_2 yb3_3 yb3_4, .bool yb3_5, .slice yb3_6 yb3_7 yb3_8] ∧ Blk W (w14.heap.size) 33 #[.int .i64 0, .int .i64 0, .int .i64 0, .int .i64 0, .bool yc0_1, .slice yc0_2 yc0_3 yc0_4, .bool yc0_5, .slice yc0_6 yc0_7 yc0_8, .bool yc1_1, .slice yc1_2 yc1_3 yc1_4, .bool yc1_5, .slice yc1_6 yc1_7 yc1_8, .bool yc2_1, .slice yc2_2 yc2_3 yc2_4, .bool yc2_5, .slice yc2_6 yc2_7 yc2_8, .bool yc3_1, .slice yc3_2 yc3_3 yc3_4, .bool yc3_5, .slice yc3_6 yc3_7 yc3_8] ∧ Blk W (w16.heap.size) 33 #[.int .i64 0, .int .i64 0, .int .i64 0, .int .i64 0, .bool yd0_1, .slice yd0_2 yd0_3 yd0_4, .bool yd0_5, .slice yd0_6 yd0_7 yd0_8, .bool yd1_1, .slice yd1_2 yd1_3 yd1_4, .bool yd1_5, .slice yd1_6 yd1_7 yd1_8, .bool yd2_1, .slice yd2_2 yd2_3 yd2_4, .bool yd2_5, .slice yd2_6 yd2_7 yd2_8, .bool yd3_1, .slice yd3_2 yd3_3 yd3_4, .bool yd3_5, .slice yd3_6 yd3_7 yd3_8] ∧ Blk W (w18.heap.size) 33 #[.int .i64 0, .int .i64 0, .int .i64 0, .int .i64 0, .bool yg0_1, .slice yg0_2 yg0_3 yg0_4, .bool yg0_5, .slice yg0_6 yg0_7 yg0_8, .bool yg1_1, .slice yg1_2 yg1_3 yg1_4, .bool yg1_5, .slice yg1_6 yg1_7 yg1_8, .bool yg2_1, .slice yg2_2 yg2_3 yg2_4, .bool yg2_5, .slice yg2_6 yg2_7 yg2_8, .bool yg3_1, .slice yg3_2 yg3_3 yg3_4, .bool yg3_5, .slice yg3_6 yg3_7 yg3_8] ∧ (D 3 = true → ∃ g : Nat, v 3 = .slice (some ⟨g, 0, none⟩) 3 3 ∧ Blk W g 33 (#[.int .i64 0, .int .i64 1, .int .i64 3, .int .i64 2, .bool o1_1, .slice o1_2 o1_3 o1_4, .bool o1_5, .slice o1_6 o1_7 o1_8, .bool o2_1, .slice o2_2 o2_3 o2_4, .bool o2_5, .slice o2_6 o2_7 o2_8, .bool o3_1, .slice o3_2 o3_3 o3_4, .bool o3_5, .slice o3_6 o3_7 o3_8, .bool o4_1, .slice o4_2 o4_3 o4_4, .bool o4_5, .slice o4_6 o4_7 o4_8] ++ #[.int .i64 0, .int .i64 1, .int .i64 2, .int .i64 3, .bool yr0_1, .slice yr0_2 yr0_3 yr0_4, .bool yr0_5, .slice yr0_6 yr0_7 yr0_8, .bool yr1_1, .slice yr1_2 yr1_3 yr1_4, .bool yr1_5, .slice yr1_6 yr1_7 yr1_8, .bool yr2_1, .slice yr2_2 yr2_3 yr2_4, .bool yr2_5, .slice yr2_6 yr2_7 yr2_8, .bool yr3_1, .slice yr3_2 yr3_3 yr3_4, .bool yr3_5, .slice yr3_6 yr3_7 yr3_8] ++ #[.int .i64 0, .int .i64 1, .int .i64 3, .int .i64 2, .bool o1_1, .slice o1_2 o1_3 o1_4, .bool o1_5, .slice o1_6 o1_7 o1_8, .bool o2_1, .slice o2_2 o2_3 o2_4, .bool o2_5, .slice o2_6 o2_7 o2_8, .bool o3_1, .slice o3_2 o3_3 o3_4, .bool o3_5, .slice o3_6 o3_7 o3_8, .bool o4_1, .slice o4_2 o4_3 o4_4, .bool o4_5, .slice o4_6 o4_7 o4_8])) ∧ (D 6 = true → ∃ a c, v 6 = .tuple #[.slice a 2 c, .int .i64 0] ∧ IntsR W (.slice a 2 c) [0, 2]))
  (Reg.inl [3, 5, 6]) (Reg.gv [(5, IsFr), (3, IsSl 3), (6, IsFd 2 0)]) (gw [(5, GFr (q4))]) (fun _ => Keeps) (fun _ _ => False) (Reg.pl [(6, [(3, some 136), (5, some 138)]), (12, [(3, some 136), (5, some 138), (6, some 139)])]) (Reg.pl [])
  (by kernel_rfl) (by kernel_rfl) (by kernel_rfl) (Reg.gv_some _ (by intro p hp; simp only [List.mem_cons, List.not_mem_nil, or_false] at hp; rcases hp with rfl | rfl | rfl <;> first | exact ⟨_, rfl⟩ | exact ⟨_, 0, rfl⟩ | exact ⟨_, none, 0, rfl⟩ | exact ⟨_, none, 0, 0, rfl⟩ | exact ⟨_, false, none, 0, 0, rfl⟩ | exact ⟨_, false, none, 0, 0, false, none, 0, 0, rfl⟩)) (fun N0 hN0 => ⟨fun v => ?_, fun D v v' W hv hj => ?_, fun D v k j W W' x _ _ _ _ hk hg => gwA hk hg, fun _ _ _ _ h => h.elim, fun ops' Q' hops hQ => ?_⟩)
 · exact ⟨belowB, keepsB, by first | with_reducible exact Nat.le_of_eq hN0.out | (simp only [World.size_drew]; with_reducible exact Nat.le_of_eq hN0.out), ownK, ownK, ownK, ownK, ownK, ownK, ownK, ownK, ownK, ownK, (fun h => Bool.noConfusion h), (fun h => Bool.noConfusion h)⟩
 ·
  obtain ⟨j0, jk, jn, b_sl38, b_vq, b_vh, b_sl56, b_vr, b_va, b_vb, b_vc, b_vd, b_vg, m_3, m_6⟩ := hj
  exact ⟨j0, jk, jn, b_sl38, b_vq, b_vh, b_sl56, b_vr, b_va, b_vb, b_vc, b_vd, b_vg, fun h => by obtain ⟨g, e1, e2⟩ := m_3 h; exact ⟨g, (hv 3 h) ▸ e1, e2⟩, fun h => by obtain ⟨a, c, e1, e2⟩ := m_6 h; exact ⟨a, c, (hv 6 h) ▸ e1, e2⟩⟩
 have eN := hN0.out
 try simp only [World.size_alloc, World.size_setCell, World.size_drew, World.heap_drewN] at eN
 have i_sl38 : w.heap.size < N0 := by first | omega | (have h := osl38.lt; omega)
 have i_vq : w1.heap.size < N0 := by first | omega | (have h := ovq.lt; omega)
 have i_vh : w6.heap.size < N0 := by first | omega | (have h := ovh.lt; omega)
 have i_sl56 : w7.heap.size < N0 := by first | omega | (have h := osl56.lt; omega)
 have i_vr : w8.heap.size < N0 := by first | omega | (have h := ovr.lt; omega)
 have i_va : w10.heap.size < N0 := by first | omega | (have h := ova.lt; omega)
 have i_vb : w12.heap.size < N0 := by first | omega | (have h := ovb.lt; omega)
 have i_vc : w14.heap.size < N0 := by first | omega | (have h := ovc.lt; omega)
 have i_vd : w16.heap.size < N0 := by first | omega | (have h := ovd.lt; omega)
 have i_vg : w18.heap.size < N0 := by first | omega | (have h := ovg.lt; omega)
 have iw : w.heap.size ≤ N0 := by first | omega | (have h := B.size; omega)
 clear cvh0 cvh1 cvh2 cvh3 cvh4 cvh5 cvh6 cvh7 cvh8 cvh9 cvh10 cvh11 cvh12 cvh13 cvh14 cvh15 cvh16 cvh17 cvh18 cvh19 lvh cvr0 cvr1 cvr2 cvr3 cvr4 cvr5 cvr6 cvr7 cvr8 cvr9 cvr10 cvr11 cvr12 cvr13 cvr14 cvr15 cvr16 cvr17 cvr18 cvr19 lvr
 clear hN0
 apply Reg.RP rfl rfl rfl 133 rfl rfl
 ·
  intro D v' W' hc hj hf K hK
  obtain ⟨j0, jk, jn, b_sl38, b_vq, b_vh, b_sl56, b_vr, b_va, b_vb, b_vc, b_vd, b_vg, m_3, m_6⟩ := hj
  exact wp_load_row 33 (.tmp 4) rfl (w6.heap.size) rfl 33 #[.int .i64 0, .int .i64 1, .int .i64 3, .int .i64 2, .bool o1_1, .slice o1_2 o1_3 o1_4, .bool o1_5, .slice o1_6 o1_7 o1_8, .bool o2_1, .slice o2_2 o2_3 o2_4, .bool o2_5, .slice o2_6 o2_7 o2_8, .bool o3_1, .slice o3_2 o3_3 o3_4, .bool o3_5, .slice o3_6 o3_7 o3_8, .bool o4_1, .slice o4_2 o4_3 o4_4, .bool o4_5, .slice o4_6 o4_7 o4_8] (0, 0) _ b_vh Tryz.underlying33 rfl (by kernel_rfl) hK.out
 · rfl
 apply Reg.RP rfl rfl rfl 134 rfl rfl
 ·
  intro D v' W' hc hj hf K hK
  obtain ⟨j0, jk, jn, b_sl38, b_vq, b_vh, b_sl56, b_vr, b_va, b_vb, b_vc, b_vd, b_vg, m_3, m_6⟩ := hj
  exact wp_load_row 33 (.tmp 6) rfl (w8.heap.size) rfl 33 #[.int .i64 0, .int .i64 1, .int .i64 2, .int .i64 3, .bool yr0_1, .slice yr0_2 yr0_3 yr0_4, .bool yr0_5, .slice yr0_6 yr0_7 yr0_8, .bool yr1_1, .slice yr1_2 yr1_3 yr1_4, .bool yr1_5, .slice yr1_6 yr1_7 yr1_8, .bool yr2_1, .slice yr2_2 yr2_3 yr2_4, .bool yr2_5, .slice yr2_6 yr2_7 yr2_8, .bool yr3_1, .slice yr3_2 yr3_3 yr3_4, .bool yr3_5, .slice yr3_6 yr3_7 yr3_8] (0, 0) _ b_vr Tryz.underlying33 rfl (by kernel_rfl) hK.out
 · rfl
 apply Reg.RP rfl rfl rfl 135 rfl rfl
 ·
  intro D v' W' hc hj hf K hK
  obtain ⟨j0, jk, jn, b_sl38, b_vq, b_vh, b_sl56, b_vr, b_va, b_vb, b_vc, b_vd, b_vg, m_3, m_6⟩ := hj
  exact wp_load_row 33 (.tmp 4) rfl (w6.heap.size) rfl 33 #[.int .i64 0, .int .i64 1, .int .i64 3, .int .i64 2, .bool o1_1, .slice o1_2 o1_3 o1_4, .bool o1_5, .slice o1_6 o1_7 o1_8, .bool o2_1, .slice o2_2 o2_3 o2_4, .bool o2_5, .slice o2_6 o2_7 o2_8, .bool o3_1, .slice o3_2 o3_3 o3_4, .bool o3_5, .slice o3_6 o3_7 o3_8, .bool o4_1, .slice o4_2 o4_3 o4_4, .bool o4_5, .slice o4_6 o4_7 o4_8] (0, 0) _ b_vh Tryz.underlying33 rfl (by kernel_rfl) hK.out
 · rfl
 refine Reg.RC_call rfl (tlt rfl) rfl (fun D v' W' hc hj hf K hK => ?_) ?_
 ·
  obtain ⟨j0, jk, jn, b_sl38, b_vq, b_vh, b_sl56, b_vr, b_va, b_vb, b_vc, b_vd, b_vg, m_3, m_6⟩ := hj
  clear hf
  refine wp_quad3 (.tmp 133) (.tmp 134) (.tmp 135) rfl #[.int .i64 0, .int .i64 1, .int .i64 3, .int .i64 2, .bool o1_1, .slice o1_2 o1_3 o1_4, .bool o1_5, .slice o1_6 o1_7 o1_8, .bool o2_1, .slice o2_2 o2_3 o2_4, .bool o2_5, .slice o2_6 o2_7 o2_8, .bool o3_1, .slice o3_2 o3_3 o3_4, .bool o3_5, .slice o3_6 o3_7 o3_8, .bool o4_1, .slice o4_2 o4_3 o4_4, .bool o4_5, .slice o4_6 o4_7 o4_8] #[.int .i64 0, .int .i64 1, .int .i64 2, .int .i64 3, .bool yr0_1, .slice yr0_2 yr0_3 yr0_4, .bool yr0_5, .slice yr0_6 yr0_7 yr0_8, .bool yr1_1, .slice yr1_2 yr1_3 yr1_4, .bool yr1_5, .slice yr1_6 yr1_7 yr1_8, .bool yr2_1, .slice yr2_2 yr2_3 yr2_4, .bool yr2_5, .slice yr2_6 yr2_7 yr2_8, .bool yr3_1, .slice yr3_2 yr3_3 yr3_4, .bool yr3_5, .slice yr3_6 yr3_7 yr3_8] #[.int .i64 0, .int .i64 1, .int .i64 3, .int .i64 2, .bool o1_1, .slice o1_2 o1_3 o1_4, .bool o1_5, .slice o1_6 o1_7 o1_8, .bool o2_1, .slice o2_2 o2_3 o2_4, .bool o2_5, .slice o2_6 o2_7 o2_8, .bool o3_1, .slice o3_2 o3_3 o3_4, .bool o3_5, .slice o3_6 o3_7 o3_8, .bool o4_1, .slice o4_2 o4_3 o4_4, .bool o4_5, .slice o4_6 o4_7 o4_8] rfl rfl rfl rfl rfl rfl ?_
  have hs0 : ∀ o : Obj, Steps W' (W'.alloc o) := fun o => (Below.refl _ _).alloc (Nat.le_refl _) o
  exact hK.out _ _ (Keeps.steps (hs0 _)) ⟨below_steps j0 (Nat.le_refl _) (hs0 _), jk.then_ (hs0 _), Nat.le_trans jn ((hs0 _)).size, b_sl38.steps (hs0 _), b_vq.steps (hs0 _), b_vh.steps (hs0 _), b_sl56.steps (hs0 _), b_vr.steps (hs0 _), b_va.steps (hs0 _), b_vb.steps (hs0 _), b_vc.steps (hs0 _), b_vd.steps (hs0 _), b_vg.steps (hs0 _), fun _ => ⟨W'.heap.size, rfl, Blk.new _ _ _⟩, fun h => by obtain ⟨a, c, e1, e2⟩ := m_6 h; exact ⟨a, c, e1, e2.steps (hs0 _)⟩⟩ trivial ⟨_, rfl⟩
 rintro _ ⟨ms3, rfl⟩
 refine Reg.at243 rfl ?_
 apply Reg.RP rfl rfl rfl 137 rfl rfl
 ·
  intro D v' W' hc hj hf K hK
  obtain ⟨j0, jk, jn, b_sl38, b_vq, b_vh, b_sl56, b_vr, b_va, b_vb, b_vc, b_vd, b_vg, m_3, m_6⟩ := hj
  exact wp_load_row 33 (.tmp 4) rfl (w6.heap.size) rfl 33 #[.int .i64 0, .int .i64 1, .int .i64 3, .int .i64 2, .bool o1_1, .slice o1_2 o1_3 o1_4, .bool o1_5, .slice o1_6 o1_7 o1_8, .bool o2_1, .slice o2_2 o2_3 o2_4, .bool o2_5, .slice o2_6 o2_7 o2_8, .bool o3_1, .slice o3_2 o3_3 o3_4, .bool o3_5, .slice o3_6 o3_7 o3_8, .bool o4_1, .slice o4_2 o4_3 o4_4, .bool o4_5, .slice o4_6 o4_7 o4_8] (0, 0) _ b_vh Tryz.underlying33 rfl (by kernel_rfl) hK.out
 · rfl
 refine Reg.RC_call rfl (tlt rfl) rfl (fun D v' W' hc hj hf K hK => ?_) ?_
 ·
  obtain ⟨j0, jk, jn, b_sl38, b_vq, b_vh, b_sl56, b_vr, b_va, b_vb, b_vc, b_vd, b_vg, m_3, m_6⟩ := hj
  clear hf
  go_step
  refine (OQ W').mono ?_
  rintro e W2 ⟨u, rfl, hu, hs⟩
  obtain ⟨o8_1, o8_2, o8_3, o8_4, o8_5, o8_6, o8_7, o8_8, rfl⟩ := hu.shape
  exact hK.out _ W2 (Keeps.steps hs) ⟨jst j0 hs, jk.then_ hs, jsz jn hs, b_sl38.steps hs, b_vq.steps hs, b_vh.steps hs, b_sl56.steps hs, b_vr.steps hs, b_va.steps hs, b_vb.steps hs, b_vc.steps hs, b_vd.steps hs, b_vg.steps hs, fun h => by obtain ⟨g, e1, e2⟩ := m_3 h; exact ⟨g, e1, e2.steps hs⟩, fun h => by obtain ⟨a, c, e1, e2⟩ := m_6 h; exact ⟨a, c, e1, e2.steps hs⟩⟩ hu ⟨_, _, _, _, _, _, _, _, rfl⟩
 rintro _ ⟨o8_1, o8_2, o8_3, o8_4, o8_5, o8_6, o8_7, o8_8, rfl⟩
 refine Reg.at243 rfl ?_
 refine Reg.RC_call rfl (tlt rfl) rfl (fun D v' W' hc hj hf K hK => ?_) ?_
 ·
  obtain ⟨j0, jk, jn, b_sl38, b_vq, b_vh, b_sl56, b_vr, b_va, b_vb, b_vc, b_vd, b_vg, m_3, m_6⟩ := hj
  have f3 := hf (3, some 136) (.head _) rfl
  obtain ⟨g, e1, bm⟩ := m_3 f3.1
  obtain rfl : ms3 = g := sl_eq (f3.2.1.symm.trans e1)
  have g5 : FR W' _ (q4) := (hf (5, some 138) (.tail _ (.head _)) rfl).2.2
  clear hf
  go_step
  refine (N4 W' _ _ _ _ _ _ _ _ _ _ _ _ _ _ _ _ _ _ _ _ _ _ _ _ _ _ _ _ _ _ _ _ _ (Fo1_.out.keeps jk) (Fo2_.out.keeps jk) (Fo3_.out.keeps jk) (Fo4_.out.keeps jk) _ _ _ _ _ _ _ _ _ _ _ _ _ _ _ _ _ _ _ _ _ _ _ _ _ _ _ _ _ _ _ _ (Fyr0.out.keeps jk) (Fyr1.out.keeps jk) (Fyr2.out.keeps jk) (Fyr3.out.keeps jk) g5 _ bm).mono ?_
  rintro e W2 ⟨u, rfl, hu, hs⟩
  obtain ⟨a, c, rfl⟩ := hu.shape
  exact hK.out _ _ (Keeps.steps hs) ⟨jst j0 hs, jk.then_ hs, Nat.le_trans jn (hs).size, b_sl38.steps hs, b_vq.steps hs, b_vh.steps hs, b_sl56.steps hs, b_vr.steps hs, b_va.steps hs, b_vb.steps hs, b_vc.steps hs, b_vd.steps hs, b_vg.steps hs, fun h => by obtain ⟨g, e1, e2⟩ := m_3 h; exact ⟨g, e1, e2.steps hs⟩, fun _ => ⟨_, _, rfl, hu⟩⟩ trivial ⟨_, _, rfl⟩
 rintro _ ⟨fa6, fc6, rfl⟩
 refine Reg.at243 rfl ?_
 refine Reg.RP0 132 ?_
 refine Reg.RP0 140 ?_
 refine Reg.RP0 141 ?_
 refine Reg.RP0 30 ?_
 refine Reg.RP0 31 ?_
 refine Reg.RC_end (fun Dn v' w27 hd hj hf => ?_)
 obtain ⟨j0, jk, jn, b_sl38, b_vq, b_vh, b_sl56, b_vr, b_va, b_vb, b_vc, b_vd, b_vg, m_3, m_6⟩ := hj
 have B := j0
 have osl38 := b_sl38
 clear b_sl38
 have ovq := b_vq
 clear b_vq
 have ovh := b_vh
 clear b_vh
 have osl56 := b_sl56
 clear b_sl56
 have ovr := b_vr
 clear b_vr
 have ova := b_va
 clear b_va
 have ovb := b_vb
 clear b_vb
 have ovc := b_vc
 clear b_vc
 have ovd := b_vd
 clear b_vd
 have ovg := b_vg
 clear b_vg
 have Fo8_ : Hid (FR w27 (.agg #[.bool o8_1, .slice o8_2 o8_3 o8_4, .bool o8_5, .slice o8_6 o8_7 o8_8]) (q4)) := (hf (5, some 138) (.tail _ (.head _)) rfl).2.2
 replace Fyq0 := Hid.mk_ (Fyq0.out.keeps jk)
 replace Fyq1 := Hid.mk_ (Fyq1.out.keeps jk)
 replace Fyq2 := Hid.mk_ (Fyq2.out.keeps jk)
 replace Fyq3 := Hid.mk_ (Fyq3.out.keeps jk)
 replace Fo1_ := Hid.mk_ (Fo1_.out.keeps jk)
 replace Fo2_ := Hid.mk_ (Fo2_.out.keeps jk)
 replace Fo3_ := Hid.mk_ (Fo3_.out.keeps jk)
 replace Fo4_ := Hid.mk_ (Fo4_.out.keeps jk)
 replace Fyr0 := Hid.mk_ (Fyr0.out.keeps jk)
 replace Fyr1 := Hid.mk_ (Fyr1.out.keeps jk)
 replace Fyr2 := Hid.mk_ (Fyr2.out.keeps jk)
 replace Fyr3 := Hid.mk_ (Fyr3.out.keeps jk)
 replace Fo5_ := Hid.mk_ (Fo5_.out.keeps jk)
 replace Fo6_ := Hid.mk_ (Fo6_.out.keeps jk)
 replace Fo7_ := Hid.mk_ (Fo7_.out.keeps jk)
 obtain ⟨a, c, e1_, hi⟩ := m_6 (hd 6 (Nat.le_of_ble_eq_true rfl))
 have ef : v' 6 = .tuple #[.slice fa6 2 fc6, .int .i64 0] := (hf (6, some 139) (.tail _ (.tail _ (.head _))) rfl).2.1
 have eq6 := ef.symm.trans e1_
 simp only [Value.tuple.injEq, Array.mk.injEq, List.cons.injEq, Value.slice.injEq, and_true, true_and] at eq6
 obtain ⟨rfl, rfl⟩ := eq6
 have Fi := Hid.mk_ hi
 clear ef e1_ hi
 clear hd hf jk j0 m_3 m_6
 refine hQ _ _ ?_
 clear hQ hops Q' ops'
 obtain ⟨cvq0, cvq1, cvq2, cvq3, cvq4, cvq5, cvq6, cvq7, cvq8, cvq9, cvq10, cvq11, cvq12, cvq13, cvq14, cvq15, cvq16, cvq17, cvq18, cvq19⟩ := ovq.r19
 have lvq := ovq.lt
 obtain ⟨cvh0, cvh1, cvh2, cvh3, cvh4, cvh5, cvh6, cvh7, cvh8, cvh9, cvh10, cvh11, cvh12, cvh13, cvh14, cvh15, cvh16, cvh17, cvh18, cvh19⟩ := ovh.r19
 have lvh := ovh.lt
 obtain ⟨cvr0, cvr1, cvr2, cvr3, cvr4, cvr5, cvr6, cvr7, cvr8, cvr9, cvr10, cvr11, cvr12, cvr13, cvr14, cvr15, cvr16, cvr17, cvr18, cvr19⟩ := ovr.r19
 have lvr := ovr.lt
 clear N4
 go_wp2_with fail
 have zvg_27 : w18.heap.size < w27.heap.size := ovg.lt
 have zz27 := B.size
 go_upto_region 18 with fail
 refine Reg.wp_chain_n (fun N0 D v W => Below w.heap.size w W ∧ Keeps w27 W ∧ N0 ≤ W.heap.size ∧ Blk W (w.heap.size) 23 #[.int .i64 1, .int .i64 1, .int .i64 0, .int .i64 0, .int .i64 1, .int .i64 0, .int .i64 0, .int .i64 1] ∧ Blk W (w1.heap.size) 33 #[.int .i64 0, .int .i64 1, .int .i64 3, .int .i64 2, .bool yq0_1, .slice yq0_2 yq0_3 yq0_4, .bool yq0_5, .slice yq0_6 yq0_7 yq0_8, .bool yq1_1, .slice yq1_2 yq1_3 yq1_4, .bool yq1_5, .slice yq1_6 yq1_7 yq1_8, .bool yq2_1, .slice yq2_2 yq2_3 yq2_4, .bool yq2_5, .slice yq2_6 yq2_7 yq2_8, .bool yq3_1, .slice yq3_2 yq3_3 yq3_4, .bool yq3_5, .slice yq3_6 yq3_7 yq3_8] ∧ Blk W (w6.heap.size) 33 #[.int .i64 0, .int .i64 1, .int .i64 3, .int .i64 2, .bool o1_1, .slice o1_2 o1_3 o1_4, .bool o1_5, .slice o1_6 o1_7 o1_8, .bool o2_1, .slice o2_2 o2_3 o2_4, .bool o2_5, .slice o2_6 o2_7 o2_8, .bool o3_1, .slice o3_2 o3_3 o3_4, .bool o3_5, .slice o3_6 o3_7 o3_8, .bool o4_1, .slice o4_2 o4_3 o4_4, .bool o4_5, .slice o4_6 o4_7 o4_8] ∧ Blk W (w7.heap.size) 23 #[.int .i64 0, .int .i64 0, .int .i64 5, .int .i64 0, .int .i64 0, .int .i64 0, .int .i64 5, .int .i64 0] ∧ Blk W (w8.heap.size) 33 #[.int .i64 0, .int .i64 1, .int .i64 2, .int .i64 3, .bool yr0_1, .slice yr0_2 yr0_3 yr0_4, .bool yr0_5, .slice yr0_6 yr0_7 yr0_8, .bool yr1_1, .slice yr1_2 yr1_3 yr1_4, .bool yr1_5, .slice yr1_6 yr1_7 yr1_8, .bool yr2_1, .slice yr2_2 yr2_3 yr2_4, .bool yr2_5, .slice yr2_6 yr2_7 yr2_8, .bool yr3_1, .slice yr3_2 yr3_3 yr3_4, .bool yr3_5, .slice yr3_6 yr3_7 yr3_8] ∧ Blk W (w10.heap.size) 33 #[.int .i64 0, .int .i64 0, .int .i64 0, .int .i64 0, .bool ya0_1, .slice ya0_2 ya0_3 ya0_4, .bool ya0_5, .slice ya0_6 ya0_7 ya0_8, .bool ya1_1, .slice ya1_2 ya1_3 ya1_4, .bool ya1_5, .slice ya1_6 ya1_7 ya1_8, .bool ya2_1, .slice ya2_2 ya2_3 ya2_4, .bool ya2_5, .slice ya2_6 ya2_7 ya2_8, .bool ya3_1, .slice ya3_2 ya3_3 ya3_4, .bool ya3_5, .slice ya3_6 ya3_7 ya3_8] ∧ Blk W (w12.heap.size) 33 #[.int .i64 0, .int .i64 0, .int .i64 0, .int .i64 0, .bool yb0_1, .slice yb0_2 yb0_3 yb0_4, .bool yb0_5, .slice yb0_6 yb0_7 yb0_8, .bool yb1_1, .slice yb1_2 yb1_3 yb1_4, .bool yb1_5, .slice yb1_6 yb1_7 yb1_8, .bool yb2_1, .slice yb2_2 yb2_3 yb2_4, .bool yb2_5, .slice yb2_6 yb2_7 yb2_8, .bool yb3_1, .slice yb3_2 yb3_3 yb3_4, .bool yb3_5, .slice yb3_6 yb3_7 yb3_8] ∧ Blk W (w14.heap.size) 33 #[.int .i64 0, .int .i64 0, .int .i64 0, .int .i64 0, .bool yc0_1, .slice yc0_2 yc0_3 yc0_4, .bool yc0_5, .slice yc0_6 yc0_7 yc0_8, .bool yc1_1, .slice yc1_2 yc1_3 yc1_4, .bool yc1_5, .slice yc1_6 yc1_7 yc1_8, .bool yc2_1, .slice yc2_2 yc2_3 yc2_4, .bool yc2_5, .slice yc2_6 yc2_7 yc2_8, .bool yc3_1, .slice yc3_2 yc3_3 yc3_4, .bool yc3_5, .slice yc3_6 yc3_7 yc3_8] ∧ Blk W (w16.heap.size) 33 #[.int .i64 0, .int .i64 0, .int .i64 0, .int .i64 0, .bool yd0_1, .slice yd0_2 yd0_3 yd0_4, .bool yd0_5, .slice yd0_6 yd0_7 yd0_8, .bool yd1_1, .slice yd1_2 yd1_3 yd1_4, .bool yd1_5, .slice yd1_6 yd1_7 yd1_8, .bool yd2_1, .slice yd2_2 yd2_3 yd2_4, .bool yd2_5, .slice yd2_6 yd2_7 yd2_8, .bool yd3_1, .slice yd3_2 yd3_3 yd3_4, .bool yd3_5, .slice yd3_6 yd3_7 yd3_8] ∧ Blk W (w18.heap.size) 33 #[.int .i64 0, .int .i64 0, .int .i64 0, .int .i64 0, .bool yg0_1, .slice yg0_2 yg0_3 yg0_4, .bool yg0_5, .slice yg0_6 yg0_7 yg0_8, .bool yg1_1, .slice yg1_2 yg1_3 yg1_4, .bool yg1_5, .slice yg1_6 yg1_7 yg1_8, .bool yg2_1, .slice yg2_2 yg2_3 yg2_4, .bool yg2_5, .slice yg2_6 yg2_7 yg2_8, .bool yg3_1, .slice yg3_2 yg3_3 yg3_4, .bool yg3_5, .slice yg3_6 yg3_7 yg3_8] ∧ (D 55 = true → ∃ g : Nat, v 55 = .slice (some ⟨g, 0, none⟩) 2 2 ∧ Blk W g 3 (#[.int .i64 0, .int .i64 2])) ∧ IntsR W (.slice fa6 2 fc6) [0, 2])
  (Reg.inl [5, 15, 16, 22, 23, 55, 56]) (Reg.gv [(5, fun z_ => z_ = .bool true), (15, IsFr), (16, fun z_ => z_ = .bool true), (22, IsFr), (23, fun z_ => z_ = .bool true), (56, fun z_ => z_ = .bool true), (55, IsSl 2)]) (gw [(15, GFr (qz)), (22, GFr (q1))]) (fun _ => Keeps) (fun _ _ => False) (Reg.pl [(16, [(15, some 157)]), (23, [(22, some 164)]), (56, [(55, some 197)]), (59, [(5, some 147), (15, some 157), (16, some 158), (22, some 164), (23, some 165), (55, some 197), (56, some 198)])]) (Reg.pl [])
  (by kernel_rfl) (by kernel_rfl) (by kernel_rfl) (Reg.gv_some _ (by intro p hp; simp only [List.mem_cons, List.not_mem_nil, or_false] at hp; rcases hp with rfl | rfl | rfl | rfl | rfl | rfl | rfl <;> first | exact ⟨_, rfl⟩ | exact ⟨_, 0, rfl⟩ | exact ⟨_, none, 0, rfl⟩ | exact ⟨_, none, 0, 0, rfl⟩ | exact ⟨_, false, none, 0, 0, rfl⟩ | exact ⟨_, false, none, 0, 0, false, none, 0, 0, rfl⟩)) (fun N0 hN0 => ⟨fun v => ?_, fun D v v' W hv hj => ?_, fun D v k j W W' x _ _ _ _ hk hg => gwA hk hg, fun _ _ _ _ h => h.elim, fun ops' Q' hops hQ => ?_⟩)
 · exact ⟨belowB, keepsB, by first | with_reducible exact Nat.le_of_eq hN0.out | (simp only [World.size_drew]; with_reducible exact Nat.le_of_eq hN0.out), ownK, ownK, ownK, ownK, ownK, ownK, ownK, ownK, ownK, ownK, (fun h => Bool.noConfusion h), (Fi.out.steps belowB)⟩
 ·
  obtain ⟨j0, jk, jn, b_sl38, b_vq, b_vh, b_sl56, b_vr, b_va, b_vb, b_vc, b_vd, b_vg, m_55, i_6⟩ := hj
  exact ⟨j0, jk, jn, b_sl38, b_vq, b_vh, b_sl56, b_vr, b_va, b_vb, b_vc, b_vd, b_vg, fun h => by obtain ⟨g, e1, e2⟩ := m_55 h; exact ⟨g, (hv 55 h) ▸ e1, e2⟩, i_6⟩
 have eN := hN0.out
 try simp only [World.size_alloc, World.size_setCell, World.size_drew, World.heap_drewN] at eN
 have i_sl38 : w.heap.size < N0 := by first | omega | (have h := osl38.lt; omega)
 have i_vq : w1.heap.size < N0 := by first | omega | (have h := ovq.lt; omega)
 have i_vh : w6.heap.size < N0 := by first | omega | (have h := ovh.lt; omega)
 have i_sl56 : w7.heap.size < N0 := by first | omega | (have h := osl56.lt; omega)
 have i_vr : w8.heap.size < N0 := by first | omega | (have h := ovr.lt; omega)
 have i_va : w10.heap.size < N0 := by first | omega | (have h := ova.lt; omega)
 have i_vb : w12.heap.size < N0 := by first | omega | (have h := ovb.lt; omega)
 have i_vc : w14.heap.size < N0 := by first | omega | (have h := ovc.lt; omega)
 have i_vd : w16.heap.size < N0 := by first | omega | (have h := ovd.lt; omega)
 have i_vg : w18.heap.size < N0 := by first | omega | (have h := ovg.lt; omega)
 have iw : w.heap.size ≤ N0 := by first | omega | (have h := B.size; omega)
 clear cvq0 cvq1 cvq2 cvq3 cvq4 cvq5 cvq6 cvq7 cvq8 cvq9 cvq10 cvq11 cvq12 cvq13 cvq14 cvq15 cvq16 cvq17 cvq18 cvq19 lvq cvh0 cvh1 cvh2 cvh3 cvh4 cvh5 cvh6 cvh7 cvh8 cvh9 cvh10 cvh11 cvh12 cvh13 cvh14 cvh15 cvh16 cvh17 cvh18 cvh19 lvh cvr0 cvr1 cvr2 cvr3 cvr4 cvr5 cvr6 cvr7 cvr8 cvr9 cvr10 cvr11 cvr12 cvr13 cvr14 cvr15 cvr16 cvr17 cvr18 cvr19 lvr
 clear hN0
 refine Reg.RP0 142 ?_
 refine Reg.RP0 143 ?_
 refine Reg.RP0 144 ?_
 apply Reg.RP rfl rfl (by rw [hops]; rfl) 145 rfl rfl
 ·
  intro D v' W' hc hj hf K hK
  obtain ⟨j0, jk, jn, b_sl38, b_vq, b_vh, b_sl56, b_vr, b_va, b_vb, b_vc, b_vd, b_vg, m_55, i_6⟩ := hj
  exact wp_load_row 33 (.tmp 2) rfl (w1.heap.size) rfl 33 #[.int .i64 0, .int .i64 1, .int .i64 3, .int .i64 2, .bool yq0_1, .slice yq0_2 yq0_3 yq0_4, .bool yq0_5, .slice yq0_6 yq0_7 yq0_8, .bool yq1_1, .slice yq1_2 yq1_3 yq1_4, .bool yq1_5, .slice yq1_6 yq1_7 yq1_8, .bool yq2_1, .slice yq2_2 yq2_3 yq2_4, .bool yq2_5, .slice yq2_6 yq2_7 yq2_8, .bool yq3_1, .slice yq3_2 yq3_3 yq3_4, .bool yq3_5, .slice yq3_6 yq3_7 yq3_8] (0, 0) _ b_vq Tryz.underlying33 rfl (by kernel_rfl) hK.out
 · rfl
 apply Reg.RP rfl rfl (by rw [hops]; rfl) 146 rfl rfl
 ·
  intro D v' W' hc hj hf K hK
  obtain ⟨j0, jk, jn, b_sl38, b_vq, b_vh, b_sl56, b_vr, b_va, b_vb, b_vc, b_vd, b_vg, m_55, i_6⟩ := hj
  exact wp_load_row 33 (.tmp 4) rfl (w6.heap.size) rfl 33 #[.int .i64 0, .int .i64 1, .int .i64 3, .int .i64 2, .bool o1_1, .slice o1_2 o1_3 o1_4, .bool o1_5, .slice o1_6 o1_7 o1_8, .bool o2_1, .slice o2_2 o2_3 o2_4, .bool o2_5, .slice o2_6 o2_7 o2_8, .bool o3_1, .slice o3_2 o3_3 o3_4, .bool o3_5, .slice o3_6 o3_7 o3_8, .bool o4_1, .slice o4_2 o4_3 o4_4, .bool o4_5, .slice o4_6 o4_7 o4_8] (0, 0) _ b_vh Tryz.underlying33 rfl (by kernel_rfl) hK.out
 · rfl
 refine Reg.RC_call rfl (tlt rfl) (by rw [hops]; rfl) (fun D v' W' hc hj hf K hK => ?_) ?_
 ·
  obtain ⟨j0, jk, jn, b_sl38, b_vq, b_vh, b_sl56, b_vr, b_va, b_vb, b_vc, b_vd, b_vg, m_55, i_6⟩ := hj
  clear hf
  go_step
  refine (N5 W' _ _ _ _ _ _ _ _ _ _ _ _ _ _ _ _ _ _ _ _ _ _ _ _ _ _ _ _ _ _ _ _ (Fyq0.out.keeps jk) (Fyq1.out.keeps jk) (Fyq2.out.keeps jk) (Fyq3.out.keeps jk) _ _ _ _ _ _ _ _ _ _ _ _ _ _ _ _ _ _ _ _ _ _ _ _ _ _ _ _ _ _ _ _ (Fo1_.out.keeps jk) (Fo2_.out.keeps jk) (Fo3_.out.keeps jk) (Fo4_.out.keeps jk)).mono ?_
  rintro e W2 ⟨rfl, hs⟩
  exact hK.out _ W2 (Keeps.steps hs) ⟨jst j0 hs, jk.then_ hs, jsz jn hs, b_sl38.steps hs, b_vq.steps hs, b_vh.steps hs, b_sl56.steps hs, b_vr.steps hs, b_va.steps hs, b_vb.steps hs, b_vc.steps hs, b_vd.steps hs, b_vg.steps hs, fun h => by obtain ⟨g, e1, e2⟩ := m_55 h; exact ⟨g, e1, e2.steps hs⟩, i_6.steps hs⟩ trivial rfl
 rintro _ rfl
 refine Reg.at243 rfl ?_
 refine Reg.RP0 148 ?_
 refine Reg.RP0 149 ?_
 apply Reg.RP rfl rfl (by rw [hops]; rfl) 150 rfl rfl
 ·
  intro D v' W' hc hj hf K hK
  go_step
  exact hK.out
 · rfl
 apply Reg.RP rfl rfl (by rw [hops]; rfl) 151 rfl rfl
 ·
  intro D v' W' hc hj hf K hK
  go_step
  exact hK.out
 · rfl
 refine Reg.RP0 152 ?_
 refine Reg.RP0 153 ?_
 apply Reg.RP rfl rfl (by rw [hops]; rfl) 154 rfl rfl
 ·
  intro D v' W' hc hj hf K hK
  go_step
  exact hK.out
 · rfl
 apply Reg.RP rfl rfl (by rw [hops]; rfl) 155 rfl rfl
 ·
  intro D v' W' hc hj hf K hK
  go_step
  exact hK.out
 · rfl
 apply Reg.RP rfl rfl (by rw [hops]; rfl) 156 rfl rfl
 ·
  intro D v' W' hc hj hf K hK
  obtain ⟨j0, jk, jn, b_sl38, b_vq, b_vh, b_sl56, b_vr, b_va, b_vb, b_vc, b_vd, b_vg, m_55, i_6⟩ := hj
  have c4 := b_vr.q4
  have c5 := b_vr.q5
  have c6 := b_vr.q6
  have c7 := b_vr.q7
  go_step
  exact hK.out
 · rfl
 refine Reg.RC_call rfl (tlt rfl) (by rw [hops]; rfl) (fun D v' W' hc hj hf K hK => ?_) ?_
 ·
  obtain ⟨j0, jk, jn, b_sl38, b_vq, b_vh, b_sl56, b_vr, b_va, b_vb, b_vc, b_vd, b_vg, m_55, i_6⟩ := hj
  clear hf
  go_step
  refine (OZ W').mono ?_
  rintro e W2 ⟨u, rfl, hu, hs⟩
  obtain ⟨o9_1, o9_2, o9_3, o9_4, o9_5, o9_6, o9_7, o9_8, rfl⟩ := hu.shape
  exact hK.out _ W2 (Keeps.steps hs) ⟨jst j0 hs, jk.then_ hs, jsz jn hs, b_sl38.steps hs, b_vq.steps hs, b_vh.steps hs, b_sl56.steps hs, b_vr.steps hs, b_va.steps hs, b_vb.steps hs, b_vc.steps hs, b_vd.steps hs, b_vg.steps hs, fun h => by obtain ⟨g, e1, e2⟩ := m_55 h; exact ⟨g, e1, e2.steps hs⟩, i_6.steps hs⟩ hu ⟨_, _, _, _, _, _, _, _, rfl⟩
 rintro _ ⟨o9_1, o9_2, o9_3, o9_4, o9_5, o9_6, o9_7, o9_8, rfl⟩
 refine Reg.at243 rfl ?_
 refine Reg.RC_call rfl (tlt rfl) (by rw [hops]; rfl) (fun D v' W' hc hj hf K hK => ?_) ?_
 ·
  obtain ⟨j0, jk, jn, b_sl38, b_vq, b_vh, b_sl56, b_vr, b_va, b_vb, b_vc, b_vd, b_vg, m_55, i_6⟩ := hj
  have g15 : GFr (qz) _ W' := (hf (15, some 157) (.head _) rfl).2.2
  have g15 : FR W' _ (qz) := g15
  clear hf
  go_step
  refine (rsameRq W' (Fyr0.out.keeps jk) g15).mono ?_
  rintro e W2 ⟨rfl, hs⟩
  exact hK.out _ W2 (Keeps.steps hs) ⟨jst j0 hs, jk.then_ hs, jsz jn hs, b_sl38.steps hs, b_vq.steps hs, b_vh.steps hs, b_sl56.steps hs, b_vr.steps hs, b_va.steps hs, b_vb.steps hs, b_vc.steps hs, b_vd.steps hs, b_vg.steps hs, fun h => by obtain ⟨g, e1, e2⟩ := m_55 h; exact ⟨g, e1, e2.steps hs⟩, i_6.steps hs⟩ trivial rfl
 rintro _ rfl
 refine Reg.at243 rfl ?_
 refine Reg.RP0 159 ?_
 refine Reg.RP0 160 ?_
 apply Reg.RP rfl rfl (by rw [hops]; rfl) 161 rfl rfl
 ·
  intro D v' W' hc hj hf K hK
  go_step
  exact hK.out
 · rfl
 apply Reg.RP rfl rfl (by rw [hops]; rfl) 162 rfl rfl
 ·
  intro D v' W' hc hj hf K hK
  go_step
  exact hK.out
 · rfl
 apply Reg.RP rfl rfl (by rw [hops]; rfl) 163 rfl rfl
 ·
  intro D v' W' hc hj hf K hK
  obtain ⟨j0, jk, jn, b_sl38, b_vq, b_vh, b_sl56, b_vr, b_va, b_vb, b_vc, b_vd, b_vg, m_55, i_6⟩ := hj
  have c12 := b_vr.q12
  have c13 := b_vr.q13
  have c14 := b_vr.q14
  have c15 := b_vr.q15
  go_step
  exact hK.out
 · rfl
 refine Reg.RC_call rfl (tlt rfl) (by rw [hops]; rfl) (fun D v' W' hc hj hf K hK => ?_) ?_
 ·
  obtain ⟨j0, jk, jn, b_sl38, b_vq, b_vh, b_sl56, b_vr, b_va, b_vb, b_vc, b_vd, b_vg, m_55, i_6⟩ := hj
  clear hf
  go_step
  refine (OO W').mono ?_
  rintro e W2 ⟨u, rfl, hu, hs⟩
  obtain ⟨o10_1, o10_2, o10_3, o10_4, o10_5, o10_6, o10_7, o10_8, rfl⟩ := hu.shape
  exact hK.out _ W2 (Keeps.steps hs) ⟨jst j0 hs, jk.then_ hs, jsz jn hs, b_sl38.steps hs, b_vq.steps hs, b_vh.steps hs, b_sl56.steps hs, b_vr.steps hs, b_va.steps hs, b_vb.steps hs, b_vc.steps hs, b_vd.steps hs, b_vg.steps hs, fun h => by obtain ⟨g, e1, e2⟩ := m_55 h; exact ⟨g, e1, e2.steps hs⟩, i_6.steps hs⟩ hu ⟨_, _, _, _, _, _, _, _, rfl⟩
 rintro _ ⟨o10_1, o10_2, o10_3, o10_4, o10_5, o10_6, o10_7, o10_8, rfl⟩
 refine Reg.at243 rfl ?_
 refine Reg.RC_call rfl (tlt rfl) (by rw [hops]; rfl) (fun D v' W' hc hj hf K hK => ?_) ?_
 ·
  obtain ⟨j0, jk, jn, b_sl38, b_vq, b_vh, b_sl56, b_vr, b_va, b_vb, b_vc, b_vd, b_vg, m_55, i_6⟩ := hj
  have g22 : GFr (q1) _ W' := (hf (22, some 164) (.head _) rfl).2.2
  have g22 : FR W' _ (q1) := g22
  clear hf
  go_step
  refine (rsameRq W' (Fyr2.out.keeps jk) g22).mono ?_
  rintro e W2 ⟨rfl, hs⟩
  exact hK.out _ W2 (Keeps.steps hs) ⟨jst j0 hs, jk.then_ hs, jsz jn hs, b_sl38.steps hs, b_vq.steps hs, b_vh.steps hs, b_sl56.steps hs, b_vr.steps hs, b_va.steps hs, b_vb.steps hs, b_vc.steps hs, b_vd.steps hs, b_vg.steps hs, fun h => by obtain ⟨g, e1, e2⟩ := m_55 h; exact ⟨g, e1, e2.steps hs⟩, i_6.steps hs⟩ trivial rfl
 rintro _ rfl
 refine Reg.at243 rfl ?_
 refine Reg.RP0 166 ?_
 refine Reg.RP0 167 ?_
 apply Reg.RP rfl rfl (by rw [hops]; rfl) 168 rfl rfl
 ·
  intro D v' W' hc hj hf K hK
  go_step
  exact hK.out
 · rfl
 apply Reg.RP rfl rfl (by rw [hops]; rfl) 169 rfl rfl
 ·
  intro D v' W' hc hj hf K hK
  obtain ⟨j0, jk, jn, b_sl38, b_vq, b_vh, b_sl56, b_vr, b_va, b_vb, b_vc, b_vd, b_vg, m_55, i_6⟩ := hj
  obtain ⟨c0, c1, c2, c3⟩ := b_vr.r3
  go_step
  exact hK.out
 · rfl
 apply Reg.RP rfl rfl (by rw [hops]; rfl) 170 rfl rfl
 ·
  intro D v' W' hc hj hf K hK
  go_step
  exact hK.out
 · rfl
 apply Reg.RP rfl rfl (by rw [hops]; rfl) 171 rfl rfl
 ·
  intro D v' W' hc hj hf K hK
  go_step
  exact hK.out
 · rfl
 refine Reg.RP0 172 ?_
 refine Reg.RP0 173 ?_
 apply Reg.RP rfl rfl (by rw [hops]; rfl) 174 rfl rfl
 ·
  intro D v' W' hc hj hf K hK
  go_step
  exact hK.out
 · rfl
 apply Reg.RP rfl rfl (by rw [hops]; rfl) 175 rfl rfl
 ·
  intro D v' W' hc hj hf K hK
  go_step
  exact hK.out
 · rfl
 refine Reg.RP0 176 ?_
 refine Reg.RP0 177 ?_
 apply Reg.RP rfl rfl (by rw [hops]; rfl) 178 rfl rfl
 ·
  intro D v' W' hc hj hf K hK
  go_step
  exact hK.out
 · rfl
 apply Reg.RP rfl rfl (by rw [hops]; rfl) 179 rfl rfl
 ·
  intro D v' W' hc hj hf K hK
  go_step
  exact hK.out
 · rfl
 apply Reg.RP rfl rfl (by rw [hops]; rfl) 180 rfl rfl
 ·
  intro D v' W' hc hj hf K hK
  go_step
  exact hK.out
 · rfl
 refine Reg.RP0 181 ?_
 refine Reg.RP0 182 ?_
 apply Reg.RP rfl rfl (by rw [hops]; rfl) 183 rfl rfl
 ·
  intro D v' W' hc hj hf K hK
  go_step
  exact hK.out
 · rfl
 apply Reg.RP rfl rfl (by rw [hops]; rfl) 184 rfl rfl
 ·
  intro D v' W' hc hj hf K hK
  go_step
  exact hK.out
 · rfl
 refine Reg.RP0 185 ?_
 refine Reg.RP0 186 ?_
 apply Reg.RP rfl rfl (by rw [hops]; rfl) 187 rfl rfl
 ·
  intro D v' W' hc hj hf K hK
  go_step
  exact hK.out
 · rfl
 apply Reg.RP rfl rfl (by rw [hops]; rfl) 188 rfl rfl
 ·
  intro D v' W' hc hj hf K hK
  go_step
  exact hK.out
 · rfl
 apply Reg.RP rfl rfl (by rw [hops]; rfl) 189 rfl rfl
 ·
  intro D v' W' hc hj hf K hK
  go_step
  exact hK.out
 · rfl
 refine Reg.RP0 190 ?_
 refine Reg.RP0 191 ?_
 apply Reg.RP rfl rfl (by rw [hops]; rfl) 192 rfl rfl
 ·
  intro D v' W' hc hj hf K hK
  go_step
  exact hK.out
 · rfl
 apply Reg.RP rfl rfl (by rw [hops]; rfl) 193 rfl rfl
 ·
  intro D v' W' hc hj hf K hK
  go_step
  exact hK.out
 · rfl
 refine Reg.RP0 194 ?_
 refine Reg.RP0 195 ?_
 apply Reg.RP rfl rfl (by rw [hops]; rfl) 196 rfl rfl
 ·
  intro D v' W' hc hj hf K hK
  go_step
  exact hK.out
 · rfl
 refine Reg.RC_call rfl (tlt rfl) (by rw [hops]; rfl) (fun D v' W' hc hj hf K hK => ?_) ?_
 ·
  obtain ⟨j0, jk, jn, b_sl38, b_vq, b_vh, b_sl56, b_vr, b_va, b_vb, b_vc, b_vd, b_vg, m_55, i_6⟩ := hj
  clear hf
  go_step
  have hs0 : ∀ o : Obj, Steps W' (W'.alloc o) := fun o => (Below.refl _ _).alloc (Nat.le_refl _) o
  exact hK.out _ _ (Keeps.steps (hs0 _)) ⟨below_steps j0 (Nat.le_refl _) (hs0 _), jk.then_ (hs0 _), Nat.le_trans jn ((hs0 _)).size, b_sl38.steps (hs0 _), b_vq.steps (hs0 _), b_vh.steps (hs0 _), b_sl56.steps (hs0 _), b_vr.steps (hs0 _), b_va.steps (hs0 _), b_vb.steps (hs0 _), b_vc.steps (hs0 _), b_vd.steps (hs0 _), b_vg.steps (hs0 _), fun _ => ⟨W'.heap.size, rfl, Blk.new _ _ _⟩, i_6.steps (hs0 _)⟩ trivial ⟨_, rfl⟩
 rintro _ ⟨ms55, rfl⟩
 refine Reg.at243 rfl ?_
 refine Reg.RC_call rfl (tlt rfl) (by rw [hops]; rfl) (fun D v' W' hc hj hf K hK => ?_) ?_
 ·
  obtain ⟨j0, jk, jn, b_sl38, b_vq, b_vh, b_sl56, b_vr, b_va, b_vb, b_vc, b_vd, b_vg, m_55, i_6⟩ := hj
  have f55 := hf (55, some 197) (.head _) rfl
  obtain ⟨g, e1, bm⟩ := m_55 f55.1
  obtain rfl : ms55 = g := sl_eq (f55.2.1.symm.trans e1)
  clear hf
  go_step
  refine (rsameInts (l := [0, 2]) W' i_6 (ints2_ bm) (by decide)).mono ?_
  rintro e W2 ⟨rfl, hs⟩
  exact hK.out _ W2 (Keeps.steps hs) ⟨jst j0 hs, jk.then_ hs, jsz jn hs, b_sl38.steps hs, b_vq.steps hs, b_vh.steps hs, b_sl56.steps hs, b_vr.steps hs, b_va.steps hs, b_vb.steps hs, b_vc.steps hs, b_vd.steps hs, b_vg.steps hs, fun h => by obtain ⟨g, e1, e2⟩ := m_55 h; exact ⟨g, e1, e2.steps hs⟩, i_6.steps hs⟩ trivial rfl
 rintro _ rfl
 refine Reg.at243 rfl ?_
 refine Reg.RP0 199 ?_
 refine Reg.RP0 32 ?_
 refine Reg.RC_end (fun Dn v' w28 hd hj hf => ?_)
 obtain ⟨j0, jk, jn, b_sl38, b_vq, b_vh, b_sl56, b_vr, b_va, b_vb, b_vc, b_vd, b_vg, m_55, i_6⟩ := hj
 have B := j0
 have osl38 := b_sl38
 clear b_sl38
 have ovq := b_vq
 clear b_vq
 have ovh := b_vh
 clear b_vh
 have osl56 := b_sl56
 clear b_sl56
 have ovr := b_vr
 clear b_vr
 have ova := b_va
 clear b_va
 have ovb := b_vb
 clear b_vb
 have ovc := b_vc
 clear b_vc
 have ovd := b_vd
 clear b_vd
 have ovg := b_vg
 clear b_vg
 have Fo9_ : Hid (FR w28 (.agg #[.bool o9_1, .slice o9_2 o9_3 o9_4, .bool o9_5, .slice o9_6 o9_7 o9_8]) (qz)) := (hf (15, some 157) (.tail _ (.head _)) rfl).2.2
 have Fo10_ : Hid (FR w28 (.agg #[.bool o10_1, .slice o10_2 o10_3 o10_4, .bool o10_5, .slice o10_6 o10_7 o10_8]) (q1)) := (hf (22, some 164) (.tail _ (.tail _ (.tail _ (.head _)))) rfl).2.2
 replace Fyq0 := Hid.mk_ (Fyq0.out.keeps jk)
 replace Fyq1 := Hid.mk_ (Fyq1.out.keeps jk)
 replace Fyq2 := Hid.mk_ (Fyq2.out.keeps jk)
 replace Fyq3 := Hid.mk_ (Fyq3.out.keeps jk)
 replace Fo1_ := Hid.mk_ (Fo1_.out.keeps jk)
 replace Fo2_ := Hid.mk_ (Fo2_.out.keeps jk)
 replace Fo3_ := Hid.mk_ (Fo3_.out.keeps jk)
 replace Fo4_ := Hid.mk_ (Fo4_.out.keeps jk)
 replace Fyr0 := Hid.mk_ (Fyr0.out.keeps jk)
 replace Fyr1 := Hid.mk_ (Fyr1.out.keeps jk)
 replace Fyr2 := Hid.mk_ (Fyr2.out.keeps jk)
 replace Fyr3 := Hid.mk_ (Fyr3.out.keeps jk)
 replace Fo5_ := Hid.mk_ (Fo5_.out.keeps jk)
 replace Fo6_ := Hid.mk_ (Fo6_.out.keeps jk)
 replace Fo7_ := Hid.mk_ (Fo7_.out.keeps jk)
 replace Fo8_ := Hid.mk_ (Fo8_.out.keeps jk)
 clear hd hf jk j0 m_55 i_6
 refine hQ _ _ ?_
 clear hQ hops Q' ops'
 go_wp2_with fail
 go_wp2_with fail
 refine (lalive20 _).mono ?_
 rintro e w29 ⟨rfl, hb29⟩
 have st : Steps _ w29 := hb29
 have sk : Below w28.heap.size w28 w29 := belowA st
 replace B := below_steps B (Nat.le_refl _) sk
 replace osl38 := osl38.steps sk
 replace ovq := ovq.steps sk
 replace ovh := ovh.steps sk
 replace osl56 := osl56.steps sk
 replace ovr := ovr.steps sk
 replace ova := ova.steps sk
 replace ovb := ovb.steps sk
 replace ovc := ovc.steps sk
 replace ovd := ovd.steps sk
 replace ovg := ovg.steps sk
 replace Fyq0 := Hid.mk_ (Fyq0.out.steps sk)
 replace Fyq1 := Hid.mk_ (Fyq1.out.steps sk)
 replace Fyq2 := Hid.mk_ (Fyq2.out.steps sk)
 replace Fyq3 := Hid.mk_ (Fyq3.out.steps sk)
 replace Fo1_ := Hid.mk_ (Fo1_.out.steps sk)
 replace Fo2_ := Hid.mk_ (Fo2_.out.steps sk)
 replace Fo3_ := Hid.mk_ (Fo3_.out.steps sk)
 replace Fo4_ := Hid.mk_ (Fo4_.out.steps sk)
 replace Fyr0 := Hid.mk_ (Fyr0.out.steps sk)
 replace Fyr1 := Hid.mk_ (Fyr1.out.steps sk)
 replace Fyr2 := Hid.mk_ (Fyr2.out.steps sk)
 replace Fyr3 := Hid.mk_ (Fyr3.out.steps sk)
 replace Fo5_ := Hid.mk_ (Fo5_.out.steps sk)
 replace Fo6_ := Hid.mk_ (Fo6_.out.steps sk)
 replace Fo7_ := Hid.mk_ (Fo7_.out.steps sk)
 replace Fo8_ := Hid.mk_ (Fo8_.out.steps sk)
 replace Fo9_ := Hid.mk_ (Fo9_.out.steps sk)
 replace Fo10_ := Hid.mk_ (Fo10_.out.steps sk)
 clear st sk
 go_wp2_with fail
 go_returns
 exact ⟨rfl, belowB⟩
end Go.Proofs.YtibdehlmflaodaaGreat
