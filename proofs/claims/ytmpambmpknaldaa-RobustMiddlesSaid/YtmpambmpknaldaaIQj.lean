import Derived.Test.YtmpambmpknaldaaIQi
import Derived.Test.YtmpambmpknaldaaIQe
set_option linter.unusedVariables false
set_option linter.unusedSimpArgs false
namespace Go.Proofs.Ytmpambmpknaldaa
open Go.RowKit
def cP (x n : Int) : Int := if n = 0 then 0 else ((x : Rat) / (n : Rat)).num
def cQ (x n : Int) : Int := if n = 0 then 0 else (((x : Rat) / (n : Rat)).den : Int)
def QN (w : World) (v : Value) (a : Arr) : Prop :=
 ∃ c0 c1 c2 c3 c4 c5 c6 c7 c8 c9 c10 c11 c12 c13 c14 c15, v = .agg #[.int .i64 a.k0, .int .i64 a.k1, .int .i64 a.k2, .int .i64 a.k3, c0, c1, c2, c3, c4, c5, c6, c7, c8, c9, c10, c11, c12, c13, c14, c15] ∧
  (Num w (.agg #[c0, c1]) (cP a.a1 a.n) ∧ Num w (.agg #[c2, c3]) (cQ a.a1 a.n)) ∧ (Num w (.agg #[c4, c5]) (cP a.a2 a.n) ∧ Num w (.agg #[c6, c7]) (cQ a.a2 a.n)) ∧
  (Num w (.agg #[c8, c9]) (cP a.b1 a.n) ∧ Num w (.agg #[c10, c11]) (cQ a.b1 a.n)) ∧ (Num w (.agg #[c12, c13]) (cP a.b2 a.n) ∧ Num w (.agg #[c14, c15]) (cQ a.b2 a.n))
theorem QN.keeps {w w' : World} {v : Value} {a : Arr} (h : QN w v a) (k : Keeps w w') : QN w' v a := by
 obtain ⟨c0, c1, c2, c3, c4, c5, c6, c7, c8, c9, c10, c11, c12, c13, c14, c15, e, ⟨h0, h1⟩, ⟨h2, h3⟩, ⟨h4, h5⟩, ⟨h6, h7⟩⟩ := h
 exact ⟨c0, c1, c2, c3, c4, c5, c6, c7, c8, c9, c10, c11, c12, c13, c14, c15, e, ⟨h0.keeps k, h1.keeps k⟩, ⟨h2.keeps k, h3.keeps k⟩, ⟨h4.keeps k, h5.keeps k⟩, ⟨h6.keeps k, h7.keeps k⟩⟩
theorem QN.steps {w w' : World} {v : Value} {a : Arr} (h : QN w v a) (k : Steps w w') : QN w' v a := h.keeps (Keeps.steps k)
theorem Num.zero0 (w : World) : Num w (.agg #[.bool false, .slice none 0 0]) 0 := ⟨_, rfl, by
 have e : limbs (absN 0) = [] := (limbs_nil (absN_nonneg _)).2 (by unfold absN; omega)
 rw [e]; exact Lim.nil w⟩
theorem QN.zero (w : World) : QN w (.agg #[.int .i64 0, .int .i64 0, .int .i64 0, .int .i64 0, .bool false, .slice none 0 0, .bool false, .slice none 0 0, .bool false, .slice none 0 0, .bool false, .slice none 0 0, .bool false, .slice none 0 0, .bool false, .slice none 0 0, .bool false, .slice none 0 0, .bool false, .slice none 0 0]) noArr :=
 ⟨_, _, _, _, _, _, _, _, _, _, _, _, _, _, _, _, rfl, ⟨Num.zero0 w, Num.zero0 w⟩, ⟨Num.zero0 w, Num.zero0 w⟩, ⟨Num.zero0 w, Num.zero0 w⟩, ⟨Num.zero0 w, Num.zero0 w⟩⟩
def okAt (n : Nat) (k : Nat → Int) (i : Nat) : Prop := (0 ≤ k i ∧ k i < n) ∧ ∀ m, m < i → k m ≠ k i
def okIdx (n : Nat) (k : Nat → Int) : Prop := ∀ i, i < 4 → okAt n k i
def KK (k : Nat → Int) : Nat → Nat := at4 (k 0).toNat (k 1).toNat (k 2).toNat (k 3).toNat
open Classical in
noncomputable def codeS (l : PL) (k : Nat → Int) : Int × Arr :=
 if chkP l ≠ 0 then (chkP l, noArr) else if ¬ okIdx l.length k then (2, noArr) else if wid l (KK k) = 0 then (18, noArr) else (0, bestOf l (KK k))
def CodeP (w : World) (l : PL) (k : Nat → Int) (e : Ending) (w' : World) : Prop := ∃ u, e = .returned (.tuple #[u, .int .i64 (codeS l k).1]) ∧ QN w' u (codeS l k).2 ∧ Steps w w'
theorem CodeP.none {w w' : World} {l : PL} {k : Nat → Int} {c : Int} (h : codeS l k = (c, noArr)) (st : Steps w w') : CodeP w l k (.returned (.tuple #[.agg #[.int .i64 0, .int .i64 0, .int .i64 0, .int .i64 0, .bool false, .slice none 0 0, .bool false, .slice none 0 0, .bool false, .slice none 0 0, .bool false, .slice none 0 0, .bool false, .slice none 0 0, .bool false, .slice none 0 0, .bool false, .slice none 0 0, .bool false, .slice none 0 0], .int .i64 c])) w' :=
 ⟨_, by rw [h], by rw [h]; exact QN.zero w', st⟩
structure NumOk (a : Arr) : Prop where
 a1 : -35184372088832 ≤ a.a1 ∧ a.a1 ≤ 35184372088832
 a2 : -35184372088832 ≤ a.a2 ∧ a.a2 ≤ 35184372088832
 b1 : -35184372088832 ≤ a.b1 ∧ a.b1 ≤ 35184372088832
 b2 : -35184372088832 ≤ a.b2 ∧ a.b2 ≤ 35184372088832
 n : 0 ≤ a.n ∧ a.n ≤ 35184372088832
theorem QD.cells {w : World} {v : Value} {k0 k1 k2 k3 : Int} {r0 r1 r2 r3 : Rat} (h : QD w v k0 k1 k2 k3 r0 r1 r2 r3) : ∃ cs, v = .agg cs ∧ cs.size = 20 ∧ cs.all (·.oneCell') = true := by
 obtain ⟨c0, c1, c2, c3, c4, c5, c6, c7, c8, c9, c10, c11, c12, c13, c14, c15, e, h0, h1, h2, h3⟩ := h
 obtain ⟨_, _, _, _, _, _, _, _, e0⟩ := h0.shape
 obtain ⟨_, _, _, _, _, _, _, _, e1⟩ := h1.shape
 obtain ⟨_, _, _, _, _, _, _, _, e2⟩ := h2.shape
 obtain ⟨_, _, _, _, _, _, _, _, e3⟩ := h3.shape
 simp only [Value.agg.injEq, Array.mk.injEq, List.cons.injEq, and_true] at e0 e1 e2 e3
 obtain ⟨rfl, rfl, rfl, rfl⟩ := e0
 obtain ⟨rfl, rfl, rfl, rfl⟩ := e1
 obtain ⟨rfl, rfl, rfl, rfl⟩ := e2
 obtain ⟨rfl, rfl, rfl, rfl⟩ := e3
 exact ⟨_, e, rfl, by simp [Value.oneCell']⟩
end Go.Proofs.Ytmpambmpknaldaa
namespace Go.Proofs.Ytmpambmpknaldaa
open Go.RowKit
theorem rofF (x y : Int) (w : World) (x0 : -9223372036854775808 ≤ x) (x1 : x ≤ 9223372036854775807) (y0 : -9223372036854775808 ≤ y) (y1 : y ≤ 9223372036854775807) (hy : y ≠ 0) :
  Calls Try.prog 18 #[.int .i64 x, .int .i64 y] w fun e w' => ∃ v, e = .returned (.tuple #[v, .int .i64 0]) ∧ FR w' v ((x : Rat) / (y : Rat)) ∧ Steps w w' := by
 refine (rof x y w x0 x1 y0 y1 hy).mono ?_
 rintro e w' ⟨v, rfl, h1, h2⟩
 exact ⟨v, rfl, FR.of_rd hy h1, h2⟩
end Go.Proofs.Ytmpambmpknaldaa
namespace Go.Proofs.Ytmpambmpknaldaa
open Go.RowKit
def wrow (l : PL) (K : Nat → Nat) (i : Nat) (b : Int) : Nat → Int
 | 0 => b
 | k + 1 => max (wrow l K i b k) (dst l K i k)
def wtot (l : PL) (K : Nat → Nat) : Nat → Int
 | 0 => 0
 | i + 1 => wrow l K i (wtot l K i) i
end Go.Proofs.Ytmpambmpknaldaa
namespace Go.Proofs.Ytmpambmpknaldaa
open Go.RowKit
def QF (w : World) (cs : Array Value) (k : Nat → Int) (r : Nat → Rat) : Prop := cs.size = 20 ∧ cs.all (·.oneCell') = true ∧ (∀ i, i < 4 → cs[i]? = some (.int .i64 (k i))) ∧
 ∀ i, i < 4 → ∃ a1 a2 a3 a4 a5 a6 a7 a8, cs[4 + i * 4]? = some (.bool a1) ∧ cs[4 + i * 4 + 1]? = some (.slice a2 a3 a4) ∧ cs[4 + i * 4 + 2]? = some (.bool a5) ∧ cs[4 + i * 4 + 3]? = some (.slice a6 a7 a8) ∧ FR w (.agg #[.bool a1, .slice a2 a3 a4, .bool a5, .slice a6 a7 a8]) (r i)
theorem QF.keeps {w w' : World} {cs : Array Value} {k : Nat → Int} {r : Nat → Rat} (h : QF w cs k r) (kp : Keeps w w') : QF w' cs k r := by
 obtain ⟨h1, h2, h3, h4⟩ := h
 refine ⟨h1, h2, h3, fun i hi => ?_⟩
 obtain ⟨a1, a2, a3, a4, a5, a6, a7, a8, c0, c1, c2, c3, f⟩ := h4 i hi
 exact ⟨a1, a2, a3, a4, a5, a6, a7, a8, c0, c1, c2, c3, f.keeps kp⟩
theorem QF.steps {w w' : World} {cs : Array Value} {k : Nat → Int} {r : Nat → Rat} (h : QF w cs k r) (s : Steps w w') : QF w' cs k r := h.keeps (Keeps.steps s)
end Go.Proofs.Ytmpambmpknaldaa
namespace Go.Proofs.Ytmpambmpknaldaa
open Go.RowKit
def kA (a : Arr) (i : Nat) : Int := match i with | 0 => a.k0 | 1 => a.k1 | 2 => a.k2 | _ => a.k3
def cA (a : Arr) (i : Nat) : Int := match i with | 0 => a.a1 | 1 => a.a2 | 2 => a.b1 | _ => a.b2
def rA (a : Arr) (i : Nat) : Rat := (cA a i : Rat) / (a.n : Rat)
def IsFF (x : Value) : Prop := ∃ u v, IsFr u ∧ IsFr v ∧ x = .tuple #[u, v]
def GFF (r s : Rat) (x : Value) (W : World) : Prop := ∃ u v, x = .tuple #[u, v] ∧ FR W u r ∧ FR W v s
theorem GFF.keeps {r s : Rat} (x : Value) (W W' : World) (k : Keeps W W') (h : GFF r s x W) : GFF r s x W' := by obtain ⟨u, v, e, h1, h2⟩ := h; exact ⟨u, v, e, h1.keeps k, h2.keeps k⟩
theorem GFF.get {r s : Rat} {u v : Value} {W : World} (h : GFF r s (.tuple #[u, v]) W) : FR W u r ∧ FR W v s := by
 obtain ⟨u', v', e, h1, h2⟩ := h
 simp only [Value.tuple.injEq, Array.mk.injEq, List.cons.injEq, and_true] at e
 obtain ⟨rfl, rfl⟩ := e
 exact ⟨h1, h2⟩
end Go.Proofs.Ytmpambmpknaldaa
namespace Go.Proofs.Ytmpambmpknaldaa
open Go.RowKit
def sgn2 (x y : Int) : Prop := (x < 0 ↔ y < 0) ∧ (x = 0 ↔ y = 0)
theorem sgn2.sub (x y : Int) : sgn2 (x - y) (cmpI x y) := by
 unfold sgn2 cmpI
 split
 · omega
 · split <;> omega
theorem sgn2.refl (x : Int) : sgn2 x x := ⟨Iff.rfl, Iff.rfl⟩
def befE (a c : Arr) : Nat → Int
 | 0 => cmpQ (rA a 0 + rA a 2) (rA c 0 + rA c 2)
 | n + 1 => orI (befE a c n) (if n < 4 then cmpQ (rA a n) (rA c n) else kA a (n - 4) - kA c (n - 4))
def bestU (l : PL) (K : Nat → Nat) (N : Int) (a b c : Nat) : Option Arr := bestR N ((upto4 a b c).map (arrOf l K))
end Go.Proofs.Ytmpambmpknaldaa
namespace Go.Proofs.Ytmpambmpknaldaa
open Go.RowKit
def IsQ (x : Value) : Prop := ∃ cs : Array Value, x = .agg cs ∧ cs.size = 20 ∧ cs.all (·.oneCell') = true
def GQ (k : Nat → Int) (r : Nat → Rat) (x : Value) (W : World) : Prop := ∃ cs, x = .agg cs ∧ QF W cs k r
theorem GQ.keeps {k : Nat → Int} {r : Nat → Rat} (x : Value) (W W' : World) (kp : Keeps W W') (h : GQ k r x W) : GQ k r x W' := by obtain ⟨cs, e, h⟩ := h; exact ⟨cs, e, h.keeps kp⟩
theorem GQ.get {k : Nat → Int} {r : Nat → Rat} {cs : Array Value} {W : World} (h : GQ k r (.agg cs) W) : QF W cs k r := by obtain ⟨cs', e, h⟩ := h; injection e with e; subst e; exact h
theorem QF.noU {w : World} {cs : Array Value} {k : Nat → Int} {r : Nat → Rat} (h : QF w cs k r) : noU32 cs = true := by
 obtain ⟨hs, -, hk, hf⟩ := h
 unfold noU32
 rw [List.all_eq_true]
 intro x hx
 obtain ⟨j, hj, e⟩ := List.getElem_of_mem hx
 have hj20 : j < 20 := by simpa [hs] using hj
 have e2 : cs[j]? = some x := by rw [← e]; simp at hj ⊢
 have key : ∀ i, i < 4 → ∀ m, m < 4 → cs[4 + i * 4 + m]? = some x → (match x with | .int .u32 _ => false | _ => true) = true := fun i hi m hm h => by
  obtain ⟨a1, a2, a3, a4, a5, a6, a7, a8, c0, c1, c2, c3, -⟩ := hf i hi
  rcases (show m = 0 ∨ m = 1 ∨ m = 2 ∨ m = 3 by omega) with rfl | rfl | rfl | rfl
  · rw [Nat.add_zero, c0] at h; injection h with h; subst h; rfl
  · rw [c1] at h; injection h with h; subst h; rfl
  · rw [c2] at h; injection h with h; subst h; rfl
  · rw [c3] at h; injection h with h; subst h; rfl
 rcases Nat.lt_or_ge j 4 with g | g
 · rw [hk j g] at e2; injection e2 with e2; subst e2; rfl
 ·
  refine key ((j - 4) / 4) (by omega) ((j - 4) % 4) (by omega) ?_
  rw [show 4 + (j - 4) / 4 * 4 + (j - 4) % 4 = j by omega]; exact e2
end Go.Proofs.Ytmpambmpknaldaa
namespace Go.Proofs.Ytmpambmpknaldaa
open Go.RowKit
end Go.Proofs.Ytmpambmpknaldaa
