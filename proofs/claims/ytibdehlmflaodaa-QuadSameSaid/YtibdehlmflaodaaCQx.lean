import Derived.Test.YtibdehlmflaodaaCQu
import Derived.Test.YtibdehlmflaodaaCQm
import Derived.Deep.DeepAppendWide
namespace Go.Proofs.Ytibdehlmflaodaa
open Go.RowKit
def kT (k : Nat → Int) (i : Nat) : Int := k (at4 2 0 3 1 i)
theorem okIdx_iff (n : Nat) (k : Nat → Int) : okIdx n k ↔ (∀ i, i < 4 → 0 ≤ k i ∧ k i < n) ∧ ∀ i j, i < j → j < 4 → k i ≠ k j :=
  ⟨fun h => ⟨fun i hi => (h i hi).1, fun i j hij hj => (h j hj).2 i hij⟩, fun h i hi => ⟨h.1 i hi, fun m hm => h.2 m i hm hi⟩⟩
theorem okIdx_turn (n : Nat) (k : Nat → Int) : okIdx n (kT k) ↔ okIdx n k := by
  rw [okIdx_iff, okIdx_iff]
  constructor
  · rintro ⟨h1, h2⟩
    have a0 := h1 0 (by decide)
    have a1 := h1 1 (by decide)
    have a2 := h1 2 (by decide)
    have a3 := h1 3 (by decide)
    have b01 := h2 0 1 (by decide) (by decide)
    have b02 := h2 0 2 (by decide) (by decide)
    have b03 := h2 0 3 (by decide) (by decide)
    have b12 := h2 1 2 (by decide) (by decide)
    have b13 := h2 1 3 (by decide) (by decide)
    have b23 := h2 2 3 (by decide) (by decide)
    simp only [kT, at4] at a0 a1 a2 a3 b01 b02 b03 b12 b13 b23
    refine ⟨fun i hi => ?_, fun i j hij hj => ?_⟩
    · rcases (show i = 0 ∨ i = 1 ∨ i = 2 ∨ i = 3 by omega) with rfl | rfl | rfl | rfl <;> assumption
    · rcases (show (i = 0 ∧ j = 1) ∨ (i = 0 ∧ j = 2) ∨ (i = 0 ∧ j = 3) ∨ (i = 1 ∧ j = 2) ∨ (i = 1 ∧ j = 3) ∨ (i = 2 ∧ j = 3) by omega) with ⟨rfl, rfl⟩ | ⟨rfl, rfl⟩ | ⟨rfl, rfl⟩ | ⟨rfl, rfl⟩ | ⟨rfl, rfl⟩ | ⟨rfl, rfl⟩ <;> first | assumption | exact Ne.symm (by assumption)
  · rintro ⟨h1, h2⟩
    have b01 := h2 0 1 (by decide) (by decide)
    have b02 := h2 0 2 (by decide) (by decide)
    have b03 := h2 0 3 (by decide) (by decide)
    have b12 := h2 1 2 (by decide) (by decide)
    have b13 := h2 1 3 (by decide) (by decide)
    have b23 := h2 2 3 (by decide) (by decide)
    refine ⟨fun i hi => ?_, fun i j hij hj => ?_⟩
    · refine h1 _ ?_
      rcases (show i = 0 ∨ i = 1 ∨ i = 2 ∨ i = 3 by omega) with rfl | rfl | rfl | rfl <;> decide
    · rcases (show (i = 0 ∧ j = 1) ∨ (i = 0 ∧ j = 2) ∨ (i = 0 ∧ j = 3) ∨ (i = 1 ∧ j = 2) ∨ (i = 1 ∧ j = 3) ∨ (i = 2 ∧ j = 3) by omega) with ⟨rfl, rfl⟩ | ⟨rfl, rfl⟩ | ⟨rfl, rfl⟩ | ⟨rfl, rfl⟩ | ⟨rfl, rfl⟩ | ⟨rfl, rfl⟩ <;> simp only [kT, at4] <;> first | assumption | exact Ne.symm (by assumption)
theorem KK_turn (k : Nat → Int) : KK (kT k) = K' (KK k) := by
  funext i
  match i with
  | 0 => rfl
  | 1 => rfl
  | 2 => rfl
  | n + 3 => rfl
theorem codeS_turn (l : PL) (k : Nat → Int) : codeS l (kT k) = codeS l k := by
  unfold codeS
  rw [KK_turn, wid_turn, bestOf_turn]
  rw [show okIdx l.length (kT k) = okIdx l.length k from propext (okIdx_turn _ _)]
theorem codeS_ok {l : PL} (k : Nat → Int) (h : chkP l = 0) : (¬ okIdx l.length k ∧ codeS l k = (2, noArr)) ∨ (okIdx l.length k ∧ wid l (KK k) = 0 ∧ codeS l k = (18, noArr)) ∨ (okIdx l.length k ∧ wid l (KK k) ≠ 0 ∧ codeS l k = (0, bestOf l (KK k))) := by
  have h' : ¬ chkP l ≠ 0 := fun g => g h
  by_cases h1 : okIdx l.length k
  · by_cases h2 : wid l (KK k) = 0
    · exact .inr (.inl ⟨h1, h2, by unfold codeS; rw [if_neg h', if_neg (fun g => g h1), if_pos h2]⟩)
    · exact .inr (.inr ⟨h1, h2, by unfold codeS; rw [if_neg h', if_neg (fun g => g h1), if_neg h2]⟩)
  · exact .inl ⟨h1, by unfold codeS; rw [if_neg h', if_pos h1]⟩
theorem c_scale {s : Int} (hs : s ≠ 0) (x n : Int) : cP (s * x) (s * n) = cP x n ∧ cQ (s * x) (s * n) = cQ x n := by
  unfold cP cQ
  by_cases hn : n = 0
  · subst hn; simp
  · have h2 : ¬ s * n = 0 := Int.mul_ne_zero hs hn
    have e : ((s * x : Int) : Rat) / ((s * n : Int) : Rat) = (x : Rat) / (n : Rat) := by rw [rat_frac, rat_frac]; exact Rat.divInt_mul_left hs
    rw [if_neg hn, if_neg hn, if_neg h2, if_neg h2, e]
    exact ⟨rfl, rfl⟩
theorem cA_scale (s : Int) (a : Arr) (i : Nat) : cA (a.scale s) i = s * cA a i := by
  match i with
  | 0 => rfl
  | 1 => rfl
  | 2 => rfl
  | n + 3 => rfl
theorem codeS_mv {l l' : PL} (k : Nat → Int) (re im dx dy : Int) (hz : ¬ (re = 0 ∧ im = 0)) (h : chkP l = 0) (h' : chkP l' = 0) (hl : l'.length = l.length) (hp : ∀ i, i < l.length → pt l' i = mv re im dx dy (pt l i)) :
    (codeS l' k).1 = (codeS l k).1 ∧ kA (codeS l' k).2 = kA (codeS l k).2 ∧ ∀ i, cP (cA (codeS l' k).2 i) (codeS l' k).2.n = cP (cA (codeS l k).2 i) (codeS l k).2.n ∧ cQ (cA (codeS l' k).2 i) (codeS l' k).2.n = cQ (cA (codeS l k).2 i) (codeS l k).2.n := by
  have s0 := csq_pos hz
  have hw : okIdx l.length k → wid l' (KK k) = csq re im * wid l (KK k) := fun ho => wid_mv re im dx dy l l' (KK k) fun i _ => hp _ (KK_lt ho i)
  have hw0 : okIdx l.length k → (wid l' (KK k) = 0 ↔ wid l (KK k) = 0) := fun ho => by
    rw [hw ho]
    constructor
    · intro g; rcases Int.mul_eq_zero.1 g with g | g
      · omega
      · exact g
    · intro g; rw [g]; simp
  rcases codeS_ok k h with ⟨o, e⟩ | ⟨o, z, e⟩ | ⟨o, z, e⟩ <;> rcases codeS_ok k h' with ⟨o', e'⟩ | ⟨o', z', e'⟩ | ⟨o', z', e'⟩ <;> rw [hl] at o'
  · rw [e, e']; exact ⟨rfl, rfl, fun _ => ⟨rfl, rfl⟩⟩
  · exact absurd o' o
  · exact absurd o' o
  · exact absurd o o'
  · rw [e, e']; exact ⟨rfl, rfl, fun _ => ⟨rfl, rfl⟩⟩
  · exact absurd ((hw0 o).2 z) z'
  · exact absurd o o'
  · exact absurd ((hw0 o).1 z') z
  · rw [e, e', bestOf_mv re im dx dy l l' (KK k) hz fun i _ => hp _ (KK_lt o i)]
    refine ⟨rfl, rfl, fun i => ?_⟩
    dsimp only
    rw [cA_scale]
    exact c_scale (by omega) _ _
def pcs (l : PL) : List Value := l.flatMap fun p => [.int .i64 p.1, .int .i64 p.2]
theorem pcs_snoc (l : PL) (p : Int × Int) : pcs (l ++ [p]) = pcs l ++ [.int .i64 p.1, .int .i64 p.2] := by unfold pcs; rw [List.flatMap_append]; rfl
theorem pcs_len (l : PL) : (pcs l).length = l.length * 2 := by
  induction l with
  | nil => rfl
  | cons p r ih => show ((pcs r).length + 1 + 1) = _; rw [ih]; simp only [List.length_cons]; omega
theorem pcs_get (l : PL) : ∀ t, t < l.length → (pcs l)[t * 2]? = some (.int .i64 (l.getD t (0, 0)).1) ∧ (pcs l)[t * 2 + 1]? = some (.int .i64 (l.getD t (0, 0)).2) := by
  induction l with
  | nil => intro t h; cases h
  | cons p r ih =>
    intro t h
    match t with
    | 0 => exact ⟨rfl, rfl⟩
    | t + 1 =>
      have := ih t (by simp only [List.length_cons] at h; omega)
      rw [show (t + 1) * 2 = t * 2 + 1 + 1 by omega]
      exact this
theorem Pts.own {w : World} {base n : Nat} {v : Value} {l : PL} (h : w.ownsRow base 43 2 v n (pcs l)) (hb : ∀ k, -9223372036854775808 ≤ (l.getD k (0, 0)).1 ∧ (l.getD k (0, 0)).1 ≤ 9223372036854775807 ∧ -9223372036854775808 ≤ (l.getD k (0, 0)).2 ∧ (l.getD k (0, 0)).2 ≤ 9223372036854775807) : Pts w v l := by
  have hn : n = l.length := by have := h.1; rw [pcs_len] at this; omega
  subst hn
  rcases h.2 with ⟨rfl, h0⟩ | ⟨g, cap, cur, rfl, h1, h2, h3, h4, h5, h6⟩
  · have : l = [] := List.eq_nil_of_length_eq_zero h0
    subst this
    exact ⟨hb, none, 0, rfl, Nat.le_refl _, fun h => absurd rfl h⟩
  · refine ⟨hb, _, cap, rfl, h3, fun _ => ⟨g, 0, rfl, ?_, fun t ht => ?_⟩⟩
    · exact (Array.getElem?_eq_some_iff.1 h2).1
    · have c := h.cells (g := g) rfl
      have a := c (t * 2) _ (pcs_get l t ht).1
      have b := c (t * 2 + 1) _ (pcs_get l t ht).2
      rw [Addr.add_lit] at a b
      rw [Nat.zero_add] at *
      exact ⟨a, b⟩
def SlcL (n : Nat) (x : Value) : Prop := ∃ a c, x = .slice a n c
theorem ownsRow_len {w : World} {base n : Nat} {e : TypeId} {v : Value} {xs : List Value} {s : Nat} (h : w.ownsRow base e s v n xs) : SlcL n v := by
  rcases h.2 with ⟨rfl, rfl⟩ | ⟨g, cap, cur, rfl, _⟩
  · exact ⟨_, _, rfl⟩
  · exact ⟨_, _, rfl⟩
theorem ownsRow_below {w w' w0 : World} {base n : Nat} {e : TypeId} {v : Value} {xs : List Value} {s : Nat} (h : w.ownsRow base e s v n xs) (hg : w.grownBy w' v.ownBlock) (hb : Below w0.heap.size w0 w) (hle : w0.heap.size ≤ base) : Below w0.heap.size w0 w' :=
  hb.grown hg hb.size fun k hk => Nat.le_trans hle (own_ge h k hk)
theorem ownsRow_blk {w w' : World} {base n b : Nat} {e t : TypeId} {v : Value} {xs : List Value} {s : Nat} {cs : Array Value} (h : w.ownsRow base e s v n xs) (hg : w.grownBy w' v.ownBlock) (hb : Blk w b t cs) (hlt : b < base) : Blk w' b t cs :=
  (hg.block b hb.lt fun e => by have := own_ge h b e.symm; omega).trans hb
end Go.Proofs.Ytibdehlmflaodaa
