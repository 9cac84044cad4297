import Derived.Test.YtibdehlmflaodaaCTz
/- Four points: the arrangement that comes before all others (plain Lean). -/
namespace Go.Proofs.Ytibdehlmflaodaa
def cmpL : List Int → List Int → Int
  | x :: xs, y :: ys => if x = y then cmpL xs ys else if x < y then -1 else 1
  | _, _ => 0
theorem cmpL_self : ∀ l : List Int, cmpL l l = 0
  | [] => rfl
  | x :: xs => by rw [cmpL, if_pos rfl]; exact cmpL_self xs
theorem cmpL_flip : ∀ a b : List Int, cmpL b a = - cmpL a b
  | [], [] => rfl
  | [], _ :: _ => rfl
  | _ :: _, [] => rfl
  | x :: xs, y :: ys => by
    unfold cmpL
    by_cases h : x = y
    · rw [if_pos h, if_pos h.symm]; exact cmpL_flip xs ys
    · rw [if_neg h, if_neg (Ne.symm h)]
      by_cases g : x < y
      · rw [if_pos g, if_neg (by omega)]; rfl
      · rw [if_neg g, if_pos (by omega)]
theorem cmpL_zero : ∀ a b : List Int, a.length = b.length → cmpL a b = 0 → a = b
  | [], [], _, _ => rfl
  | [], _ :: _, h, _ => by simp at h
  | _ :: _, [], h, _ => by simp at h
  | x :: xs, y :: ys, h, e => by
    unfold cmpL at e
    by_cases g : x = y
    · rw [if_pos g] at e
      rw [g, cmpL_zero xs ys (by simpa using h) e]
    · rw [if_neg g] at e
      split at e <;> cases e
theorem cmpL_trans : ∀ a b c : List Int, cmpL a b < 0 → cmpL b c < 0 → cmpL a c < 0
  | [], _, _, h, _ => by simp [cmpL] at h
  | _ :: _, [], _, h, _ => by simp [cmpL] at h
  | _ :: _, _ :: _, [], _, h => by simp [cmpL] at h
  | x :: xs, y :: ys, z :: zs, h, k => by
    unfold cmpL at h k ⊢
    by_cases g : x = y
    · subst g
      rw [if_pos rfl] at h
      by_cases g2 : x = z
      · rw [if_pos g2] at k ⊢; exact cmpL_trans xs ys zs h k
      · rw [if_neg g2] at k ⊢; exact k
    · rw [if_neg g] at h
      have g1 : x < y := by
        by_cases q : x < y
        · exact q
        · rw [if_neg q] at h; omega
      by_cases g2 : y = z
      · subst g2
        rw [if_neg g, if_pos g1]; decide
      · rw [if_neg g2] at k
        have g3 : y < z := by
          by_cases q : y < z
          · exact q
          · rw [if_neg q] at k; omega
        rw [if_neg (by omega), if_pos (by omega)]; decide
structure Arr where
  k0 : Int
  k1 : Int
  k2 : Int
  k3 : Int
  a1 : Int
  a2 : Int
  b1 : Int
  b2 : Int
  n : Int
deriving DecidableEq
def Arr.key (a : Arr) : List Int := [a.a1 + a.b1, a.a1, a.a2, a.b1, a.b2, a.k0, a.k1, a.k2, a.k3]
def cmpA (a b : Arr) : Int := cmpL a.key b.key
def noArr : Arr := ⟨0, 0, 0, 0, 0, 0, 0, 0, 0⟩
def Arr.beats (a b : Arr) : Bool := decide (b.n < a.n) || (a.n == b.n && (decide (0 < a.n) && decide (cmpA a b < 0)))
theorem beats_iff {a b : Arr} : a.beats b = true ↔ b.n < a.n ∨ (a.n = b.n ∧ 0 < a.n ∧ cmpA a b < 0) := by
  unfold Arr.beats
  simp only [Bool.or_eq_true, decide_eq_true_eq, Bool.and_eq_true, beq_iff_eq]
theorem beats_trans {a b c : Arr} (h : a.beats b = true) (k : b.beats c = true) : a.beats c = true := by
  rw [beats_iff] at *
  rcases h with h | ⟨h1, h2, h3⟩ <;> rcases k with k | ⟨k1, k2, k3⟩
  · exact .inl (by omega)
  · exact .inl (by omega)
  · exact .inl (by omega)
  · exact .inr ⟨by omega, h2, cmpL_trans _ _ _ h3 k3⟩
theorem beats_self (a : Arr) : a.beats a = false := by
  cases h : a.beats a
  · rfl
  · rw [beats_iff] at h
    unfold cmpA at h
    rw [cmpL_self] at h
    omega
def best (l : List Arr) : Arr := l.foldl (fun b a => if a.beats b then a else b) noArr
theorem best_append (l : List Arr) (a : Arr) : best (l ++ [a]) = if a.beats (best l) then a else best l := by unfold best; rw [List.foldl_append]; rfl
theorem best_spec (l : List Arr) (h0 : ∀ a ∈ l, 0 ≤ a.n) : (best l = noArr ∧ ∀ a ∈ l, a.n = 0) ∨ (best l ∈ l ∧ 0 < (best l).n ∧ ∀ a ∈ l, a.beats (best l) = false) := by
  have key : ∀ l r : List Arr, l = r.reverse → (∀ a ∈ l, 0 ≤ a.n) → (best l = noArr ∧ ∀ a ∈ l, a.n = 0) ∨ (best l ∈ l ∧ 0 < (best l).n ∧ ∀ a ∈ l, a.beats (best l) = false) := by
    intro l r
    induction r generalizing l with
    | nil => rintro rfl _; exact .inl ⟨rfl, fun a h => by simp at h⟩
    | cons x r ih =>
      rintro rfl h0
      rw [List.reverse_cons] at h0 ⊢
      rw [best_append]
      have hx := h0 x (by simp)
      cases hb : x.beats (best r.reverse)
      · rw [if_neg (by simp)]
        rcases ih _ rfl (fun a ha => h0 a (List.mem_append_left _ ha)) with ⟨h1, h2⟩ | ⟨h1, h2, h3⟩
        · refine .inl ⟨h1, fun a ha => ?_⟩
          rcases List.mem_append.1 ha with g | g
          · exact h2 a g
          · rw [List.mem_singleton] at g; subst g
            rw [h1] at hb
            have : ¬ a.beats noArr = true := by simp [hb]
            rw [beats_iff] at this
            simp only [noArr] at this
            omega
        · refine .inr ⟨List.mem_append_left _ h1, h2, fun a ha => ?_⟩
          rcases List.mem_append.1 ha with g | g
          · exact h3 a g
          · rw [List.mem_singleton] at g; subst g; exact hb
      · rw [if_pos rfl]
        refine .inr ⟨by simp, ?_, fun a ha => ?_⟩
        · rcases ih _ rfl (fun a ha => h0 a (List.mem_append_left _ ha)) with ⟨h1, h2⟩ | ⟨h1, h2, h3⟩
          · rw [h1] at hb
            rw [beats_iff] at hb
            simp only [noArr] at hb
            omega
          · rw [beats_iff] at hb; omega
        · rcases List.mem_append.1 ha with g | g
          · rcases ih _ rfl (fun a ha => h0 a (List.mem_append_left _ ha)) with ⟨h1, h2⟩ | ⟨h1, h2, h3⟩
            · cases hc : a.beats x
              · rfl
              · rw [beats_iff] at hc
                have := h2 a g
                omega
            · cases hc : a.beats x
              · rfl
              · have := beats_trans hc hb
                rw [h3 a g] at this; cases this
          · rw [List.mem_singleton] at g; subst g; exact beats_self a
  exact key l l.reverse (by rw [List.reverse_reverse]) h0
def bestR (N : Int) (l : List Arr) : Option Arr := l.foldl (fun b a => if a.n = N then (match b with | none => some a | some c => if cmpA a c < 0 then some a else some c) else b) none
theorem bestR_append (N : Int) (l : List Arr) (a : Arr) : bestR N (l ++ [a]) = if a.n = N then (match bestR N l with | none => some a | some c => if cmpA a c < 0 then some a else some c) else bestR N l := by unfold bestR; rw [List.foldl_append]; rfl
theorem bestR_spec (N : Int) (l : List Arr) : (bestR N l = none ∧ ∀ a ∈ l, a.n ≠ N) ∨ ∃ c, bestR N l = some c ∧ c ∈ l ∧ c.n = N ∧ ∀ a ∈ l, a.n = N → ¬ cmpA a c < 0 := by
  have key : ∀ l r : List Arr, l = r.reverse → (bestR N l = none ∧ ∀ a ∈ l, a.n ≠ N) ∨ ∃ c, bestR N l = some c ∧ c ∈ l ∧ c.n = N ∧ ∀ a ∈ l, a.n = N → ¬ cmpA a c < 0 := by
    intro l r
    induction r generalizing l with
    | nil => rintro rfl; exact .inl ⟨rfl, fun a h => by simp at h⟩
    | cons x r ih =>
      rintro rfl
      rw [List.reverse_cons]
      rw [bestR_append]
      by_cases hx : x.n = N
      · rw [if_pos hx]
        rcases ih _ rfl with ⟨h1, h2⟩ | ⟨c, h1, h2, h3, h4⟩
        · rw [h1]
          refine .inr ⟨x, rfl, by simp, hx, fun a ha hn => ?_⟩
          rcases List.mem_append.1 ha with g | g
          · exact absurd hn (h2 a g)
          · rw [List.mem_singleton] at g; subst g; unfold cmpA; rw [cmpL_self]; omega
        · rw [h1]
          dsimp only
          by_cases hc : cmpA x c < 0
          · rw [if_pos hc]
            refine .inr ⟨x, rfl, by simp, hx, fun a ha hn hq => ?_⟩
            rcases List.mem_append.1 ha with g | g
            · exact h4 a g hn (cmpL_trans _ _ _ hq hc)
            · rw [List.mem_singleton] at g; subst g; unfold cmpA at hq; rw [cmpL_self] at hq; omega
          · rw [if_neg hc]
            refine .inr ⟨c, rfl, List.mem_append_left _ h2, h3, fun a ha hn => ?_⟩
            rcases List.mem_append.1 ha with g | g
            · exact h4 a g hn
            · rw [List.mem_singleton] at g; subst g; exact hc
      · rw [if_neg hx]
        rcases ih _ rfl with ⟨h1, h2⟩ | ⟨c, h1, h2, h3, h4⟩
        · refine .inl ⟨h1, fun a ha => ?_⟩
          rcases List.mem_append.1 ha with g | g
          · exact h2 a g
          · rw [List.mem_singleton] at g; subst g; exact hx
        · refine .inr ⟨c, h1, List.mem_append_left _ h2, h3, fun a ha hn => ?_⟩
          rcases List.mem_append.1 ha with g | g
          · exact h4 a g hn
          · rw [List.mem_singleton] at g; subst g; exact absurd hn hx
  exact key l l.reverse (by rw [List.reverse_reverse])
theorem key_inj {a b : Arr} (h : a.key = b.key) (hn : a.n = b.n) : a = b := by
  unfold Arr.key at h
  simp only [List.cons.injEq, and_true] at h
  obtain ⟨-, h1, h2, h3, h4, h5, h6, h7, h8⟩ := h
  cases a; cases b
  simp_all
theorem best_both (l l' : List Arr) (h0 : ∀ a ∈ l, 0 ≤ a.n) (hl : ∀ a, a ∈ l ↔ a ∈ l') (N : Int) (hN : 0 < N) (hmax : ∀ a ∈ l, a.n ≤ N) (hex : ∃ a ∈ l, a.n = N) : bestR N l' = some (best l) := by
  obtain ⟨x, hx, hxn⟩ := hex
  rcases best_spec l h0 with ⟨-, h2⟩ | ⟨h1, h2, h3⟩
  · have := h2 x hx; omega
  · have hbn : (best l).n = N := by
      have h4 := hmax _ h1
      have h5 := h3 x hx
      rcases (show (best l).n < N ∨ (best l).n ≥ N by omega) with g | g
      · have : x.beats (best l) = true := beats_iff.2 (.inl (by omega))
        rw [h5] at this; cases this
      · omega
    rcases bestR_spec N l' with ⟨-, g2⟩ | ⟨c, g1, g2, g3, g4⟩
    · exact absurd hxn (g2 x ((hl x).1 hx))
    · rw [g1]
      have e1 := g4 _ ((hl _).1 h1) hbn
      have e2 : ¬ cmpA c (best l) < 0 := fun hq => by
        have := h3 c ((hl c).2 g2)
        have t : c.beats (best l) = true := beats_iff.2 (.inr ⟨by omega, by omega, hq⟩)
        rw [this] at t; cases t
      have e3 : cmpA c (best l) = - cmpA (best l) c := cmpL_flip _ _
      have e4 : cmpA c (best l) = 0 := by omega
      rw [key_inj (a := c) (b := best l) (cmpL_zero c.key (best l).key rfl e4) (by omega)]
theorem best_none (l : List Arr) (h0 : ∀ a ∈ l, a.n = 0) : best l = noArr := by
  rcases best_spec l (fun a ha => by rw [h0 a ha]; omega) with ⟨h, -⟩ | ⟨h1, h2, -⟩
  · exact h
  · have := h0 _ h1; omega
theorem best_n (l : List Arr) (h0 : ∀ a ∈ l, 0 ≤ a.n) (hex : ∃ a ∈ l, 0 < a.n) : best l ∈ l ∧ 0 < (best l).n ∧ ∀ a ∈ l, a.beats (best l) = false := by
  rcases best_spec l h0 with ⟨-, h⟩ | h
  · obtain ⟨a, h1, h2⟩ := hex
    have := h a h1; omega
  · exact h
abbrev P4 := Nat × Nat × Nat × Nat
def perms4 : List P4 := (List.range 4).flatMap fun a => (List.range 4).flatMap fun b => (List.range 4).filterMap fun c => if a ≠ b ∧ a ≠ c ∧ b ≠ c then some (a, b, c, 6 - a - b - c) else none
def upto4 (a b c : Nat) : List P4 := perms4.filter fun p => decide (16 * p.1 + 4 * p.2.1 + p.2.2.1 < 16 * a + 4 * b + c)
theorem upto4_c : ∀ a, a < 4 → ∀ b, b < 4 → ∀ c, c < 4 → upto4 a b (c + 1) = if a ≠ b ∧ a ≠ c ∧ b ≠ c then upto4 a b c ++ [(a, b, c, 6 - a - b - c)] else upto4 a b c := by
  intro a ha b hb c hc
  rcases (show a = 0 ∨ a = 1 ∨ a = 2 ∨ a = 3 by omega) with rfl | rfl | rfl | rfl <;> rcases (show b = 0 ∨ b = 1 ∨ b = 2 ∨ b = 3 by omega) with rfl | rfl | rfl | rfl <;> rcases (show c = 0 ∨ c = 1 ∨ c = 2 ∨ c = 3 by omega) with rfl | rfl | rfl | rfl <;> decide
theorem upto4_b : ∀ a, a < 4 → ∀ b, b < 4 → upto4 a b 4 = upto4 a (b + 1) 0 := by
  intro a ha b hb
  rcases (show a = 0 ∨ a = 1 ∨ a = 2 ∨ a = 3 by omega) with rfl | rfl | rfl | rfl <;> rcases (show b = 0 ∨ b = 1 ∨ b = 2 ∨ b = 3 by omega) with rfl | rfl | rfl | rfl <;> decide
theorem upto4_ab : ∀ a, a < 4 → ∀ b, b < 4 → a = b → upto4 a b 0 = upto4 a (b + 1) 0 := by
  intro a ha b hb
  rcases (show a = 0 ∨ a = 1 ∨ a = 2 ∨ a = 3 by omega) with rfl | rfl | rfl | rfl <;> rcases (show b = 0 ∨ b = 1 ∨ b = 2 ∨ b = 3 by omega) with rfl | rfl | rfl | rfl <;> decide
theorem upto4_a : ∀ a, a < 4 → upto4 a 4 0 = upto4 (a + 1) 0 0 := by decide
theorem upto4_0 : upto4 0 0 0 = [] := by decide
theorem upto4_all : upto4 4 0 0 = perms4 := by decide
theorem perms4_ok : ∀ p ∈ perms4, p.1 < 4 ∧ p.2.1 < 4 ∧ p.2.2.1 < 4 ∧ p.2.2.2 < 4 ∧ p.1 ≠ p.2.1 ∧ p.1 ≠ p.2.2.1 ∧ p.1 ≠ p.2.2.2 ∧ p.2.1 ≠ p.2.2.1 ∧ p.2.1 ≠ p.2.2.2 ∧ p.2.2.1 ≠ p.2.2.2 := by decide
theorem perms4_pair : ∀ a, a < 4 → ∀ b, b < 4 → a ≠ b → ∃ p ∈ perms4, p.1 = a ∧ p.2.1 = b := by decide
end Go.Proofs.Ytibdehlmflaodaa
/- Four points: the arrangements' numbers (plain Lean). -/
namespace Go.Proofs.Ytibdehlmflaodaa
def cre (ux uy vx vy : Int) : Int := vx * ux + vy * uy
def cim (ux uy vx vy : Int) : Int := vy * ux - vx * uy
def csq (ux uy : Int) : Int := ux * ux + uy * uy
def at4 (k0 k1 k2 k3 i : Nat) : Nat := match i with | 0 => k0 | 1 => k1 | 2 => k2 | _ => k3
abbrev PL := List (Int × Int)
def pt (l : PL) (k : Nat) : Int × Int := l.getD k (0, 0)
def sqd (p q : Int × Int) : Int := csq (q.1 - p.1) (q.2 - p.2)
theorem sqd_symm (p q : Int × Int) : sqd p q = sqd q p := by
  unfold sqd csq
  have h1 : q.1 - p.1 = -(p.1 - q.1) := by omega
  have h2 : q.2 - p.2 = -(p.2 - q.2) := by omega
  rw [h1, h2, Int.neg_mul_neg, Int.neg_mul_neg]
theorem csq_nonneg (x y : Int) : 0 ≤ csq x y := by
  unfold csq
  have h1 : 0 ≤ x * x := by rcases Int.le_total 0 x with h | h; exact Int.mul_nonneg h h; exact Int.mul_nonneg_of_nonpos_of_nonpos h h
  have h2 : 0 ≤ y * y := by rcases Int.le_total 0 y with h | h; exact Int.mul_nonneg h h; exact Int.mul_nonneg_of_nonpos_of_nonpos h h
  omega
theorem sqd_nonneg (p q : Int × Int) : 0 ≤ sqd p q := csq_nonneg _ _
def arr4 (k0 k1 k2 k3 : Nat) (p0 p1 p2 p3 : Int × Int) : Arr :=
  ⟨k0, k1, k2, k3, cre (p1.1 - p0.1) (p1.2 - p0.2) (p2.1 - p0.1) (p2.2 - p0.2), cim (p1.1 - p0.1) (p1.2 - p0.2) (p2.1 - p0.1) (p2.2 - p0.2),
    cre (p1.1 - p0.1) (p1.2 - p0.2) (p3.1 - p0.1) (p3.2 - p0.2), cim (p1.1 - p0.1) (p1.2 - p0.2) (p3.1 - p0.1) (p3.2 - p0.2), sqd p0 p1⟩
def arrOf (l : PL) (K : Nat → Nat) (p : P4) : Arr := arr4 (K p.1) (K p.2.1) (K p.2.2.1) (K p.2.2.2) (pt l (K p.1)) (pt l (K p.2.1)) (pt l (K p.2.2.1)) (pt l (K p.2.2.2))
def dst (l : PL) (K : Nat → Nat) (i k : Nat) : Int := sqd (pt l (K i)) (pt l (K k))
def wid (l : PL) (K : Nat → Nat) : Int :=
  max (max (max (max (max (max 0 (dst l K 1 0)) (dst l K 2 0)) (dst l K 2 1)) (dst l K 3 0)) (dst l K 3 1)) (dst l K 3 2)
theorem dst_symm (l : PL) (K : Nat → Nat) (i k : Nat) : dst l K i k = dst l K k i := sqd_symm _ _
theorem dst_le (l : PL) (K : Nat → Nat) {i k : Nat} (hi : i < 4) (hk : k < 4) (hne : i ≠ k) : dst l K i k ≤ wid l K := by
  have a := dst_symm l K 0 1
  have b := dst_symm l K 0 2
  have c := dst_symm l K 0 3
  have d := dst_symm l K 1 2
  have e := dst_symm l K 1 3
  have f := dst_symm l K 2 3
  unfold wid
  rcases (show i = 0 ∨ i = 1 ∨ i = 2 ∨ i = 3 by omega) with rfl | rfl | rfl | rfl <;> rcases (show k = 0 ∨ k = 1 ∨ k = 2 ∨ k = 3 by omega) with rfl | rfl | rfl | rfl <;> first | exact absurd rfl hne | omega
theorem wid_nonneg (l : PL) (K : Nat → Nat) : 0 ≤ wid l K := by unfold wid; omega
theorem wid_ex (l : PL) (K : Nat → Nat) (h : 0 < wid l K) : ∃ i k, i < 4 ∧ k < 4 ∧ i ≠ k ∧ dst l K i k = wid l K := by
  have key : wid l K = 0 ∨ wid l K = dst l K 1 0 ∨ wid l K = dst l K 2 0 ∨ wid l K = dst l K 2 1 ∨ wid l K = dst l K 3 0 ∨ wid l K = dst l K 3 1 ∨ wid l K = dst l K 3 2 := by unfold wid; omega
  rcases key with e | e | e | e | e | e | e
  · omega
  · exact ⟨1, 0, by decide, by decide, by decide, e.symm⟩
  · exact ⟨2, 0, by decide, by decide, by decide, e.symm⟩
  · exact ⟨2, 1, by decide, by decide, by decide, e.symm⟩
  · exact ⟨3, 0, by decide, by decide, by decide, e.symm⟩
  · exact ⟨3, 1, by decide, by decide, by decide, e.symm⟩
  · exact ⟨3, 2, by decide, by decide, by decide, e.symm⟩
def arrs (l : PL) (K : Nat → Nat) : List Arr := perms4.map (arrOf l K)
theorem arrs_nonneg (l : PL) (K : Nat → Nat) : ∀ a ∈ arrs l K, 0 ≤ a.n := by
  intro a ha
  obtain ⟨p, -, rfl⟩ := List.mem_map.1 ha
  exact sqd_nonneg _ _
theorem arrs_le (l : PL) (K : Nat → Nat) : ∀ a ∈ arrs l K, a.n ≤ wid l K := by
  intro a ha
  obtain ⟨p, hp, rfl⟩ := List.mem_map.1 ha
  obtain ⟨h1, h2, -, -, h3, -⟩ := perms4_ok p hp
  exact dst_le l K h1 h2 h3
theorem arrs_ex (l : PL) (K : Nat → Nat) (h : 0 < wid l K) : ∃ a ∈ arrs l K, a.n = wid l K := by
  obtain ⟨i, k, hi, hk, hne, e⟩ := wid_ex l K h
  obtain ⟨p, hp, rfl, rfl⟩ := perms4_pair i hi k hk hne
  exact ⟨_, List.mem_map.2 ⟨p, hp, rfl⟩, e⟩
def bestOf (l : PL) (K : Nat → Nat) : Arr := best (arrs l K)
theorem bestOf_ref (l : PL) (K : Nat → Nat) (h : 0 < wid l K) : bestR (wid l K) (arrs l K) = some (bestOf l K) :=
  best_both _ _ (arrs_nonneg l K) (fun _ => Iff.rfl) _ h (arrs_le l K) (arrs_ex l K h)
theorem bestOf_none (l : PL) (K : Nat → Nat) (h : wid l K = 0) : bestOf l K = noArr :=
  best_none _ fun a ha => by have := arrs_nonneg l K a ha; have := arrs_le l K a ha; omega
theorem bestOf_spec (l : PL) (K : Nat → Nat) (h : 0 < wid l K) : bestOf l K ∈ arrs l K ∧ (bestOf l K).n = wid l K ∧ ∀ a ∈ arrs l K, a.beats (bestOf l K) = false := by
  obtain ⟨a, ha, hn⟩ := arrs_ex l K h
  obtain ⟨h1, h2, h3⟩ := best_n _ (arrs_nonneg l K) ⟨a, ha, by omega⟩
  refine ⟨h1, ?_, h3⟩
  have h4 := arrs_le l K _ h1
  have h5 := h3 a ha
  rcases (show (bestOf l K).n < wid l K ∨ (bestOf l K).n = wid l K by unfold bestOf at *; omega) with g | g
  · have : a.beats (best (arrs l K)) = true := beats_iff.2 (.inl (by unfold bestOf at g; omega))
    rw [h5] at this; cases this
  · exact g
end Go.Proofs.Ytibdehlmflaodaa
/- Four points: other orders of the indices, and moved points (plain Lean). -/
namespace Go.Proofs.Ytibdehlmflaodaa
def K' (K : Nat → Nat) (i : Nat) : Nat := K (at4 2 0 3 1 i)
def Arr.scale (s : Int) (a : Arr) : Arr := ⟨a.k0, a.k1, a.k2, a.k3, s * a.a1, s * a.a2, s * a.b1, s * a.b2, s * a.n⟩
def mv (re im dx dy : Int) (p : Int × Int) : Int × Int := (p.1 * re - p.2 * im + dx, p.1 * im + p.2 * re + dy)
end Go.Proofs.Ytibdehlmflaodaa
/- Four points: the code of the best arrangement lies within its bounds (plain Lean). -/
namespace Go.Proofs.Ytibdehlmflaodaa
theorem sq_nonneg' (x : Int) : 0 ≤ x * x := by
  rcases Int.le_total 0 x with h | h
  · exact Int.mul_nonneg h h
  · exact Int.mul_nonneg_of_nonpos_of_nonpos h h
theorem sq_lt' {x y : Int} (h0 : 0 ≤ x) (h : x < y) : x * x < y * y := by
  have h1 : 0 < (y - x) * (y + x) := Int.mul_pos (by omega) (by omega)
  simp only [Int.sub_mul, Int.mul_add] at h1
  have h2 : x * y = y * x := Int.mul_comm x y
  omega
theorem abs_of_sq {x n : Int} (hn : 0 ≤ n) (h : x * x ≤ n * n) : -n ≤ x ∧ x ≤ n := by
  constructor
  · rcases (show x < -n ∨ -n ≤ x by omega) with g | g
    · have := sq_lt' hn (show n < -x by omega)
      rw [Int.neg_mul_neg] at this
      omega
    · exact g
  · rcases (show n < x ∨ x ≤ n by omega) with g | g
    · have := sq_lt' hn g
      omega
    · exact g
theorem within {ux uy vx vy : Int} (h1 : csq vx vy ≤ csq ux uy) (h2 : csq (vx - ux) (vy - uy) ≤ csq ux uy) :
    (0 ≤ cre ux uy vx vy ∧ cre ux uy vx vy ≤ csq ux uy) ∧ (-csq ux uy ≤ cim ux uy vx vy ∧ cim ux uy vx vy ≤ csq ux uy) := by
  have n0 := csq_nonneg ux uy
  have v0 := csq_nonneg vx vy
  have d0 := csq_nonneg (vx - ux) (vy - uy)
  have e : csq (vx - ux) (vy - uy) = csq vx vy - 2 * cre ux uy vx vy + csq ux uy := by
    unfold csq cre; simp only [Int.sub_mul, Int.mul_sub]; simp only [Int.mul_comm ux vx, Int.mul_comm uy vy]; omega
  have q : cre ux uy vx vy * cre ux uy vx vy + cim ux uy vx vy * cim ux uy vx vy = csq ux uy * csq vx vy := by
    unfold csq cre cim; simp only [Int.sub_mul, Int.mul_sub, Int.add_mul, Int.mul_add]; simp only [Int.mul_comm, Int.mul_left_comm, Int.mul_assoc]; omega
  have m := Int.mul_le_mul_of_nonneg_left h1 n0
  have s1 := sq_nonneg' (cre ux uy vx vy)
  have s2 := sq_nonneg' (cim ux uy vx vy)
  have a := abs_of_sq (x := cre ux uy vx vy) n0 (by omega)
  have b := abs_of_sq (x := cim ux uy vx vy) n0 (by omega)
  exact ⟨⟨by omega, a.2⟩, b⟩
end Go.Proofs.Ytibdehlmflaodaa
/- The sets of four of the first n indices (plain Lean): the iterator's order, and the nested loops'. -/
namespace Go.Proofs.Ytibdehlmflaodaa
def nxt4 (n : Nat) (x : P4) : P4 :=
  if x.2.2.2 + 1 < n then (x.1, x.2.1, x.2.2.1, x.2.2.2 + 1) else if x.2.2.1 + 2 < n then (x.1, x.2.1, x.2.2.1 + 1, x.2.2.1 + 2) else if x.2.1 + 3 < n then (x.1, x.2.1 + 1, x.2.1 + 2, x.2.1 + 3) else (x.1 + 1, x.1 + 2, x.1 + 3, x.1 + 4)
def it4 (n : Nat) : Nat → P4
  | 0 => (0, 1, 2, 3)
  | i + 1 => nxt4 n (it4 n i)
def loD (a b c : Nat) (d : Nat) : List P4 := (List.range' (c + 1) (d - (c + 1))).map fun d => (a, b, c, d)
def loC (n a b : Nat) (c : Nat) : List P4 := (List.range' (b + 1) (c - (b + 1))).flatMap fun c => loD a b c n
def loB (n a : Nat) (b : Nat) : List P4 := (List.range' (a + 1) (b - (a + 1))).flatMap fun b => loC n a b n
def loA (n : Nat) (a : Nat) : List P4 := (List.range' 0 a).flatMap fun a => loB n a n
def fours (n : Nat) : List P4 := loA n n
theorem range_step {s m : Nat} (h : s ≤ m) : List.range' s (m + 1 - s) = List.range' s (m - s) ++ [m] := by
  rw [show m + 1 - s = (m - s) + 1 by omega, List.range'_concat]; congr 2; omega
theorem loD_0 (a b c : Nat) : loD a b c (c + 1) = [] := by unfold loD; simp
theorem loC_0 (n a b : Nat) : loC n a b (b + 1) = [] := by unfold loC; simp
theorem loB_0 (n a : Nat) : loB n a (a + 1) = [] := by unfold loB; simp
theorem loA_0 (n : Nat) : loA n 0 = [] := by unfold loA; simp
theorem loD_s {a b c d : Nat} (h : c + 1 ≤ d) : loD a b c (d + 1) = loD a b c d ++ [(a, b, c, d)] := by unfold loD; rw [range_step h, List.map_append]; rfl
theorem loC_s {n a b c : Nat} (h : b + 1 ≤ c) : loC n a b (c + 1) = loC n a b c ++ loD a b c n := by unfold loC; rw [range_step h, List.flatMap_append]; simp
theorem loB_s {n a b : Nat} (h : a + 1 ≤ b) : loB n a (b + 1) = loB n a b ++ loC n a b n := by unfold loB; rw [range_step h, List.flatMap_append]; simp
theorem loA_s {n a : Nat} : loA n (a + 1) = loA n a ++ loB n a n := by unfold loA; have := range_step (s := 0) (m := a) (Nat.zero_le _); simp only [Nat.sub_zero] at this; rw [this, List.flatMap_append]; simp
def good4 (n : Nat) (x : P4) : Bool := decide (x.1 < x.2.1) && decide (x.2.1 < x.2.2.1) && decide (x.2.2.1 < x.2.2.2) && decide (x.2.2.2 < n)
theorem it4_all : ∀ n, n ≤ 7 → (fours n).length ≤ 35 ∧ (∀ i, i < (fours n).length → (fours n)[i]? = some (it4 n i) ∧ good4 n (it4 n i) = true) ∧ n ≤ (it4 n (fours n).length).2.2.2 := by
  intro n hn
  rcases (show n = 0 ∨ n = 1 ∨ n = 2 ∨ n = 3 ∨ n = 4 ∨ n = 5 ∨ n = 6 ∨ n = 7 by omega) with rfl | rfl | rfl | rfl | rfl | rfl | rfl | rfl <;> decide
theorem good4_iff {n : Nat} {x : P4} (h : good4 n x = true) : x.1 < x.2.1 ∧ x.2.1 < x.2.2.1 ∧ x.2.2.1 < x.2.2.2 ∧ x.2.2.2 < n := by
  unfold good4 at h
  simp only [Bool.and_eq_true, decide_eq_true_eq] at h
  exact ⟨h.1.1.1, h.1.1.2, h.1.2, h.2⟩
def K4 (x : P4) : Nat → Nat := at4 x.1 x.2.1 x.2.2.1 x.2.2.2
def qs (l : PL) (xs : List P4) : List Arr := xs.filterMap fun x => if 0 < wid l (K4 x) then some (bestOf l (K4 x)) else none
theorem qs_snoc (l : PL) (xs : List P4) (x : P4) : qs l (xs ++ [x]) = if 0 < wid l (K4 x) then qs l xs ++ [bestOf l (K4 x)] else qs l xs := by
  unfold qs; rw [List.filterMap_append]; by_cases h : 0 < wid l (K4 x) <;> simp [h]
theorem qs_len (l : PL) (xs : List P4) : (qs l xs).length ≤ xs.length := List.length_filterMap_le _ _
end Go.Proofs.Ytibdehlmflaodaa
