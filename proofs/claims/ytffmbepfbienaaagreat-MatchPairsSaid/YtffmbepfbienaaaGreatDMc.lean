import Derived.Test.YtffmbepfbienaaaGreatDMb
import Derived.Test.YtffmbepfbienaaaGreatDVc
set_option linter.unusedVariables false
set_option linter.unusedSimpArgs false
set_option maxHeartbeats 6400000
set_option maxRecDepth 1000000
namespace Go.Proofs.YtffmbepfbienaaaGreat
open Go.RowKit
def FLs (w : World) (v : Value) (n : Nat) (O : Nat → Option Rat) (LA LB : Nat → Nat) : Prop := ∃ b o cap, v = .slice (some ⟨b, o, none⟩) n cap ∧ n ≤ cap ∧ b < w.heap.size ∧
 ∀ t, t < n → ∃ a1 a2 a4 a5 a6 a8, w.cell? ⟨b, o + t * 4, none⟩ = some (.bool a1) ∧ w.cell? ⟨b, o + t * 4 + 1, none⟩ = some (.slice a2 (LA t) a4) ∧ w.cell? ⟨b, o + t * 4 + 2, none⟩ = some (.bool a5) ∧ w.cell? ⟨b, o + t * 4 + 3, none⟩ = some (.slice a6 (LB t) a8) ∧ FB w (.agg #[.bool a1, .slice a2 (LA t) a4, .bool a5, .slice a6 (LB t) a8]) (O t)
def limF (most : Nat) (o : Option Rat) (p q : Nat) : Bool := decide (p ≤ most) && decide (q ≤ most) && o.isSome
def limL (most : Nat) (O : Nat → Option Rat) (LA LB : Nat → Nat) : Nat → Bool
 | 0 => true
 | t + 1 => limL most O LA LB t && limF most (O t) (LA t) (LB t)
theorem limL_stay {most : Nat} {O : Nat → Option Rat} {LA LB : Nat → Nat} {i : Nat} (h : limL most O LA LB i = false) : ∀ m, i ≤ m → limL most O LA LB m = false := by
 intro m hm
 induction m with
 | zero =>
      obtain rfl : i = 0 := by omega
      exact h
 | succ m ih =>
  rcases Nat.lt_or_ge m i with g | g
  ·
   obtain rfl : i = m + 1 := by omega
   exact h
  · unfold limL; rw [ih g]; rfl
theorem mlim1 {a1 a5 : Bool} {a2 a6 : Option Addr} {p q a4 a8 : Nat} {o : Option Rat} {g : Nat} {tg : TypeId} (most : Nat) (w : World) (hb : Blk w g tg #[.int .i64 most]) (hf : FB w (.agg #[.bool a1, .slice a2 p a4, .bool a5, .slice a6 q a8]) o) :
  Calls Tryz.prog 82 #[.agg #[.bool a1, .slice a2 p a4, .bool a5, .slice a6 q a8], .pointer (some ⟨g, 0, none⟩)] w fun e w' => e = .returned (.bool (!limF most o p q)) ∧ Steps w w' := by
 have hl := hb.lt
 have cc := hb.q0
 have ck : ∀ w', Keeps w w' → Calls Tryz.prog 58 #[.agg #[.bool a1, .slice a2 p a4, .bool a5, .slice a6 q a8]] w' fun e w2 => e = .returned (.int .i64 (okC o.isSome)) ∧ Steps w' w2 := fun w' k => fcheck_fb w' (hf.keeps k)
 unfold limF
 obtain ⟨s, hs⟩ : ∃ s, o.isSome = s := ⟨_, rfl⟩
 rw [hs] at ck ⊢
 clear hb hf hs
 by_cases h1 : p ≤ most
 ·
  by_cases h2 : q ≤ most
  ·
   rw [decide_eq_true h1, decide_eq_true h2]
   have g1 : ¬ (most : Int) < (p : Int) := by omega
   have g2 : ¬ (most : Int) < (q : Int) := by omega
   clear h1 h2
   go_enter Tryz.func82, Tryz.ntmps82
   go_wp2_with fail
   refine (ck _ keepsB).mono ?_
   rintro e w1 ⟨rfl, hs1⟩
   have B1 : Below w.heap.size w w1 := belowA hs1
   clear ck hs1
   cases s with
   | false =>
    have e8 : (okC false == 0) = false := rfl
    rw [show okC false = 8 from rfl]
    go_wp2
    go_returns
    exact ⟨rfl, B1⟩
   | true =>
    rw [show okC true = 0 from rfl]
    go_wp2
    go_returns
    exact ⟨rfl, B1⟩
  ·
   rw [decide_eq_true h1, decide_eq_false h2]
   have g1 : ¬ (most : Int) < (p : Int) := by omega
   have g2 : (most : Int) < (q : Int) := by omega
   clear h1 h2 ck
   go_enter Tryz.func82, Tryz.ntmps82
   go_wp2
   go_returns
   exact ⟨rfl, belowB⟩
 ·
  rw [decide_eq_false h1]
  have g1 : (most : Int) < (p : Int) := by omega
  clear h1 ck
  go_enter Tryz.func82, Tryz.ntmps82
  go_wp2
  go_returns
  exact ⟨rfl, belowB⟩
theorem mindex {v : Value} {n : Nat} {O : Nat → Option Rat} {LA LB : Nat → Nat} {g : Nat} {tg : TypeId} (most : Nat) (w : World) (h : FLs w v n O LA LB) (hb : Blk w g tg #[.int .i64 most]) (hn : n ≤ 1000) :
  Calls Tryz.prog 122 #[v, .func (.func 82) #[] #[.pointer (some ⟨g, 0, none⟩)]] w fun e w' => ∃ i, e = .returned (.int .i64 i) ∧ decide (0 ≤ i) = !limL most O LA LB n ∧ Steps w w' := by
 obtain ⟨b, of, cap, rfl, hc, hbl, hcell⟩ := h
 have HC := Hid.mk_ hcell
 have CL : ∀ w', Steps w w' → ∀ a1 a2 p a4 a5 a6 q a8 o, FB w (.agg #[.bool a1, .slice a2 p a4, .bool a5, .slice a6 q a8]) o → Calls Tryz.prog 82 #[.agg #[.bool a1, .slice a2 p a4, .bool a5, .slice a6 q a8], .pointer (some ⟨g, 0, none⟩)] w' fun e w2 => e = .returned (.bool (!limF most o p q)) ∧ Steps w' w2 := fun w' s a1 a2 p a4 a5 a6 q a8 o hf => mlim1 most w' (hb.steps s) (hf.keeps (Keeps.steps s))
 clear hcell hb
 go_enter Tryz.func122, Tryz.ntmps122
 go_wp2_with fail
 go_loopw [8] (fun kk wr => ∃ t : Nat, t ≤ n ∧ kk = .int .i64 t ∧ limL most O LA LB t = true ∧ Below w.heap.size w wr) (fun kk _ => n - (intOf kk).toNat)
 case atStart => exact ⟨0, by omega, rfl, rfl, belowB⟩
 case round =>
  obtain ⟨t, ht, rfl, hw, B⟩ := hrel
  rcases Nat.lt_or_ge t n with tn | tn
  ·
   have hlt : decide ((t : Int) < (n : Int)) = true := decide_eq_true (by omega)
   obtain ⟨a1, a2, a4, a5, a6, a8, h0, h1, h2, h3, hf⟩ := HC.out t tn
   have c0 : wr.cell? ⟨b, of + t * 4, none⟩ = some (.bool a1) := (B.cell (p := ⟨b, _, none⟩) hbl).trans h0
   have c1 : wr.cell? ⟨b, of + t * 4 + 1, none⟩ = some (.slice a2 (LA t) a4) := (B.cell (p := ⟨b, _, none⟩) hbl).trans h1
   have c2 : wr.cell? ⟨b, of + t * 4 + 2, none⟩ = some (.bool a5) := (B.cell (p := ⟨b, _, none⟩) hbl).trans h2
   have c3 : wr.cell? ⟨b, of + t * 4 + 3, none⟩ = some (.slice a6 (LB t) a8) := (B.cell (p := ⟨b, _, none⟩) hbl).trans h3
   have ck := fun w' (s : Steps w w') => CL w' s a1 a2 (LA t) a4 a5 a6 (LB t) a8 (O t) hf
   have NO : limF most (O t) (LA t) (LB t) = false → limL most O LA LB n = false := fun e => limL_stay (i := t + 1) (by unfold limL; rw [e, Bool.and_false]) n (by omega)
   have YES : limF most (O t) (LA t) (LB t) = true → limL most O LA LB (t + 1) = true := fun e => by unfold limL; rw [hw, e]; rfl
   obtain ⟨s, hs⟩ : ∃ s, limF most (O t) (LA t) (LB t) = s := ⟨_, rfl⟩
   rw [hs] at ck NO YES
   obtain ⟨L1, hL1⟩ : ∃ x, LA t = x := ⟨_, rfl⟩
   obtain ⟨L2, hL2⟩ : ∃ x, LB t = x := ⟨_, rfl⟩
   rw [hL1] at c1 ck
   rw [hL2] at c3 ck
   clear hs hf hL1 hL2 CL h0 h1 h2 h3
   go_wp2_with fail
   refine (ck _ belowB).mono ?_
   rintro e w1 ⟨rfl, hs1⟩
   have B1 : Below w.heap.size w w1 := belowA hs1
   clear ck hs1 B c0 c1 c2 c3
   cases s with
   | false =>
    have N0 := NO rfl
    clear NO YES
    rw [show (!false) = true from rfl]
    go_wp2
    go_returns
    exact ⟨_, rfl, by rw [N0]; simp, B1⟩
   | true =>
    have Y0 := YES rfl
    clear NO YES
    rw [show (!true) = false from rfl]
    go_wp2
    go_roundw
    case rel => exact ⟨t + 1, by omega, by go_num, Y0, B1⟩
    case measure => simp [intOf]; omega
  ·
   obtain rfl : t = n := by omega
   go_wp2
   go_returns
   exact ⟨_, rfl, by rw [hw]; rfl, B⟩
theorem mlimited {v : Value} {n : Nat} {O : Nat → Option Rat} {LA LB : Nat → Nat} (most : Nat) (w : World) (h : FLs w v n O LA LB) (hn : n ≤ 1000) :
  Calls Tryz.prog 41 #[.int .i64 most, v] w fun e w' => e = .returned (.bool (limL most O LA LB n)) ∧ Steps w w' := by
 have IX : ∀ w' (g : Nat) (tg : TypeId), Steps w w' → Blk w' g tg #[.int .i64 most] → Calls Tryz.prog 122 #[v, .func (.func 82) #[] #[.pointer (some ⟨g, 0, none⟩)]] w' fun e w2 => ∃ i, e = .returned (.int .i64 i) ∧ decide (0 ≤ i) = !limL most O LA LB n ∧ Steps w' w2 := fun w' g tg s hb => by
  refine mindex most w' ?_ hb hn
  obtain ⟨b, o, cap, e, hc, hbl, hcell⟩ := h
  refine ⟨b, o, cap, e, hc, Nat.lt_of_lt_of_le hbl s.size, fun t ht => ?_⟩
  obtain ⟨a1, a2, a4, a5, a6, a8, h0, h1, h2, h3, hf⟩ := hcell t ht
  exact ⟨a1, a2, a4, a5, a6, a8, (s.cell (p := ⟨b, _, none⟩) hbl).trans h0, (s.cell (p := ⟨b, _, none⟩) hbl).trans h1, (s.cell (p := ⟨b, _, none⟩) hbl).trans h2, (s.cell (p := ⟨b, _, none⟩) hbl).trans h3, hf.keeps (Keeps.steps s)⟩
 have CF : ∀ w' (g : Nat) (tg : TypeId), Steps w w' → Blk w' g tg #[.int .i64 most] → Calls Tryz.prog 81 #[v, .func (.func 82) #[] #[.pointer (some ⟨g, 0, none⟩)]] w' fun e w2 => e = .returned (.bool (!limL most O LA LB n)) ∧ Steps w' w2 := fun w' g tg s hb => by
  have ix := IX w' g tg s hb
  obtain ⟨b, o, cap, rfl, hc, hbl, hcell⟩ := h
  clear IX hcell hb
  generalize limL most O LA LB n = L at *
  go_enter Tryz.func81, Tryz.ntmps81
  go_wp2_with fail
  refine ix.mono ?_
  rintro e w1 ⟨i, rfl, hi, hs⟩
  clear ix
  cases L with
  | true =>
   have g1 : ¬ 0 ≤ i := by simpa using hi
   go_wp2
   go_returns
   exact ⟨rfl, hs⟩
  | false =>
   have g1 : 0 ≤ i := by simpa using hi
   go_wp2
   go_returns
   exact ⟨rfl, hs⟩
 obtain ⟨b, o, cap, rfl, hc, hbl, hcell⟩ := h
 clear IX hcell
 generalize limL most O LA LB n = L at *
 go_enter Tryz.func41, Tryz.ntmps41
 go_wp2_with fail
 refine (CF _ w.heap.size 3 belowB (Blk.new _ _ _)).mono ?_
 rintro e w1 ⟨rfl, hs⟩
 have B1 : Below w.heap.size w w1 := belowA hs
 clear CF hs
 go_wp2
 go_returns
 exact ⟨by cases L <;> rfl, B1⟩
end Go.Proofs.YtffmbepfbienaaaGreat
