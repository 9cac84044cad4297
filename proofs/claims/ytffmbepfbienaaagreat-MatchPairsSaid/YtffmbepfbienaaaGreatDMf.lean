import Derived.Test.YtffmbepfbienaaaGreatDMd
import Derived.Test.YtffmbepfbienaaaGreatDVk
import Derived.Test.YtffmbepfbienaaaGreatDVe
import Derived.Test.YtffmbepfbienaaaGreatDWf
import Derived.Test.YtffmbepfbienaaaGreatDTz
set_option linter.unusedVariables false
set_option linter.unusedSimpArgs false
set_option maxHeartbeats 6400000
set_option maxRecDepth 1000000
namespace Go.Proofs.YtffmbepfbienaaaGreat
open Go.RowKit
def ofS (a b p q : Int × Int) : Int × Option (Nat → Rat) := if okP a ∧ okP b ∧ okP p ∧ okP q then (if a = b then (18, none) else (0, some (simT a b p q))) else (8, none)
def SimO (w : World) (v : Value) : Option (Nat → Rat) → Prop
 | some t => SimR w v t
 | none => v = .agg #[.bool false, .slice none 0 0, .bool false, .slice none 0 0, .bool false, .slice none 0 0, .bool false, .slice none 0 0, .bool false, .slice none 0 0, .bool false, .slice none 0 0, .bool false, .slice none 0 0, .bool false, .slice none 0 0]
def f4v {α : Type} (a b c d : α) (i : Nat) : α := match i with | 0 => a | 1 => b | 2 => c | _ => d
def FewL (O : Nat → Option Rat) (LA LB : Nat → Nat) (n : Nat) : Prop := ∀ i, i < n → ∀ q, O i = some q → absN q.num ≤ bp (LA i) ∧ (q.den : Int) ≤ bp (LB i)
def FO (w : World) (v : Value) : Option Rat → Prop
 | some r => FR w v r
 | none => v = .agg #[.bool false, .slice none 0 0, .bool false, .slice none 0 0]
theorem FO.keeps {w w' : World} {v : Value} {o : Option Rat} (h : FO w v o) (k : Keeps w w') : FO w' v o := by
 cases o with
 | none => exact h
 | some r => exact FR.keeps h k
theorem limF_get {most : Nat} {o : Option Rat} {p q : Nat} (h : limF most o p q = true) : p ≤ most ∧ q ≤ most ∧ ∃ r, o = some r := by
 unfold limF at h
 simp only [Bool.and_eq_true, decide_eq_true_eq] at h
 exact ⟨h.1.1, h.1.2, Option.isSome_iff_exists.1 h.2⟩
theorem limL_get {most : Nat} {O : Nat → Option Rat} {LA LB : Nat → Nat} : ∀ {n : Nat}, limL most O LA LB n = true → ∀ i, i < n → limF most (O i) (LA i) (LB i) = true
 | n + 1, h, i, hi => by
  unfold limL at h
  simp only [Bool.and_eq_true] at h
  rcases Nat.lt_or_ge i n with g | g
  · exact limL_get h.1 i g
  ·
   obtain rfl : i = n := by omega
   exact h.2
theorem bp_mono' {i j : Nat} (h : i ≤ j) : bp i ≤ bp j := by
 unfold bp
 exact Int.ofNat_le.2 (Nat.pow_le_pow_right (by decide) h)
theorem limL_sz {most : Nat} {O : Nat → Option Rat} {LA LB : Nat → Nat} {n : Nat} (h : limL most O LA LB n = true) (f : FewL O LA LB n) (i : Nat) (hi : i < n) : ∃ r, O i = some r ∧ sz r most := by
 obtain ⟨h1, h2, r, e⟩ := limF_get (limL_get h i hi)
 obtain ⟨f1, f2⟩ := f i hi r e
 have p1 := bp_mono' h1
 have p2 := bp_mono' h2
 exact ⟨r, e, by omega, by omega⟩
theorem fls4 {ka1 ka5 kb1 kb5 kc1 kc5 kd1 kd5 : Bool} {ka2 ka6 kb2 kb6 kc2 kc6 kd2 kd6 : Option Addr} {ka3 ka4 ka7 ka8 kb3 kb4 kb7 kb8 kc3 kc4 kc7 kc8 kd3 kd4 kd7 kd8 : Nat} {w : World} {g : Nat} {t : TypeId} {O : Nat → Option Rat} (h : Blk w g t #[.bool ka1, .slice ka2 ka3 ka4, .bool ka5, .slice ka6 ka7 ka8, .bool kb1, .slice kb2 kb3 kb4, .bool kb5, .slice kb6 kb7 kb8, .bool kc1, .slice kc2 kc3 kc4, .bool kc5, .slice kc6 kc7 kc8, .bool kd1, .slice kd2 kd3 kd4, .bool kd5, .slice kd6 kd7 kd8]) (b0 : FB w (.agg #[.bool ka1, .slice ka2 ka3 ka4, .bool ka5, .slice ka6 ka7 ka8]) (O 0)) (b1 : FB w (.agg #[.bool kb1, .slice kb2 kb3 kb4, .bool kb5, .slice kb6 kb7 kb8]) (O 1)) (b2 : FB w (.agg #[.bool kc1, .slice kc2 kc3 kc4, .bool kc5, .slice kc6 kc7 kc8]) (O 2)) (b3 : FB w (.agg #[.bool kd1, .slice kd2 kd3 kd4, .bool kd5, .slice kd6 kd7 kd8]) (O 3)) : FLs w (.slice (some ⟨g, 0, none⟩) 4 4) 4 O (f4v ka3 kb3 kc3 kd3) (f4v ka7 kb7 kc7 kd7) := by
 refine ⟨g, 0, 4, rfl, Nat.le_refl _, h.lt, fun i hi => ?_⟩
 have : i = 0 ∨ i = 1 ∨ i = 2 ∨ i = 3 := by omega
 rcases this with rfl | rfl | rfl | rfl
 · exact ⟨_, _, _, _, _, _, h.c 0 rfl, h.c 1 rfl, h.c 2 rfl, h.c 3 rfl, b0⟩
 · exact ⟨_, _, _, _, _, _, h.c 4 rfl, h.c 5 rfl, h.c 6 rfl, h.c 7 rfl, b1⟩
 · exact ⟨_, _, _, _, _, _, h.c 8 rfl, h.c 9 rfl, h.c 10 rfl, h.c 11 rfl, b2⟩
 · exact ⟨_, _, _, _, _, _, h.c 12 rfl, h.c 13 rfl, h.c 14 rfl, h.c 15 rfl, b3⟩
def apOk (O : Nat → Option Rat) (LA LB : Nat → Nat) (p : Int × Int) : Bool := limL 16 O LA LB 4 && decide (okP p)
def apErr (b : Bool) : Int := if b then 0 else 8
def apRes (b : Bool) (r : Rat) : Option Rat := if b then some r else none
theorem rValid21 {ka1 ka5 kb1 kb5 kc1 kc5 kd1 kd5 : Bool} {ka2 ka6 kb2 kb6 kc2 kc6 kd2 kd6 : Option Addr} {ka3 ka4 ka7 ka8 kb3 kb4 kb7 kb8 kc3 kc4 kc7 kc8 kd3 kd4 kd7 kd8 : Nat} {O : Nat → Option Rat} (w : World) (b0 : FB w (.agg #[.bool ka1, .slice ka2 ka3 ka4, .bool ka5, .slice ka6 ka7 ka8]) (O 0)) (b1 : FB w (.agg #[.bool kb1, .slice kb2 kb3 kb4, .bool kb5, .slice kb6 kb7 kb8]) (O 1)) (b2 : FB w (.agg #[.bool kc1, .slice kc2 kc3 kc4, .bool kc5, .slice kc6 kc7 kc8]) (O 2)) (b3 : FB w (.agg #[.bool kd1, .slice kd2 kd3 kd4, .bool kd5, .slice kd6 kd7 kd8]) (O 3)) :
  Calls Tryz.prog 28 #[.agg #[.bool ka1, .slice ka2 ka3 ka4, .bool ka5, .slice ka6 ka7 ka8, .bool kb1, .slice kb2 kb3 kb4, .bool kb5, .slice kb6 kb7 kb8, .bool kc1, .slice kc2 kc3 kc4, .bool kc5, .slice kc6 kc7 kc8, .bool kd1, .slice kd2 kd3 kd4, .bool kd5, .slice kd6 kd7 kd8]] w fun e w' => e = .returned (.bool (limL 16 O (f4v ka3 kb3 kc3 kd3) (f4v ka7 kb7 kc7 kd7) 4)) ∧ Steps w w' := by
 have S0 : ∀ w', Keeps w w' → Calls Tryz.prog 68 #[.agg #[.bool ka1, .slice ka2 ka3 ka4, .bool ka5, .slice ka6 ka7 ka8]] w' fun e w2 => e = .returned (.bool (limF 16 (O 0) ka3 ka7)) ∧ Steps w' w2 := fun w' k => psmall w' (b0.keeps k)
 have S1 : ∀ w', Keeps w w' → Calls Tryz.prog 68 #[.agg #[.bool kb1, .slice kb2 kb3 kb4, .bool kb5, .slice kb6 kb7 kb8]] w' fun e w2 => e = .returned (.bool (limF 16 (O 1) kb3 kb7)) ∧ Steps w' w2 := fun w' k => psmall w' (b1.keeps k)
 have S2 : ∀ w', Keeps w w' → Calls Tryz.prog 68 #[.agg #[.bool kc1, .slice kc2 kc3 kc4, .bool kc5, .slice kc6 kc7 kc8]] w' fun e w2 => e = .returned (.bool (limF 16 (O 2) kc3 kc7)) ∧ Steps w' w2 := fun w' k => psmall w' (b2.keeps k)
 have S3 : ∀ w', Keeps w w' → Calls Tryz.prog 68 #[.agg #[.bool kd1, .slice kd2 kd3 kd4, .bool kd5, .slice kd6 kd7 kd8]] w' fun e w2 => e = .returned (.bool (limF 16 (O 3) kd3 kd7)) ∧ Steps w' w2 := fun w' k => psmall w' (b3.keeps k)
 have E : limL 16 O (f4v ka3 kb3 kc3 kd3) (f4v ka7 kb7 kc7 kd7) 4 = (limF 16 (O 0) ka3 ka7 && limF 16 (O 1) kb3 kb7 && limF 16 (O 2) kc3 kc7 && limF 16 (O 3) kd3 kd7) := by show ((((true && _) && _) && _) && _) = _; rw [Bool.true_and]; rfl
 rw [E]
 generalize limF 16 (O 0) ka3 ka7 = s0 at *
 generalize limF 16 (O 1) kb3 kb7 = s1 at *
 generalize limF 16 (O 2) kc3 kc7 = s2 at *
 generalize limF 16 (O 3) kd3 kd7 = s3 at *
 clear b0 b1 b2 b3 E
 go_enter Tryz.func28, Tryz.ntmps28
 have kk := Keeps.refl w
 go_wp2_with fail
 refine (S0 _ (kk.trans keepsB)).mono ?_
 rintro e w1 ⟨rfl, hb1⟩
 have st : Steps _ w1 := hb1
 have B : Below w.heap.size w w1 := belowA st
 have kp : Keeps w w1 := Keeps.then_ keepsB st
 replace kk := kk.trans kp
 have ot : Blk w1 (w.heap.size) 30 #[.bool ka1, .slice ka2 ka3 ka4, .bool ka5, .slice ka6 ka7 ka8, .bool kb1, .slice kb2 kb3 kb4, .bool kb5, .slice kb6 kb7 kb8, .bool kc1, .slice kc2 kc3 kc4, .bool kc5, .slice kc6 kc7 kc8, .bool kd1, .slice kd2 kd3 kd4, .bool kd5, .slice kd6 kd7 kd8] := Blk.stepsK st
 clear kp
 clear st
 obtain ⟨ct0, ct1, ct2, ct3, ct4, ct5, ct6, ct7, ct8, ct9, ct10, ct11, ct12, ct13, ct14, ct15⟩ := ot.r15
 have lt := ot.lt
 cases s0 with
 | false =>
  go_wp2
  go_returns
  exact ⟨rfl, belowB⟩
 | true =>
  go_wp2_with fail
  refine (S1 _ (kk.trans keepsB)).mono ?_
  rintro e w2 ⟨rfl, hb2⟩
  have st : Steps _ w2 := hb2
  have sk : Below w1.heap.size w1 w2 := belowA st
  replace B := below_steps B (Nat.le_refl _) sk
  replace ot := ot.steps sk
  replace kk := kk.then_ sk
  clear st sk ct0 ct1 ct2 ct3 ct4 ct5 ct6 ct7 ct8 ct9 ct10 ct11 ct12 ct13 ct14 ct15 lt
  obtain ⟨ct0, ct1, ct2, ct3, ct4, ct5, ct6, ct7, ct8, ct9, ct10, ct11, ct12, ct13, ct14, ct15⟩ := ot.r15
  have lt := ot.lt
  cases s1 with
  | false =>
   go_wp2
   go_returns
   exact ⟨rfl, belowB⟩
  | true =>
   go_wp2_with fail
   refine (S2 _ (kk.trans keepsB)).mono ?_
   rintro e w3 ⟨rfl, hb3⟩
   have st : Steps _ w3 := hb3
   have sk : Below w2.heap.size w2 w3 := belowA st
   replace B := below_steps B (Nat.le_refl _) sk
   replace ot := ot.steps sk
   replace kk := kk.then_ sk
   clear st sk ct0 ct1 ct2 ct3 ct4 ct5 ct6 ct7 ct8 ct9 ct10 ct11 ct12 ct13 ct14 ct15 lt
   obtain ⟨ct0, ct1, ct2, ct3, ct4, ct5, ct6, ct7, ct8, ct9, ct10, ct11, ct12, ct13, ct14, ct15⟩ := ot.r15
   have lt := ot.lt
   cases s2 with
   | false =>
    go_wp2
    go_returns
    exact ⟨rfl, belowB⟩
   | true =>
    go_wp2_with fail
    refine (S3 _ (kk.trans keepsB)).mono ?_
    rintro e w4 ⟨rfl, hb4⟩
    have st : Steps _ w4 := hb4
    have sk : Below w3.heap.size w3 w4 := belowA st
    replace B := below_steps B (Nat.le_refl _) sk
    replace ot := ot.steps sk
    replace kk := kk.then_ sk
    clear st sk ct0 ct1 ct2 ct3 ct4 ct5 ct6 ct7 ct8 ct9 ct10 ct11 ct12 ct13 ct14 ct15 lt
    cases s3 with
    | false =>
     go_wp2
     go_returns
     exact ⟨rfl, belowB⟩
    | true =>
     go_wp2_with fail
     refine bodyPost_ret (by simp [results, Tryz.results28, go_sem, ]; rfl) rfl ?_
     exact ⟨rfl, belowB⟩
theorem fls3 {ua1 ua5 ub1 ub5 uc1 uc5 : Bool} {ua2 ua6 ub2 ub6 uc2 uc6 : Option Addr} {ua3 ua4 ua7 ua8 ub3 ub4 ub7 ub8 uc3 uc4 uc7 uc8 : Nat} {w : World} {g : Nat} {t : TypeId} {O : Nat → Option Rat} (h : Blk w g t #[.bool ua1, .slice ua2 ua3 ua4, .bool ua5, .slice ua6 ua7 ua8, .bool ub1, .slice ub2 ub3 ub4, .bool ub5, .slice ub6 ub7 ub8, .bool uc1, .slice uc2 uc3 uc4, .bool uc5, .slice uc6 uc7 uc8]) (b0 : FB w (.agg #[.bool ua1, .slice ua2 ua3 ua4, .bool ua5, .slice ua6 ua7 ua8]) (O 0)) (b1 : FB w (.agg #[.bool ub1, .slice ub2 ub3 ub4, .bool ub5, .slice ub6 ub7 ub8]) (O 1)) (b2 : FB w (.agg #[.bool uc1, .slice uc2 uc3 uc4, .bool uc5, .slice uc6 uc7 uc8]) (O 2)) : FLs w (.slice (some ⟨g, 0, none⟩) 3 3) 3 O (f4v ua3 ub3 uc3 uc3) (f4v ua7 ub7 uc7 uc7) := by
 refine ⟨g, 0, 3, rfl, Nat.le_refl _, h.lt, fun i hi => ?_⟩
 have : i = 0 ∨ i = 1 ∨ i = 2 := by omega
 rcases this with rfl | rfl | rfl
 · exact ⟨_, _, _, _, _, _, h.c 0 rfl, h.c 1 rfl, h.c 2 rfl, h.c 3 rfl, b0⟩
 · exact ⟨_, _, _, _, _, _, h.c 4 rfl, h.c 5 rfl, h.c 6 rfl, h.c 7 rfl, b1⟩
 · exact ⟨_, _, _, _, _, _, h.c 8 rfl, h.c 9 rfl, h.c 10 rfl, h.c 11 rfl, b2⟩
def ruleOk (O : Nat → Option Rat) (LA LB : Nat → Nat) (R A : Int) (neg : Bool) : Bool :=
 limL 2 O LA LB 3 && decide (1 ≤ R ∧ R ≤ 65536 ∧ 1 ≤ A ∧ A ≤ 17592186044416) && !neg && decide (0 < (O 1).getD 0 ∧ (O 1).getD 0 < 1 ∧ 0 < (O 2).getD 0)
theorem ruleOk_iff {O : Nat → Option Rat} {LA LB : Nat → Nat} {R A : Int} {neg : Bool} : ruleOk O LA LB R A neg = true ↔ limL 2 O LA LB 3 = true ∧ (1 ≤ R ∧ R ≤ 65536 ∧ 1 ≤ A ∧ A ≤ 17592186044416) ∧ neg = false ∧ 0 < (O 1).getD 0 ∧ (O 1).getD 0 < 1 ∧ 0 < (O 2).getD 0 := by
 unfold ruleOk
 cases neg <;> simp [and_assoc]
theorem limL3 {most : Nat} {O : Nat → Option Rat} {LA LB : Nat → Nat} : limL most O LA LB 3 = (limF most (O 0) (LA 0) (LB 0) && limF most (O 1) (LA 1) (LB 1) && limF most (O 2) (LA 2) (LB 2)) := by
 show (((true && _) && _) && _) = _
 rw [Bool.true_and]
theorem zero_cast : ((0 : Int) : Rat) = 0 := rfl
theorem sz_nil : sz (0 : Rat) 2 := sz_coord (x := 0) (by decide)
theorem sz_1 : sz (1 : Rat) 2 := sz_one
theorem mCheck {ua1 ua5 ub1 ub5 uc1 uc5 : Bool} {ua2 ua6 ub2 ub6 uc2 uc6 : Option Addr} {ua3 ua4 ua7 ua8 ub3 ub4 ub7 ub8 uc3 uc4 uc7 uc8 : Nat} {R A : Int} {O : Nat → Option Rat} (w : World) (b0 : FB w (.agg #[.bool ua1, .slice ua2 ua3 ua4, .bool ua5, .slice ua6 ua7 ua8]) (O 0)) (b1 : FB w (.agg #[.bool ub1, .slice ub2 ub3 ub4, .bool ub5, .slice ub6 ub7 ub8]) (O 1)) (b2 : FB w (.agg #[.bool uc1, .slice uc2 uc3 uc4, .bool uc5, .slice uc6 uc7 uc8]) (O 2)) (fw : FewL O (f4v ua3 ub3 uc3 uc3) (f4v ua7 ub7 uc7 uc7) 3) :
  Calls Tryz.prog 26 #[.agg #[.bool ua1, .slice ua2 ua3 ua4, .bool ua5, .slice ua6 ua7 ua8, .int .i64 R, .int .i64 A, .bool ub1, .slice ub2 ub3 ub4, .bool ub5, .slice ub6 ub7 ub8, .bool uc1, .slice uc2 uc3 uc4, .bool uc5, .slice uc6 uc7 uc8]] w fun e w' => e = .returned (.int .i64 (apErr (ruleOk O (f4v ua3 ub3 uc3 uc3) (f4v ua7 ub7 uc7 uc7) R A ua1))) ∧ Steps w w' := by
 obtain ⟨K, hK⟩ : ∃ k, ruleOk O (f4v ua3 ub3 uc3 uc3) (f4v ua7 ub7 uc7 uc7) R A ua1 = k := ⟨_, rfl⟩
 have KF : ∀ (P : Prop), (ruleOk O (f4v ua3 ub3 uc3 uc3) (f4v ua7 ub7 uc7 uc7) R A ua1 = true → P) → ¬ P → K = false := fun P h1 h2 => by
  cases hk : K with
  | false => rfl
  | true => exact absurd (h1 (hK.trans hk)) h2
 have KL := fun (h : limL 2 O (f4v ua3 ub3 uc3 uc3) (f4v ua7 ub7 uc7 uc7) 3 = false) => KF (limL 2 O (f4v ua3 ub3 uc3 uc3) (f4v ua7 ub7 uc7 uc7) 3 = true) (fun g => (ruleOk_iff.1 g).1) (by rw [h]; decide)
 have KR := KF _ (fun g => (ruleOk_iff.1 g).2.1)
 have KN := fun (h : ua1 = true) => KF (ua1 = false) (fun g => (ruleOk_iff.1 g).2.2.1) (by rw [h]; decide)
 have K1 := fun (h : cmpQ ((O 1).getD 0) 0 ≤ 0) => KF _ (fun g => (ruleOk_iff.1 g).2.2.2.1) (fun g => absurd (cmpQ_gt.2 g) (by omega))
 have K2 := fun (h : ¬ cmpQ ((O 1).getD 0) 1 < 0) => KF _ (fun g => (ruleOk_iff.1 g).2.2.2.2.1) (fun g => h (cmpQ_lt.2 g))
 have K3 := fun (h : cmpQ ((O 2).getD 0) 0 ≤ 0) => KF _ (fun g => (ruleOk_iff.1 g).2.2.2.2.2) (fun g => absurd (cmpQ_gt.2 g) (by omega))
 have KT : limL 2 O (f4v ua3 ub3 uc3 uc3) (f4v ua7 ub7 uc7 uc7) 3 = true → (1 ≤ R ∧ R ≤ 65536 ∧ 1 ≤ A ∧ A ≤ 17592186044416) → ua1 = false → ¬ cmpQ ((O 1).getD 0) 0 ≤ 0 → cmpQ ((O 1).getD 0) 1 < 0 → ¬ cmpQ ((O 2).getD 0) 0 ≤ 0 → K = true := fun h1 h2 h3 h4 h5 h6 => hK.symm.trans (ruleOk_iff.2 ⟨h1, h2, h3, cmpQ_gt.1 (by omega), cmpQ_lt.1 h5, cmpQ_gt.1 (by omega)⟩)
 have FQ : limL 2 O (f4v ua3 ub3 uc3 uc3) (f4v ua7 ub7 uc7 uc7) 3 = true → (∃ r, O 1 = some r ∧ (O 1).getD 0 = r ∧ sz r 2) ∧ ∃ r, O 2 = some r ∧ (O 2).getD 0 = r ∧ sz r 2 := fun h => by
  obtain ⟨r1, e1, z1⟩ := limL_sz h fw 1 (by omega)
  obtain ⟨r2, e2, z2⟩ := limL_sz h fw 2 (by omega)
  exact ⟨⟨r1, e1, by rw [e1]; rfl, z1⟩, ⟨r2, e2, by rw [e2]; rfl, z2⟩⟩
 have LM : ∀ w' g t, Keeps w w' → Blk w' g t #[.bool ua1, .slice ua2 ua3 ua4, .bool ua5, .slice ua6 ua7 ua8, .bool ub1, .slice ub2 ub3 ub4, .bool ub5, .slice ub6 ub7 ub8, .bool uc1, .slice uc2 uc3 uc4, .bool uc5, .slice uc6 uc7 uc8] → Calls Tryz.prog 41 #[.int .i64 2, .slice (some ⟨g, 0, none⟩) 3 3] w' fun e w2 => e = .returned (.bool (limL 2 O (f4v ua3 ub3 uc3 uc3) (f4v ua7 ub7 uc7 uc7) 3)) ∧ Steps w' w2 := fun w' g t k hb => mlimited 2 w' (fls3 hb (b0.keeps k) (b1.keeps k) (b2.keeps k)) (by omega)
 have OF : ∀ x : Int, -9223372036854775808 ≤ x → x ≤ 9223372036854775807 → ∀ w' g t, Blk w' g t #[.int .i64 0] → Calls Tryz.prog 66 #[.pointer (some ⟨g, 0, none⟩), .int .i64 x] w' fun e w2 => ∃ v, e = .returned v ∧ FR w2 v (x : Rat) ∧ Steps w' w2 := fun x h0 h1 w' g t hb => mof x w' hb h0 h1
 have O0 := fun w' g t hb => by have := OF 0 (by decide) (by decide) w' g t hb; rw [zero_cast] at this; exact this
 have O1 := fun w' g t hb => by have := OF 1 (by decide) (by decide) w' g t hb; rw [one_cast] at this; exact this
 clear OF
 rw [hK]
 generalize hL : limL 2 O (f4v ua3 ub3 uc3 uc3) (f4v ua7 ub7 uc7 uc7) 3 = L at *
 cases ua1 with
 | true =>
  cases L with
  | false =>
   have e0 := KL rfl
   subst e0
   clear KF KL KR KN K1 K2 K3 KT FQ O0 O1 hK hL b0 b1 b2 fw
   go_enter Tryz.func26, Tryz.ntmps26
   have kk := Keeps.refl w
   go_wp2_with fail
   refine (LM _ (w.heap.size + 1) 28 (kk.trans keepsB) ownK).mono ?_
   rintro e w1 ⟨rfl, hb1⟩
   have st : Steps _ w1 := hb1
   have B : Below w.heap.size w w1 := belowA st
   have kp : Keeps w w1 := Keeps.then_ keepsB st
   replace kk := kk.trans kp
   have ou : Blk w1 (w.heap.size) 45 #[.bool true, .slice ua2 ua3 ua4, .bool ua5, .slice ua6 ua7 ua8, .int .i64 R, .int .i64 A, .bool ub1, .slice ub2 ub3 ub4, .bool ub5, .slice ub6 ub7 ub8, .bool uc1, .slice uc2 uc3 uc4, .bool uc5, .slice uc6 uc7 uc8] := Blk.stepsK st
   clear kp
   clear st
   go_wp2_with fail
   refine bodyPost_ret (by simp [results, Tryz.results26, go_sem, ]; rfl) rfl ?_
   exact ⟨rfl, belowB⟩
  | true =>
   go_enter Tryz.func26, Tryz.ntmps26
   have kk := Keeps.refl w
   obtain ⟨⟨r1, e1, q1, z1⟩, r2, e2, q2, z2⟩ := FQ rfl
   rw [e1] at b1
   rw [e2] at b2
   rw [q1] at K1 K2 KT
   rw [q2] at K3 KT
   have F1 : Hid (FR w (.agg #[.bool ub1, .slice ub2 ub3 ub4, .bool ub5, .slice ub6 ub7 ub8]) r1) := Hid.mk_ b1
   have F2 : Hid (FR w (.agg #[.bool uc1, .slice uc2 uc3 uc4, .bool uc5, .slice uc6 uc7 uc8]) r2) := Hid.mk_ b2
   obtain ⟨c1, hc1⟩ : ∃ c, cmpQ r1 0 = c := ⟨_, rfl⟩
   obtain ⟨c2, hc2⟩ : ∃ c, cmpQ r1 1 = c := ⟨_, rfl⟩
   obtain ⟨c3, hc3⟩ : ∃ c, cmpQ r2 0 = c := ⟨_, rfl⟩
   rw [hc1] at K1 KT
   rw [hc2] at K2 KT
   rw [hc3] at K3 KT
   have CM1 : ∀ (w' : World) (g : Nat) (t : TypeId) (u v : Value), Blk w' g t #[.int .i64 0] → FR w' u r1 → FR w' v 0 → Calls Tryz.prog 67 #[.pointer (some ⟨g, 0, none⟩), u, v] w' fun e w2 => e = .returned (.int .i64 c1) ∧ Steps w' w2 := fun w' g t u v hb h1 h2 => by have := mcompare w' hb h1 h2 z1 sz_nil (by omega); rw [hc1] at this; exact this
   have CM2 : ∀ (w' : World) (g : Nat) (t : TypeId) (u v : Value), Blk w' g t #[.int .i64 0] → FR w' u r1 → FR w' v 1 → Calls Tryz.prog 67 #[.pointer (some ⟨g, 0, none⟩), u, v] w' fun e w2 => e = .returned (.int .i64 c2) ∧ Steps w' w2 := fun w' g t u v hb h1 h2 => by have := mcompare w' hb h1 h2 z1 sz_1 (by omega); rw [hc2] at this; exact this
   have CM3 : ∀ (w' : World) (g : Nat) (t : TypeId) (u v : Value), Blk w' g t #[.int .i64 0] → FR w' u r2 → FR w' v 0 → Calls Tryz.prog 67 #[.pointer (some ⟨g, 0, none⟩), u, v] w' fun e w2 => e = .returned (.int .i64 c3) ∧ Steps w' w2 := fun w' g t u v hb h1 h2 => by have := mcompare w' hb h1 h2 z2 sz_nil (by omega); rw [hc3] at this; exact this
   clear hc1 hc2 hc3
   have KT' := KT rfl
   clear KF KL KT FQ hK hL e1 e2 q1 q2 fw b0 b1 b2
   go_wp2_with fail
   refine (LM _ (w.heap.size + 1) 28 (kk.trans keepsB) ownK).mono ?_
   rintro e w1 ⟨rfl, hb1⟩
   have st : Steps _ w1 := hb1
   have B : Below w.heap.size w w1 := belowA st
   have kp : Keeps w w1 := Keeps.then_ keepsB st
   replace kk := kk.trans kp
   have ou : Blk w1 (w.heap.size) 45 #[.bool true, .slice ua2 ua3 ua4, .bool ua5, .slice ua6 ua7 ua8, .int .i64 R, .int .i64 A, .bool ub1, .slice ub2 ub3 ub4, .bool ub5, .slice ub6 ub7 ub8, .bool uc1, .slice uc2 uc3 uc4, .bool uc5, .slice uc6 uc7 uc8] := Blk.stepsK st
   replace F1 := Hid.mk_ (F1.out.keeps kp)
   replace F2 := Hid.mk_ (F2.out.keeps kp)
   clear kp
   clear st
   obtain ⟨cu0, cu1, cu2, cu3, cu4, cu5, cu6, cu7, cu8, cu9, cu10, cu11, cu12, cu13⟩ := ou.r13
   have lu := ou.lt
   clear LM
   rcases (show R < 1 ∨ (¬ R < 1 ∧ 65536 < R) ∨ (¬ R < 1 ∧ ¬ 65536 < R ∧ A < 1) ∨ (¬ R < 1 ∧ ¬ 65536 < R ∧ ¬ A < 1 ∧ 17592186044416 < A) ∨ (¬ R < 1 ∧ ¬ 65536 < R ∧ ¬ A < 1 ∧ ¬ 17592186044416 < A) by omega) with g1 | ⟨g1, g2⟩ | ⟨g1, g2, g3⟩ | ⟨g1, g2, g3, g4⟩ | ⟨g1, g2, g3, g4⟩
   ·
    have e0 := KR (by omega)
    subst e0
    clear KR KN K1 K2 K3 KT' O0 O1 CM1 CM2 CM3
    go_wp2
    go_returns
    exact ⟨rfl, belowB⟩
   ·
    have e0 := KR (by omega)
    subst e0
    clear KR KN K1 K2 K3 KT' O0 O1 CM1 CM2 CM3
    go_wp2
    go_returns
    exact ⟨rfl, belowB⟩
   ·
    have e0 := KR (by omega)
    subst e0
    clear KR KN K1 K2 K3 KT' O0 O1 CM1 CM2 CM3
    go_wp2
    go_returns
    exact ⟨rfl, belowB⟩
   ·
    have e0 := KR (by omega)
    subst e0
    clear KR KN K1 K2 K3 KT' O0 O1 CM1 CM2 CM3
    go_wp2
    go_returns
    exact ⟨rfl, belowB⟩
   ·
    have KT2 := KT' ⟨by omega, by omega, by omega, by omega⟩
    clear KT' KR
    have zu_1 : w.heap.size < w1.heap.size := ou.lt
    have zz1 := B.size
    go_wp2_with fail
    refine (O0 _ (w1.heap.size) 89 ownK).mono ?_
    rintro e w2 ⟨vka, rfl, hvka, hb2⟩
    have st : Steps _ w2 := hb2
    have sk : Below w1.heap.size w1 w2 := belowA st
    replace B := below_steps B (Nat.le_refl _) sk
    have ov3 : Blk w2 (w1.heap.size) 89 #[.int .i64 0] := Blk.stepsK st
    replace ou := ou.steps sk
    replace F1 := Hid.mk_ (F1.out.steps sk)
    replace F2 := Hid.mk_ (F2.out.steps sk)
    replace kk := kk.then_ sk
    clear st sk cu0 cu1 cu2 cu3 cu4 cu5 cu6 cu7 cu8 cu9 cu10 cu11 cu12 cu13 lu
    obtain ⟨ka1, ka2, ka3, ka4, ka5, ka6, ka7, ka8, rfl⟩ := hvka.shape
    have Fka := Hid.mk_ hvka
    clear hvka
    go_wp2_with fail
    refine (O1 _ (w1.heap.size) 89 ownK).mono ?_
    rintro e w3 ⟨vkb, rfl, hvkb, hb3⟩
    have st : Steps _ w3 := hb3
    have sk : Below w2.heap.size w2 w3 := belowA st
    replace B := below_steps B (Nat.le_refl _) sk
    replace ou := ou.steps sk
    replace ov3 := ov3.steps sk
    replace F1 := Hid.mk_ (F1.out.steps sk)
    replace F2 := Hid.mk_ (F2.out.steps sk)
    replace Fka := Hid.mk_ (Fka.out.steps sk)
    replace kk := kk.then_ sk
    clear st sk
    obtain ⟨cu0, cu1, cu2, cu3, cu4, cu5, cu6, cu7, cu8, cu9, cu10, cu11, cu12, cu13⟩ := ou.r13
    have lu := ou.lt
    obtain ⟨kb1, kb2, kb3, kb4, kb5, kb6, kb7, kb8, rfl⟩ := hvkb.shape
    have Fkb := Hid.mk_ hvkb
    clear hvkb
    have zv3_3 : w1.heap.size < w3.heap.size := ov3.lt
    have zz3 := B.size
    skip
    have e0 := KN (by simp)
    subst e0
    clear KN K1 K2 K3 KT2 O0 O1 CM1 CM2 CM3
    go_wp2_with fail
    refine bodyPost_ret (by simp [results, Tryz.results26, go_sem, cu0, cu1, cu2, cu3, cu4, cu5, cu6, cu7, cu8, cu9, cu10, cu11, cu12, cu13, lu]; rfl) rfl ?_
    exact ⟨rfl, belowB⟩
 | false =>
  cases L with
  | false =>
   have e0 := KL rfl
   subst e0
   clear KF KL KR KN K1 K2 K3 KT FQ O0 O1 hK hL b0 b1 b2 fw
   go_enter Tryz.func26, Tryz.ntmps26
   have kk := Keeps.refl w
   go_wp2_with fail
   refine (LM _ (w.heap.size + 1) 28 (kk.trans keepsB) ownK).mono ?_
   rintro e w1 ⟨rfl, hb1⟩
   have st : Steps _ w1 := hb1
   have B : Below w.heap.size w w1 := belowA st
   have kp : Keeps w w1 := Keeps.then_ keepsB st
   replace kk := kk.trans kp
   have ou : Blk w1 (w.heap.size) 45 #[.bool false, .slice ua2 ua3 ua4, .bool ua5, .slice ua6 ua7 ua8, .int .i64 R, .int .i64 A, .bool ub1, .slice ub2 ub3 ub4, .bool ub5, .slice ub6 ub7 ub8, .bool uc1, .slice uc2 uc3 uc4, .bool uc5, .slice uc6 uc7 uc8] := Blk.stepsK st
   clear kp
   clear st
   go_wp2_with fail
   refine bodyPost_ret (by simp [results, Tryz.results26, go_sem, ]; rfl) rfl ?_
   exact ⟨rfl, belowB⟩
  | true =>
   go_enter Tryz.func26, Tryz.ntmps26
   have kk := Keeps.refl w
   obtain ⟨⟨r1, e1, q1, z1⟩, r2, e2, q2, z2⟩ := FQ rfl
   rw [e1] at b1
   rw [e2] at b2
   rw [q1] at K1 K2 KT
   rw [q2] at K3 KT
   have F1 : Hid (FR w (.agg #[.bool ub1, .slice ub2 ub3 ub4, .bool ub5, .slice ub6 ub7 ub8]) r1) := Hid.mk_ b1
   have F2 : Hid (FR w (.agg #[.bool uc1, .slice uc2 uc3 uc4, .bool uc5, .slice uc6 uc7 uc8]) r2) := Hid.mk_ b2
   obtain ⟨c1, hc1⟩ : ∃ c, cmpQ r1 0 = c := ⟨_, rfl⟩
   obtain ⟨c2, hc2⟩ : ∃ c, cmpQ r1 1 = c := ⟨_, rfl⟩
   obtain ⟨c3, hc3⟩ : ∃ c, cmpQ r2 0 = c := ⟨_, rfl⟩
   rw [hc1] at K1 KT
   rw [hc2] at K2 KT
   rw [hc3] at K3 KT
   have CM1 : ∀ (w' : World) (g : Nat) (t : TypeId) (u v : Value), Blk w' g t #[.int .i64 0] → FR w' u r1 → FR w' v 0 → Calls Tryz.prog 67 #[.pointer (some ⟨g, 0, none⟩), u, v] w' fun e w2 => e = .returned (.int .i64 c1) ∧ Steps w' w2 := fun w' g t u v hb h1 h2 => by have := mcompare w' hb h1 h2 z1 sz_nil (by omega); rw [hc1] at this; exact this
   have CM2 : ∀ (w' : World) (g : Nat) (t : TypeId) (u v : Value), Blk w' g t #[.int .i64 0] → FR w' u r1 → FR w' v 1 → Calls Tryz.prog 67 #[.pointer (some ⟨g, 0, none⟩), u, v] w' fun e w2 => e = .returned (.int .i64 c2) ∧ Steps w' w2 := fun w' g t u v hb h1 h2 => by have := mcompare w' hb h1 h2 z1 sz_1 (by omega); rw [hc2] at this; exact this
   have CM3 : ∀ (w' : World) (g : Nat) (t : TypeId) (u v : Value), Blk w' g t #[.int .i64 0] → FR w' u r2 → FR w' v 0 → Calls Tryz.prog 67 #[.pointer (some ⟨g, 0, none⟩), u, v] w' fun e w2 => e = .returned (.int .i64 c3) ∧ Steps w' w2 := fun w' g t u v hb h1 h2 => by have := mcompare w' hb h1 h2 z2 sz_nil (by omega); rw [hc3] at this; exact this
   clear hc1 hc2 hc3
   have KT' := KT rfl
   clear KF KL KT FQ hK hL e1 e2 q1 q2 fw b0 b1 b2
   go_wp2_with fail
   refine (LM _ (w.heap.size + 1) 28 (kk.trans keepsB) ownK).mono ?_
   rintro e w1 ⟨rfl, hb1⟩
   have st : Steps _ w1 := hb1
   have B : Below w.heap.size w w1 := belowA st
   have kp : Keeps w w1 := Keeps.then_ keepsB st
   replace kk := kk.trans kp
   have ou : Blk w1 (w.heap.size) 45 #[.bool false, .slice ua2 ua3 ua4, .bool ua5, .slice ua6 ua7 ua8, .int .i64 R, .int .i64 A, .bool ub1, .slice ub2 ub3 ub4, .bool ub5, .slice ub6 ub7 ub8, .bool uc1, .slice uc2 uc3 uc4, .bool uc5, .slice uc6 uc7 uc8] := Blk.stepsK st
   replace F1 := Hid.mk_ (F1.out.keeps kp)
   replace F2 := Hid.mk_ (F2.out.keeps kp)
   clear kp
   clear st
   obtain ⟨cu0, cu1, cu2, cu3, cu4, cu5, cu6, cu7, cu8, cu9, cu10, cu11, cu12, cu13⟩ := ou.r13
   have lu := ou.lt
   clear LM
   rcases (show R < 1 ∨ (¬ R < 1 ∧ 65536 < R) ∨ (¬ R < 1 ∧ ¬ 65536 < R ∧ A < 1) ∨ (¬ R < 1 ∧ ¬ 65536 < R ∧ ¬ A < 1 ∧ 17592186044416 < A) ∨ (¬ R < 1 ∧ ¬ 65536 < R ∧ ¬ A < 1 ∧ ¬ 17592186044416 < A) by omega) with g1 | ⟨g1, g2⟩ | ⟨g1, g2, g3⟩ | ⟨g1, g2, g3, g4⟩ | ⟨g1, g2, g3, g4⟩
   ·
    have e0 := KR (by omega)
    subst e0
    clear KR KN K1 K2 K3 KT' O0 O1 CM1 CM2 CM3
    go_wp2
    go_returns
    exact ⟨rfl, belowB⟩
   ·
    have e0 := KR (by omega)
    subst e0
    clear KR KN K1 K2 K3 KT' O0 O1 CM1 CM2 CM3
    go_wp2
    go_returns
    exact ⟨rfl, belowB⟩
   ·
    have e0 := KR (by omega)
    subst e0
    clear KR KN K1 K2 K3 KT' O0 O1 CM1 CM2 CM3
    go_wp2
    go_returns
    exact ⟨rfl, belowB⟩
   ·
    have e0 := KR (by omega)
    subst e0
    clear KR KN K1 K2 K3 KT' O0 O1 CM1 CM2 CM3
    go_wp2
    go_returns
    exact ⟨rfl, belowB⟩
   ·
    have KT2 := KT' ⟨by omega, by omega, by omega, by omega⟩
    clear KT' KR
    have zu_1 : w.heap.size < w1.heap.size := ou.lt
    have zz1 := B.size
    go_wp2_with fail
    refine (O0 _ (w1.heap.size) 89 ownK).mono ?_
    rintro e w2 ⟨vka, rfl, hvka, hb2⟩
    have st : Steps _ w2 := hb2
    have sk : Below w1.heap.size w1 w2 := belowA st
    replace B := below_steps B (Nat.le_refl _) sk
    have ov3 : Blk w2 (w1.heap.size) 89 #[.int .i64 0] := Blk.stepsK st
    replace ou := ou.steps sk
    replace F1 := Hid.mk_ (F1.out.steps sk)
    replace F2 := Hid.mk_ (F2.out.steps sk)
    replace kk := kk.then_ sk
    clear st sk cu0 cu1 cu2 cu3 cu4 cu5 cu6 cu7 cu8 cu9 cu10 cu11 cu12 cu13 lu
    obtain ⟨ka1, ka2, ka3, ka4, ka5, ka6, ka7, ka8, rfl⟩ := hvka.shape
    have Fka := Hid.mk_ hvka
    clear hvka
    go_wp2_with fail
    refine (O1 _ (w1.heap.size) 89 ownK).mono ?_
    rintro e w3 ⟨vkb, rfl, hvkb, hb3⟩
    have st : Steps _ w3 := hb3
    have sk : Below w2.heap.size w2 w3 := belowA st
    replace B := below_steps B (Nat.le_refl _) sk
    replace ou := ou.steps sk
    replace ov3 := ov3.steps sk
    replace F1 := Hid.mk_ (F1.out.steps sk)
    replace F2 := Hid.mk_ (F2.out.steps sk)
    replace Fka := Hid.mk_ (Fka.out.steps sk)
    replace kk := kk.then_ sk
    clear st sk
    obtain ⟨cu0, cu1, cu2, cu3, cu4, cu5, cu6, cu7, cu8, cu9, cu10, cu11, cu12, cu13⟩ := ou.r13
    have lu := ou.lt
    obtain ⟨kb1, kb2, kb3, kb4, kb5, kb6, kb7, kb8, rfl⟩ := hvkb.shape
    have Fkb := Hid.mk_ hvkb
    clear hvkb
    have zv3_3 : w1.heap.size < w3.heap.size := ov3.lt
    have zz3 := B.size
    clear O0 O1 KN
    go_wp2_with fail
    refine (CM1 _ (w1.heap.size) 89 _ _ ownK (F1.out.keeps keepsB) (Fka.out.keeps keepsB)).mono ?_
    rintro e w4 ⟨rfl, hb4⟩
    have st : Steps _ w4 := hb4
    have sk : Below w3.heap.size w3 w4 := belowA st
    replace B := below_steps B (Nat.le_refl _) sk
    have ov4 : Blk w4 (w3.heap.size) 28 #[.bool ka1, .slice ka2 ka3 ka4, .bool ka5, .slice ka6 ka7 ka8] := Blk.stepsK st
    have ov5 : Blk w4 (w3.heap.size + 1) 28 #[.bool kb1, .slice kb2 kb3 kb4, .bool kb5, .slice kb6 kb7 kb8] := Blk.stepsK st
    replace ou := ou.steps sk
    replace ov3 := ov3.steps sk
    replace F1 := Hid.mk_ (F1.out.steps sk)
    replace F2 := Hid.mk_ (F2.out.steps sk)
    replace Fka := Hid.mk_ (Fka.out.steps sk)
    replace Fkb := Hid.mk_ (Fkb.out.steps sk)
    replace kk := kk.then_ sk
    clear st sk cu0 cu1 cu2 cu3 cu4 cu5 cu6 cu7 cu8 cu9 cu10 cu11 cu12 cu13 lu
    obtain ⟨cu0, cu1, cu2, cu3, cu4, cu5, cu6, cu7, cu8, cu9, cu10, cu11, cu12, cu13⟩ := ou.r13
    have lu := ou.lt
    have lv4 := ov4.lt
    obtain ⟨cv50, cv51, cv52, cv53⟩ := ov5.r3
    have lv5 := ov5.lt
    by_cases h1 : c1 ≤ 0
    ·
     have e0 := K1 (by omega)
     subst e0
     clear K1 K2 K3 KT2 CM1 CM2 CM3
     go_wp2
     go_returns
     exact ⟨rfl, belowB⟩
    ·
     go_wp2_with fail
     refine (CM2 _ (w1.heap.size) 89 _ _ ownK (F1.out.keeps keepsB) (Fkb.out.keeps keepsB)).mono ?_
     rintro e w5 ⟨rfl, hb5⟩
     have st : Steps _ w5 := hb5
     have sk : Below w4.heap.size w4 w5 := belowA st
     replace B := below_steps B (Nat.le_refl _) sk
     replace ou := ou.steps sk
     replace ov3 := ov3.steps sk
     replace ov4 := ov4.steps sk
     replace ov5 := ov5.steps sk
     replace F1 := Hid.mk_ (F1.out.steps sk)
     replace F2 := Hid.mk_ (F2.out.steps sk)
     replace Fka := Hid.mk_ (Fka.out.steps sk)
     replace Fkb := Hid.mk_ (Fkb.out.steps sk)
     replace kk := kk.then_ sk
     clear st sk cu0 cu1 cu2 cu3 cu4 cu5 cu6 cu7 cu8 cu9 cu10 cu11 cu12 cu13 lu lv4 cv50 cv51 cv52 cv53 lv5
     obtain ⟨cu0, cu1, cu2, cu3, cu4, cu5, cu6, cu7, cu8, cu9, cu10, cu11, cu12, cu13⟩ := ou.r13
     have lu := ou.lt
     obtain ⟨cv40, cv41, cv42, cv43⟩ := ov4.r3
     have lv4 := ov4.lt
     have lv5 := ov5.lt
     by_cases h2 : ¬ c2 < 0
     ·
      have e0 := K2 (by omega)
      subst e0
      clear K1 K2 K3 KT2 CM1 CM2 CM3
      go_wp2
      go_returns
      exact ⟨rfl, belowB⟩
     ·
      have h2' : c2 < 0 := by omega
      go_wp2_with fail
      refine (CM3 _ (w1.heap.size) 89 _ _ ownK (F2.out.keeps keepsB) (Fka.out.keeps keepsB)).mono ?_
      rintro e w6 ⟨rfl, hb6⟩
      have st : Steps _ w6 := hb6
      have sk : Below w5.heap.size w5 w6 := belowA st
      replace B := below_steps B (Nat.le_refl _) sk
      replace ou := ou.steps sk
      replace ov3 := ov3.steps sk
      replace ov4 := ov4.steps sk
      replace ov5 := ov5.steps sk
      replace F1 := Hid.mk_ (F1.out.steps sk)
      replace F2 := Hid.mk_ (F2.out.steps sk)
      replace Fka := Hid.mk_ (Fka.out.steps sk)
      replace Fkb := Hid.mk_ (Fkb.out.steps sk)
      replace kk := kk.then_ sk
      clear st sk cu0 cu1 cu2 cu3 cu4 cu5 cu6 cu7 cu8 cu9 cu10 cu11 cu12 cu13 lu cv40 cv41 cv42 cv43 lv4 lv5
      by_cases h3 : c3 ≤ 0
      ·
       have e0 := K3 (by omega)
       subst e0
       clear K1 K2 K3 KT2 CM1 CM2 CM3
       go_wp2
       go_returns
       exact ⟨rfl, belowB⟩
      ·
       have e0 := KT2 (by simp) (by omega) (by omega) (by omega)
       subst e0
       clear K1 K2 K3 KT2 CM1 CM2 CM3
       go_wp2_with fail
       refine bodyPost_ret (by simp [results, Tryz.results26, go_sem, ]; rfl) rfl ?_
       exact ⟨rfl, belowB⟩
theorem IntsR.at' {w : World} {ao : Option Addr} {n cap : Nat} {l : List Int} (h : IntsR w (.slice ao n cap) l) {t : Nat} (ht : t < l.length) : ∃ b o, ao = some ⟨b, o, none⟩ ∧ b < w.heap.size ∧ w.cell? ⟨b, o + t, none⟩ = some (.int .i64 (l.getD t 0)) := by
 obtain ⟨ao', cap', e, _, h2⟩ := h
 injection e with e1 e2 e3
 subst e1
 obtain ⟨b, o, e, hb, hc⟩ := h2 (fun e => by rw [e] at ht; cases ht)
 exact ⟨b, o, e, hb, hc t ht⟩
def memI (l : List Int) (x : Int) : Nat → Bool
 | 0 => false
 | t + 1 => memI l x t || (x == l.getD t 0)
theorem memI_stay {l : List Int} {x : Int} {i : Nat} (h : memI l x i = true) : ∀ m, i ≤ m → memI l x m = true := by
 intro m hm
 induction m with
 | zero =>
      obtain rfl : i = 0 := by omega
      exact h
 | succ m ih =>
  rcases Nat.lt_or_ge m i with g | g
  ·
   obtain rfl : i = m + 1 := by omega
   exact h
  · unfold memI; rw [ih g]; rfl
theorem sindex {v : Value} {l : List Int} (x : Int) (w : World) (h : IntsR w v l) (hl : l.length ≤ 100000) :
  Calls Tryz.prog 130 #[v, .int .i64 x] w fun e w' => ∃ i, e = .returned (.int .i64 i) ∧ decide (0 ≤ i) = memI l x l.length ∧ Steps w w' := by
 obtain ⟨ao, cap, rfl⟩ := h.shape
 have HC := Hid.mk_ h
 obtain ⟨n, hn⟩ : ∃ n, l.length = n := ⟨_, rfl⟩
 have HL := Hid.mk_ hn
 rw [hn] at HC hl ⊢
 clear h hn
 go_enter Tryz.func130, Tryz.ntmps130
 go_wp2_with fail
 go_loopw [8] (fun kk wr => ∃ t : Nat, t ≤ n ∧ kk = .int .i64 t ∧ memI l x t = false ∧ Below w.heap.size w wr) (fun kk _ => n - (intOf kk).toNat)
 case atStart => exact ⟨0, by omega, rfl, rfl, belowB⟩
 case round =>
  obtain ⟨t, ht, rfl, hw, B⟩ := hrel
  rcases Nat.lt_or_ge t n with tn | tn
  ·
   have hlt : decide ((t : Int) < (n : Int)) = true := decide_eq_true (by omega)
   obtain ⟨b, of, rfl, hbl, h0⟩ := HC.out.at' (t := t) (by have := HL.out; omega)
   have c0 : wr.cell? ⟨b, of + t, none⟩ = some (.int .i64 (l.getD t 0)) := (B.cell (p := ⟨b, _, none⟩) hbl).trans h0
   have YES : (x == l.getD t 0) = true → memI l x n = true := fun e => memI_stay (i := t + 1) (by unfold memI; rw [e, Bool.or_true]) n (by omega)
   have NO : (x == l.getD t 0) = false → memI l x (t + 1) = false := fun e => by unfold memI; rw [hw, e]; rfl
   obtain ⟨y, hy⟩ : ∃ y, l.getD t 0 = y := ⟨_, rfl⟩
   rw [hy] at c0 YES NO
   clear h0 hy
   cases hxy : (x == y) with
   | true =>
    have Y := YES hxy
    clear YES NO
    go_wp2
    go_returns
    exact ⟨_, rfl, by rw [Y]; simp, B⟩
   | false =>
    have N := NO hxy
    clear YES NO
    go_wp2
    go_roundw
    case rel => exact ⟨t + 1, by omega, by go_num, N, B⟩
    case measure => simp [intOf]; omega
  ·
   obtain rfl : t = n := by omega
   go_wp2
   go_returns
   exact ⟨_, rfl, by rw [hw]; rfl, B⟩
theorem scontains {v : Value} {l : List Int} (x : Int) (w : World) (h : IntsR w v l) (hl : l.length ≤ 100000) :
  Calls Tryz.prog 91 #[v, .int .i64 x] w fun e w' => e = .returned (.bool (memI l x l.length)) ∧ Steps w w' := by
 have ix := sindex x w h hl
 obtain ⟨ao, cap, rfl⟩ := h.shape
 clear h hl
 generalize memI l x l.length = L at *
 go_enter Tryz.func91, Tryz.ntmps91
 go_wp2_with fail
 refine ix.mono ?_
 rintro e w1 ⟨i, rfl, hi, hs⟩
 clear ix
 cases L with
 | true =>
  have g1 : 0 ≤ i := by simpa using hi
  go_wp2
  go_returns
  exact ⟨rfl, hs⟩
 | false =>
  have g1 : ¬ 0 ≤ i := by simpa using hi
  go_wp2
  go_returns
  exact ⟨rfl, hs⟩
def okK (l : List Int) (n : Int) : Nat → Bool
 | 0 => true
 | t + 1 => okK l n t && decide (-1 ≤ l.getD t 0 ∧ l.getD t 0 < n)
theorem okK_stay {l : List Int} {n : Int} {i : Nat} (h : okK l n i = false) : ∀ m, i ≤ m → okK l n m = false := by
 intro m hm
 induction m with
 | zero =>
      obtain rfl : i = 0 := by omega
      exact h
 | succ m ih =>
  rcases Nat.lt_or_ge m i with g | g
  ·
   obtain rfl : i = m + 1 := by omega
   exact h
  · unfold okK; rw [ih g]; rfl
theorem modds1 {g : Nat} {tg : TypeId} (k n : Int) (w : World) (hb : Blk w g tg #[.int .i64 n]) :
  Calls Tryz.prog 49 #[.int .i64 k, .pointer (some ⟨g, 0, none⟩)] w fun e w' => e = .returned (.bool (!decide (-1 ≤ k ∧ k < n))) ∧ Steps w w' := by
 have hl := hb.lt
 have cc := hb.q0
 clear hb
 by_cases h1 : k < -1
 ·
  rw [decide_eq_false (by omega)]
  go_enter Tryz.func49, Tryz.ntmps49
  go_wp2
  go_returns
  exact ⟨rfl, belowB⟩
 ·
  by_cases h2 : n ≤ k
  ·
   rw [decide_eq_false (by omega)]
   go_enter Tryz.func49, Tryz.ntmps49
   go_wp2
   go_returns
   exact ⟨rfl, belowB⟩
  ·
   rw [decide_eq_true (by omega)]
   go_enter Tryz.func49, Tryz.ntmps49
   go_wp2
   go_returns
   exact ⟨rfl, belowB⟩
theorem oindex {v : Value} {l : List Int} {g : Nat} {tg : TypeId} (N : Int) (w : World) (h : IntsR w v l) (hb : Blk w g tg #[.int .i64 N]) (hl : l.length ≤ 100000) :
  Calls Tryz.prog 89 #[v, .func (.func 49) #[] #[.pointer (some ⟨g, 0, none⟩)]] w fun e w' => ∃ i, e = .returned (.int .i64 i) ∧ decide (0 ≤ i) = !okK l N l.length ∧ Steps w w' := by
 obtain ⟨ao, cap, rfl⟩ := h.shape
 have HC := Hid.mk_ h
 obtain ⟨n, hn⟩ : ∃ n, l.length = n := ⟨_, rfl⟩
 have HL := Hid.mk_ hn
 rw [hn] at HC hl ⊢
 have CL : ∀ w', Steps w w' → ∀ k, Calls Tryz.prog 49 #[.int .i64 k, .pointer (some ⟨g, 0, none⟩)] w' fun e w2 => e = .returned (.bool (!decide (-1 ≤ k ∧ k < N))) ∧ Steps w' w2 := fun w' s k => modds1 k N w' (hb.steps s)
 clear h hn hb
 go_enter Tryz.func89, Tryz.ntmps89
 go_wp2_with fail
 go_loopw [8] (fun kk wr => ∃ t : Nat, t ≤ n ∧ kk = .int .i64 t ∧ okK l N t = true ∧ Below w.heap.size w wr) (fun kk _ => n - (intOf kk).toNat)
 case atStart => exact ⟨0, by omega, rfl, rfl, belowB⟩
 case round =>
  obtain ⟨t, ht, rfl, hw, B⟩ := hrel
  rcases Nat.lt_or_ge t n with tn | tn
  ·
   have hlt : decide ((t : Int) < (n : Int)) = true := decide_eq_true (by omega)
   obtain ⟨b, of, rfl, hbl, h0⟩ := HC.out.at' (t := t) (by have := HL.out; omega)
   have c0 : wr.cell? ⟨b, of + t, none⟩ = some (.int .i64 (l.getD t 0)) := (B.cell (p := ⟨b, _, none⟩) hbl).trans h0
   have ck := fun w' (s : Steps w w') => CL w' s (l.getD t 0)
   have NO : decide (-1 ≤ l.getD t 0 ∧ l.getD t 0 < N) = false → okK l N n = false := fun e => okK_stay (i := t + 1) (by unfold okK; rw [e, Bool.and_false]) n (by omega)
   have YES : decide (-1 ≤ l.getD t 0 ∧ l.getD t 0 < N) = true → okK l N (t + 1) = true := fun e => by unfold okK; rw [hw, e]; rfl
   obtain ⟨s, hs⟩ : ∃ s, decide (-1 ≤ l.getD t 0 ∧ l.getD t 0 < N) = s := ⟨_, rfl⟩
   rw [hs] at ck NO YES
   obtain ⟨y, hy⟩ : ∃ y, l.getD t 0 = y := ⟨_, rfl⟩
   rw [hy] at c0 ck
   clear h0 hy hs CL
   go_wp2_with fail
   refine (ck _ belowB).mono ?_
   rintro e w1 ⟨rfl, hs1⟩
   have B1 : Below w.heap.size w w1 := belowA hs1
   clear ck hs1 B c0
   cases s with
   | false =>
    have N0 := NO rfl
    clear NO YES
    rw [show (!false) = true from rfl]
    go_wp2
    go_returns
    exact ⟨_, rfl, by rw [N0]; simp, B1⟩
   | true =>
    have Y0 := YES rfl
    clear NO YES
    rw [show (!true) = false from rfl]
    go_wp2
    go_roundw
    case rel => exact ⟨t + 1, by omega, by go_num, Y0, B1⟩
    case measure => simp [intOf]; omega
  ·
   obtain rfl : t = n := by omega
   go_wp2
   go_returns
   exact ⟨_, rfl, by rw [hw]; rfl, B⟩
theorem ocontains {v : Value} {l : List Int} {g : Nat} {tg : TypeId} (N : Int) (w : World) (h : IntsR w v l) (hb : Blk w g tg #[.int .i64 N]) (hl : l.length ≤ 100000) :
  Calls Tryz.prog 48 #[v, .func (.func 49) #[] #[.pointer (some ⟨g, 0, none⟩)]] w fun e w' => e = .returned (.bool (!okK l N l.length)) ∧ Steps w w' := by
 have ix := oindex N w h hb hl
 obtain ⟨ao, cap, rfl⟩ := h.shape
 clear h hl hb
 generalize okK l N l.length = L at *
 go_enter Tryz.func48, Tryz.ntmps48
 go_wp2_with fail
 refine ix.mono ?_
 rintro e w1 ⟨i, rfl, hi, hs⟩
 clear ix
 cases L with
 | true =>
  have g1 : ¬ 0 ≤ i := by simpa using hi
  go_wp2
  go_returns
  exact ⟨rfl, hs⟩
 | false =>
  have g1 : 0 ≤ i := by simpa using hi
  go_wp2
  go_returns
  exact ⟨rfl, hs⟩
theorem oddsQ_sz {w s : Rat} (hw : sz w 20) (hs : sz s 20) (l : List Int) (out : Nat → Bool) : ∀ n, sz (oddsQ w s l out n) (20 * n + 2)
 | 0 => sz_one
 | n + 1 => by
  unfold oddsQ
  have h := oddsQ_sz hw hs l out n
  split
  · exact h.mono (by omega)
  ·
   split
   · exact (h.mul hw).mono (by omega)
   · exact (h.mul hs).mono (by omega)
theorem odds_out {w s : Rat} {l : List Int} {out : Nat → Bool} {i : Nat} (h : out i = true) : oddsQ w s l out (i + 1) = oddsQ w s l out i := by
 show (if out i = true then _ else _) = _
 rw [if_pos h]
theorem odds_with {w s : Rat} {l : List Int} {out : Nat → Bool} {i : Nat} (h : out i = false) (h2 : 0 ≤ l.getD i 0) : oddsQ w s l out (i + 1) = oddsQ w s l out i * w := by
 show (if out i = true then _ else _) = _
 rw [if_neg (by rw [h]; decide), if_pos h2]
theorem odds_less {w s : Rat} {l : List Int} {out : Nat → Bool} {i : Nat} (h : out i = false) (h2 : ¬ 0 ≤ l.getD i 0) : oddsQ w s l out (i + 1) = oddsQ w s l out i * s := by
 show (if out i = true then _ else _) = _
 rw [if_neg (by rw [h]; decide), if_neg h2]
theorem sz_with {s h : Rat} (ss : sz s 2) (sh : sz h 2) (h0 : h ≠ 0) : sz (withQ s h) 20 := by
 unfold withQ
 exact ((((sz_one.sub ss).add (ss.mul sh)).div sh h0).mono (by omega))
theorem modds {ua1 ua5 ub1 ub5 uc1 uc5 : Bool} {ua2 ua6 ub2 ub6 uc2 uc6 : Option Addr} {ua3 ua4 ua7 ua8 ub3 ub4 ub7 ub8 uc3 uc4 uc7 uc8 : Nat} {R A n : Int} {gc : Nat} {tc : TypeId} {s : Rat} {vp vo : Value} {l lo : List Int} (w : World) (hc : Blk w gc tc #[.int .i64 0]) (hub : FR w (.agg #[.bool ub1, .slice ub2 ub3 ub4, .bool ub5, .slice ub6 ub7 ub8]) s) (ss : sz s 2) (r0 : 1 ≤ R) (r1 : R ≤ 65536) (a0 : 1 ≤ A) (a1 : A ≤ 17592186044416) (n2 : 1 ≤ n) (n1 : n ≤ 200) (hl : IntsR w vp l) (ho : IntsR w vo lo) (l0 : l.length ≤ 200) (l1 : lo.length ≤ 100000) :
  Calls Tryz.prog 51 #[.pointer (some ⟨gc, 0, none⟩), .agg #[.bool ua1, .slice ua2 ua3 ua4, .bool ua5, .slice ua6 ua7 ua8, .int .i64 R, .int .i64 A, .bool ub1, .slice ub2 ub3 ub4, .bool ub5, .slice ub6 ub7 ub8, .bool uc1, .slice uc2 uc3 uc4, .bool uc5, .slice uc6 uc7 uc8], vp, .int .i64 n, vo] w fun e w' => ∃ v, e = .returned v ∧ FR w' v (oddsQ (withQ s (chanceQ R A n)) s l (fun i => memI lo i lo.length) l.length) ∧ Steps w w' := by
 have sc := (sz_chance r0 r1 a0 a1 (show 0 ≤ n by omega) n1).1
 have hp := chance_pos r0 a0 n2
 have hne : chanceQ R A n ≠ 0 := Rat.ne_of_gt hp
 have sw := sz_with ss sc hne
 have KC : ∀ w', Below w.heap.size w w' → Blk w' gc tc #[.int .i64 0] := fun w' s => hc.steps s
 have CH := fun (w' : World) (s : Below w.heap.size w w') => mchance (ua1 := ua1) (ua2 := ua2) (ua3 := ua3) (ua4 := ua4) (ua5 := ua5) (ua6 := ua6) (ua7 := ua7) (ua8 := ua8) (ub1 := ub1) (ub2 := ub2) (ub3 := ub3) (ub4 := ub4) (ub5 := ub5) (ub6 := ub6) (ub7 := ub7) (ub8 := ub8) (uc1 := uc1) (uc2 := uc2) (uc3 := uc3) (uc4 := uc4) (uc5 := uc5) (uc6 := uc6) (uc7 := uc7) (uc8 := uc8) R A n w' (KC w' s) r0 r1 a0 a1 (by omega) n1
 have O1 : ∀ w', Below w.heap.size w w' → Calls Tryz.prog 66 #[.pointer (some ⟨gc, 0, none⟩), .int .i64 1] w' fun e w2 => ∃ v, e = .returned v ∧ FR w2 v (1 : Rat) ∧ Steps w' w2 := fun w' s => by have := mof 1 w' (KC w' s) (by decide) (by decide); rw [one_cast] at this; exact this
 have s1 : sz (1 : Rat) 2 := sz_one
 have CT := fun (w' : World) (s : Steps w w') (x : Int) => scontains x w' (ho.steps s) l1
 have OS := fun k => oddsQ_sz (w := withQ s (chanceQ R A n)) (s := s) sw (ss.mono (by omega)) l (fun i => memI lo i lo.length) k
 have OO := fun k => odds_out (w := withQ s (chanceQ R A n)) (s := s) (l := l) (out := fun i => memI lo i lo.length) (i := k)
 have OW := fun k => odds_with (w := withQ s (chanceQ R A n)) (s := s) (l := l) (out := fun i => memI lo i lo.length) (i := k)
 have OL := fun k => odds_less (w := withQ s (chanceQ R A n)) (s := s) (l := l) (out := fun i => memI lo i lo.length) (i := k)
 have OZ : oddsQ (withQ s (chanceQ R A n)) s l (fun i => memI lo i lo.length) 0 = 1 := rfl
 have eW : withQ s (chanceQ R A n) = (1 - s + s * chanceQ R A n) / chanceQ R A n := rfl
 generalize hOF : oddsQ (withQ s (chanceQ R A n)) s l (fun i => memI lo i lo.length) = OF at *
 (try dsimp only at OO OW OL)
 generalize hWQ : withQ s (chanceQ R A n) = wq at *
 generalize decide (chanceQ R A n < 1) = bl at *
 generalize chanceQ R A n = q at *
 have Fb := Hid.mk_ hub
 obtain ⟨ao, cap, rfl⟩ := hl.shape
 obtain ⟨ao', cap', rfl⟩ := ho.shape
 have HP := Hid.mk_ hl
 obtain ⟨N, hN⟩ : ∃ m, l.length = m := ⟨_, rfl⟩
 have HL := Hid.mk_ hN
 rw [hN] at HP l0 ⊢
 clear r0 r1 a0 a1 n2 n1 hp hub hl ho hc hOF hWQ hN
 go_enter Tryz.func51, Tryz.ntmps51
 go_wp2_with (first
  | (
    (with_reducible show wpList _ _ _ (⟨some 19, _, _, _, _, _⟩ :: _) _ _)
    refine load_big rfl 45 (.tmp 6) rfl (w.heap.size) rfl 45 #[.bool ua1, .slice ua2 ua3 ua4, .bool ua5, .slice ua6 ua7 ua8, .int .i64 R, .int .i64 A, .bool ub1, .slice ub2 ub3 ub4, .bool ub5, .slice ub6 ub7 ub8, .bool uc1, .slice uc2 uc3 uc4, .bool uc5, .slice uc6 uc7 uc8] _ ownK Tryz.underlying45 rfl (by kernel_rfl) ?_
    skip)
  )
 refine (CH _ belowB).mono ?_
 rintro e w1 ⟨vh_, rfl, hvh_, hb1⟩
 have st : Steps _ w1 := hb1
 have B : Below w.heap.size w w1 := belowA st
 have kp : Keeps w w1 := Keeps.then_ keepsB st
 have ou : Blk w1 (w.heap.size) 45 #[.bool ua1, .slice ua2 ua3 ua4, .bool ua5, .slice ua6 ua7 ua8, .int .i64 R, .int .i64 A, .bool ub1, .slice ub2 ub3 ub4, .bool ub5, .slice ub6 ub7 ub8, .bool uc1, .slice uc2 uc3 uc4, .bool uc5, .slice uc6 uc7 uc8] := Blk.stepsK st
 have or : Blk w1 (w.heap.size + 1) 28 #[.bool false, .slice none 0 0, .bool false, .slice none 0 0] := Blk.stepsK st
 replace Fb := Hid.mk_ (Fb.out.keeps kp)
 clear kp
 clear st
 obtain ⟨cu0, cu1, cu2, cu3, cu4, cu5, cu6, cu7, cu8, cu9, cu10, cu11, cu12, cu13⟩ := ou.r13
 have lu := ou.lt
 have lr := or.lt
 obtain ⟨h_1, h_2, h_3, h_4, h_5, h_6, h_7, h_8, rfl⟩ := hvh_.shape
 have Fh_ := Hid.mk_ hvh_
 clear hvh_
 have zr_1 : w.heap.size + 1 < w1.heap.size := or.lt
 have zz1 := B.size
 go_wp2_with fail
 go_upto_region 2 with fail
 refine Reg.wp_chain_n (fun N0 D v W => Below w.heap.size w W ∧ Keeps w1 W ∧ N0 ≤ W.heap.size ∧ Blk W (w.heap.size) 45 #[.bool ua1, .slice ua2 ua3 ua4, .bool ua5, .slice ua6 ua7 ua8, .int .i64 R, .int .i64 A, .bool ub1, .slice ub2 ub3 ub4, .bool ub5, .slice ub6 ub7 ub8, .bool uc1, .slice uc2 uc3 uc4, .bool uc5, .slice uc6 uc7 uc8] ∧ Blk W (w.heap.size + 1) 28 #[.bool false, .slice none 0 0, .bool false, .slice none 0 0] ∧ Blk W (w1.heap.size) 28 #[.bool h_1, .slice h_2 h_3 h_4, .bool h_5, .slice h_6 h_7 h_8] ∧ (D 19 = true → ∃ g : Nat, v 19 = .pointer (some ⟨g, 0, none⟩) ∧ N0 ≤ g ∧ g < W.heap.size ∧ (D 20 = false → Blk W g 28 #[.bool false, .slice none 0 0, .bool false, .slice none 0 0]) ∧ (D 20 = true → D 18 = true ∧ ∃ cs, v 18 = .agg cs ∧ Blk W g 28 cs)))
  (Reg.inl [4, 7, 12, 13, 15, 18, 19, 20]) (Reg.gv [(4, IsFr), (7, IsFr), (12, IsFr), (13, IsFr), (15, IsFrE 0), (18, IsFr), (19, IsPtr)]) (gw [(4, GFr (1)), (7, GFr ((1 - s))), (12, GFr ((s * q))), (13, GFr (((1 - s) + (s * q)))), (15, GFrE ((((1 - s) + (s * q)) / q)) 0), (18, GFr ((((1 - s) + (s * q)) / q)))]) (fun _ => Keeps) (fun _ _ => False) (Reg.pl [(7, [(4, some 28)]), (13, [(7, some 31), (12, some 36)]), (15, [(13, some 37)]), (18, [(15, some 39)]), (20, [(18, some 42), (19, some 13)]), (21, [(4, some 28), (7, some 31), (12, some 36), (13, some 37), (15, some 39), (18, some 42), (19, some 13)])]) (Reg.pl [(19, [20]), (18, [20])])
  (by kernel_rfl) (by kernel_rfl) (by kernel_rfl) (Reg.gvA _) (fun N0 hN0 => ⟨fun v => ?_, fun D v v' W hv hj => ?_, fun D v k j W W' x _ _ _ _ hk hg => gwA hk hg, fun _ _ _ _ h => h.elim, fun ops' Q' hops hQ => ?_⟩)
 · exact ⟨belowB, keepsB, by first | with_reducible exact Nat.le_of_eq hN0.out | (simp only [World.size_drew]; with_reducible exact Nat.le_of_eq hN0.out), ownK, ownK, ownK, (fun h => Bool.noConfusion h)⟩
 ·
  obtain ⟨j0, jk, jn, b_u, b_r, b_vh, a_19⟩ := hj
  exact ⟨j0, jk, jn, b_u, b_r, b_vh, fun h => by obtain ⟨g, e1, e2, e3, e4, e5⟩ := a_19 h; exact ⟨g, (hv 19 h) ▸ e1, e2, e3, e4, fun h => by obtain ⟨d, cs, e, hb⟩ := e5 h; exact ⟨d, cs, (hv 18 d) ▸ e, hb⟩⟩⟩
 have eN := hN0.out
 try simp only [World.size_alloc, World.size_setCell, World.size_drew, World.heap_drewN] at eN
 have i_u : w.heap.size < N0 := by first | omega | (have h := ou.lt; omega)
 have i_r : w.heap.size + 1 < N0 := by first | omega | (have h := or.lt; omega)
 have i_vh : w1.heap.size < N0 := by first | omega | (have h := ovh.lt; omega)
 have iw : w.heap.size ≤ N0 := by first | omega | (have h := B.size; omega)
 clear cu0 cu1 cu2 cu3 cu4 cu5 cu6 cu7 cu8 cu9 cu10 cu11 cu12 cu13 lu lr
 clear hN0
 refine Reg.RP0 24 ?_
 refine Reg.RP0 25 ?_
 refine Reg.RP0 26 ?_
 refine Reg.RP0 27 ?_
 refine Reg.RC_call rfl (tlt rfl) rfl (fun D v' W' hc hj hf K hK => ?_) ?_
 ·
  obtain ⟨j0, jk, jn, b_u, b_r, b_vh, a_19⟩ := hj
  clear hf
  go_step
  refine (O1 W' j0).mono ?_
  rintro e W2 ⟨u, rfl, hu, hs⟩
  obtain ⟨k_1, k_2, k_3, k_4, k_5, k_6, k_7, k_8, rfl⟩ := hu.shape
  exact hK.out _ W2 (Keeps.steps hs) ⟨jst j0 hs, jk.then_ hs, jsz jn hs, b_u.steps hs, b_r.steps hs, b_vh.steps hs, fun h => by obtain ⟨g, e1, e2, e3, e4, e5⟩ := a_19 h; exact ⟨g, e1, e2, Nat.lt_of_lt_of_le e3 (hs).size, fun h => (e4 h).steps hs, fun h => by obtain ⟨d, cs, e, hb⟩ := e5 h; exact ⟨d, cs, e, hb.steps hs⟩⟩⟩ hu ⟨_, _, _, _, _, _, _, _, rfl⟩
 rintro _ ⟨k_1, k_2, k_3, k_4, k_5, k_6, k_7, k_8, rfl⟩
 refine Reg.at70 rfl ?_
 refine Reg.RP0 29 ?_
 apply Reg.RP rfl rfl rfl 30 rfl rfl
 ·
  intro D v' W' hc hj hf K hK
  obtain ⟨j0, jk, jn, b_u, b_r, b_vh, a_19⟩ := hj
  have c6 := b_u.q6
  have c7 := b_u.q7
  have c8 := b_u.q8
  have c9 := b_u.q9
  go_step
  exact hK.out
 · rfl
 refine Reg.RC_call rfl (tlt rfl) rfl (fun D v' W' hc hj hf K hK => ?_) ?_
 ·
  obtain ⟨j0, jk, jn, b_u, b_r, b_vh, a_19⟩ := hj
  have g4 : GFr (1) _ W' := (hf (4, some 28) (.head _) rfl).2.2
  have g4 : FR W' _ (1) := g4
  clear hf
  go_step
  refine (msub W' (KC _ j0) g4 (Fb.out.keeps jk) s1 ss (by omega)).mono ?_
  rintro e W2 ⟨u, rfl, hu, hs⟩
  obtain ⟨xa1, xa2, xa3, xa4, xa5, xa6, xa7, xa8, rfl⟩ := hu.shape
  exact hK.out _ W2 (Keeps.steps hs) ⟨jst j0 hs, jk.then_ hs, jsz jn hs, b_u.steps hs, b_r.steps hs, b_vh.steps hs, fun h => by obtain ⟨g, e1, e2, e3, e4, e5⟩ := a_19 h; exact ⟨g, e1, e2, Nat.lt_of_lt_of_le e3 (hs).size, fun h => (e4 h).steps hs, fun h => by obtain ⟨d, cs, e, hb⟩ := e5 h; exact ⟨d, cs, e, hb.steps hs⟩⟩⟩ hu ⟨_, _, _, _, _, _, _, _, rfl⟩
 rintro _ ⟨xa1, xa2, xa3, xa4, xa5, xa6, xa7, xa8, rfl⟩
 refine Reg.at70 rfl ?_
 refine Reg.RP0 32 ?_
 refine Reg.RP0 33 ?_
 apply Reg.RP rfl rfl rfl 34 rfl rfl
 ·
  intro D v' W' hc hj hf K hK
  obtain ⟨j0, jk, jn, b_u, b_r, b_vh, a_19⟩ := hj
  have c6 := b_u.q6
  have c7 := b_u.q7
  have c8 := b_u.q8
  have c9 := b_u.q9
  go_step
  exact hK.out
 · rfl
 apply Reg.RP rfl rfl rfl 35 rfl rfl
 ·
  intro D v' W' hc hj hf K hK
  obtain ⟨j0, jk, jn, b_u, b_r, b_vh, a_19⟩ := hj
  obtain ⟨c0, c1, c2, c3⟩ := b_vh.r3
  go_step
  exact hK.out
 · rfl
 refine Reg.RC_call rfl (tlt rfl) rfl (fun D v' W' hc hj hf K hK => ?_) ?_
 ·
  obtain ⟨j0, jk, jn, b_u, b_r, b_vh, a_19⟩ := hj
  clear hf
  go_step
  refine (mmul W' (KC _ j0) (Fb.out.keeps jk) (Fh_.out.keeps jk) ss sc (by omega)).mono ?_
  rintro e W2 ⟨u, rfl, hu, hs⟩
  obtain ⟨xb1, xb2, xb3, xb4, xb5, xb6, xb7, xb8, rfl⟩ := hu.shape
  exact hK.out _ W2 (Keeps.steps hs) ⟨jst j0 hs, jk.then_ hs, jsz jn hs, b_u.steps hs, b_r.steps hs, b_vh.steps hs, fun h => by obtain ⟨g, e1, e2, e3, e4, e5⟩ := a_19 h; exact ⟨g, e1, e2, Nat.lt_of_lt_of_le e3 (hs).size, fun h => (e4 h).steps hs, fun h => by obtain ⟨d, cs, e, hb⟩ := e5 h; exact ⟨d, cs, e, hb.steps hs⟩⟩⟩ hu ⟨_, _, _, _, _, _, _, _, rfl⟩
 rintro _ ⟨xb1, xb2, xb3, xb4, xb5, xb6, xb7, xb8, rfl⟩
 refine Reg.at70 rfl ?_
 refine Reg.RC_call rfl (tlt rfl) rfl (fun D v' W' hc hj hf K hK => ?_) ?_
 ·
  obtain ⟨j0, jk, jn, b_u, b_r, b_vh, a_19⟩ := hj
  have g7 : GFr ((1 - s)) _ W' := (hf (7, some 31) (.head _) rfl).2.2
  have g7 : FR W' _ ((1 - s)) := g7
  have g12 : GFr ((s * q)) _ W' := (hf (12, some 36) (.tail _ (.head _)) rfl).2.2
  have g12 : FR W' _ ((s * q)) := g12
  clear hf
  go_step
  refine (madd W' (KC _ j0) g7 g12 (s1.sub ss) (ss.mul sc) (by omega)).mono ?_
  rintro e W2 ⟨u, rfl, hu, hs⟩
  obtain ⟨xc1, xc2, xc3, xc4, xc5, xc6, xc7, xc8, rfl⟩ := hu.shape
  exact hK.out _ W2 (Keeps.steps hs) ⟨jst j0 hs, jk.then_ hs, jsz jn hs, b_u.steps hs, b_r.steps hs, b_vh.steps hs, fun h => by obtain ⟨g, e1, e2, e3, e4, e5⟩ := a_19 h; exact ⟨g, e1, e2, Nat.lt_of_lt_of_le e3 (hs).size, fun h => (e4 h).steps hs, fun h => by obtain ⟨d, cs, e, hb⟩ := e5 h; exact ⟨d, cs, e, hb.steps hs⟩⟩⟩ hu ⟨_, _, _, _, _, _, _, _, rfl⟩
 rintro _ ⟨xc1, xc2, xc3, xc4, xc5, xc6, xc7, xc8, rfl⟩
 refine Reg.at70 rfl ?_
 apply Reg.RP rfl rfl rfl 38 rfl rfl
 ·
  intro D v' W' hc hj hf K hK
  obtain ⟨j0, jk, jn, b_u, b_r, b_vh, a_19⟩ := hj
  obtain ⟨c0, c1, c2, c3⟩ := b_vh.r3
  go_step
  exact hK.out
 · rfl
 refine Reg.RC_call rfl (tlt rfl) rfl (fun D v' W' hc hj hf K hK => ?_) ?_
 ·
  obtain ⟨j0, jk, jn, b_u, b_r, b_vh, a_19⟩ := hj
  have g13 : GFr (((1 - s) + (s * q))) _ W' := (hf (13, some 37) (.head _) rfl).2.2
  have g13 : FR W' _ (((1 - s) + (s * q))) := g13
  clear hf
  go_step
  refine (fDivQ W' g13 (Fh_.out.keeps jk) ((s1.sub ss).add (ss.mul sc)) sc (by omega) hne).mono ?_
  rintro e W2 ⟨u, rfl, hu, hs⟩
  obtain ⟨xd1, xd2, xd3, xd4, xd5, xd6, xd7, xd8, rfl⟩ := hu.shape
  exact hK.out _ W2 (Keeps.steps hs) ⟨jst j0 hs, jk.then_ hs, jsz jn hs, b_u.steps hs, b_r.steps hs, b_vh.steps hs, fun h => by obtain ⟨g, e1, e2, e3, e4, e5⟩ := a_19 h; exact ⟨g, e1, e2, Nat.lt_of_lt_of_le e3 (hs).size, fun h => (e4 h).steps hs, fun h => by obtain ⟨d, cs, e, hb⟩ := e5 h; exact ⟨d, cs, e, hb.steps hs⟩⟩⟩ ⟨_, rfl, hu⟩ ⟨_, _, _, _, _, _, _, _, rfl⟩
 rintro _ ⟨xd1, xd2, xd3, xd4, xd5, xd6, xd7, xd8, rfl⟩
 refine Reg.at70 rfl ?_
 refine Reg.RP0 40 ?_
 refine Reg.RP0 41 ?_
 refine Reg.RC_call rfl (tlt rfl) rfl (fun D v' W' hc hj hf K hK => ?_) ?_
 ·
  obtain ⟨j0, jk, jn, b_u, b_r, b_vh, a_19⟩ := hj
  have g15 : GFrE ((((1 - s) + (s * q)) / q)) 0 _ W' := (hf (15, some 39) (.head _) rfl).2.2
  have g15 := g15.get
  clear hf
  go_step
  refine (mkeepQ W' (KC _ j0) g15).mono ?_
  rintro e W2 ⟨u, rfl, hu, hs⟩
  obtain ⟨wi1, wi2, wi3, wi4, wi5, wi6, wi7, wi8, rfl⟩ := hu.shape
  exact hK.out _ W2 (Keeps.steps hs) ⟨jst j0 hs, jk.then_ hs, jsz jn hs, b_u.steps hs, b_r.steps hs, b_vh.steps hs, fun h => by obtain ⟨g, e1, e2, e3, e4, e5⟩ := a_19 h; exact ⟨g, e1, e2, Nat.lt_of_lt_of_le e3 (hs).size, fun h => (e4 h).steps hs, fun h => Bool.noConfusion ((hc.2 20 (by decide)).symm.trans h)⟩⟩ hu ⟨_, _, _, _, _, _, _, _, rfl⟩
 rintro _ ⟨wi1, wi2, wi3, wi4, wi5, wi6, wi7, wi8, rfl⟩
 refine Reg.at70 rfl ?_
 refine Reg.RC_call rfl (tlt rfl) rfl (fun D v' W' hc hj hf K hK => ?_) ?_
 ·
  obtain ⟨j0, jk, jn, b_u, b_r, b_vh, a_19⟩ := hj
  go_step
  have hs : ∀ o : Obj, Steps W' (W'.alloc o) := fun o => (Below.refl _ _).alloc (Nat.le_refl _) o
  exact hK.out _ _ (Keeps.steps (hs _)) ⟨jst j0 (hs _), jk.then_ (hs _), jsz jn (hs _), b_u.steps (hs _), b_r.steps (hs _), b_vh.steps (hs _), fun _ => ⟨W'.heap.size, rfl, jn, by rw [World.size_alloc]; omega, fun _ => Blk.new _ _ _, fun h => Bool.noConfusion ((hc.2 20 (by decide)).symm.trans h)⟩⟩ trivial ⟨_, rfl⟩
 rintro _ ⟨p13, rfl⟩
 refine Reg.at70 rfl ?_
 refine Reg.RC_call rfl (by intro t ht; cases ht) rfl (fun D v' W' hc hj hf K hK => ?_) (fun _ _ => Reg.RC_at (b := ⟨_, _⟩) rfl ?_)
 ·
  obtain ⟨j0, jk, jn, b_u, b_r, b_vh, a_19⟩ := hj
  have f := hf (19, some 13) (.tail _ (.head _)) rfl
  have e6 : v' 19 = .pointer (some ⟨p13, 0, none⟩) := f.2.1
  obtain ⟨g, e1, e2, e3, e4, e5⟩ := a_19 f.1
  obtain rfl : p13 = g := Reg.ptr_eq (e6.symm.trans e1)
  have hb := e4 hc.1
  clear e4 e5
  have fc := hf (18, some 42) (.head _) rfl
  have ec : v' 18 = .agg #[.bool wi1, .slice wi2 wi3 wi4, .bool wi5, .slice wi6 wi7 wi8] := fc.2.1
  have ff := hb.fr
  obtain ⟨cc0, cc1, cc2, cc3⟩ := hb.r3
  go_step
  exact hK.out undef _ (keeps4 hb rfl) ⟨(below4 j0 (by show w.heap.size ≤ p13; omega)), jk.trans (keeps4 hb rfl), by simpa using jn, (b_u).far4 (show w.heap.size ≠ p13 by omega), (b_r).far4 (show w.heap.size + 1 ≠ p13 by omega), (b_vh).far4 (show w1.heap.size ≠ p13 by omega), fun _ => ⟨p13, e1, e2, by simpa using e3, fun h => Bool.noConfusion h, fun _ => ⟨fc.1, _, ec, (Blk.set2 (cs' := #[.bool wi1, .slice wi2 wi3 wi4, .bool wi5, .slice wi6 wi7 wi8]) (Blk.set2 (cs' := #[.bool wi1, .slice wi2 wi3 wi4, .bool wi5, .slice none 0 0]) (Blk.set2 (cs' := #[.bool wi1, .slice wi2 wi3 wi4, .bool false, .slice none 0 0]) (Blk.set2 (cs' := #[.bool wi1, .slice none 0 0, .bool false, .slice none 0 0]) hb (i := 0) rfl) (i := 1) rfl) (i := 2) rfl) (i := 3) rfl)⟩⟩⟩ trivial trivial
 refine Reg.RC_end (fun Dn v' w2 hd hj hf => ?_)
 obtain ⟨j0, jk, jn, b_u, b_r, b_vh, a_19⟩ := hj
 have B := j0
 have ou := b_u
 clear b_u
 have or := b_r
 clear b_r
 have ovh := b_vh
 clear b_vh
 have f := hf (19, some 13) (.tail _ (.tail _ (.tail _ (.tail _ (.tail _ (.tail _ (.head _))))))) rfl
 have e6_ : v' 19 = .pointer (some ⟨p13, 0, none⟩) := f.2.1
 obtain ⟨g, e1_, zvw, -, -, e5_⟩ := a_19 f.1
 obtain rfl : p13 = g := Reg.ptr_eq (e6_.symm.trans e1_)
 obtain ⟨-, cs_, ee, ovw⟩ := e5_ (hd 20 (Nat.le_of_ble_eq_true rfl))
 have ef : v' 18 = .agg #[.bool wi1, .slice wi2 wi3 wi4, .bool wi5, .slice wi6 wi7 wi8] := (hf (18, some 42) (.tail _ (.tail _ (.tail _ (.tail _ (.tail _ (.head _)))))) rfl).2.1
 obtain rfl : #[.bool wi1, .slice wi2 wi3 wi4, .bool wi5, .slice wi6 wi7 wi8] = cs_ := by have := ef.symm.trans ee; simpa only [Value.tuple.injEq, Value.agg.injEq, Array.mk.injEq, List.cons.injEq, and_true, true_and] using this
 clear ee ef f e5_ e1_ e6_
 have Fwi : Hid (FR w2 (.agg #[.bool wi1, .slice wi2 wi3 wi4, .bool wi5, .slice wi6 wi7 wi8]) ((((1 - s) + (s * q)) / q))) := (hf (18, some 42) (.tail _ (.tail _ (.tail _ (.tail _ (.tail _ (.head _)))))) rfl).2.2
 replace Fb := Hid.mk_ (Fb.out.keeps jk)
 replace Fh_ := Hid.mk_ (Fh_.out.keeps jk)
 clear hd hf jk j0
 refine hQ _ _ ?_
 clear hQ hops Q' ops'
 rw [← eW] at Fwi
 go_wp2_with fail
 refine (O1 _ belowB).mono ?_
 rintro e w3 ⟨vp_, rfl, hvp_, hb3⟩
 have st : Steps _ w3 := hb3
 have sk : Below w2.heap.size w2 w3 := belowA st
 replace B := below_steps B (Nat.le_refl _) sk
 replace ou := ou.steps sk
 replace or := or.steps sk
 replace ovh := ovh.steps sk
 replace ovw := ovw.steps sk
 replace Fb := Hid.mk_ (Fb.out.steps sk)
 replace Fh_ := Hid.mk_ (Fh_.out.steps sk)
 replace Fwi := Hid.mk_ (Fwi.out.steps sk)
 clear st sk
 obtain ⟨p_1, p_2, p_3, p_4, p_5, p_6, p_7, p_8, rfl⟩ := hvp_.shape
 have Fp_ := Hid.mk_ hvp_
 clear hvp_
 have zvw_3 : p13 < w3.heap.size := ovw.lt
 have zz3 := B.size
 go_wp2_with fail
 have OZ' : Hid (FR _ (.agg #[.bool p_1, .slice p_2 p_3 p_4, .bool p_5, .slice p_6 p_7 p_8]) (OF 0)) := Hid.mk_ (by rw [OZ]; exact Fp_.out)
 go_loopw [47] (fun sl0 wr => ∃ (i : Nat) (y1 : Bool) (y2 : Option Addr) (y3 y4 : Nat) (y5 : Bool) (y6 : Option Addr) (y7 y8 : Nat), i ≤ N ∧ sl0 = .int .i64 i ∧ Blk wr (w3.heap.size) 28 #[.bool y1, .slice y2 y3 y4, .bool y5, .slice y6 y7 y8] ∧ FR wr (.agg #[.bool y1, .slice y2 y3 y4, .bool y5, .slice y6 y7 y8]) (OF i) ∧ Blk wr (w.heap.size) 45 #[.bool ua1, .slice ua2 ua3 ua4, .bool ua5, .slice ua6 ua7 ua8, .int .i64 R, .int .i64 A, .bool ub1, .slice ub2 ub3 ub4, .bool ub5, .slice ub6 ub7 ub8, .bool uc1, .slice uc2 uc3 uc4, .bool uc5, .slice uc6 uc7 uc8] ∧ Blk wr (w.heap.size + 1) 28 #[.bool false, .slice none 0 0, .bool false, .slice none 0 0] ∧ Blk wr (w1.heap.size) 28 #[.bool h_1, .slice h_2 h_3 h_4, .bool h_5, .slice h_6 h_7 h_8] ∧ Blk wr (p13) 28 #[.bool wi1, .slice wi2 wi3 wi4, .bool wi5, .slice wi6 wi7 wi8] ∧ Below w.heap.size w wr ∧ Keeps w3 wr) (fun sl0 _ => N - (intOf sl0).toNat)
 case atStart => exact ⟨0, _, _, _, _, _, _, _, _, by omega, rfl, ownK, OZ'.out.keeps keepsB, ownK, ownK, ownK, ownK, belowB, keepsB⟩
 case round =>
  clear OZ' Fp_
  clear ou or ovh ovw
  clear B
  obtain ⟨i, y1, y2, y3, y4, y5, y6, y7, y8, hi, rfl, ovp, fy, ou, or, ovh, ovw, B, kk⟩ := hrel
  replace Fb := Hid.mk_ (Fb.out.keeps kk)
  replace Fh_ := Hid.mk_ (Fh_.out.keeps kk)
  replace Fwi := Hid.mk_ (Fwi.out.keeps kk)
  have Fy := Hid.mk_ fy
  clear fy
  have OSi := OS i
  have lu := ou.lt
  obtain ⟨cr0, cr1, cr2, cr3, fr, lr⟩ := or.s3
  obtain ⟨cvp0, cvp1, cvp2, cvp3⟩ := ovp.r3
  have lvp := ovp.lt
  rcases Nat.lt_or_ge i N with i4 | i4
  ·
   have hlt : decide ((i : Int) < (N : Int)) = true := decide_eq_true (by omega)
   obtain ⟨b, of, rfl, hbl, h0⟩ := HP.out.at' (t := i) (by have := HL.out; omega)
   have c0 : wr.cell? ⟨b, of + i, none⟩ = some (.int .i64 (l.getD i 0)) := (B.cell (p := ⟨b, _, none⟩) hbl).trans h0
   have ct := fun (w' : World) (s : Below w.heap.size w w') => CT w' s (i : Int)
   have oo := OO i
   have ow := OW i
   have ol := OL i
   generalize memI lo (i : Int) lo.length = m at ct oo ow ol
   generalize l.getD i 0 = y at c0 ow ol
   clear h0 CT OO OW OL OS
   go_wp2_with fail
   refine (ct _ belowB).mono ?_
   rintro e w4 ⟨rfl, hb4⟩
   have st : Steps _ w4 := hb4
   have sk : Below wr.heap.size wr w4 := belowA st
   replace B := below_steps B (Nat.le_refl _) sk
   replace ou := ou.steps sk
   replace or := or.steps sk
   replace ovh := ovh.steps sk
   replace ovw := ovw.steps sk
   replace ovp := ovp.steps sk
   replace Fb := Hid.mk_ (Fb.out.steps sk)
   replace Fh_ := Hid.mk_ (Fh_.out.steps sk)
   replace Fwi := Hid.mk_ (Fwi.out.steps sk)
   replace Fy := Hid.mk_ (Fy.out.steps sk)
   replace kk := kk.then_ sk
   clear st sk lu cr0 cr1 cr2 cr3 fr lr cvp0 cvp1 cvp2 cvp3 lvp
   obtain ⟨cu0, cu1, cu2, cu3, cu4, cu5, cu6, cu7, cu8, cu9, cu10, cu11, cu12, cu13⟩ := ou.r13
   have lu := ou.lt
   have lr := or.lt
   obtain ⟨cvw0, cvw1, cvw2, cvw3⟩ := ovw.r3
   have lvw := ovw.lt
   obtain ⟨cvp0, cvp1, cvp2, cvp3⟩ := ovp.r3
   have lvp := ovp.lt
   cases m with
   | true =>
    have e0 := oo rfl
    clear oo ow ol c0
    go_wp2_with fail
    go_roundw
    case rel => exact ⟨i + 1, _, _, _, _, _, _, _, _, by omega, by go_num, ownK, (by rw [e0]; exact Fy.out.keeps keepsB), ownK, ownK, ownK, ownK, belowB, kk.trans keepsB⟩
    case measure => simp [intOf]; omega
   | false =>
    by_cases h0 : 0 ≤ y
    ·
     have e0 := ow rfl (by omega)
     clear oo ow ol
     go_wp2_with fail
     refine (mmul _ (KC _ belowB) (Fy.out.keeps keepsB) (Fwi.out.keeps keepsB) OSi sw (by omega)).mono ?_
     rintro e w5 ⟨vxf, rfl, hvxf, hb5⟩
     have st : Steps _ w5 := hb5
     have sk : Below w4.heap.size w4 w5 := belowA st
     replace B := below_steps B (Nat.le_refl _) sk
     replace ou := ou.steps sk
     replace or := or.steps sk
     replace ovh := ovh.steps sk
     replace ovw := ovw.steps sk
     replace ovp := ovp.steps sk
     replace Fb := Hid.mk_ (Fb.out.steps sk)
     replace Fh_ := Hid.mk_ (Fh_.out.steps sk)
     replace Fwi := Hid.mk_ (Fwi.out.steps sk)
     replace Fy := Hid.mk_ (Fy.out.steps sk)
     replace kk := kk.then_ sk
     clear st sk cu0 cu1 cu2 cu3 cu4 cu5 cu6 cu7 cu8 cu9 cu10 cu11 cu12 cu13 lu lr cvw0 cvw1 cvw2 cvw3 lvw cvp0 cvp1 cvp2 cvp3 lvp
     obtain ⟨cvp0, cvp1, cvp2, cvp3, fvp, lvp⟩ := ovp.s3
     obtain ⟨xf1, xf2, xf3, xf4, xf5, xf6, xf7, xf8, rfl⟩ := hvxf.shape
     have Fxf := Hid.mk_ hvxf
     clear hvxf
     go_wp2_with fail
     go_roundw
     case rel => exact ⟨i + 1, _, _, _, _, _, _, _, _, by omega, by go_num, ownK, (by rw [e0]; exact Fxf.out.keeps keepsB), ownK, ownK, ownK, ownK, belowB, kk.trans keepsB⟩
     case measure => simp [intOf]; omega
    ·
     have e0 := ol rfl (by omega)
     clear oo ow ol
     go_wp2_with fail
     refine (mmul _ (KC _ belowB) (Fy.out.keeps keepsB) (Fb.out.keeps keepsB) OSi ss (by omega)).mono ?_
     rintro e w5 ⟨vxh, rfl, hvxh, hb5⟩
     have st : Steps _ w5 := hb5
     have sk : Below w4.heap.size w4 w5 := belowA st
     replace B := below_steps B (Nat.le_refl _) sk
     replace ou := ou.steps sk
     replace or := or.steps sk
     replace ovh := ovh.steps sk
     replace ovw := ovw.steps sk
     replace ovp := ovp.steps sk
     replace Fb := Hid.mk_ (Fb.out.steps sk)
     replace Fh_ := Hid.mk_ (Fh_.out.steps sk)
     replace Fwi := Hid.mk_ (Fwi.out.steps sk)
     replace Fy := Hid.mk_ (Fy.out.steps sk)
     replace kk := kk.then_ sk
     clear st sk cu0 cu1 cu2 cu3 cu4 cu5 cu6 cu7 cu8 cu9 cu10 cu11 cu12 cu13 lu lr cvw0 cvw1 cvw2 cvw3 lvw cvp0 cvp1 cvp2 cvp3 lvp
     obtain ⟨cvp0, cvp1, cvp2, cvp3, fvp, lvp⟩ := ovp.s3
     obtain ⟨xh1, xh2, xh3, xh4, xh5, xh6, xh7, xh8, rfl⟩ := hvxh.shape
     have Fxh := Hid.mk_ hvxh
     clear hvxh
     go_wp2_with fail
     go_roundw
     case rel => exact ⟨i + 1, _, _, _, _, _, _, _, _, by omega, by go_num, ownK, (by rw [e0]; exact Fxh.out.keeps keepsB), ownK, ownK, ownK, ownK, belowB, kk.trans keepsB⟩
     case measure => simp [intOf]; omega
  ·
   obtain rfl : i = N := by omega
   go_wp2_with fail
   refine bodyPost_ret (by simp [results, Tryz.results51, go_sem, lu, cr0, cr1, cr2, cr3, fr, lr, cvp0, cvp1, cvp2, cvp3, lvp]; rfl) rfl ?_
   exact ⟨_, rfl, Fy.out.keeps keepsB, belowB⟩
def oddsE (K : Bool) (N : Nat) (ok : Bool) (n : Int) (less : Bool) : Int := if K = false then 8 else if 200 < N then 4 else if (n < 1 ∨ 200 < n) ∨ ok = false then 2 else if less = false then 2 else 0
def oddsR (e : Int) (r : Rat) : Option Rat := if e = 0 then some r else none
theorem mOdds {ua1 ua5 ub1 ub5 uc1 uc5 : Bool} {ua2 ua6 ub2 ub6 uc2 uc6 : Option Addr} {ua3 ua4 ua7 ua8 ub3 ub4 ub7 ub8 uc3 uc4 uc7 uc8 : Nat} {R A n : Int} {O : Nat → Option Rat} {vp : Value} {l : List Int} (w : World) (b0 : FB w (.agg #[.bool ua1, .slice ua2 ua3 ua4, .bool ua5, .slice ua6 ua7 ua8]) (O 0)) (b1 : FB w (.agg #[.bool ub1, .slice ub2 ub3 ub4, .bool ub5, .slice ub6 ub7 ub8]) (O 1)) (b2 : FB w (.agg #[.bool uc1, .slice uc2 uc3 uc4, .bool uc5, .slice uc6 uc7 uc8]) (O 2)) (fw : FewL O (f4v ua3 ub3 uc3 uc3) (f4v ua7 ub7 uc7 uc7) 3) (hl : IntsR w vp l) :
  Calls Tryz.prog 19 #[.agg #[.bool ua1, .slice ua2 ua3 ua4, .bool ua5, .slice ua6 ua7 ua8, .int .i64 R, .int .i64 A, .bool ub1, .slice ub2 ub3 ub4, .bool ub5, .slice ub6 ub7 ub8, .bool uc1, .slice uc2 uc3 uc4, .bool uc5, .slice uc6 uc7 uc8], vp, .int .i64 n] w fun e w' => ∃ v, e = .returned (.tuple #[v, .int .i64 (oddsE (ruleOk O (f4v ua3 ub3 uc3 uc3) (f4v ua7 ub7 uc7 uc7) R A ua1) l.length (okK l n l.length) n (decide (chanceQ R A n < 1)))]) ∧ FO w' v (oddsR (oddsE (ruleOk O (f4v ua3 ub3 uc3 uc3) (f4v ua7 ub7 uc7 uc7) R A ua1) l.length (okK l n l.length) n (decide (chanceQ R A n < 1))) (oddsQ (withQ ((O 1).getD 0) (chanceQ R A n)) ((O 1).getD 0) l noOut l.length)) ∧ Steps w w' := by
 have CK : ∀ w', Keeps w w' → Calls Tryz.prog 26 #[.agg #[.bool ua1, .slice ua2 ua3 ua4, .bool ua5, .slice ua6 ua7 ua8, .int .i64 R, .int .i64 A, .bool ub1, .slice ub2 ub3 ub4, .bool ub5, .slice ub6 ub7 ub8, .bool uc1, .slice uc2 uc3 uc4, .bool uc5, .slice uc6 uc7 uc8]] w' fun e w2 => e = .returned (.int .i64 (apErr (ruleOk O (f4v ua3 ub3 uc3 uc3) (f4v ua7 ub7 uc7 uc7) R A ua1))) ∧ Steps w' w2 := fun w' k => mCheck w' (b0.keeps k) (b1.keeps k) (b2.keeps k) fw
 have RK : ruleOk O (f4v ua3 ub3 uc3 uc3) (f4v ua7 ub7 uc7 uc7) R A ua1 = true → (1 ≤ R ∧ R ≤ 65536 ∧ 1 ≤ A ∧ A ≤ 17592186044416) ∧ ∃ r, O 1 = some r ∧ (O 1).getD 0 = r ∧ sz r 2 := fun h => by
  obtain ⟨hL, hR, _⟩ := ruleOk_iff.1 h
  obtain ⟨r1, e1, z1⟩ := limL_sz hL fw 1 (by omega)
  exact ⟨hR, r1, e1, by rw [e1]; rfl, z1⟩
 have CH : (1 ≤ R ∧ R ≤ 65536 ∧ 1 ≤ A ∧ A ≤ 17592186044416) → 1 ≤ n → n ≤ 200 → ∀ w' g, Blk w' g 89 #[.int .i64 0] → Calls Tryz.prog 50 #[.pointer (some ⟨g, 0, none⟩), .agg #[.bool ua1, .slice ua2 ua3 ua4, .bool ua5, .slice ua6 ua7 ua8, .int .i64 R, .int .i64 A, .bool ub1, .slice ub2 ub3 ub4, .bool ub5, .slice ub6 ub7 ub8, .bool uc1, .slice uc2 uc3 uc4, .bool uc5, .slice uc6 uc7 uc8], .int .i64 n] w' fun e w2 => ∃ v, e = .returned (.tuple #[v, .bool (decide (chanceQ R A n < 1))]) ∧ FR w2 v (chanceQ R A n) ∧ Steps w' w2 := fun hr n0 n1 w' g hb => mchance (ua1 := ua1) (ua2 := ua2) (ua3 := ua3) (ua4 := ua4) (ua5 := ua5) (ua6 := ua6) (ua7 := ua7) (ua8 := ua8) (ub1 := ub1) (ub2 := ub2) (ub3 := ub3) (ub4 := ub4) (ub5 := ub5) (ub6 := ub6) (ub7 := ub7) (ub8 := ub8) (uc1 := uc1) (uc2 := uc2) (uc3 := uc3) (uc4 := uc4) (uc5 := uc5) (uc6 := uc6) (uc7 := uc7) (uc8 := uc8) R A n w' hb hr.1 hr.2.1 hr.2.2.1 hr.2.2.2 (by omega) n1
 have OC := fun (w' : World) (g : Nat) (s : Steps w w') (hN : l.length ≤ 200) (hb : Blk w' g 3 #[.int .i64 n]) => ocontains n w' (hl.steps s) hb (by omega)
 have OD : (1 ≤ R ∧ R ≤ 65536 ∧ 1 ≤ A ∧ A ≤ 17592186044416) → 1 ≤ n → n ≤ 200 → l.length ≤ 200 → ∀ r, O 1 = some r → (O 1).getD 0 = r → sz r 2 → ∀ w' g, Keeps w w' → Steps w w' → Blk w' g 89 #[.int .i64 0] → Calls Tryz.prog 51 #[.pointer (some ⟨g, 0, none⟩), .agg #[.bool ua1, .slice ua2 ua3 ua4, .bool ua5, .slice ua6 ua7 ua8, .int .i64 R, .int .i64 A, .bool ub1, .slice ub2 ub3 ub4, .bool ub5, .slice ub6 ub7 ub8, .bool uc1, .slice uc2 uc3 uc4, .bool uc5, .slice uc6 uc7 uc8], vp, .int .i64 n, .slice none 0 0] w' fun e w2 => ∃ v, e = .returned v ∧ FR w2 v (oddsQ (withQ ((O 1).getD 0) (chanceQ R A n)) ((O 1).getD 0) l noOut l.length) ∧ Steps w' w2 := fun hr n0 n1 hN r e1 e2 z w' g k s hb => by
  rw [e2]
  exact modds w' hb (by have := b1.keeps k; rw [e1] at this; exact this) z hr.1 hr.2.1 hr.2.2.1 hr.2.2.2 n0 n1 (hl.steps s) (IntsR.nil w') hN (by simp)
 obtain ⟨ao, cap, rfl⟩ := hl.shape
 generalize hK : ruleOk O (f4v ua3 ub3 uc3 uc3) (f4v ua7 ub7 uc7 uc7) R A ua1 = K at *
 generalize okK l n l.length = okb at *
 generalize decide (chanceQ R A n < 1) = less at *
 generalize oddsQ (withQ ((O 1).getD 0) (chanceQ R A n)) ((O 1).getD 0) l noOut l.length = Q at *
 generalize chanceQ R A n = cq at *
 obtain ⟨N, hN⟩ : ∃ m, l.length = m := ⟨_, rfl⟩
 rw [hN] at OC OD ⊢
 clear hl b0 b1 b2 fw hK hN
 cases K with
 | false =>
  have eE : oddsE false N okb n less = 8 := by simp [oddsE]
  rw [eE]
  clear RK CH OC OD
  have eA : apErr false = 8 := rfl
  rw [eA] at CK
  show Calls _ _ _ _ fun e w' => ∃ v, e = _ ∧ FO w' v none ∧ _
  go_enter Tryz.func19, Tryz.ntmps19
  have kk := Keeps.refl w
  go_wp2_with fail
  refine (CK _ (kk.trans keepsB)).mono ?_
  rintro e w1 ⟨rfl, hb1⟩
  have st : Steps _ w1 := hb1
  have B : Below w.heap.size w w1 := belowA st
  have kp : Keeps w w1 := Keeps.then_ keepsB st
  replace kk := kk.trans kp
  have ou : Blk w1 (w.heap.size) 45 #[.bool ua1, .slice ua2 ua3 ua4, .bool ua5, .slice ua6 ua7 ua8, .int .i64 R, .int .i64 A, .bool ub1, .slice ub2 ub3 ub4, .bool ub5, .slice ub6 ub7 ub8, .bool uc1, .slice uc2 uc3 uc4, .bool uc5, .slice uc6 uc7 uc8] := Blk.stepsK st
  have on : Blk w1 (w.heap.size + 1) 3 #[.int .i64 n] := Blk.stepsK st
  have or : Blk w1 (w.heap.size + 1 + 1) 28 #[.bool false, .slice none 0 0, .bool false, .slice none 0 0] := Blk.stepsK st
  clear kp
  clear st
  have lu := ou.lt
  have ln := on.lt
  obtain ⟨cr0, cr1, cr2, cr3, fr, lr⟩ := or.s3
  dsimp only; repeat' (first | go_values | go_skip | go_guarded | go_step | go_upon)
  refine bodyPost_ret (by simp [results, Tryz.results19, go_sem, lu, ln, cr0, cr1, cr2, cr3, fr, lr]; rfl) rfl ?_
  exact ⟨_, rfl, rfl, belowB⟩
 | true =>
  have eA : apErr true = 0 := rfl
  rw [eA] at CK
  obtain ⟨hR, r1, e1, e2, z1⟩ := RK rfl
  clear RK
  rcases (show 200 < N ∨ (¬ 200 < N ∧ n < 1) ∨ (¬ 200 < N ∧ ¬ n < 1 ∧ 200 < n) ∨ (¬ 200 < N ∧ ¬ n < 1 ∧ ¬ 200 < n) by omega) with g1 | ⟨g1, g2⟩ | ⟨g1, g2, g3⟩ | ⟨g1, g2, g3⟩
  ·
   have eE : oddsE true N okb n less = 4 := by simp [oddsE, g1]
   have hlt : decide ((200 : Int) < (N : Int)) = true := decide_eq_true (by omega)
   rw [eE]
   clear CH OC OD
   show Calls _ _ _ _ fun e w' => ∃ v, e = _ ∧ FO w' v none ∧ _
   go_enter Tryz.func19, Tryz.ntmps19
   have kk := Keeps.refl w
   go_wp2_with fail
   refine (CK _ (kk.trans keepsB)).mono ?_
   rintro e w1 ⟨rfl, hb1⟩
   have st : Steps _ w1 := hb1
   have B : Below w.heap.size w w1 := belowA st
   have kp : Keeps w w1 := Keeps.then_ keepsB st
   replace kk := kk.trans kp
   have ou : Blk w1 (w.heap.size) 45 #[.bool ua1, .slice ua2 ua3 ua4, .bool ua5, .slice ua6 ua7 ua8, .int .i64 R, .int .i64 A, .bool ub1, .slice ub2 ub3 ub4, .bool ub5, .slice ub6 ub7 ub8, .bool uc1, .slice uc2 uc3 uc4, .bool uc5, .slice uc6 uc7 uc8] := Blk.stepsK st
   have on : Blk w1 (w.heap.size + 1) 3 #[.int .i64 n] := Blk.stepsK st
   have or : Blk w1 (w.heap.size + 1 + 1) 28 #[.bool false, .slice none 0 0, .bool false, .slice none 0 0] := Blk.stepsK st
   clear kp
   clear st
   have lu := ou.lt
   have ln := on.lt
   obtain ⟨cr0, cr1, cr2, cr3, fr, lr⟩ := or.s3
   dsimp only; repeat' (first | go_values | go_skip | go_guarded | go_step | go_upon)
   refine bodyPost_ret (by simp [results, Tryz.results19, go_sem, lu, ln, cr0, cr1, cr2, cr3, fr, lr]; rfl) rfl ?_
   exact ⟨_, rfl, rfl, belowB⟩
  ·
   have eE : oddsE true N okb n less = 2 := by simp [oddsE, g1, g2]
   have hlt : decide ((200 : Int) < (N : Int)) = false := decide_eq_false (by omega)
   rw [eE]
   clear CH OC OD
   show Calls _ _ _ _ fun e w' => ∃ v, e = _ ∧ FO w' v none ∧ _
   go_enter Tryz.func19, Tryz.ntmps19
   have kk := Keeps.refl w
   go_wp2_with fail
   refine (CK _ (kk.trans keepsB)).mono ?_
   rintro e w1 ⟨rfl, hb1⟩
   have st : Steps _ w1 := hb1
   have B : Below w.heap.size w w1 := belowA st
   have kp : Keeps w w1 := Keeps.then_ keepsB st
   replace kk := kk.trans kp
   have ou : Blk w1 (w.heap.size) 45 #[.bool ua1, .slice ua2 ua3 ua4, .bool ua5, .slice ua6 ua7 ua8, .int .i64 R, .int .i64 A, .bool ub1, .slice ub2 ub3 ub4, .bool ub5, .slice ub6 ub7 ub8, .bool uc1, .slice uc2 uc3 uc4, .bool uc5, .slice uc6 uc7 uc8] := Blk.stepsK st
   have on : Blk w1 (w.heap.size + 1) 3 #[.int .i64 n] := Blk.stepsK st
   have or : Blk w1 (w.heap.size + 1 + 1) 28 #[.bool false, .slice none 0 0, .bool false, .slice none 0 0] := Blk.stepsK st
   clear kp
   clear st
   have lu := ou.lt
   have cn0 := on.q0
   have ln := on.lt
   obtain ⟨cr0, cr1, cr2, cr3, fr, lr⟩ := or.s3
   dsimp only; repeat' (first | go_values | go_skip | go_guarded | go_step | go_upon)
   refine bodyPost_ret (by simp [results, Tryz.results19, go_sem, lu, cn0, ln, cr0, cr1, cr2, cr3, fr, lr]; rfl) rfl ?_
   exact ⟨_, rfl, rfl, belowB⟩
  ·
   have eE : oddsE true N okb n less = 2 := by simp [oddsE, g1, g2, g3]
   have hlt : decide ((200 : Int) < (N : Int)) = false := decide_eq_false (by omega)
   rw [eE]
   clear CH OC OD
   show Calls _ _ _ _ fun e w' => ∃ v, e = _ ∧ FO w' v none ∧ _
   go_enter Tryz.func19, Tryz.ntmps19
   have kk := Keeps.refl w
   go_wp2_with fail
   refine (CK _ (kk.trans keepsB)).mono ?_
   rintro e w1 ⟨rfl, hb1⟩
   have st : Steps _ w1 := hb1
   have B : Below w.heap.size w w1 := belowA st
   have kp : Keeps w w1 := Keeps.then_ keepsB st
   replace kk := kk.trans kp
   have ou : Blk w1 (w.heap.size) 45 #[.bool ua1, .slice ua2 ua3 ua4, .bool ua5, .slice ua6 ua7 ua8, .int .i64 R, .int .i64 A, .bool ub1, .slice ub2 ub3 ub4, .bool ub5, .slice ub6 ub7 ub8, .bool uc1, .slice uc2 uc3 uc4, .bool uc5, .slice uc6 uc7 uc8] := Blk.stepsK st
   have on : Blk w1 (w.heap.size + 1) 3 #[.int .i64 n] := Blk.stepsK st
   have or : Blk w1 (w.heap.size + 1 + 1) 28 #[.bool false, .slice none 0 0, .bool false, .slice none 0 0] := Blk.stepsK st
   clear kp
   clear st
   have lu := ou.lt
   have cn0 := on.q0
   have ln := on.lt
   obtain ⟨cr0, cr1, cr2, cr3, fr, lr⟩ := or.s3
   dsimp only; repeat' (first | go_values | go_skip | go_guarded | go_step | go_upon)
   refine bodyPost_ret (by simp [results, Tryz.results19, go_sem, lu, cn0, ln, cr0, cr1, cr2, cr3, fr, lr]; rfl) rfl ?_
   exact ⟨_, rfl, rfl, belowB⟩
  ·
   have hlt : decide ((200 : Int) < (N : Int)) = false := decide_eq_false (by omega)
   replace CH := CH hR (by omega) (by omega)
   replace OD := OD hR (by omega) (by omega) (by omega) r1 e1 e2 z1
   clear hR e1 e2 z1
   cases okb with
   | false =>
    have OC' : ∀ (w' : World) (g : Nat) (s : Steps w w') (hN : N ≤ 200) (hb : Blk w' g 3 #[.int .i64 n]), _ := OC
    have eE : oddsE true N false n less = 2 := by simp [oddsE, g1]
    rw [eE]
    clear CH OD OC'
    show Calls _ _ _ _ fun e w' => ∃ v, e = _ ∧ FO w' v none ∧ _
    have eN : (!false) = true := rfl
    rw [eN] at OC
    go_enter Tryz.func19, Tryz.ntmps19
    have kk := Keeps.refl w
    go_wp2_with fail
    refine (CK _ (kk.trans keepsB)).mono ?_
    rintro e w1 ⟨rfl, hb1⟩
    have st : Steps _ w1 := hb1
    have B : Below w.heap.size w w1 := belowA st
    have kp : Keeps w w1 := Keeps.then_ keepsB st
    replace kk := kk.trans kp
    have ou : Blk w1 (w.heap.size) 45 #[.bool ua1, .slice ua2 ua3 ua4, .bool ua5, .slice ua6 ua7 ua8, .int .i64 R, .int .i64 A, .bool ub1, .slice ub2 ub3 ub4, .bool ub5, .slice ub6 ub7 ub8, .bool uc1, .slice uc2 uc3 uc4, .bool uc5, .slice uc6 uc7 uc8] := Blk.stepsK st
    have on : Blk w1 (w.heap.size + 1) 3 #[.int .i64 n] := Blk.stepsK st
    have or : Blk w1 (w.heap.size + 1 + 1) 28 #[.bool false, .slice none 0 0, .bool false, .slice none 0 0] := Blk.stepsK st
    clear kp
    clear st
    have lu := ou.lt
    have cn0 := on.q0
    have ln := on.lt
    have lr := or.lt
    go_wp2_with fail
    refine (OC _ _ belowB (by omega) ownK).mono ?_
    rintro e w2 ⟨rfl, hb2⟩
    have st : Steps _ w2 := hb2
    have sk : Below w1.heap.size w1 w2 := belowA st
    replace B := below_steps B (Nat.le_refl _) sk
    replace ou := ou.steps sk
    replace on := on.steps sk
    replace or := or.steps sk
    replace kk := kk.then_ sk
    clear st sk lu cn0 ln lr
    have lu := ou.lt
    have ln := on.lt
    obtain ⟨cr0, cr1, cr2, cr3, fr, lr⟩ := or.s3
    dsimp only; repeat' (first | go_values | go_skip | go_guarded | go_step | go_upon)
    refine bodyPost_ret (by simp [results, Tryz.results19, go_sem, lu, ln, cr0, cr1, cr2, cr3, fr, lr]; rfl) rfl ?_
    exact ⟨_, rfl, rfl, belowB⟩
   | true =>
    have eN : (!true) = false := rfl
    rw [eN] at OC
    cases less with
    | false =>
     have eE : oddsE true N true n false = 2 := by simp [oddsE, g1, g2, g3]
     rw [eE]
     clear OD
     show Calls _ _ _ _ fun e w' => ∃ v, e = _ ∧ FO w' v none ∧ _
     go_enter Tryz.func19, Tryz.ntmps19
     have kk := Keeps.refl w
     go_wp2_with fail
     refine (CK _ (kk.trans keepsB)).mono ?_
     rintro e w1 ⟨rfl, hb1⟩
     have st : Steps _ w1 := hb1
     have B : Below w.heap.size w w1 := belowA st
     have kp : Keeps w w1 := Keeps.then_ keepsB st
     replace kk := kk.trans kp
     have ou : Blk w1 (w.heap.size) 45 #[.bool ua1, .slice ua2 ua3 ua4, .bool ua5, .slice ua6 ua7 ua8, .int .i64 R, .int .i64 A, .bool ub1, .slice ub2 ub3 ub4, .bool ub5, .slice ub6 ub7 ub8, .bool uc1, .slice uc2 uc3 uc4, .bool uc5, .slice uc6 uc7 uc8] := Blk.stepsK st
     have on : Blk w1 (w.heap.size + 1) 3 #[.int .i64 n] := Blk.stepsK st
     have or : Blk w1 (w.heap.size + 1 + 1) 28 #[.bool false, .slice none 0 0, .bool false, .slice none 0 0] := Blk.stepsK st
     clear kp
     clear st
     have lu := ou.lt
     have cn0 := on.q0
     have ln := on.lt
     have lr := or.lt
     go_wp2_with fail
     refine (OC _ _ belowB (by omega) ownK).mono ?_
     rintro e w2 ⟨rfl, hb2⟩
     have st : Steps _ w2 := hb2
     have sk : Below w1.heap.size w1 w2 := belowA st
     replace B := below_steps B (Nat.le_refl _) sk
     replace ou := ou.steps sk
     replace on := on.steps sk
     replace or := or.steps sk
     replace kk := kk.then_ sk
     clear st sk lu cn0 ln lr
     obtain ⟨cu0, cu1, cu2, cu3, cu4, cu5, cu6, cu7, cu8, cu9, cu10, cu11, cu12, cu13⟩ := ou.r13
     have lu := ou.lt
     have cn0 := on.q0
     have ln := on.lt
     have lr := or.lt
     have zr_2 : w.heap.size + 1 + 1 < w2.heap.size := or.lt
     have zz2 := B.size
     go_wp2_with fail
     refine (CH _ (w2.heap.size) ownK).mono ?_
     rintro e w3 ⟨vh_, rfl, hvh_, hb3⟩
     have st : Steps _ w3 := hb3
     have sk : Below w2.heap.size w2 w3 := belowA st
     replace B := below_steps B (Nat.le_refl _) sk
     have ovc : Blk w3 (w2.heap.size) 89 #[.int .i64 0] := Blk.stepsK st
     replace ou := ou.steps sk
     replace on := on.steps sk
     replace or := or.steps sk
     replace kk := kk.then_ sk
     clear st sk cu0 cu1 cu2 cu3 cu4 cu5 cu6 cu7 cu8 cu9 cu10 cu11 cu12 cu13 lu cn0 ln lr
     have lu := ou.lt
     have ln := on.lt
     obtain ⟨cr0, cr1, cr2, cr3, fr, lr⟩ := or.s3
     obtain ⟨h_1, h_2, h_3, h_4, h_5, h_6, h_7, h_8, rfl⟩ := hvh_.shape
     have Fh_ := Hid.mk_ hvh_
     clear hvh_
     have zvc_3 : w2.heap.size < w3.heap.size := ovc.lt
     have zz3 := B.size
     dsimp only; repeat' (first | go_values | go_skip | go_guarded | go_step | go_upon)
     refine bodyPost_ret (by simp [results, Tryz.results19, go_sem, lu, ln, cr0, cr1, cr2, cr3, fr, lr]; rfl) rfl ?_
     exact ⟨_, rfl, rfl, belowB⟩
    | true =>
     have eE : oddsE true N true n true = 0 := by simp [oddsE, g1, g2, g3]
     rw [eE]
     show Calls _ _ _ _ fun e w' => ∃ v, e = _ ∧ FO w' v (some Q) ∧ _
     go_enter Tryz.func19, Tryz.ntmps19
     have kk := Keeps.refl w
     go_wp2_with fail
     refine (CK _ (kk.trans keepsB)).mono ?_
     rintro e w1 ⟨rfl, hb1⟩
     have st : Steps _ w1 := hb1
     have B : Below w.heap.size w w1 := belowA st
     have kp : Keeps w w1 := Keeps.then_ keepsB st
     replace kk := kk.trans kp
     have ou : Blk w1 (w.heap.size) 45 #[.bool ua1, .slice ua2 ua3 ua4, .bool ua5, .slice ua6 ua7 ua8, .int .i64 R, .int .i64 A, .bool ub1, .slice ub2 ub3 ub4, .bool ub5, .slice ub6 ub7 ub8, .bool uc1, .slice uc2 uc3 uc4, .bool uc5, .slice uc6 uc7 uc8] := Blk.stepsK st
     have on : Blk w1 (w.heap.size + 1) 3 #[.int .i64 n] := Blk.stepsK st
     have or : Blk w1 (w.heap.size + 1 + 1) 28 #[.bool false, .slice none 0 0, .bool false, .slice none 0 0] := Blk.stepsK st
     clear kp
     clear st
     have lu := ou.lt
     have cn0 := on.q0
     have ln := on.lt
     have lr := or.lt
     go_wp2_with fail
     refine (OC _ _ belowB (by omega) ownK).mono ?_
     rintro e w2 ⟨rfl, hb2⟩
     have st : Steps _ w2 := hb2
     have sk : Below w1.heap.size w1 w2 := belowA st
     replace B := below_steps B (Nat.le_refl _) sk
     replace ou := ou.steps sk
     replace on := on.steps sk
     replace or := or.steps sk
     replace kk := kk.then_ sk
     clear st sk lu cn0 ln lr
     obtain ⟨cu0, cu1, cu2, cu3, cu4, cu5, cu6, cu7, cu8, cu9, cu10, cu11, cu12, cu13⟩ := ou.r13
     have lu := ou.lt
     have cn0 := on.q0
     have ln := on.lt
     have lr := or.lt
     have zr_2 : w.heap.size + 1 + 1 < w2.heap.size := or.lt
     have zz2 := B.size
     go_wp2_with fail
     refine (CH _ (w2.heap.size) ownK).mono ?_
     rintro e w3 ⟨vh_, rfl, hvh_, hb3⟩
     have st : Steps _ w3 := hb3
     have sk : Below w2.heap.size w2 w3 := belowA st
     replace B := below_steps B (Nat.le_refl _) sk
     have ovc : Blk w3 (w2.heap.size) 89 #[.int .i64 0] := Blk.stepsK st
     replace ou := ou.steps sk
     replace on := on.steps sk
     replace or := or.steps sk
     replace kk := kk.then_ sk
     clear st sk cu0 cu1 cu2 cu3 cu4 cu5 cu6 cu7 cu8 cu9 cu10 cu11 cu12 cu13 lu cn0 ln lr
     obtain ⟨cu0, cu1, cu2, cu3, cu4, cu5, cu6, cu7, cu8, cu9, cu10, cu11, cu12, cu13⟩ := ou.r13
     have lu := ou.lt
     have cn0 := on.q0
     have ln := on.lt
     have lr := or.lt
     obtain ⟨h_1, h_2, h_3, h_4, h_5, h_6, h_7, h_8, rfl⟩ := hvh_.shape
     have Fh_ := Hid.mk_ hvh_
     clear hvh_
     have zvc_3 : w2.heap.size < w3.heap.size := ovc.lt
     have zz3 := B.size
     go_wp2_with fail
     refine (OD _ (w2.heap.size) (kk.trans keepsB) belowB ownK).mono ?_
     rintro e w4 ⟨vp_, rfl, hvp_, hb4⟩
     have st : Steps _ w4 := hb4
     have sk : Below w3.heap.size w3 w4 := belowA st
     replace B := below_steps B (Nat.le_refl _) sk
     have ovx : Blk w4 (w3.heap.size) 28 #[.bool h_1, .slice h_2 h_3 h_4, .bool h_5, .slice h_6 h_7 h_8] := Blk.stepsK st
     replace ou := ou.steps sk
     replace on := on.steps sk
     replace or := or.steps sk
     replace ovc := ovc.steps sk
     replace Fh_ := Hid.mk_ (Fh_.out.steps sk)
     replace kk := kk.then_ sk
     clear st sk cu0 cu1 cu2 cu3 cu4 cu5 cu6 cu7 cu8 cu9 cu10 cu11 cu12 cu13 lu cn0 ln lr
     have lu := ou.lt
     have ln := on.lt
     obtain ⟨cr0, cr1, cr2, cr3, fr, lr⟩ := or.s3
     have cvc0 := ovc.q0
     have lvc := ovc.lt
     obtain ⟨p_1, p_2, p_3, p_4, p_5, p_6, p_7, p_8, rfl⟩ := hvp_.shape
     have Fp_ := Hid.mk_ hvp_
     clear hvp_
     have zvx_4 : w3.heap.size < w4.heap.size := ovx.lt
     have zz4 := B.size
     go_wp2_with fail
     refine bodyPost_ret (by simp [results, Tryz.results19, go_sem, lu, ln, cr0, cr1, cr2, cr3, fr, lr, cvc0, lvc]; rfl) rfl ?_
     exact ⟨_, rfl, Fp_.out.keeps keepsB, belowB⟩
theorem SimO.keeps {w w' : World} {v : Value} {o : Option (Nat → Rat)} (h : SimO w v o) (k : Keeps w w') : SimO w' v o := by
 cases o with
 | none => exact h
 | some t => exact SimR.keeps h k
theorem SimO.shape {w : World} {v : Value} {o : Option (Nat → Rat)} (h : SimO w v o) : ∃ ka1 ka2 ka3 ka4 ka5 ka6 ka7 ka8 kb1 kb2 kb3 kb4 kb5 kb6 kb7 kb8 kc1 kc2 kc3 kc4 kc5 kc6 kc7 kc8 kd1 kd2 kd3 kd4 kd5 kd6 kd7 kd8, v = .agg #[.bool ka1, .slice ka2 ka3 ka4, .bool ka5, .slice ka6 ka7 ka8, .bool kb1, .slice kb2 kb3 kb4, .bool kb5, .slice kb6 kb7 kb8, .bool kc1, .slice kc2 kc3 kc4, .bool kc5, .slice kc6 kc7 kc8, .bool kd1, .slice kd2 kd3 kd4, .bool kd5, .slice kd6 kd7 kd8] := by
 cases o with
 | none => exact ⟨_, _, _, _, _, _, _, _, _, _, _, _, _, _, _, _, _, _, _, _, _, _, _, _, _, _, _, _, _, _, _, _, h⟩
 | some t => obtain ⟨ka1, ka2, ka3, ka4, ka5, ka6, ka7, ka8, kb1, kb2, kb3, kb4, kb5, kb6, kb7, kb8, kc1, kc2, kc3, kc4, kc5, kc6, kc7, kc8, kd1, kd2, kd3, kd4, kd5, kd6, kd7, kd8, rfl, _⟩ := h; exact ⟨ka1, ka2, ka3, ka4, ka5, ka6, ka7, ka8, kb1, kb2, kb3, kb4, kb5, kb6, kb7, kb8, kc1, kc2, kc3, kc4, kc5, kc6, kc7, kc8, kd1, kd2, kd3, kd4, kd5, kd6, kd7, kd8, rfl⟩
theorem FO.shape {w : World} {v : Value} {o : Option Rat} (h : FO w v o) : ∃ a s n c b t m d, v = .agg #[.bool a, .slice s n c, .bool b, .slice t m d] := by
 cases o with
 | none => exact ⟨_, _, _, _, _, _, _, _, h⟩
 | some r => exact FR.shape h
theorem FR.frn' {w : World} {a b c d : Value} {r : Rat} (h : FR w (.agg #[a, b, c, d]) r) : Frn w r.num r.den a b c d ∧ fits r.num ∧ fits (r.den : Int) := by
 have f := FR.fit h
 obtain ⟨a2, a3, a4, a6, a7, a8, e, h1, h2, _⟩ := FR.nums h
 simp only [Value.agg.injEq, Array.mk.injEq, List.cons.injEq, and_true] at e
 obtain ⟨rfl, rfl, rfl, rfl⟩ := e
 exact ⟨⟨h1, h2⟩, f.1, f.2⟩
theorem frn_zero (w : World) : Frn w 0 0 (.bool false) (.slice none 0 0) (.bool false) (.slice none 0 0) := ⟨Num.zero w, Num.zero w⟩
theorem fits_0 : fits 0 := fits_small64 (by decide) (by decide)
theorem rsameFO {va vb : Value} {o : Option Rat} (w : World) (h : FO w va o) (h' : FO w vb o) : Calls Tryz.prog 16 #[va, vb] w fun e w' => e = .returned (.bool true) ∧ Steps w w' := by
 cases o with
 | none =>
  obtain rfl : va = _ := h
  obtain rfl : vb = _ := h'
  exact rsameF w (frn_zero w) (frn_zero w) fits_0 fits_0
 | some r =>
  obtain ⟨a1, a2, a3, a4, a5, a6, a7, a8, rfl⟩ := FR.shape h
  obtain ⟨b1, b2, b3, b4, b5, b6, b7, b8, rfl⟩ := FR.shape h'
  obtain ⟨f1, g1, g2⟩ := FR.frn' h
  exact rsameF w f1 (FR.frn' h').1 g1 g2
def grL (LA LB : Nat → Nat) : Nat → Bool
 | 0 => false
 | t + 1 => grL LA LB t || decide ((20 : Int) < max (LA t : Int) (LB t : Int))
theorem grL_stay {LA LB : Nat → Nat} {i : Nat} (h : grL LA LB i = true) : ∀ m, i ≤ m → grL LA LB m = true := by
 intro m hm
 induction m with
 | zero =>
      obtain rfl : i = 0 := by omega
      exact h
 | succ m ih =>
  rcases Nat.lt_or_ge m i with g | g
  ·
   obtain rfl : i = m + 1 := by omega
   exact h
  · unfold grL; rw [ih g]; rfl
theorem rFew {a1 a5 : Bool} {a2 a6 : Option Addr} {p q a4 a8 : Nat} (w : World) :
  Calls Tryz.prog 36 #[.agg #[.bool a1, .slice a2 p a4, .bool a5, .slice a6 q a8]] w fun e w' => e = .returned (.int .i64 (max (p : Int) (q : Int))) ∧ Steps w w' := by
 have mx := fun ts t W => run_max2 (P := Tryz.prog) ts t (p : Int) (q : Int) W
 generalize max (p : Int) (q : Int) = m at *
 go_enter Tryz.func36, Tryz.ntmps36
 go_wp2
 go_returns
 exact ⟨rfl, belowB⟩
theorem rGreat21 {ka1 ka5 kb1 kb5 kc1 kc5 kd1 kd5 : Bool} {ka2 ka6 kb2 kb6 kc2 kc6 kd2 kd6 : Option Addr} {ka3 ka4 ka7 ka8 kb3 kb4 kb7 kb8 kc3 kc4 kc7 kc8 kd3 kd4 kd7 kd8 : Nat} {O : Nat → Option Rat} (w : World) (b0 : FB w (.agg #[.bool ka1, .slice ka2 ka3 ka4, .bool ka5, .slice ka6 ka7 ka8]) (O 0)) (b1 : FB w (.agg #[.bool kb1, .slice kb2 kb3 kb4, .bool kb5, .slice kb6 kb7 kb8]) (O 1)) (b2 : FB w (.agg #[.bool kc1, .slice kc2 kc3 kc4, .bool kc5, .slice kc6 kc7 kc8]) (O 2)) (b3 : FB w (.agg #[.bool kd1, .slice kd2 kd3 kd4, .bool kd5, .slice kd6 kd7 kd8]) (O 3)) :
  Calls Tryz.prog 10 #[.agg #[.bool ka1, .slice ka2 ka3 ka4, .bool ka5, .slice ka6 ka7 ka8, .bool kb1, .slice kb2 kb3 kb4, .bool kb5, .slice kb6 kb7 kb8, .bool kc1, .slice kc2 kc3 kc4, .bool kc5, .slice kc6 kc7 kc8, .bool kd1, .slice kd2 kd3 kd4, .bool kd5, .slice kd6 kd7 kd8]] w fun e w' => e = .returned (.bool (grL (f4v ka3 kb3 kc3 kd3) (f4v ka7 kb7 kc7 kd7) 4)) ∧ Steps w w' := by
 have FL := fun (w' : World) (g : Nat) (t : TypeId) (k : Keeps w w') (h : Blk w' g t #[.bool ka1, .slice ka2 ka3 ka4, .bool ka5, .slice ka6 ka7 ka8, .bool kb1, .slice kb2 kb3 kb4, .bool kb5, .slice kb6 kb7 kb8, .bool kc1, .slice kc2 kc3 kc4, .bool kc5, .slice kc6 kc7 kc8, .bool kd1, .slice kd2 kd3 kd4, .bool kd5, .slice kd6 kd7 kd8]) => fls4 h (b0.keeps k) (b1.keeps k) (b2.keeps k) (b3.keeps k)
 generalize hLA : (f4v ka3 kb3 kc3 kd3) = LA at *
 generalize hLB : (f4v ka7 kb7 kc7 kd7) = LB at *
 clear b0 b1 b2 b3 hLA hLB
 go_enter Tryz.func10, Tryz.ntmps10
 go_wp2_with fail
 have ob : Blk ((w.alloc (.cells #[.bool ka1, .slice ka2 ka3 ka4, .bool ka5, .slice ka6 ka7 ka8, .bool kb1, .slice kb2 kb3 kb4, .bool kb5, .slice kb6 kb7 kb8, .bool kc1, .slice kc2 kc3 kc4, .bool kc5, .slice kc6 kc7 kc8, .bool kd1, .slice kd2 kd3 kd4, .bool kd5, .slice kd6 kd7 kd8] 30)).alloc (.cells #[.bool ka1, .slice ka2 ka3 ka4, .bool ka5, .slice ka6 ka7 ka8, .bool kb1, .slice kb2 kb3 kb4, .bool kb5, .slice kb6 kb7 kb8, .bool kc1, .slice kc2 kc3 kc4, .bool kc5, .slice kc6 kc7 kc8, .bool kd1, .slice kd2 kd3 kd4, .bool kd5, .slice kd6 kd7 kd8] 28)) (w.heap.size + 1) 28 #[.bool ka1, .slice ka2 ka3 ka4, .bool ka5, .slice ka6 ka7 ka8, .bool kb1, .slice kb2 kb3 kb4, .bool kb5, .slice kb6 kb7 kb8, .bool kc1, .slice kc2 kc3 kc4, .bool kc5, .slice kc6 kc7 kc8, .bool kd1, .slice kd2 kd3 kd4, .bool kd5, .slice kd6 kd7 kd8] := Blk.new1 _ _ _ _
 obtain ⟨b, of, cap, e, hcap, hbl, hcell⟩ := FL _ _ _ keepsB ob
 simp only [Value.slice.injEq, Option.some.injEq, Addr.mk.injEq, and_true, true_and] at e
 obtain ⟨⟨rfl, rfl⟩, rfl⟩ := e
 have HC := Hid.mk_ hcell
 clear FL hcell ob
 generalize hw0 : ((w.alloc (.cells #[.bool ka1, .slice ka2 ka3 ka4, .bool ka5, .slice ka6 ka7 ka8, .bool kb1, .slice kb2 kb3 kb4, .bool kb5, .slice kb6 kb7 kb8, .bool kc1, .slice kc2 kc3 kc4, .bool kc5, .slice kc6 kc7 kc8, .bool kd1, .slice kd2 kd3 kd4, .bool kd5, .slice kd6 kd7 kd8] 30)).alloc (.cells #[.bool ka1, .slice ka2 ka3 ka4, .bool ka5, .slice ka6 ka7 ka8, .bool kb1, .slice kb2 kb3 kb4, .bool kb5, .slice kb6 kb7 kb8, .bool kc1, .slice kc2 kc3 kc4, .bool kc5, .slice kc6 kc7 kc8, .bool kd1, .slice kd2 kd3 kd4, .bool kd5, .slice kd6 kd7 kd8] 28)) = w0 at *
 have B0 : Below w.heap.size w w0 := by rw [← hw0]; exact belowB
 go_loopw [4] (fun kk wr => ∃ t : Nat, t ≤ 4 ∧ kk = .int .i64 t ∧ grL LA LB t = false ∧ Below w.heap.size w wr ∧ Steps w0 wr) (fun kk _ => 4 - (intOf kk).toNat)
 case atStart => exact ⟨0, by omega, rfl, rfl, B0, Below.refl _ _⟩
 case round =>
  clear B0
  obtain ⟨t, ht, rfl, hw, B, hs0⟩ := hrel
  rcases Nat.lt_or_ge t 4 with tn | tn
  ·
   have hlt : decide ((t : Int) < 4) = true := decide_eq_true (by omega)
   obtain ⟨a1, a2, a4, a5, a6, a8, h0, h1, h2, h3, -⟩ := HC.out t tn
   have c0 : wr.cell? ⟨w.heap.size + 1, 0 + t * 4, none⟩ = some (.bool a1) := (hs0.cell (p := ⟨w.heap.size + 1, _, none⟩) hbl).trans h0
   have c1 : wr.cell? ⟨w.heap.size + 1, 0 + t * 4 + 1, none⟩ = some (.slice a2 (LA t) a4) := (hs0.cell (p := ⟨w.heap.size + 1, _, none⟩) hbl).trans h1
   have c2 : wr.cell? ⟨w.heap.size + 1, 0 + t * 4 + 2, none⟩ = some (.bool a5) := (hs0.cell (p := ⟨w.heap.size + 1, _, none⟩) hbl).trans h2
   have c3 : wr.cell? ⟨w.heap.size + 1, 0 + t * 4 + 3, none⟩ = some (.slice a6 (LB t) a8) := (hs0.cell (p := ⟨w.heap.size + 1, _, none⟩) hbl).trans h3
   rw [Nat.zero_add] at c0 c1 c2 c3
   have FW := fun w' => rFew (a1 := a1) (a5 := a5) (a2 := a2) (a6 := a6) (p := LA t) (q := LB t) (a4 := a4) (a8 := a8) w'
   have YES : (20 : Int) < max (LA t : Int) (LB t : Int) → grL LA LB 4 = true := fun e => grL_stay (i := t + 1) (by unfold grL; rw [decide_eq_true e, Bool.or_true]) 4 (by omega)
   have NO : ¬ (20 : Int) < max (LA t : Int) (LB t : Int) → grL LA LB (t + 1) = false := fun e => by unfold grL; rw [hw, decide_eq_false e]; rfl
   generalize max (LA t : Int) (LB t : Int) = m at *
   obtain ⟨L1, hL1⟩ : ∃ x, LA t = x := ⟨_, rfl⟩
   obtain ⟨L2, hL2⟩ : ∃ x, LB t = x := ⟨_, rfl⟩
   rw [hL1] at c1 FW
   rw [hL2] at c3 FW
   clear hL1 hL2 h0 h1 h2 h3
   go_wp2_with fail
   refine (FW _).mono ?_
   rintro e w1 ⟨rfl, hs1⟩
   have B1 : Below w.heap.size w w1 := belowA hs1
   have S1 : Steps w0 w1 := below_steps hs0 (Nat.le_refl _) hs1
   clear FW hs1 B hs0 c0 c1 c2 c3
   by_cases h : (20 : Int) < m
   ·
    have Y := YES (by omega)
    clear YES NO
    go_wp2
    go_returns
    exact ⟨by rw [Y]; rfl, B1⟩
   ·
    have N := NO (by omega)
    clear YES NO
    go_wp2
    go_roundw
    case rel => exact ⟨t + 1, by omega, by go_num, N, B1, S1⟩
    case measure => simp [intOf]; omega
  ·
   obtain rfl : t = 4 := by omega
   go_wp2
   go_returns
   exact ⟨by rw [hw]; rfl, B⟩
theorem prCheck {ua1 ua5 ub1 ub5 uc1 uc5 : Bool} {ua2 ua6 ub2 ub6 uc2 uc6 : Option Addr} {ua3 ua4 ua7 ua8 ub3 ub4 ub7 ub8 uc3 uc4 uc7 uc8 : Nat} {R A : Int} {O : Nat → Option Rat} (w : World) (b0 : FB w (.agg #[.bool ua1, .slice ua2 ua3 ua4, .bool ua5, .slice ua6 ua7 ua8]) (O 0)) (b1 : FB w (.agg #[.bool ub1, .slice ub2 ub3 ub4, .bool ub5, .slice ub6 ub7 ub8]) (O 1)) (b2 : FB w (.agg #[.bool uc1, .slice uc2 uc3 uc4, .bool uc5, .slice uc6 uc7 uc8]) (O 2)) (fw : FewL O (f4v ua3 ub3 uc3 uc3) (f4v ua7 ub7 uc7 uc7) 3) :
  Calls Tryz.prog 18 #[.agg #[.bool ua1, .slice ua2 ua3 ua4, .bool ua5, .slice ua6 ua7 ua8, .int .i64 R, .int .i64 A, .bool ub1, .slice ub2 ub3 ub4, .bool ub5, .slice ub6 ub7 ub8, .bool uc1, .slice uc2 uc3 uc4, .bool uc5, .slice uc6 uc7 uc8]] w fun e w' => e = .returned (.int .i64 (apErr (ruleOk O (f4v ua3 ub3 uc3 uc3) (f4v ua7 ub7 uc7 uc7) R A ua1))) ∧ Steps w w' := by
 obtain ⟨K, hK⟩ : ∃ k, ruleOk O (f4v ua3 ub3 uc3 uc3) (f4v ua7 ub7 uc7 uc7) R A ua1 = k := ⟨_, rfl⟩
 have KF : ∀ (P : Prop), (ruleOk O (f4v ua3 ub3 uc3 uc3) (f4v ua7 ub7 uc7 uc7) R A ua1 = true → P) → ¬ P → K = false := fun P h1 h2 => by
  cases hk : K with
  | false => rfl
  | true => exact absurd (h1 (hK.trans hk)) h2
 have KL := fun (h : limL 2 O (f4v ua3 ub3 uc3 uc3) (f4v ua7 ub7 uc7 uc7) 3 = false) => KF (limL 2 O (f4v ua3 ub3 uc3 uc3) (f4v ua7 ub7 uc7 uc7) 3 = true) (fun g => (ruleOk_iff.1 g).1) (by rw [h]; decide)
 have KR := KF _ (fun g => (ruleOk_iff.1 g).2.1)
 have KN := fun (h : ua1 = true) => KF (ua1 = false) (fun g => (ruleOk_iff.1 g).2.2.1) (by rw [h]; decide)
 have K1 := fun (h : cmpQ ((O 1).getD 0) 0 ≤ 0) => KF _ (fun g => (ruleOk_iff.1 g).2.2.2.1) (fun g => absurd (cmpQ_gt.2 g) (by omega))
 have K2 := fun (h : ¬ cmpQ ((O 1).getD 0) 1 < 0) => KF _ (fun g => (ruleOk_iff.1 g).2.2.2.2.1) (fun g => h (cmpQ_lt.2 g))
 have K3 := fun (h : cmpQ ((O 2).getD 0) 0 ≤ 0) => KF _ (fun g => (ruleOk_iff.1 g).2.2.2.2.2) (fun g => absurd (cmpQ_gt.2 g) (by omega))
 have KT : limL 2 O (f4v ua3 ub3 uc3 uc3) (f4v ua7 ub7 uc7 uc7) 3 = true → (1 ≤ R ∧ R ≤ 65536 ∧ 1 ≤ A ∧ A ≤ 17592186044416) → ua1 = false → ¬ cmpQ ((O 1).getD 0) 0 ≤ 0 → cmpQ ((O 1).getD 0) 1 < 0 → ¬ cmpQ ((O 2).getD 0) 0 ≤ 0 → K = true := fun h1 h2 h3 h4 h5 h6 => hK.symm.trans (ruleOk_iff.2 ⟨h1, h2, h3, cmpQ_gt.1 (by omega), cmpQ_lt.1 h5, cmpQ_gt.1 (by omega)⟩)
 have FQ : limL 2 O (f4v ua3 ub3 uc3 uc3) (f4v ua7 ub7 uc7 uc7) 3 = true → (∃ r, O 1 = some r ∧ (O 1).getD 0 = r ∧ sz r 2) ∧ ∃ r, O 2 = some r ∧ (O 2).getD 0 = r ∧ sz r 2 := fun h => by
  obtain ⟨r1, e1, z1⟩ := limL_sz h fw 1 (by omega)
  obtain ⟨r2, e2, z2⟩ := limL_sz h fw 2 (by omega)
  exact ⟨⟨r1, e1, by rw [e1]; rfl, z1⟩, ⟨r2, e2, by rw [e2]; rfl, z2⟩⟩
 have S0 : ∀ w', Keeps w w' → Calls Tryz.prog 45 #[.agg #[.bool ua1, .slice ua2 ua3 ua4, .bool ua5, .slice ua6 ua7 ua8]] w' fun e w2 => e = .returned (.bool (limF 2 (O 0) ua3 ua7)) ∧ Steps w' w2 := fun w' k => pshort w' (b0.keeps k)
 have S1 : ∀ w', Keeps w w' → Calls Tryz.prog 45 #[.agg #[.bool ub1, .slice ub2 ub3 ub4, .bool ub5, .slice ub6 ub7 ub8]] w' fun e w2 => e = .returned (.bool (limF 2 (O 1) ub3 ub7)) ∧ Steps w' w2 := fun w' k => pshort w' (b1.keeps k)
 have S2 : ∀ w', Keeps w w' → Calls Tryz.prog 45 #[.agg #[.bool uc1, .slice uc2 uc3 uc4, .bool uc5, .slice uc6 uc7 uc8]] w' fun e w2 => e = .returned (.bool (limF 2 (O 2) uc3 uc7)) ∧ Steps w' w2 := fun w' k => pshort w' (b2.keeps k)
 have WH : ∀ x : Int, -9223372036854775808 ≤ x → x ≤ 9223372036854775807 → ∀ w', Calls Tryz.prog 47 #[.int .i64 x] w' fun e w2 => ∃ v, e = .returned v ∧ FR w2 v (x : Rat) ∧ Steps w' w2 := fun x h0 h1 w' => rwhole x w' h0 h1
 have O0 := fun w' => by have := WH 0 (by decide) (by decide) w'; rw [zero_cast] at this; exact this
 have O1 := fun w' => by have := WH 1 (by decide) (by decide) w'; rw [one_cast] at this; exact this
 clear WH
 have LE : limL 2 O (f4v ua3 ub3 uc3 uc3) (f4v ua7 ub7 uc7 uc7) 3 = ((limF 2 (O 0) ua3 ua7) && (limF 2 (O 1) ub3 ub7) && (limF 2 (O 2) uc3 uc7)) := limL3
 rw [LE] at KL KT FQ
 rw [hK]
 generalize limF 2 (O 0) ua3 ua7 = l0 at *
 generalize limF 2 (O 1) ub3 ub7 = l1 at *
 generalize limF 2 (O 2) uc3 uc7 = l2 at *
 clear LE KF hK
 go_enter Tryz.func18, Tryz.ntmps18
 have kk := Keeps.refl w
 go_wp2_with fail
 refine (S0 _ (kk.trans keepsB)).mono ?_
 rintro e w1 ⟨rfl, hb1⟩
 have st : Steps _ w1 := hb1
 have B : Below w.heap.size w w1 := belowA st
 have kp : Keeps w w1 := Keeps.then_ keepsB st
 replace kk := kk.trans kp
 have ou : Blk w1 (w.heap.size) 45 #[.bool ua1, .slice ua2 ua3 ua4, .bool ua5, .slice ua6 ua7 ua8, .int .i64 R, .int .i64 A, .bool ub1, .slice ub2 ub3 ub4, .bool ub5, .slice ub6 ub7 ub8, .bool uc1, .slice uc2 uc3 uc4, .bool uc5, .slice uc6 uc7 uc8] := Blk.stepsK st
 clear kp
 clear st
 obtain ⟨cu0, cu1, cu2, cu3, cu4, cu5, cu6, cu7, cu8, cu9, cu10, cu11, cu12, cu13⟩ := ou.r13
 have lu := ou.lt
 cases l0 with
 | false =>
  have e0 := KL (by simp)
  subst e0
  clear KL KR KN K1 K2 K3 KT FQ O0 O1 b0 b1 b2 fw S0 S1 S2
  go_wp2
  go_returns
  exact ⟨rfl, belowB⟩
 | true =>
  go_wp2_with fail
  refine (S1 _ (kk.trans keepsB)).mono ?_
  rintro e w2 ⟨rfl, hb2⟩
  have st : Steps _ w2 := hb2
  have sk : Below w1.heap.size w1 w2 := belowA st
  replace B := below_steps B (Nat.le_refl _) sk
  replace ou := ou.steps sk
  replace kk := kk.then_ sk
  clear st sk cu0 cu1 cu2 cu3 cu4 cu5 cu6 cu7 cu8 cu9 cu10 cu11 cu12 cu13 lu
  obtain ⟨cu0, cu1, cu2, cu3, cu4, cu5, cu6, cu7, cu8, cu9, cu10, cu11, cu12, cu13⟩ := ou.r13
  have lu := ou.lt
  cases l1 with
  | false =>
   have e0 := KL (by simp)
   subst e0
   clear KL KR KN K1 K2 K3 KT FQ O0 O1 b0 b1 b2 fw S0 S1 S2
   go_wp2
   go_returns
   exact ⟨rfl, belowB⟩
  | true =>
   go_wp2_with fail
   refine (S2 _ (kk.trans keepsB)).mono ?_
   rintro e w3 ⟨rfl, hb3⟩
   have st : Steps _ w3 := hb3
   have sk : Below w2.heap.size w2 w3 := belowA st
   replace B := below_steps B (Nat.le_refl _) sk
   replace ou := ou.steps sk
   replace kk := kk.then_ sk
   clear st sk cu0 cu1 cu2 cu3 cu4 cu5 cu6 cu7 cu8 cu9 cu10 cu11 cu12 cu13 lu
   obtain ⟨cu0, cu1, cu2, cu3, cu4, cu5, cu6, cu7, cu8, cu9, cu10, cu11, cu12, cu13⟩ := ou.r13
   have lu := ou.lt
   cases l2 with
   | false =>
    have e0 := KL (by simp)
    subst e0
    clear KL KR KN K1 K2 K3 KT FQ O0 O1 b0 b1 b2 fw S0 S1 S2
    go_wp2
    go_returns
    exact ⟨rfl, belowB⟩
   | true =>
    have KT' := KT rfl
    obtain ⟨⟨r1, e1, q1, z1⟩, r2, e2, q2, z2⟩ := FQ rfl
    clear KT KL FQ
    rw [e1] at b1
    rw [e2] at b2
    rw [q1] at K1 K2 KT'
    rw [q2] at K3 KT'
    have F1 : Hid (FR w (.agg #[.bool ub1, .slice ub2 ub3 ub4, .bool ub5, .slice ub6 ub7 ub8]) r1) := Hid.mk_ b1
    have F2 : Hid (FR w (.agg #[.bool uc1, .slice uc2 uc3 uc4, .bool uc5, .slice uc6 uc7 uc8]) r2) := Hid.mk_ b2
    replace F1 := Hid.mk_ (F1.out.keeps (kk.trans keepsB))
    replace F2 := Hid.mk_ (F2.out.keeps (kk.trans keepsB))
    clear e1 e2 q1 q2 fw b0 b1 b2 S0 S1 S2
    obtain ⟨c1, hc1⟩ : ∃ c, cmpQ r1 0 = c := ⟨_, rfl⟩
    obtain ⟨c2, hc2⟩ : ∃ c, cmpQ r1 1 = c := ⟨_, rfl⟩
    obtain ⟨c3, hc3⟩ : ∃ c, cmpQ r2 0 = c := ⟨_, rfl⟩
    rw [hc1] at K1 KT'
    rw [hc2] at K2 KT'
    rw [hc3] at K3 KT'
    have CM1 : ∀ (w' : World) (u v : Value), FR w' u r1 → FR w' v 0 → Calls Tryz.prog 46 #[u, v] w' fun e w2 => e = .returned (.int .i64 c1) ∧ Steps w' w2 := fun w' u v h1 h2 => by have := prcmp w' h1 h2 z1 sz_nil (by omega); rw [hc1] at this; exact this
    have CM2 : ∀ (w' : World) (u v : Value), FR w' u r1 → FR w' v 1 → Calls Tryz.prog 46 #[u, v] w' fun e w2 => e = .returned (.int .i64 c2) ∧ Steps w' w2 := fun w' u v h1 h2 => by have := prcmp w' h1 h2 z1 sz_1 (by omega); rw [hc2] at this; exact this
    have CM3 : ∀ (w' : World) (u v : Value), FR w' u r2 → FR w' v 0 → Calls Tryz.prog 46 #[u, v] w' fun e w2 => e = .returned (.int .i64 c3) ∧ Steps w' w2 := fun w' u v h1 h2 => by have := prcmp w' h1 h2 z2 sz_nil (by omega); rw [hc3] at this; exact this
    clear hc1 hc2 hc3 z1 z2
    cases ua1 with
    | true =>
     have e0 := KN (by simp)
     subst e0
     clear KR KN K1 K2 K3 KT' O0 O1 CM1 CM2 CM3 F1 F2
     go_wp2
     go_returns
     exact ⟨rfl, belowB⟩
    | false =>
     clear KN
     rcases (show R < 1 ∨ (¬ R < 1 ∧ 65536 < R) ∨ (¬ R < 1 ∧ ¬ 65536 < R ∧ A < 1) ∨ (¬ R < 1 ∧ ¬ 65536 < R ∧ ¬ A < 1 ∧ 17592186044416 < A) ∨ (¬ R < 1 ∧ ¬ 65536 < R ∧ ¬ A < 1 ∧ ¬ 17592186044416 < A) by omega) with g1 | ⟨g1, g2⟩ | ⟨g1, g2, g3⟩ | ⟨g1, g2, g3, g4⟩ | ⟨g1, g2, g3, g4⟩
     ·
      have e0 := KR (by omega)
      subst e0
      clear KR K1 K2 K3 KT' O0 O1 CM1 CM2 CM3 F1 F2
      go_wp2
      go_returns
      exact ⟨rfl, belowB⟩
     ·
      have e0 := KR (by omega)
      subst e0
      clear KR K1 K2 K3 KT' O0 O1 CM1 CM2 CM3 F1 F2
      go_wp2
      go_returns
      exact ⟨rfl, belowB⟩
     ·
      have e0 := KR (by omega)
      subst e0
      clear KR K1 K2 K3 KT' O0 O1 CM1 CM2 CM3 F1 F2
      go_wp2
      go_returns
      exact ⟨rfl, belowB⟩
     ·
      have e0 := KR (by omega)
      subst e0
      clear KR K1 K2 K3 KT' O0 O1 CM1 CM2 CM3 F1 F2
      go_wp2
      go_returns
      exact ⟨rfl, belowB⟩
     ·
      have KT2 := KT' ⟨by omega, by omega, by omega, by omega⟩ rfl
      clear KT' KR
      go_wp2_with fail
      by_cases h1 : c1 ≤ 0
      ·
       have e0 := K1 (by omega)
       subst e0
       clear K1 K2 K3 KT2
       have zu_3 : w.heap.size < w3.heap.size := ou.lt
       have zz3 := B.size
       go_upto_region 3 with fail
       refine Reg.wp_chain_n (fun N0 D v W => Below w.heap.size w W ∧ Keeps w3 W ∧ N0 ≤ W.heap.size ∧ Blk W (w.heap.size) 45 #[.bool false, .slice ua2 ua3 ua4, .bool ua5, .slice ua6 ua7 ua8, .int .i64 R, .int .i64 A, .bool ub1, .slice ub2 ub3 ub4, .bool ub5, .slice ub6 ub7 ub8, .bool uc1, .slice uc2 uc3 uc4, .bool uc5, .slice uc6 uc7 uc8])
        (Reg.inl [2, 3]) (Reg.gv [(2, IsFr), (3, fun z_ => z_ = .int .i64 c1)]) (gw [(2, GFr (0))]) (fun _ => Keeps) (fun _ _ => False) (Reg.pl [(3, [(2, some 47)]), (19, [(2, some 47), (3, some 48)])]) (Reg.pl [])
        (by kernel_rfl) (by kernel_rfl) (by kernel_rfl) (Reg.gvA _) (fun N0 hN0 => ⟨fun v => ?_, fun D v v' W hv hj => ?_, fun D v k j W W' x _ _ _ _ hk hg => gwA hk hg, fun _ _ _ _ h => h.elim, fun ops' Q' hops hQ => ?_⟩)
       · exact ⟨belowB, keepsB, by first | with_reducible exact Nat.le_of_eq hN0.out | (simp only [World.size_drew]; with_reducible exact Nat.le_of_eq hN0.out), ownK⟩
       ·
        obtain ⟨j0, jk, jn, b_u⟩ := hj
        exact ⟨j0, jk, jn, b_u⟩
       have eN := hN0.out
       try simp only [World.size_alloc, World.size_setCell, World.size_drew, World.heap_drewN] at eN
       have i_u : w.heap.size < N0 := by first | omega | (have h := ou.lt; omega)
       have iw : w.heap.size ≤ N0 := by first | omega | (have h := B.size; omega)
       clear cu0 cu1 cu2 cu3 cu4 cu5 cu6 cu7 cu8 cu9 cu10 cu11 cu12 cu13 lu
       clear hN0
       refine Reg.RP0 45 ?_
       apply Reg.RP rfl rfl rfl 46 rfl rfl
       ·
        intro D v' W' hc hj hf K hK
        obtain ⟨j0, jk, jn, b_u⟩ := hj
        have c6 := b_u.q6
        have c7 := b_u.q7
        have c8 := b_u.q8
        have c9 := b_u.q9
        go_step
        exact hK.out
       · rfl
       refine Reg.RC_call rfl (tlt rfl) rfl (fun D v' W' hc hj hf K hK => ?_) ?_
       ·
        obtain ⟨j0, jk, jn, b_u⟩ := hj
        clear hf
        go_step
        refine (O0 W').mono ?_
        rintro e W2 ⟨u, rfl, hu, hs⟩
        obtain ⟨wa1, wa2, wa3, wa4, wa5, wa6, wa7, wa8, rfl⟩ := hu.shape
        exact hK.out _ W2 (Keeps.steps hs) ⟨jst j0 hs, jk.then_ hs, jsz jn hs, b_u.steps hs⟩ hu ⟨_, _, _, _, _, _, _, _, rfl⟩
       rintro _ ⟨wa1, wa2, wa3, wa4, wa5, wa6, wa7, wa8, rfl⟩
       refine Reg.at64 rfl ?_
       refine Reg.RC_call rfl (tlt rfl) rfl (fun D v' W' hc hj hf K hK => ?_) ?_
       ·
        obtain ⟨j0, jk, jn, b_u⟩ := hj
        have g2 : GFr (0) _ W' := (hf (2, some 47) (.head _) rfl).2.2
        have g2 : FR W' _ (0) := g2
        clear hf
        go_step
        refine (CM1 W' _ _ (F1.out.keeps jk) g2).mono ?_
        rintro e W2 ⟨rfl, hs⟩
        exact hK.out _ W2 (Keeps.steps hs) ⟨jst j0 hs, jk.then_ hs, jsz jn hs, b_u.steps hs⟩ trivial rfl
       rintro _ rfl
       refine Reg.at64 rfl ?_
       refine Reg.RP0 49 ?_
       refine Reg.RP0 50 ?_
       refine Reg.RC_skip rfl (by rw [hops]; rfl) ?_
       refine Reg.at64 rfl ?_
       refine Reg.RC_skip rfl (by rw [hops]; rfl) ?_
       refine Reg.at64 rfl ?_
       refine Reg.RC_skip rfl (by rw [hops]; rfl) ?_
       refine Reg.at64 rfl ?_
       refine Reg.RC_skip rfl (by rw [hops]; rfl) ?_
       refine Reg.at64 rfl ?_
       refine Reg.RC_skip rfl (by rw [hops]; rfl) ?_
       refine Reg.at64 rfl ?_
       refine Reg.RP0 56 ?_
       refine Reg.RP0 57 ?_
       refine Reg.RC_skip rfl (by rw [hops]; rfl) ?_
       refine Reg.at64 rfl ?_
       refine Reg.RC_skip rfl (by rw [hops]; rfl) ?_
       refine Reg.at64 rfl ?_
       refine Reg.RC_skip rfl (by rw [hops]; rfl) ?_
       refine Reg.at64 rfl ?_
       refine Reg.RC_skip rfl (by rw [hops]; rfl) ?_
       refine Reg.at64 rfl ?_
       refine Reg.RC_skip rfl (by rw [hops]; rfl) ?_
       refine Reg.at64 rfl ?_
       refine Reg.RP0 63 ?_
       refine Reg.RC_end (fun Dn v' w4 hd hj hf => ?_)
       obtain ⟨j0, jk, jn, b_u⟩ := hj
       have B := j0
       have ou := b_u
       clear b_u
       replace F1 := Hid.mk_ (F1.out.keeps jk)
       replace F2 := Hid.mk_ (F2.out.keeps jk)
       replace kk := kk.trans jk
       clear hd hf jk j0
       refine hQ _ _ ?_
       clear hQ hops Q' ops'
       go_wp2_with fail
       refine bodyPost_ret (by simp [results, Tryz.results18, go_sem, ]; rfl) rfl ?_
       exact ⟨rfl, belowB⟩
      ·
       by_cases h2 : ¬ c2 < 0
       ·
        have e0 := K2 (by omega)
        subst e0
        clear K1 K2 K3 KT2
        have h2' : 0 ≤ c2 := by omega
        have zu_3 : w.heap.size < w3.heap.size := ou.lt
        have zz3 := B.size
        go_upto_region 3 with fail
        refine Reg.wp_chain_n (fun N0 D v W => Below w.heap.size w W ∧ Keeps w3 W ∧ N0 ≤ W.heap.size ∧ Blk W (w.heap.size) 45 #[.bool false, .slice ua2 ua3 ua4, .bool ua5, .slice ua6 ua7 ua8, .int .i64 R, .int .i64 A, .bool ub1, .slice ub2 ub3 ub4, .bool ub5, .slice ub6 ub7 ub8, .bool uc1, .slice uc2 uc3 uc4, .bool uc5, .slice uc6 uc7 uc8])
         (Reg.inl [2, 3, 8, 9]) (Reg.gv [(2, IsFr), (3, fun z_ => z_ = .int .i64 c1), (8, IsFr), (9, fun z_ => z_ = .int .i64 c2)]) (gw [(2, GFr (0)), (8, GFr (1))]) (fun _ => Keeps) (fun _ _ => False) (Reg.pl [(3, [(2, some 47)]), (9, [(8, some 53)]), (19, [(2, some 47), (3, some 48), (8, some 53), (9, some 54)])]) (Reg.pl [])
         (by kernel_rfl) (by kernel_rfl) (by kernel_rfl) (Reg.gvA _) (fun N0 hN0 => ⟨fun v => ?_, fun D v v' W hv hj => ?_, fun D v k j W W' x _ _ _ _ hk hg => gwA hk hg, fun _ _ _ _ h => h.elim, fun ops' Q' hops hQ => ?_⟩)
        · exact ⟨belowB, keepsB, by first | with_reducible exact Nat.le_of_eq hN0.out | (simp only [World.size_drew]; with_reducible exact Nat.le_of_eq hN0.out), ownK⟩
        ·
         obtain ⟨j0, jk, jn, b_u⟩ := hj
         exact ⟨j0, jk, jn, b_u⟩
        have eN := hN0.out
        try simp only [World.size_alloc, World.size_setCell, World.size_drew, World.heap_drewN] at eN
        have i_u : w.heap.size < N0 := by first | omega | (have h := ou.lt; omega)
        have iw : w.heap.size ≤ N0 := by first | omega | (have h := B.size; omega)
        clear cu0 cu1 cu2 cu3 cu4 cu5 cu6 cu7 cu8 cu9 cu10 cu11 cu12 cu13 lu
        clear hN0
        refine Reg.RP0 45 ?_
        apply Reg.RP rfl rfl rfl 46 rfl rfl
        ·
         intro D v' W' hc hj hf K hK
         obtain ⟨j0, jk, jn, b_u⟩ := hj
         have c6 := b_u.q6
         have c7 := b_u.q7
         have c8 := b_u.q8
         have c9 := b_u.q9
         go_step
         exact hK.out
        · rfl
        refine Reg.RC_call rfl (tlt rfl) rfl (fun D v' W' hc hj hf K hK => ?_) ?_
        ·
         obtain ⟨j0, jk, jn, b_u⟩ := hj
         clear hf
         go_step
         refine (O0 W').mono ?_
         rintro e W2 ⟨u, rfl, hu, hs⟩
         obtain ⟨wa1, wa2, wa3, wa4, wa5, wa6, wa7, wa8, rfl⟩ := hu.shape
         exact hK.out _ W2 (Keeps.steps hs) ⟨jst j0 hs, jk.then_ hs, jsz jn hs, b_u.steps hs⟩ hu ⟨_, _, _, _, _, _, _, _, rfl⟩
        rintro _ ⟨wa1, wa2, wa3, wa4, wa5, wa6, wa7, wa8, rfl⟩
        refine Reg.at64 rfl ?_
        refine Reg.RC_call rfl (tlt rfl) rfl (fun D v' W' hc hj hf K hK => ?_) ?_
        ·
         obtain ⟨j0, jk, jn, b_u⟩ := hj
         have g2 : GFr (0) _ W' := (hf (2, some 47) (.head _) rfl).2.2
         have g2 : FR W' _ (0) := g2
         clear hf
         go_step
         refine (CM1 W' _ _ (F1.out.keeps jk) g2).mono ?_
         rintro e W2 ⟨rfl, hs⟩
         exact hK.out _ W2 (Keeps.steps hs) ⟨jst j0 hs, jk.then_ hs, jsz jn hs, b_u.steps hs⟩ trivial rfl
        rintro _ rfl
        refine Reg.at64 rfl ?_
        refine Reg.RP0 49 ?_
        refine Reg.RP0 50 ?_
        apply Reg.RP rfl rfl (by rw [hops]; rfl) 51 rfl rfl
        ·
         intro D v' W' hc hj hf K hK
         go_step
         exact hK.out
        · rfl
        apply Reg.RP rfl rfl (by rw [hops]; rfl) 52 rfl rfl
        ·
         intro D v' W' hc hj hf K hK
         obtain ⟨j0, jk, jn, b_u⟩ := hj
         have c6 := b_u.q6
         have c7 := b_u.q7
         have c8 := b_u.q8
         have c9 := b_u.q9
         go_step
         exact hK.out
        · rfl
        refine Reg.RC_call rfl (tlt rfl) (by rw [hops]; rfl) (fun D v' W' hc hj hf K hK => ?_) ?_
        ·
         obtain ⟨j0, jk, jn, b_u⟩ := hj
         clear hf
         go_step
         refine (O1 W').mono ?_
         rintro e W2 ⟨u, rfl, hu, hs⟩
         obtain ⟨wb1, wb2, wb3, wb4, wb5, wb6, wb7, wb8, rfl⟩ := hu.shape
         exact hK.out _ W2 (Keeps.steps hs) ⟨jst j0 hs, jk.then_ hs, jsz jn hs, b_u.steps hs⟩ hu ⟨_, _, _, _, _, _, _, _, rfl⟩
        rintro _ ⟨wb1, wb2, wb3, wb4, wb5, wb6, wb7, wb8, rfl⟩
        refine Reg.at64 rfl ?_
        refine Reg.RC_call rfl (tlt rfl) (by rw [hops]; rfl) (fun D v' W' hc hj hf K hK => ?_) ?_
        ·
         obtain ⟨j0, jk, jn, b_u⟩ := hj
         have g8 : GFr (1) _ W' := (hf (8, some 53) (.head _) rfl).2.2
         have g8 : FR W' _ (1) := g8
         clear hf
         go_step
         refine (CM2 W' _ _ (F1.out.keeps jk) g8).mono ?_
         rintro e W2 ⟨rfl, hs⟩
         exact hK.out _ W2 (Keeps.steps hs) ⟨jst j0 hs, jk.then_ hs, jsz jn hs, b_u.steps hs⟩ trivial rfl
        rintro _ rfl
        refine Reg.at64 rfl ?_
        apply Reg.RP rfl rfl (by rw [hops]; rfl) 55 rfl rfl
        ·
         intro D v' W' hc hj hf K hK
         go_step
         exact hK.out
        · rfl
        refine Reg.RP0 56 ?_
        refine Reg.RP0 57 ?_
        refine Reg.RC_skip rfl (by rw [hops]; rfl) ?_
        refine Reg.at64 rfl ?_
        refine Reg.RC_skip rfl (by rw [hops]; rfl) ?_
        refine Reg.at64 rfl ?_
        refine Reg.RC_skip rfl (by rw [hops]; rfl) ?_
        refine Reg.at64 rfl ?_
        refine Reg.RC_skip rfl (by rw [hops]; rfl) ?_
        refine Reg.at64 rfl ?_
        refine Reg.RC_skip rfl (by rw [hops]; rfl) ?_
        refine Reg.at64 rfl ?_
        refine Reg.RP0 63 ?_
        refine Reg.RC_end (fun Dn v' w4 hd hj hf => ?_)
        obtain ⟨j0, jk, jn, b_u⟩ := hj
        have B := j0
        have ou := b_u
        clear b_u
        replace F1 := Hid.mk_ (F1.out.keeps jk)
        replace F2 := Hid.mk_ (F2.out.keeps jk)
        replace kk := kk.trans jk
        clear hd hf jk j0
        refine hQ _ _ ?_
        clear hQ hops Q' ops'
        go_wp2_with fail
        refine bodyPost_ret (by simp [results, Tryz.results18, go_sem, ]; rfl) rfl ?_
        exact ⟨rfl, belowB⟩
       ·
        have h2' : ¬ 0 ≤ c2 := by omega
        by_cases h3 : c3 ≤ 0
        ·
         have e0 := K3 (by omega)
         subst e0
         clear K1 K2 K3 KT2
         have zu_3 : w.heap.size < w3.heap.size := ou.lt
         have zz3 := B.size
         go_upto_region 3 with fail
         refine Reg.wp_chain_n (fun N0 D v W => Below w.heap.size w W ∧ Keeps w3 W ∧ N0 ≤ W.heap.size ∧ Blk W (w.heap.size) 45 #[.bool false, .slice ua2 ua3 ua4, .bool ua5, .slice ua6 ua7 ua8, .int .i64 R, .int .i64 A, .bool ub1, .slice ub2 ub3 ub4, .bool ub5, .slice ub6 ub7 ub8, .bool uc1, .slice uc2 uc3 uc4, .bool uc5, .slice uc6 uc7 uc8])
          (Reg.inl [2, 3, 8, 9, 15, 16]) (Reg.gv [(2, IsFr), (3, fun z_ => z_ = .int .i64 c1), (8, IsFr), (9, fun z_ => z_ = .int .i64 c2), (15, IsFr), (16, fun z_ => z_ = .int .i64 c3)]) (gw [(2, GFr (0)), (8, GFr (1)), (15, GFr (0))]) (fun _ => Keeps) (fun _ _ => False) (Reg.pl [(3, [(2, some 47)]), (9, [(8, some 53)]), (16, [(15, some 60)]), (19, [(2, some 47), (3, some 48), (8, some 53), (9, some 54), (15, some 60), (16, some 61)])]) (Reg.pl [])
          (by kernel_rfl) (by kernel_rfl) (by kernel_rfl) (Reg.gvA _) (fun N0 hN0 => ⟨fun v => ?_, fun D v v' W hv hj => ?_, fun D v k j W W' x _ _ _ _ hk hg => gwA hk hg, fun _ _ _ _ h => h.elim, fun ops' Q' hops hQ => ?_⟩)
         · exact ⟨belowB, keepsB, by first | with_reducible exact Nat.le_of_eq hN0.out | (simp only [World.size_drew]; with_reducible exact Nat.le_of_eq hN0.out), ownK⟩
         ·
          obtain ⟨j0, jk, jn, b_u⟩ := hj
          exact ⟨j0, jk, jn, b_u⟩
         have eN := hN0.out
         try simp only [World.size_alloc, World.size_setCell, World.size_drew, World.heap_drewN] at eN
         have i_u : w.heap.size < N0 := by first | omega | (have h := ou.lt; omega)
         have iw : w.heap.size ≤ N0 := by first | omega | (have h := B.size; omega)
         clear cu0 cu1 cu2 cu3 cu4 cu5 cu6 cu7 cu8 cu9 cu10 cu11 cu12 cu13 lu
         clear hN0
         refine Reg.RP0 45 ?_
         apply Reg.RP rfl rfl rfl 46 rfl rfl
         ·
          intro D v' W' hc hj hf K hK
          obtain ⟨j0, jk, jn, b_u⟩ := hj
          have c6 := b_u.q6
          have c7 := b_u.q7
          have c8 := b_u.q8
          have c9 := b_u.q9
          go_step
          exact hK.out
         · rfl
         refine Reg.RC_call rfl (tlt rfl) rfl (fun D v' W' hc hj hf K hK => ?_) ?_
         ·
          obtain ⟨j0, jk, jn, b_u⟩ := hj
          clear hf
          go_step
          refine (O0 W').mono ?_
          rintro e W2 ⟨u, rfl, hu, hs⟩
          obtain ⟨wa1, wa2, wa3, wa4, wa5, wa6, wa7, wa8, rfl⟩ := hu.shape
          exact hK.out _ W2 (Keeps.steps hs) ⟨jst j0 hs, jk.then_ hs, jsz jn hs, b_u.steps hs⟩ hu ⟨_, _, _, _, _, _, _, _, rfl⟩
         rintro _ ⟨wa1, wa2, wa3, wa4, wa5, wa6, wa7, wa8, rfl⟩
         refine Reg.at64 rfl ?_
         refine Reg.RC_call rfl (tlt rfl) rfl (fun D v' W' hc hj hf K hK => ?_) ?_
         ·
          obtain ⟨j0, jk, jn, b_u⟩ := hj
          have g2 : GFr (0) _ W' := (hf (2, some 47) (.head _) rfl).2.2
          have g2 : FR W' _ (0) := g2
          clear hf
          go_step
          refine (CM1 W' _ _ (F1.out.keeps jk) g2).mono ?_
          rintro e W2 ⟨rfl, hs⟩
          exact hK.out _ W2 (Keeps.steps hs) ⟨jst j0 hs, jk.then_ hs, jsz jn hs, b_u.steps hs⟩ trivial rfl
         rintro _ rfl
         refine Reg.at64 rfl ?_
         refine Reg.RP0 49 ?_
         refine Reg.RP0 50 ?_
         apply Reg.RP rfl rfl (by rw [hops]; rfl) 51 rfl rfl
         ·
          intro D v' W' hc hj hf K hK
          go_step
          exact hK.out
         · rfl
         apply Reg.RP rfl rfl (by rw [hops]; rfl) 52 rfl rfl
         ·
          intro D v' W' hc hj hf K hK
          obtain ⟨j0, jk, jn, b_u⟩ := hj
          have c6 := b_u.q6
          have c7 := b_u.q7
          have c8 := b_u.q8
          have c9 := b_u.q9
          go_step
          exact hK.out
         · rfl
         refine Reg.RC_call rfl (tlt rfl) (by rw [hops]; rfl) (fun D v' W' hc hj hf K hK => ?_) ?_
         ·
          obtain ⟨j0, jk, jn, b_u⟩ := hj
          clear hf
          go_step
          refine (O1 W').mono ?_
          rintro e W2 ⟨u, rfl, hu, hs⟩
          obtain ⟨wb1, wb2, wb3, wb4, wb5, wb6, wb7, wb8, rfl⟩ := hu.shape
          exact hK.out _ W2 (Keeps.steps hs) ⟨jst j0 hs, jk.then_ hs, jsz jn hs, b_u.steps hs⟩ hu ⟨_, _, _, _, _, _, _, _, rfl⟩
         rintro _ ⟨wb1, wb2, wb3, wb4, wb5, wb6, wb7, wb8, rfl⟩
         refine Reg.at64 rfl ?_
         refine Reg.RC_call rfl (tlt rfl) (by rw [hops]; rfl) (fun D v' W' hc hj hf K hK => ?_) ?_
         ·
          obtain ⟨j0, jk, jn, b_u⟩ := hj
          have g8 : GFr (1) _ W' := (hf (8, some 53) (.head _) rfl).2.2
          have g8 : FR W' _ (1) := g8
          clear hf
          go_step
          refine (CM2 W' _ _ (F1.out.keeps jk) g8).mono ?_
          rintro e W2 ⟨rfl, hs⟩
          exact hK.out _ W2 (Keeps.steps hs) ⟨jst j0 hs, jk.then_ hs, jsz jn hs, b_u.steps hs⟩ trivial rfl
         rintro _ rfl
         refine Reg.at64 rfl ?_
         apply Reg.RP rfl rfl (by rw [hops]; rfl) 55 rfl rfl
         ·
          intro D v' W' hc hj hf K hK
          go_step
          exact hK.out
         · rfl
         refine Reg.RP0 56 ?_
         refine Reg.RP0 57 ?_
         apply Reg.RP rfl rfl (by rw [hops]; rfl) 58 rfl rfl
         ·
          intro D v' W' hc hj hf K hK
          go_step
          exact hK.out
         · rfl
         apply Reg.RP rfl rfl (by rw [hops]; rfl) 59 rfl rfl
         ·
          intro D v' W' hc hj hf K hK
          obtain ⟨j0, jk, jn, b_u⟩ := hj
          have c10 := b_u.q10
          have c11 := b_u.q11
          have c12 := b_u.q12
          have c13 := b_u.q13
          go_step
          exact hK.out
         · rfl
         refine Reg.RC_call rfl (tlt rfl) (by rw [hops]; rfl) (fun D v' W' hc hj hf K hK => ?_) ?_
         ·
          obtain ⟨j0, jk, jn, b_u⟩ := hj
          clear hf
          go_step
          refine (O0 W').mono ?_
          rintro e W2 ⟨u, rfl, hu, hs⟩
          obtain ⟨wc1, wc2, wc3, wc4, wc5, wc6, wc7, wc8, rfl⟩ := hu.shape
          exact hK.out _ W2 (Keeps.steps hs) ⟨jst j0 hs, jk.then_ hs, jsz jn hs, b_u.steps hs⟩ hu ⟨_, _, _, _, _, _, _, _, rfl⟩
         rintro _ ⟨wc1, wc2, wc3, wc4, wc5, wc6, wc7, wc8, rfl⟩
         refine Reg.at64 rfl ?_
         refine Reg.RC_call rfl (tlt rfl) (by rw [hops]; rfl) (fun D v' W' hc hj hf K hK => ?_) ?_
         ·
          obtain ⟨j0, jk, jn, b_u⟩ := hj
          have g15 : GFr (0) _ W' := (hf (15, some 60) (.head _) rfl).2.2
          have g15 : FR W' _ (0) := g15
          clear hf
          go_step
          refine (CM3 W' _ _ (F2.out.keeps jk) g15).mono ?_
          rintro e W2 ⟨rfl, hs⟩
          exact hK.out _ W2 (Keeps.steps hs) ⟨jst j0 hs, jk.then_ hs, jsz jn hs, b_u.steps hs⟩ trivial rfl
         rintro _ rfl
         refine Reg.at64 rfl ?_
         apply Reg.RP rfl rfl (by rw [hops]; rfl) 62 rfl rfl
         ·
          intro D v' W' hc hj hf K hK
          go_step
          exact hK.out
         · rfl
         refine Reg.RP0 63 ?_
         refine Reg.RC_end (fun Dn v' w4 hd hj hf => ?_)
         obtain ⟨j0, jk, jn, b_u⟩ := hj
         have B := j0
         have ou := b_u
         clear b_u
         replace F1 := Hid.mk_ (F1.out.keeps jk)
         replace F2 := Hid.mk_ (F2.out.keeps jk)
         replace kk := kk.trans jk
         clear hd hf jk j0
         refine hQ _ _ ?_
         clear hQ hops Q' ops'
         go_wp2_with fail
         refine bodyPost_ret (by simp [results, Tryz.results18, go_sem, ]; rfl) rfl ?_
         exact ⟨rfl, belowB⟩
        ·
         have e0 := KT2 (by omega) (by omega) (by omega)
         subst e0
         clear K1 K2 K3 KT2
         have zu_3 : w.heap.size < w3.heap.size := ou.lt
         have zz3 := B.size
         go_upto_region 3 with fail
         refine Reg.wp_chain_n (fun N0 D v W => Below w.heap.size w W ∧ Keeps w3 W ∧ N0 ≤ W.heap.size ∧ Blk W (w.heap.size) 45 #[.bool false, .slice ua2 ua3 ua4, .bool ua5, .slice ua6 ua7 ua8, .int .i64 R, .int .i64 A, .bool ub1, .slice ub2 ub3 ub4, .bool ub5, .slice ub6 ub7 ub8, .bool uc1, .slice uc2 uc3 uc4, .bool uc5, .slice uc6 uc7 uc8])
          (Reg.inl [2, 3, 8, 9, 15, 16]) (Reg.gv [(2, IsFr), (3, fun z_ => z_ = .int .i64 c1), (8, IsFr), (9, fun z_ => z_ = .int .i64 c2), (15, IsFr), (16, fun z_ => z_ = .int .i64 c3)]) (gw [(2, GFr (0)), (8, GFr (1)), (15, GFr (0))]) (fun _ => Keeps) (fun _ _ => False) (Reg.pl [(3, [(2, some 47)]), (9, [(8, some 53)]), (16, [(15, some 60)]), (19, [(2, some 47), (3, some 48), (8, some 53), (9, some 54), (15, some 60), (16, some 61)])]) (Reg.pl [])
          (by kernel_rfl) (by kernel_rfl) (by kernel_rfl) (Reg.gvA _) (fun N0 hN0 => ⟨fun v => ?_, fun D v v' W hv hj => ?_, fun D v k j W W' x _ _ _ _ hk hg => gwA hk hg, fun _ _ _ _ h => h.elim, fun ops' Q' hops hQ => ?_⟩)
         · exact ⟨belowB, keepsB, by first | with_reducible exact Nat.le_of_eq hN0.out | (simp only [World.size_drew]; with_reducible exact Nat.le_of_eq hN0.out), ownK⟩
         ·
          obtain ⟨j0, jk, jn, b_u⟩ := hj
          exact ⟨j0, jk, jn, b_u⟩
         have eN := hN0.out
         try simp only [World.size_alloc, World.size_setCell, World.size_drew, World.heap_drewN] at eN
         have i_u : w.heap.size < N0 := by first | omega | (have h := ou.lt; omega)
         have iw : w.heap.size ≤ N0 := by first | omega | (have h := B.size; omega)
         clear cu0 cu1 cu2 cu3 cu4 cu5 cu6 cu7 cu8 cu9 cu10 cu11 cu12 cu13 lu
         clear hN0
         refine Reg.RP0 45 ?_
         apply Reg.RP rfl rfl rfl 46 rfl rfl
         ·
          intro D v' W' hc hj hf K hK
          obtain ⟨j0, jk, jn, b_u⟩ := hj
          have c6 := b_u.q6
          have c7 := b_u.q7
          have c8 := b_u.q8
          have c9 := b_u.q9
          go_step
          exact hK.out
         · rfl
         refine Reg.RC_call rfl (tlt rfl) rfl (fun D v' W' hc hj hf K hK => ?_) ?_
         ·
          obtain ⟨j0, jk, jn, b_u⟩ := hj
          clear hf
          go_step
          refine (O0 W').mono ?_
          rintro e W2 ⟨u, rfl, hu, hs⟩
          obtain ⟨wa1, wa2, wa3, wa4, wa5, wa6, wa7, wa8, rfl⟩ := hu.shape
          exact hK.out _ W2 (Keeps.steps hs) ⟨jst j0 hs, jk.then_ hs, jsz jn hs, b_u.steps hs⟩ hu ⟨_, _, _, _, _, _, _, _, rfl⟩
         rintro _ ⟨wa1, wa2, wa3, wa4, wa5, wa6, wa7, wa8, rfl⟩
         refine Reg.at64 rfl ?_
         refine Reg.RC_call rfl (tlt rfl) rfl (fun D v' W' hc hj hf K hK => ?_) ?_
         ·
          obtain ⟨j0, jk, jn, b_u⟩ := hj
          have g2 : GFr (0) _ W' := (hf (2, some 47) (.head _) rfl).2.2
          have g2 : FR W' _ (0) := g2
          clear hf
          go_step
          refine (CM1 W' _ _ (F1.out.keeps jk) g2).mono ?_
          rintro e W2 ⟨rfl, hs⟩
          exact hK.out _ W2 (Keeps.steps hs) ⟨jst j0 hs, jk.then_ hs, jsz jn hs, b_u.steps hs⟩ trivial rfl
         rintro _ rfl
         refine Reg.at64 rfl ?_
         refine Reg.RP0 49 ?_
         refine Reg.RP0 50 ?_
         apply Reg.RP rfl rfl (by rw [hops]; rfl) 51 rfl rfl
         ·
          intro D v' W' hc hj hf K hK
          go_step
          exact hK.out
         · rfl
         apply Reg.RP rfl rfl (by rw [hops]; rfl) 52 rfl rfl
         ·
          intro D v' W' hc hj hf K hK
          obtain ⟨j0, jk, jn, b_u⟩ := hj
          have c6 := b_u.q6
          have c7 := b_u.q7
          have c8 := b_u.q8
          have c9 := b_u.q9
          go_step
          exact hK.out
         · rfl
         refine Reg.RC_call rfl (tlt rfl) (by rw [hops]; rfl) (fun D v' W' hc hj hf K hK => ?_) ?_
         ·
          obtain ⟨j0, jk, jn, b_u⟩ := hj
          clear hf
          go_step
          refine (O1 W').mono ?_
          rintro e W2 ⟨u, rfl, hu, hs⟩
          obtain ⟨wb1, wb2, wb3, wb4, wb5, wb6, wb7, wb8, rfl⟩ := hu.shape
          exact hK.out _ W2 (Keeps.steps hs) ⟨jst j0 hs, jk.then_ hs, jsz jn hs, b_u.steps hs⟩ hu ⟨_, _, _, _, _, _, _, _, rfl⟩
         rintro _ ⟨wb1, wb2, wb3, wb4, wb5, wb6, wb7, wb8, rfl⟩
         refine Reg.at64 rfl ?_
         refine Reg.RC_call rfl (tlt rfl) (by rw [hops]; rfl) (fun D v' W' hc hj hf K hK => ?_) ?_
         ·
          obtain ⟨j0, jk, jn, b_u⟩ := hj
          have g8 : GFr (1) _ W' := (hf (8, some 53) (.head _) rfl).2.2
          have g8 : FR W' _ (1) := g8
          clear hf
          go_step
          refine (CM2 W' _ _ (F1.out.keeps jk) g8).mono ?_
          rintro e W2 ⟨rfl, hs⟩
          exact hK.out _ W2 (Keeps.steps hs) ⟨jst j0 hs, jk.then_ hs, jsz jn hs, b_u.steps hs⟩ trivial rfl
         rintro _ rfl
         refine Reg.at64 rfl ?_
         apply Reg.RP rfl rfl (by rw [hops]; rfl) 55 rfl rfl
         ·
          intro D v' W' hc hj hf K hK
          go_step
          exact hK.out
         · rfl
         refine Reg.RP0 56 ?_
         refine Reg.RP0 57 ?_
         apply Reg.RP rfl rfl (by rw [hops]; rfl) 58 rfl rfl
         ·
          intro D v' W' hc hj hf K hK
          go_step
          exact hK.out
         · rfl
         apply Reg.RP rfl rfl (by rw [hops]; rfl) 59 rfl rfl
         ·
          intro D v' W' hc hj hf K hK
          obtain ⟨j0, jk, jn, b_u⟩ := hj
          have c10 := b_u.q10
          have c11 := b_u.q11
          have c12 := b_u.q12
          have c13 := b_u.q13
          go_step
          exact hK.out
         · rfl
         refine Reg.RC_call rfl (tlt rfl) (by rw [hops]; rfl) (fun D v' W' hc hj hf K hK => ?_) ?_
         ·
          obtain ⟨j0, jk, jn, b_u⟩ := hj
          clear hf
          go_step
          refine (O0 W').mono ?_
          rintro e W2 ⟨u, rfl, hu, hs⟩
          obtain ⟨wc1, wc2, wc3, wc4, wc5, wc6, wc7, wc8, rfl⟩ := hu.shape
          exact hK.out _ W2 (Keeps.steps hs) ⟨jst j0 hs, jk.then_ hs, jsz jn hs, b_u.steps hs⟩ hu ⟨_, _, _, _, _, _, _, _, rfl⟩
         rintro _ ⟨wc1, wc2, wc3, wc4, wc5, wc6, wc7, wc8, rfl⟩
         refine Reg.at64 rfl ?_
         refine Reg.RC_call rfl (tlt rfl) (by rw [hops]; rfl) (fun D v' W' hc hj hf K hK => ?_) ?_
         ·
          obtain ⟨j0, jk, jn, b_u⟩ := hj
          have g15 : GFr (0) _ W' := (hf (15, some 60) (.head _) rfl).2.2
          have g15 : FR W' _ (0) := g15
          clear hf
          go_step
          refine (CM3 W' _ _ (F2.out.keeps jk) g15).mono ?_
          rintro e W2 ⟨rfl, hs⟩
          exact hK.out _ W2 (Keeps.steps hs) ⟨jst j0 hs, jk.then_ hs, jsz jn hs, b_u.steps hs⟩ trivial rfl
         rintro _ rfl
         refine Reg.at64 rfl ?_
         apply Reg.RP rfl rfl (by rw [hops]; rfl) 62 rfl rfl
         ·
          intro D v' W' hc hj hf K hK
          go_step
          exact hK.out
         · rfl
         refine Reg.RP0 63 ?_
         refine Reg.RC_end (fun Dn v' w4 hd hj hf => ?_)
         obtain ⟨j0, jk, jn, b_u⟩ := hj
         have B := j0
         have ou := b_u
         clear b_u
         replace F1 := Hid.mk_ (F1.out.keeps jk)
         replace F2 := Hid.mk_ (F2.out.keeps jk)
         replace kk := kk.trans jk
         clear hd hf jk j0
         refine hQ _ _ ?_
         clear hQ hops Q' ops'
         go_wp2_with fail
         refine bodyPost_ret (by simp [results, Tryz.results18, go_sem, ]; rfl) rfl ?_
         exact ⟨rfl, belowB⟩
def ruleC (c : Array Value) : Value → Value → Array Value
 | .agg a, .agg b => #[a.getD 0 (.bool false), a.getD 1 (.bool false), a.getD 2 (.bool false), a.getD 3 (.bool false), .int .i64 1, .int .i64 400, b.getD 0 (.bool false), b.getD 1 (.bool false), b.getD 2 (.bool false), b.getD 3 (.bool false), c.getD 0 (.bool false), c.getD 1 (.bool false), c.getD 2 (.bool false), c.getD 3 (.bool false)]
 | _, _ => #[]
theorem SimO.steps {w w' : World} {v : Value} {o : Option (Nat → Rat)} (h : SimO w v o) (s : Steps w w') : SimO w' v o := h.keeps (Keeps.steps s)
theorem FO.steps {w w' : World} {v : Value} {o : Option Rat} (h : FO w v o) (s : Steps w w') : FO w' v o := h.keeps (Keeps.steps s)
def simA : Nat → Rat := simT (0, 0) (1, 0) (1, 1) (1, 3)
def ruleA (i : Nat) : Option Rat := match i with | 0 => some 0 | 1 => some (1 / 10) | _ => some 1
theorem cur_get {cur : Array Value} {l : List Int} {n : Nat} (hn : l.length = n) (ht : cur.toList.take n = ints l) {k : Nat} (hk : k < n) : cur[k]? = some (.int .i64 (l.getD k 0)) := by
 subst hn
 have h1 : (cur.toList.take l.length)[k]? = (ints l)[k]? := by rw [ht]
 rw [List.getElem?_take, if_pos hk] at h1
 rw [← Array.getElem?_toList, h1]
 unfold ints
 rw [List.getElem?_map, List.getD_eq_getElem?_getD, List.getElem?_eq_getElem hk]
 rfl
theorem ints_of_cur {w : World} {b cap n : Nat} {t : TypeId} {cur : Array Value} {l : List Int} (hb : Blk w b t cur) (hn : l.length = n) (hc : n ≤ cap) (ht : cur.toList.take n = ints l) : IntsR w (.slice (some ⟨b, 0, none⟩) n cap) l := by
 subst hn
 refine ⟨_, cap, rfl, hc, fun _ => ⟨b, 0, rfl, hb.lt, fun k hk => ?_⟩⟩
 rw [Nat.zero_add, hb.cell k, cur_get rfl ht hk]
theorem chk_okP {l : PL} (h : chkP l = 0) (k : Nat) (hk : k < l.length) : okP (pt l k) := by
 have := chk_pts h k hk
 exact this
theorem chk_short {l : PL} (h : chkP l = 0) : l.length ≤ 200 := by
 unfold chkP at h
 rcases Nat.lt_or_ge 200 l.length with g | g
 · rw [if_pos g] at h; cases h
 · exact g
theorem sz_apX {t : Nat → Rat} {p : Int × Int} (ht : ∀ i, i < 4 → sz (t i) 16) (h : okP p) : sz (apX t p) 60 ∧ sz (apY t p) 60 := by
 have hx : sz (p.1 : Rat) 2 := sz_coord ⟨h.1, h.2.1⟩
 have hy : sz (p.2 : Rat) 2 := sz_coord ⟨h.2.2.1, h.2.2.2⟩
 refine ⟨?_, ?_⟩
 ·
  unfold apX
  exact (((((ht 0 (by omega)).mul hx).sub ((ht 1 (by omega)).mul hy)).add (ht 2 (by omega))).mono (by omega))
 ·
  unfold apY
  exact (((((ht 1 (by omega)).mul hx).add ((ht 0 (by omega)).mul hy)).add (ht 3 (by omega))).mono (by omega))
theorem prtP_sz {x y rad : Rat} {m : PL} {k : Nat} (hx : sz x k) (hy : sz y k) (hr : sz rad 2) (hm : chkP m = 0) : ∀ n, n ≤ m.length → sz (prtP x y rad m n).2 (k + 3)
 | 0, _ => hr.mono (by omega)
 | n + 1, h => by
  unfold prtP
  split
  · exact sz_apart hx hy (chk_okP hm n (by omega))
  · exact prtP_sz hx hy hr hm n (by omega)
theorem prtP_step {x y rad : Rat} {m : PL} {n : Nat} {c : Int} (hc : cmpQ (apartQ x y (pt m n)) (prtP x y rad m n).2 = c) :
  (c < 0 → prtP x y rad m (n + 1) = ((n : Int), apartQ x y (pt m n))) ∧ (c = 0 → (prtP x y rad m n).1 < 0 → prtP x y rad m (n + 1) = ((n : Int), apartQ x y (pt m n))) ∧ (¬ c < 0 → ¬ (c = 0 ∧ (prtP x y rad m n).1 < 0) → prtP x y rad m (n + 1) = prtP x y rad m n) := by
 subst hc
 refine ⟨fun h => if_pos (.inl (cmpQ_lt.1 h)), fun h g => if_pos (.inr ⟨cmpQ_eq.1 h, g⟩), fun h g => if_neg ?_⟩
 rintro (e | ⟨e, e2⟩)
 · exact h (cmpQ_lt.2 e)
 · exact g ⟨cmpQ_eq.2 e, e2⟩
theorem cur_next {cur : Array Value} {xs : List Int} {i : Nat} (hs : i < cur.size) (hl : xs.length = i) (ht : cur.toList.take i = ints xs) (x : Int) : (cur.setIfInBounds i (.int .i64 x)).toList.take (i + 1) = ints (xs ++ [x]) := by
 rw [Array.toList_setIfInBounds, List.take_set, List.take_succ_eq_append_getElem (by simpa using hs), ht, ints_snoc, List.set_append]
 have e : (ints xs).length = i := by unfold ints; rw [List.length_map, hl]
 rw [if_neg (by omega), e, Nat.sub_self]
 rfl
theorem infoI64 : (Tryz.prog.info? 3).map (fun i => (i.zero, i.size, i.bytes)) = some (some (.int .i64 0), 1, 8) := by kernel_rfl
theorem make_ints (n : Nat) (h : n ≤ 1000000000) (w : World) : (Instr.makeSlice 46 (.int .i64 (n : Int)) (.int .i64 (n : Int))).run Tryz.prog w = .ok (.slice (some ⟨w.heap.size, 0, none⟩) n n) (w.alloc (.cells (madeCells #[.int .i64 0] n) 3)) :=
 run_make_row' (P := Tryz.prog) 46 3 (.int .i64 0) 8 Tryz.underlying46 infoI64 rfl .i64 .i64 n (by omega) (by omega) w
theorem noU_set {cs : Array Value} (h : noU32 cs = true) (i : Nat) (x : Int) : noU32 (cs.setIfInBounds i (.int .i64 x)) = true := by
 unfold noU32 at h ⊢
 rw [Array.toList_setIfInBounds]
 rw [List.all_eq_true] at h ⊢
 intro v hv
 rcases List.mem_or_eq_of_mem_set hv with g | g
 · exact h v g
 · rw [g]
theorem noU_made (n : Nat) : noU32 (madeCells #[.int .i64 0] n) = true := by
 unfold noU32
 rw [List.all_eq_true]
 intro v hv
 unfold madeCells at hv
 rw [Array.toList_map, List.mem_map] at hv
 obtain ⟨a, -, rfl⟩ := hv
 rw [show (#[Value.int .i64 0] : Array Value).size = 1 from rfl, Nat.mod_one]
 rfl
theorem wp_seal {P : Program} {ops : Array Oper} {Q : Exit → Act → World → Prop} {rest : List Oper} {a : Act} {W : World} (J : World → Prop) (hJ : J W) (h : ∀ wx, J wx → wpList P ops Q rest a wx) : wpList P ops Q rest a W := h W hJ
theorem prpairs {ka1 ka5 kb1 kb5 kc1 kc5 kd1 kd5 : Bool} {ka2 ka6 kb2 kb6 kc2 kc6 kd2 kd6 : Option Addr} {ka3 ka4 ka7 ka8 kb3 kb4 kb7 kb8 kc3 kc4 kc7 kc8 kd3 kd4 kd7 kd8 : Nat} {t : Nat → Rat} {vl vm : Value} {l m : PL} (rad : Int) (w : World) (h0 : FR w (.agg #[.bool ka1, .slice ka2 ka3 ka4, .bool ka5, .slice ka6 ka7 ka8]) (t 0)) (h1 : FR w (.agg #[.bool kb1, .slice kb2 kb3 kb4, .bool kb5, .slice kb6 kb7 kb8]) (t 1)) (h2 : FR w (.agg #[.bool kc1, .slice kc2 kc3 kc4, .bool kc5, .slice kc6 kc7 kc8]) (t 2)) (h3 : FR w (.agg #[.bool kd1, .slice kd2 kd3 kd4, .bool kd5, .slice kd6 kd7 kd8]) (t 3)) (ht : ∀ i, i < 4 → sz (t i) 16) (hl : Pts w vl l) (hm : Pts w vm m) (cl : chkP l = 0) (cm : chkP m = 0) (r0 : 1 ≤ rad) (r1 : rad ≤ 65536) :
  Calls Tryz.prog 63 #[.agg #[.bool ka1, .slice ka2 ka3 ka4, .bool ka5, .slice ka6 ka7 ka8, .bool kb1, .slice kb2 kb3 kb4, .bool kb5, .slice kb6 kb7 kb8, .bool kc1, .slice kc2 kc3 kc4, .bool kc5, .slice kc6 kc7 kc8, .bool kd1, .slice kd2 kd3 kd4, .bool kd5, .slice kd6 kd7 kd8], vl, vm, .int .i64 rad] w fun e w' => ∃ u, e = .returned u ∧ IntsR w' u (partners t (rad : Rat) l m l.length) ∧ Steps w w' := by
 have AP : ∀ i, i < l.length → ∀ w', Steps w w' → Calls Tryz.prog 43 #[.agg #[.bool ka1, .slice ka2 ka3 ka4, .bool ka5, .slice ka6 ka7 ka8, .bool kb1, .slice kb2 kb3 kb4, .bool kb5, .slice kb6 kb7 kb8, .bool kc1, .slice kc2 kc3 kc4, .bool kc5, .slice kc6 kc7 kc8, .bool kd1, .slice kd2 kd3 kd4, .bool kd5, .slice kd6 kd7 kd8], .agg #[.int .i64 (pt l i).1, .int .i64 (pt l i).2]] w' fun e w2 => ∃ u v, e = .returned (.tuple #[u, v]) ∧ FR w2 u (apX t (pt l i)) ∧ FR w2 v (apY t (pt l i)) ∧ Steps w' w2 := fun i hi w' s => by
  have ok := chk_okP cl i hi
  have k := Keeps.steps s
  exact rapply (pt l i).1 (pt l i).2 w' (h0.keeps k) (h1.keeps k) (h2.keeps k) (h3.keeps k) ((ht 0 (by omega)).mono (by omega)) ((ht 1 (by omega)).mono (by omega)) ((ht 2 (by omega)).mono (by omega)) ((ht 3 (by omega)).mono (by omega)) ⟨ok.1, ok.2.1⟩ ⟨ok.2.2.1, ok.2.2.2⟩
 have RA : ∀ w', Calls Tryz.prog 47 #[.int .i64 rad] w' fun e w2 => ∃ v, e = .returned v ∧ FR w2 v (rad : Rat) ∧ Steps w' w2 := fun w' => rwhole rad w' (by omega) (by omega)
 have SA := fun i (hi : i < l.length) => sz_apX ht (chk_okP cl i hi)
 have zr : sz (rad : Rat) 2 := sz_coord ⟨by omega, by omega⟩
 have DI : ∀ i, i < l.length → ∀ k, k < m.length → ∀ (w' : World) (u v : Value), FR w' u (apX t (pt l i)) → FR w' v (apY t (pt l i)) → Calls Tryz.prog 30 #[u, v, .agg #[.int .i64 (pt m k).1, .int .i64 (pt m k).2]] w' fun e w2 => ∃ d, e = .returned d ∧ FR w2 d (apartQ (apX t (pt l i)) (apY t (pt l i)) (pt m k)) ∧ Steps w' w2 := fun i hi k hk w' u v hu hv => prapart (pt m k).1 (pt m k).2 w' hu hv ((SA i hi).1.mono (by omega)) ((SA i hi).2.mono (by omega)) (chk_okP cm k hk)
 have CM : ∀ i, i < l.length → ∀ k, k < m.length → ∀ (w' : World) (u v : Value), FR w' u (apartQ (apX t (pt l i)) (apY t (pt l i)) (pt m k)) → FR w' v (prtP (apX t (pt l i)) (apY t (pt l i)) (rad : Rat) m k).2 → Calls Tryz.prog 46 #[u, v] w' fun e w2 => e = .returned (.int .i64 (cmpQ (apartQ (apX t (pt l i)) (apY t (pt l i)) (pt m k)) (prtP (apX t (pt l i)) (apY t (pt l i)) (rad : Rat) m k).2)) ∧ Steps w' w2 := fun i hi k hk w' u v hu hv => prcmp w' hu hv (sz_apart (SA i hi).1 (SA i hi).2 (chk_okP cm k hk)) (prtP_sz (SA i hi).1 (SA i hi).2 zr cm k (by omega)) (by omega)
 have SP := fun i k c (h : cmpQ (apartQ (apX t (pt l i)) (apY t (pt l i)) (pt m k)) (prtP (apX t (pt l i)) (apY t (pt l i)) (rad : Rat) m k).2 = c) => prtP_step h
 have P0 : ∀ i, prtP (apX t (pt l i)) (apY t (pt l i)) (rad : Rat) m 0 = (-1, (rad : Rat)) := fun i => rfl
 have PS : ∀ i, partners t (rad : Rat) l m (i + 1) = partners t (rad : Rat) l m i ++ [(prtP (apX t (pt l i)) (apY t (pt l i)) (rad : Rat) m m.length).1] := fun i => rfl
 have PL0 := partners_len t (rad : Rat) l m
 have PZ : partners t (rad : Rat) l m 0 = [] := rfl
 have hlN := chk_short cl
 have hmN := chk_short cm
 obtain ⟨PA, hPA⟩ : ∃ f, partners t (rad : Rat) l m = f := ⟨_, rfl⟩
 obtain ⟨XX, hXX⟩ : ∃ f : Nat → Rat, ∀ i, apX t (pt l i) = f i := ⟨_, fun _ => rfl⟩
 obtain ⟨YY, hYY⟩ : ∃ f : Nat → Rat, ∀ i, apY t (pt l i) = f i := ⟨_, fun _ => rfl⟩
 simp only [hXX, hYY, hPA] at AP DI CM SP P0 PS PL0 PZ ⊢
 obtain ⟨DD, hDD⟩ : ∃ f : Nat → Nat → Rat, ∀ i k, apartQ (XX i) (YY i) (pt m k) = f i k := ⟨_, fun _ _ => rfl⟩
 obtain ⟨PP, hPP⟩ : ∃ f : Nat → Nat → Int × Rat, ∀ i k, prtP (XX i) (YY i) (rad : Rat) m k = f i k := ⟨_, fun _ _ => rfl⟩
 simp only [hDD, hPP] at DI CM SP P0 PS
 obtain ⟨la, lc, rfl⟩ := hl.shape
 obtain ⟨ma, mc, rfl⟩ := hm.shape
 have HPl := Hid.mk_ hl
 have HPm := Hid.mk_ hm
 obtain ⟨N, hN⟩ : ∃ n, l.length = n := ⟨_, rfl⟩
 obtain ⟨M, hM⟩ : ∃ n, m.length = n := ⟨_, rfl⟩
 have HN := Hid.mk_ hN
 have HM := Hid.mk_ hM
 rw [hN] at AP DI CM HPl hlN ⊢
 rw [hM] at DI CM PS HPm hmN ⊢
 generalize (rad : Rat) = RQ at RA P0
 have PS' := Hid.mk_ PS
 have PL' := Hid.mk_ PL0
 clear h0 h1 h2 h3 ht hl hm cl cm r0 r1 SA zr hPA hXX hYY hDD hPP hN hM PS PL0
 go_enter Tryz.func63, Tryz.ntmps63
 have kk := Keeps.refl w
 go_wp2_with fail
 go_loopw [9, 10] (fun ow sl0 wo => ∃ (i : Nat) (oa : Option Addr) (oc : Nat), i ≤ N ∧ sl0 = .int .i64 i ∧ ow = .slice oa (PA i).length oc ∧ RowU wo (w.heap.size + 1) 3 1 ow (PA i).length (ints (PA i)) ∧ Blk wo (w.heap.size) 30 #[.bool ka1, .slice ka2 ka3 ka4, .bool ka5, .slice ka6 ka7 ka8, .bool kb1, .slice kb2 kb3 kb4, .bool kb5, .slice kb6 kb7 kb8, .bool kc1, .slice kc2 kc3 kc4, .bool kc5, .slice kc6 kc7 kc8, .bool kd1, .slice kd2 kd3 kd4, .bool kd5, .slice kd6 kd7 kd8] ∧ Below w.heap.size w wo ∧ Keeps w wo) (fun _ sl0 _ => N - (intOf sl0).toNat)
 case atStart => exact ⟨0, none, 0, by omega, rfl, by rw [PZ]; rfl, by rw [PZ]; exact RowU.nil _ _ _ _, ownK, belowB, keepsB⟩
 case round =>
  rename World => wo
  try clear kk
  try clear B
  try clear os
  obtain ⟨i, oa, oc, hi, rfl, rfl, hr, os, Bw, kw⟩ := hrel
  have HR := Hid.mk_ hr
  clear hr
  rcases Nat.lt_or_ge i N with i4 | i4
  obtain ⟨cs0, cs1, cs2, cs3, cs4, cs5, cs6, cs7, cs8, cs9, cs10, cs11, cs12, cs13, cs14, cs15⟩ := os.r15
  have ls := os.lt
  ·
   have hltN : decide ((i : Int) < (N : Int)) = true := decide_eq_true (by omega)
   have zs0 : w.heap.size < wo.heap.size := os.lt
   obtain ⟨b, of, rfl, hbl, hx0, hy0⟩ := (HPl.out.steps Bw).at (a := i) (by have := HN.out; omega)
   have HMm := Hid.mk_ (HPm.out.steps Bw)
   have ap : ∀ w', Steps wo w' → _ := fun w' s => AP i i4 w' (below_steps Bw (Nat.le_refl _) s)
   have di := DI i i4
   have cmp := CM i i4
   have sp := SP i
   have p0 := P0 i
   have kk := Keeps.refl wo
   have B := Below.refl wo.heap.size wo
   go_wp2_with fail
   go_upto_region 5 with fail
   refine Reg.wp_chain_n (fun N0 D v W => Below wo.heap.size wo W ∧ Keeps wo W ∧ N0 ≤ W.heap.size ∧ Blk W (w.heap.size) 30 #[.bool ka1, .slice ka2 ka3 ka4, .bool ka5, .slice ka6 ka7 ka8, .bool kb1, .slice kb2 kb3 kb4, .bool kb5, .slice kb6 kb7 kb8, .bool kc1, .slice kc2 kc3 kc4, .bool kc5, .slice kc6 kc7 kc8, .bool kd1, .slice kd2 kd3 kd4, .bool kd5, .slice kd6 kd7 kd8] ∧ (D 9 = true → ∃ g : Nat, v 9 = .pointer (some ⟨g, 0, none⟩) ∧ N0 ≤ g ∧ g < W.heap.size ∧ (D 11 = false → Blk W g 28 #[.bool false, .slice none 0 0, .bool false, .slice none 0 0]) ∧ (D 11 = true → D 5 = true ∧ ∃ cs, tupAt 0 (v 5) = .agg cs ∧ Blk W g 28 cs)) ∧ (D 10 = true → ∃ g : Nat, v 10 = .pointer (some ⟨g, 0, none⟩) ∧ N0 ≤ g ∧ g < W.heap.size ∧ (D 12 = false → Blk W g 28 #[.bool false, .slice none 0 0, .bool false, .slice none 0 0]) ∧ (D 12 = true → D 5 = true ∧ ∃ cs, tupAt 1 (v 5) = .agg cs ∧ Blk W g 28 cs)) ∧ (D 9 = true → D 10 = true → v 9 ≠ v 10))
    (Reg.inl [5, 9, 10, 11, 12]) (Reg.gv [(5, IsFr2), (9, IsPtr), (10, IsPtr)]) (gw [(5, GFr2 ((XX i)) ((YY i)))]) (fun _ => Keeps) (fun _ _ => False) (Reg.pl [(11, [(5, some 30), (9, some 11)]), (12, [(5, some 30), (10, some 12)]), (13, [(5, some 30), (9, some 11), (10, some 12)])]) (Reg.pl [(9, [11]), (5, [11, 12]), (10, [12])])
    (by kernel_rfl) (by kernel_rfl) (by kernel_rfl) (Reg.gv_some _ (by intro p hp; simp only [List.mem_cons, List.not_mem_nil, or_false] at hp; rcases hp with rfl | rfl | rfl <;> first | exact ⟨_, rfl⟩ | exact ⟨_, 0, rfl⟩ | exact ⟨_, none, 0, 0, rfl⟩ | exact ⟨_, false, none, 0, 0, rfl⟩ | exact ⟨_, false, none, 0, 0, false, none, 0, 0, rfl⟩ | exact ⟨_, false, none, 0, 0, false, none, 0, 0, false, none, 0, 0, false, none, 0, 0, rfl⟩)) (fun N0 hN0 => ⟨fun v => ?_, fun D v v' W hv hj => ?_, fun D v k j W W' x _ _ _ _ hk hg => gw_keeps _ (by intro p hp; simp only [List.mem_cons, List.not_mem_nil, or_false] at hp; rcases hp with rfl <;> first | exact GFr.keeps | exact GFrE.keeps | exact GNu.keeps | exact GNuE.keeps | exact GLi.keeps | exact GFr2.keeps | exact GFr2E.keeps) hk hg, fun _ _ _ _ h => h.elim, fun ops' Q' hops hQ => ?_⟩)
   · exact ⟨belowB, keepsB, by first | with_reducible exact Nat.le_of_eq hN0.out | (simp only [World.size_drew]; with_reducible exact Nat.le_of_eq hN0.out), ownK, (fun h => Bool.noConfusion h), (fun h => Bool.noConfusion h), (fun h => Bool.noConfusion h)⟩
   ·
    obtain ⟨j0, jk, jn, b_s, a_9, a_10, q_9_10⟩ := hj
    exact ⟨j0, jk, jn, b_s, fun h => by obtain ⟨g, e1, e2, e3, e4, e5⟩ := a_9 h; exact ⟨g, (hv 9 h) ▸ e1, e2, e3, e4, fun h => by obtain ⟨d, cs, e, hb⟩ := e5 h; exact ⟨d, cs, (hv 5 d) ▸ e, hb⟩⟩, fun h => by obtain ⟨g, e1, e2, e3, e4, e5⟩ := a_10 h; exact ⟨g, (hv 10 h) ▸ e1, e2, e3, e4, fun h => by obtain ⟨d, cs, e, hb⟩ := e5 h; exact ⟨d, cs, (hv 5 d) ▸ e, hb⟩⟩, fun h h' => (hv 9 h) ▸ (hv 10 h') ▸ q_9_10 h h'⟩
   have eN := hN0.out
   try simp only [World.size_alloc, World.size_setCell, World.size_drew, World.heap_drewN] at eN
   have i_s : w.heap.size < N0 := by first | omega | (have h := os.lt; omega)
   have iw : wo.heap.size ≤ N0 := by first | omega | (have h := B.size; omega)
   clear cs0 cs1 cs2 cs3 cs4 cs5 cs6 cs7 cs8 cs9 cs10 cs11 cs12 cs13 cs14 cs15 ls
   clear hN0
   apply Reg.RP rfl rfl rfl 25 rfl rfl
   ·
    intro D v' W' hc hj hf K hK
    obtain ⟨j0, jk, jn, b_s, a_9, a_10, q_9_10⟩ := hj
    obtain ⟨c0, c1, c2, c3, c4, c5, c6, c7, c8, c9, c10, c11, c12, c13, c14, c15⟩ := b_s.r15
    go_step
    exact hK.out
   · rfl
   refine Reg.RP0 26 ?_
   refine Reg.RP0 27 ?_
   refine Reg.RP0 28 ?_
   apply Reg.RP rfl rfl rfl 29 rfl rfl
   ·
    intro D v' W' hc hj hf K hK
    obtain ⟨j0, jk, jn, b_s, a_9, a_10, q_9_10⟩ := hj
    have x0_ : W'.cell? ⟨b, of + i * 2, none⟩ = some (.int .i64 (pt l i).1) := (j0.cell (p := ⟨b, _, none⟩) hbl).trans hx0
    have x1_ : W'.cell? ⟨b, of + i * 2 + 1, none⟩ = some (.int .i64 (pt l i).2) := (j0.cell (p := ⟨b, _, none⟩) hbl).trans hy0
    go_step
    exact hK.out
   · rfl
   refine Reg.RC_call rfl (tlt rfl) rfl (fun D v' W' hc hj hf K hK => ?_) ?_
   ·
    obtain ⟨j0, jk, jn, b_s, a_9, a_10, q_9_10⟩ := hj
    clear hf
    go_step
    refine (ap W' j0).mono ?_
    rintro e W2 ⟨u, u', rfl, hu, hu', hs⟩
    obtain ⟨xa1, xa2, xa3, xa4, xa5, xa6, xa7, xa8, rfl⟩ := hu.shape
    obtain ⟨xb1, xb2, xb3, xb4, xb5, xb6, xb7, xb8, rfl⟩ := hu'.shape
    exact hK.out _ W2 (Keeps.steps hs) ⟨jst j0 hs, jk.then_ hs, jsz jn hs, b_s.steps hs, fun h => by obtain ⟨g, e1, e2, e3, e4, e5⟩ := a_9 h; exact ⟨g, e1, e2, Nat.lt_of_lt_of_le e3 (hs).size, fun h => (e4 h).steps hs, fun h => Bool.noConfusion ((hc.2 11 (by decide)).symm.trans h)⟩, fun h => by obtain ⟨g, e1, e2, e3, e4, e5⟩ := a_10 h; exact ⟨g, e1, e2, Nat.lt_of_lt_of_le e3 (hs).size, fun h => (e4 h).steps hs, fun h => Bool.noConfusion ((hc.2 12 (by decide)).symm.trans h)⟩, q_9_10⟩ ⟨_, _, rfl, hu, hu'⟩ ⟨_, _, _, _, _, _, _, _, _, _, _, _, _, _, _, _, rfl⟩
   rintro _ ⟨xa1, xa2, xa3, xa4, xa5, xa6, xa7, xa8, xb1, xb2, xb3, xb4, xb5, xb6, xb7, xb8, rfl⟩
   refine Reg.RC_at (b := ⟨#[_,_,_,_,_,_,_,_,_,_,_,_,_,_,_,_,_,_,_,_,_,_,_,_,_,_,_,_,_,_,_,_,_,_,_,_,_,_,_,_,_,_,_,_,_,_,_,_,_,_,_,_,_,_,_,_,_,_,_,_,_,_,_,_,_,_,_,_], _⟩) rfl ?_
   refine Reg.RP0 24 ?_
   refine Reg.RP0 31 ?_
   refine Reg.RP0 32 ?_
   refine Reg.RC_call rfl (tlt rfl) rfl (fun D v' W' hc hj hf K hK => ?_) ?_
   ·
    obtain ⟨j0, jk, jn, b_s, a_9, a_10, q_9_10⟩ := hj
    go_step
    have hs : ∀ o : Obj, Steps W' (W'.alloc o) := fun o => (Below.refl _ _).alloc (Nat.le_refl _) o
    exact hK.out _ _ (Keeps.steps (hs _)) ⟨jst j0 (hs _), jk.then_ (hs _), jsz jn (hs _), b_s.steps (hs _), fun _ => ⟨W'.heap.size, rfl, jn, by rw [World.size_alloc]; omega, fun _ => Blk.new _ _ _, fun h => Bool.noConfusion ((hc.2 11 (by decide)).symm.trans h)⟩, fun h => by obtain ⟨g, e1, e2, e3, e4, e5⟩ := a_10 h; exact ⟨g, e1, e2, Nat.lt_of_lt_of_le e3 ((hs _)).size, fun h => (e4 h).steps (hs _), fun h => by obtain ⟨d, cs, e, hb⟩ := e5 h; exact ⟨d, cs, e, hb.steps (hs _)⟩⟩, fun _ h' => by obtain ⟨g, e1, e2, e3, e4, e5⟩ := a_10 h'; exact fun e => Reg.ptr_ne e3 (e.trans e1)⟩ trivial ⟨_, rfl⟩
   rintro _ ⟨p11, rfl⟩
   refine Reg.RC_at (b := ⟨#[_,_,_,_,_,_,_,_,_,_,_,_,_,_,_,_,_,_,_,_,_,_,_,_,_,_,_,_,_,_,_,_,_,_,_,_,_,_,_,_,_,_,_,_,_,_,_,_,_,_,_,_,_,_,_,_,_,_,_,_,_,_,_,_,_,_,_,_], _⟩) rfl ?_
   refine Reg.RC_call rfl (tlt rfl) rfl (fun D v' W' hc hj hf K hK => ?_) ?_
   ·
    obtain ⟨j0, jk, jn, b_s, a_9, a_10, q_9_10⟩ := hj
    go_step
    have hs : ∀ o : Obj, Steps W' (W'.alloc o) := fun o => (Below.refl _ _).alloc (Nat.le_refl _) o
    exact hK.out _ _ (Keeps.steps (hs _)) ⟨jst j0 (hs _), jk.then_ (hs _), jsz jn (hs _), b_s.steps (hs _), fun h => by obtain ⟨g, e1, e2, e3, e4, e5⟩ := a_9 h; exact ⟨g, e1, e2, Nat.lt_of_lt_of_le e3 ((hs _)).size, fun h => (e4 h).steps (hs _), fun h => by obtain ⟨d, cs, e, hb⟩ := e5 h; exact ⟨d, cs, e, hb.steps (hs _)⟩⟩, fun _ => ⟨W'.heap.size, rfl, jn, by rw [World.size_alloc]; omega, fun _ => Blk.new _ _ _, fun h => Bool.noConfusion ((hc.2 12 (by decide)).symm.trans h)⟩, fun h _ => by obtain ⟨g, e1, e2, e3, e4, e5⟩ := a_9 h; exact fun e => Reg.ptr_ne e3 (e.symm.trans e1)⟩ trivial ⟨_, rfl⟩
   rintro _ ⟨p12, rfl⟩
   refine Reg.RC_at (b := ⟨#[_,_,_,_,_,_,_,_,_,_,_,_,_,_,_,_,_,_,_,_,_,_,_,_,_,_,_,_,_,_,_,_,_,_,_,_,_,_,_,_,_,_,_,_,_,_,_,_,_,_,_,_,_,_,_,_,_,_,_,_,_,_,_,_,_,_,_,_], _⟩) rfl ?_
   refine Reg.RC_call rfl (by intro t ht; cases ht) rfl (fun D v' W' hc hj hf K hK => ?_) (fun _ _ => Reg.RC_at (b := ⟨_, _⟩) rfl ?_)
   ·
    obtain ⟨j0, jk, jn, b_s, a_9, a_10, q_9_10⟩ := hj
    have f := hf (9, some 11) (.tail _ (.head _)) rfl
    have e6 : v' 9 = .pointer (some ⟨p11, 0, none⟩) := f.2.1
    obtain ⟨g, e1, e2, e3, e4, e5⟩ := a_9 f.1
    obtain rfl : p11 = g := Reg.ptr_eq (e6.symm.trans e1)
    have hb := e4 hc.1
    clear e4 e5
    have fc := hf (5, some 30) (.head _) rfl
    have ec : tupAt 0 (v' 5) = .agg #[.bool xa1, .slice xa2 xa3 xa4, .bool xa5, .slice xa6 xa7 xa8] := by rw [fc.2.1]; rfl
    have ff := hb.fr
    obtain ⟨cc0, cc1, cc2, cc3⟩ := hb.r3
    go_step
    exact hK.out undef _ (keeps4 hb rfl) ⟨(below4 j0 (by show wo.heap.size ≤ p11; omega)), jk.trans (keeps4 hb rfl), by simpa using jn, (b_s).far4 (show w.heap.size ≠ p11 by omega), fun _ => ⟨p11, e1, e2, by simpa using e3, fun h => Bool.noConfusion h, fun _ => ⟨fc.1, _, ec, (Blk.set2 (cs' := #[.bool xa1, .slice xa2 xa3 xa4, .bool xa5, .slice xa6 xa7 xa8]) (Blk.set2 (cs' := #[.bool xa1, .slice xa2 xa3 xa4, .bool xa5, .slice none 0 0]) (Blk.set2 (cs' := #[.bool xa1, .slice xa2 xa3 xa4, .bool false, .slice none 0 0]) (Blk.set2 (cs' := #[.bool xa1, .slice none 0 0, .bool false, .slice none 0 0]) hb (i := 0) rfl) (i := 1) rfl) (i := 2) rfl) (i := 3) rfl)⟩⟩, fun h => by obtain ⟨g, k1, k2, k3, k4, k5⟩ := a_10 h; have hne : g ≠ p11 := fun e => (q_9_10 f.1 h) (by rw [e6, k1, e]); exact ⟨g, k1, k2, by simpa using k3, fun h => (k4 h).far4 hne, fun h => by obtain ⟨d, cs, e, hb2⟩ := k5 h; exact ⟨d, cs, e, (hb2).far4 hne⟩⟩, q_9_10⟩ trivial trivial
   refine Reg.RC_call rfl (by intro t ht; cases ht) rfl (fun D v' W' hc hj hf K hK => ?_) (fun _ _ => Reg.RC_at (b := ⟨_, _⟩) rfl ?_)
   ·
    obtain ⟨j0, jk, jn, b_s, a_9, a_10, q_9_10⟩ := hj
    have f := hf (10, some 12) (.tail _ (.head _)) rfl
    have e6 : v' 10 = .pointer (some ⟨p12, 0, none⟩) := f.2.1
    obtain ⟨g, e1, e2, e3, e4, e5⟩ := a_10 f.1
    obtain rfl : p12 = g := Reg.ptr_eq (e6.symm.trans e1)
    have hb := e4 hc.1
    clear e4 e5
    have fc := hf (5, some 30) (.head _) rfl
    have ec : tupAt 1 (v' 5) = .agg #[.bool xb1, .slice xb2 xb3 xb4, .bool xb5, .slice xb6 xb7 xb8] := by rw [fc.2.1]; rfl
    have ff := hb.fr
    obtain ⟨cc0, cc1, cc2, cc3⟩ := hb.r3
    go_step
    exact hK.out undef _ (keeps4 hb rfl) ⟨(below4 j0 (by show wo.heap.size ≤ p12; omega)), jk.trans (keeps4 hb rfl), by simpa using jn, (b_s).far4 (show w.heap.size ≠ p12 by omega), fun h => by obtain ⟨g, k1, k2, k3, k4, k5⟩ := a_9 h; have hne : g ≠ p12 := fun e => (q_9_10 h f.1) (by rw [e6, k1, e]); exact ⟨g, k1, k2, by simpa using k3, fun h => (k4 h).far4 hne, fun h => by obtain ⟨d, cs, e, hb2⟩ := k5 h; exact ⟨d, cs, e, (hb2).far4 hne⟩⟩, fun _ => ⟨p12, e1, e2, by simpa using e3, fun h => Bool.noConfusion h, fun _ => ⟨fc.1, _, ec, (Blk.set2 (cs' := #[.bool xb1, .slice xb2 xb3 xb4, .bool xb5, .slice xb6 xb7 xb8]) (Blk.set2 (cs' := #[.bool xb1, .slice xb2 xb3 xb4, .bool xb5, .slice none 0 0]) (Blk.set2 (cs' := #[.bool xb1, .slice xb2 xb3 xb4, .bool false, .slice none 0 0]) (Blk.set2 (cs' := #[.bool xb1, .slice none 0 0, .bool false, .slice none 0 0]) hb (i := 0) rfl) (i := 1) rfl) (i := 2) rfl) (i := 3) rfl)⟩⟩, q_9_10⟩ trivial trivial
   refine Reg.RC_end (fun Dn v' w11 hd hj hf => ?_)
   obtain ⟨j0, jk, jn, b_s, a_9, a_10, q_9_10⟩ := hj
   have B := j0
   have os := b_s
   clear b_s
   have f := hf (9, some 11) (.tail _ (.head _)) rfl
   have e6_ : v' 9 = .pointer (some ⟨p11, 0, none⟩) := f.2.1
   obtain ⟨g, e1_, zvx, -, -, e5_⟩ := a_9 f.1
   obtain rfl : p11 = g := Reg.ptr_eq (e6_.symm.trans e1_)
   obtain ⟨-, cs_, ee, ovx⟩ := e5_ (hd 11 (Nat.le_of_ble_eq_true rfl))
   have ef : tupAt 0 (v' 5) = .agg #[.bool xa1, .slice xa2 xa3 xa4, .bool xa5, .slice xa6 xa7 xa8] := by rw [(hf (5, some 30) (.head _) rfl).2.1]; rfl
   obtain rfl : #[.bool xa1, .slice xa2 xa3 xa4, .bool xa5, .slice xa6 xa7 xa8] = cs_ := by have := ef.symm.trans ee; simpa only [Value.tuple.injEq, Value.agg.injEq, Array.mk.injEq, List.cons.injEq, and_true, true_and] using this
   clear ee ef f e5_ e1_ e6_
   have f := hf (10, some 12) (.tail _ (.tail _ (.head _))) rfl
   have e6_ : v' 10 = .pointer (some ⟨p12, 0, none⟩) := f.2.1
   obtain ⟨g, e1_, zvy, -, -, e5_⟩ := a_10 f.1
   obtain rfl : p12 = g := Reg.ptr_eq (e6_.symm.trans e1_)
   obtain ⟨-, cs_, ee, ovy⟩ := e5_ (hd 12 (Nat.le_of_ble_eq_true rfl))
   have ef : tupAt 1 (v' 5) = .agg #[.bool xb1, .slice xb2 xb3 xb4, .bool xb5, .slice xb6 xb7 xb8] := by rw [(hf (5, some 30) (.head _) rfl).2.1]; rfl
   obtain rfl : #[.bool xb1, .slice xb2 xb3 xb4, .bool xb5, .slice xb6 xb7 xb8] = cs_ := by have := ef.symm.trans ee; simpa only [Value.tuple.injEq, Value.agg.injEq, Array.mk.injEq, List.cons.injEq, and_true, true_and] using this
   clear ee ef f e5_ e1_ e6_
   have y_9_10 : p11 ≠ p12 := fun e => q_9_10 (hf (9, some 11) (.tail _ (.head _)) rfl).1 (hf (10, some 12) (.tail _ (.tail _ (.head _))) rfl).1 (by have h1 := (hf (9, some 11) (.tail _ (.head _)) rfl).2.1; have h2 := (hf (10, some 12) (.tail _ (.tail _ (.head _))) rfl).2.1; rw [h1, h2]; show Value.pointer _ = .pointer _; rw [e])
   have F2_ := GFr2.get (r := (XX i)) (s := (YY i)) (u := .agg #[.bool xa1, .slice xa2 xa3 xa4, .bool xa5, .slice xa6 xa7 xa8]) (v := .agg #[.bool xb1, .slice xb2 xb3 xb4, .bool xb5, .slice xb6 xb7 xb8]) (hf (5, some 30) (.head _) rfl).2.2
   have Fxa := Hid.mk_ F2_.1
   have Fxb := Hid.mk_ F2_.2
   clear F2_
   replace kk := kk.trans jk
   clear hd hf jk j0 q_9_10
   refine hQ _ _ ?_
   clear hQ hops Q' ops'
   go_wp2_with fail
   refine (RA _).mono ?_
   rintro e w12 ⟨vxd, rfl, hvxd, hb12⟩
   have st : Steps _ w12 := hb12
   have sk : Below w11.heap.size w11 w12 := belowA st
   replace B := below_steps B (Nat.le_refl _) sk
   replace os := os.steps sk
   replace ovx := ovx.steps sk
   replace ovy := ovy.steps sk
   replace Fxa := Hid.mk_ (Fxa.out.steps sk)
   replace Fxb := Hid.mk_ (Fxb.out.steps sk)
   replace kk := kk.then_ sk
   clear st sk
   obtain ⟨xd1, xd2, xd3, xd4, xd5, xd6, xd7, xd8, rfl⟩ := hvxd.shape
   have Fxd := Hid.mk_ hvxd
   clear hvxd
   have zvy_12 : p12 < w12.heap.size := ovy.lt
   have zvx_12 : p11 < w12.heap.size := ovx.lt
   have zz12 := B.size
   go_wp2_with fail
   go_loopw [13, 15] (fun sp0 sl0 wr => ∃ (k : Nat) (y1 : Bool) (y2 : Option Addr) (y3 y4 : Nat) (y5 : Bool) (y6 : Option Addr) (y7 y8 : Nat), k ≤ M ∧ sl0 = .int .i64 k ∧ sp0 = .int .i64 (PP i k).1 ∧ Blk wr (w12.heap.size) 28 #[.bool y1, .slice y2 y3 y4, .bool y5, .slice y6 y7 y8] ∧ FR wr (.agg #[.bool y1, .slice y2 y3 y4, .bool y5, .slice y6 y7 y8]) (PP i k).2 ∧ Blk wr (w.heap.size) 30 #[.bool ka1, .slice ka2 ka3 ka4, .bool ka5, .slice ka6 ka7 ka8, .bool kb1, .slice kb2 kb3 kb4, .bool kb5, .slice kb6 kb7 kb8, .bool kc1, .slice kc2 kc3 kc4, .bool kc5, .slice kc6 kc7 kc8, .bool kd1, .slice kd2 kd3 kd4, .bool kd5, .slice kd6 kd7 kd8] ∧ Blk wr (p11) 28 #[.bool xa1, .slice xa2 xa3 xa4, .bool xa5, .slice xa6 xa7 xa8] ∧ Blk wr (p12) 28 #[.bool xb1, .slice xb2 xb3 xb4, .bool xb5, .slice xb6 xb7 xb8] ∧ Below wo.heap.size wo wr ∧ Keeps w12 wr) (fun _ sl0 _ => M - (intOf sl0).toNat)
   case atStart => exact ⟨0, _, _, _, _, _, _, _, _, by omega, rfl, by rw [p0], ownK, by rw [p0]; exact Fxd.out.keeps keepsB, ownK, ownK, ownK, belowB, keepsB⟩
   case round =>
    clear os ovx ovy
    try clear B
    have kko := kk.trans keepsB
    try clear kk
    clear Fxd
    obtain ⟨k, y1, y2, y3, y4, y5, y6, y7, y8, hk, rfl, rfl, ovl, fy, os, ovx, ovy, B, kk⟩ := hrel
    replace Fxa := Hid.mk_ (Fxa.out.keeps kk)
    replace Fxb := Hid.mk_ (Fxb.out.keeps kk)
    have Fy := Hid.mk_ fy
    clear fy
    obtain ⟨pk, hpk⟩ : ∃ z, (PP i k).1 = z := ⟨_, rfl⟩
    rw [hpk]
    obtain ⟨cvx0, cvx1, cvx2, cvx3⟩ := ovx.r3
    have lvx := ovx.lt
    obtain ⟨cvy0, cvy1, cvy2, cvy3⟩ := ovy.r3
    have lvy := ovy.lt
    rcases Nat.lt_or_ge k M with k4 | k4
    ·
     have hltM : decide ((k : Int) < (M : Int)) = true := decide_eq_true (by omega)
     obtain ⟨b', of', rfl, hbl', hmx, hmy⟩ := HMm.out.at (a := k) (by have := HM.out; omega)
     have dik := di k k4
     have cik := cmp k k4
     obtain ⟨c, hcc⟩ : ∃ c, cmpQ (DD i k) (PP i k).2 = c := ⟨_, rfl⟩
     rw [hcc] at cik
     have sq := sp k c hcc
     rw [hpk] at sq
     clear hcc
     go_wp2_with fail
     have zvl_12 : w12.heap.size < wr.heap.size := ovl.lt
     have zvx_12 : p11 < wr.heap.size := ovx.lt
     have zvy_12 : p12 < wr.heap.size := ovy.lt
     have zz12 := B.size
     go_upto_region 10 with fail
     refine Reg.wp_chain_n (fun N0 D v W => Below wo.heap.size wo W ∧ Keeps wr W ∧ N0 ≤ W.heap.size ∧ Blk W (w.heap.size) 30 #[.bool ka1, .slice ka2 ka3 ka4, .bool ka5, .slice ka6 ka7 ka8, .bool kb1, .slice kb2 kb3 kb4, .bool kb5, .slice kb6 kb7 kb8, .bool kc1, .slice kc2 kc3 kc4, .bool kc5, .slice kc6 kc7 kc8, .bool kd1, .slice kd2 kd3 kd4, .bool kd5, .slice kd6 kd7 kd8] ∧ Blk W (p11) 28 #[.bool xa1, .slice xa2 xa3 xa4, .bool xa5, .slice xa6 xa7 xa8] ∧ Blk W (p12) 28 #[.bool xb1, .slice xb2 xb3 xb4, .bool xb5, .slice xb6 xb7 xb8] ∧ Blk W (w12.heap.size) 28 #[.bool y1, .slice y2 y3 y4, .bool y5, .slice y6 y7 y8] ∧ (D 7 = true → ∃ g : Nat, v 7 = .pointer (some ⟨g, 0, none⟩) ∧ N0 ≤ g ∧ g < W.heap.size ∧ (D 8 = false → Blk W g 28 #[.bool false, .slice none 0 0, .bool false, .slice none 0 0]) ∧ (D 8 = true → D 6 = true ∧ ∃ cs, v 6 = .agg cs ∧ Blk W g 28 cs)))
      (Reg.inl [6, 7, 8]) (Reg.gv [(6, IsFr), (7, IsPtr)]) (gw [(6, GFr ((DD i k)))]) (fun _ => Keeps) (fun _ _ => False) (Reg.pl [(8, [(6, some 47), (7, some 16)]), (9, [(6, some 47), (7, some 16)])]) (Reg.pl [(7, [8]), (6, [8])])
      (by kernel_rfl) (by kernel_rfl) (by kernel_rfl) (Reg.gvA _) (fun N0 hN0 => ⟨fun v => ?_, fun D v v' W hv hj => ?_, fun D v k j W W' x _ _ _ _ hk hg => gwA hk hg, fun _ _ _ _ h => h.elim, fun ops' Q' hops hQ => ?_⟩)
     · exact ⟨belowB, keepsB, by first | with_reducible exact Nat.le_of_eq hN0.out | (simp only [World.size_drew]; with_reducible exact Nat.le_of_eq hN0.out), ownK, ownK, ownK, ownK, (fun h => Bool.noConfusion h)⟩
     ·
      obtain ⟨j0, jk, jn, b_s, b_vx, b_vy, b_vl, a_7⟩ := hj
      exact ⟨j0, jk, jn, b_s, b_vx, b_vy, b_vl, fun h => by obtain ⟨g, e1, e2, e3, e4, e5⟩ := a_7 h; exact ⟨g, (hv 7 h) ▸ e1, e2, e3, e4, fun h => by obtain ⟨d, cs, e, hb⟩ := e5 h; exact ⟨d, cs, (hv 6 d) ▸ e, hb⟩⟩⟩
     have eN := hN0.out
     try simp only [World.size_alloc, World.size_setCell, World.size_drew, World.heap_drewN] at eN
     have i_s : w.heap.size < N0 := by first | omega | (have h := os.lt; omega)
     have i_vx : p11 < N0 := by first | omega | (have h := ovx.lt; omega)
     have i_vy : p12 < N0 := by first | omega | (have h := ovy.lt; omega)
     have i_vl : w12.heap.size < N0 := by first | omega | (have h := ovl.lt; omega)
     have iw : wo.heap.size ≤ N0 := by first | omega | (have h := B.size; omega)
     clear cvx0 cvx1 cvx2 cvx3 lvx cvy0 cvy1 cvy2 cvy3 lvy
     clear hN0
     apply Reg.RP rfl rfl rfl 41 rfl rfl
     ·
      intro D v' W' hc hj hf K hK
      obtain ⟨j0, jk, jn, b_s, b_vx, b_vy, b_vl, a_7⟩ := hj
      obtain ⟨c0, c1, c2, c3⟩ := b_vx.r3
      go_step
      exact hK.out
     · rfl
     apply Reg.RP rfl rfl rfl 42 rfl rfl
     ·
      intro D v' W' hc hj hf K hK
      obtain ⟨j0, jk, jn, b_s, b_vx, b_vy, b_vl, a_7⟩ := hj
      obtain ⟨c0, c1, c2, c3⟩ := b_vy.r3
      go_step
      exact hK.out
     · rfl
     refine Reg.RP0 43 ?_
     refine Reg.RP0 44 ?_
     refine Reg.RP0 45 ?_
     apply Reg.RP rfl rfl rfl 46 rfl rfl
     ·
      intro D v' W' hc hj hf K hK
      obtain ⟨j0, jk, jn, b_s, b_vx, b_vy, b_vl, a_7⟩ := hj
      have x0_ : W'.cell? ⟨b', of' + k * 2, none⟩ = some (.int .i64 (pt m k).1) := (j0.cell (p := ⟨b', _, none⟩) hbl').trans hmx
      have x1_ : W'.cell? ⟨b', of' + k * 2 + 1, none⟩ = some (.int .i64 (pt m k).2) := (j0.cell (p := ⟨b', _, none⟩) hbl').trans hmy
      go_step
      exact hK.out
     · rfl
     refine Reg.RC_call rfl (tlt rfl) rfl (fun D v' W' hc hj hf K hK => ?_) ?_
     ·
      obtain ⟨j0, jk, jn, b_s, b_vx, b_vy, b_vl, a_7⟩ := hj
      clear hf
      go_step
      refine (dik W' _ _ (Fxa.out.keeps jk) (Fxb.out.keeps jk)).mono ?_
      rintro e W2 ⟨u, rfl, hu, hs⟩
      obtain ⟨xe1, xe2, xe3, xe4, xe5, xe6, xe7, xe8, rfl⟩ := hu.shape
      exact hK.out _ W2 (Keeps.steps hs) ⟨jst j0 hs, jk.then_ hs, jsz jn hs, b_s.steps hs, b_vx.steps hs, b_vy.steps hs, b_vl.steps hs, fun h => by obtain ⟨g, e1, e2, e3, e4, e5⟩ := a_7 h; exact ⟨g, e1, e2, Nat.lt_of_lt_of_le e3 (hs).size, fun h => (e4 h).steps hs, fun h => Bool.noConfusion ((hc.2 8 (by decide)).symm.trans h)⟩⟩ hu ⟨_, _, _, _, _, _, _, _, rfl⟩
     rintro _ ⟨xe1, xe2, xe3, xe4, xe5, xe6, xe7, xe8, rfl⟩
     refine Reg.RC_at (b := ⟨#[_,_,_,_,_,_,_,_,_,_,_,_,_,_,_,_,_,_,_,_,_,_,_,_,_,_,_,_,_,_,_,_,_,_,_,_,_,_,_,_,_,_,_,_,_,_,_,_,_,_,_,_,_,_,_,_,_,_,_,_,_,_,_,_,_,_,_,_], _⟩) rfl ?_
     refine Reg.RC_call rfl (tlt rfl) rfl (fun D v' W' hc hj hf K hK => ?_) ?_
     ·
      obtain ⟨j0, jk, jn, b_s, b_vx, b_vy, b_vl, a_7⟩ := hj
      go_step
      have hs : ∀ o : Obj, Steps W' (W'.alloc o) := fun o => (Below.refl _ _).alloc (Nat.le_refl _) o
      exact hK.out _ _ (Keeps.steps (hs _)) ⟨jst j0 (hs _), jk.then_ (hs _), jsz jn (hs _), b_s.steps (hs _), b_vx.steps (hs _), b_vy.steps (hs _), b_vl.steps (hs _), fun _ => ⟨W'.heap.size, rfl, jn, by rw [World.size_alloc]; omega, fun _ => Blk.new _ _ _, fun h => Bool.noConfusion ((hc.2 8 (by decide)).symm.trans h)⟩⟩ trivial ⟨_, rfl⟩
     rintro _ ⟨p16, rfl⟩
     refine Reg.RC_at (b := ⟨#[_,_,_,_,_,_,_,_,_,_,_,_,_,_,_,_,_,_,_,_,_,_,_,_,_,_,_,_,_,_,_,_,_,_,_,_,_,_,_,_,_,_,_,_,_,_,_,_,_,_,_,_,_,_,_,_,_,_,_,_,_,_,_,_,_,_,_,_], _⟩) rfl ?_
     refine Reg.RC_call rfl (by intro t ht; cases ht) rfl (fun D v' W' hc hj hf K hK => ?_) (fun _ _ => Reg.RC_at (b := ⟨_, _⟩) rfl ?_)
     ·
      obtain ⟨j0, jk, jn, b_s, b_vx, b_vy, b_vl, a_7⟩ := hj
      have f := hf (7, some 16) (.tail _ (.head _)) rfl
      have e6 : v' 7 = .pointer (some ⟨p16, 0, none⟩) := f.2.1
      obtain ⟨g, e1, e2, e3, e4, e5⟩ := a_7 f.1
      obtain rfl : p16 = g := Reg.ptr_eq (e6.symm.trans e1)
      have hb := e4 hc.1
      clear e4 e5
      have fc := hf (6, some 47) (.head _) rfl
      have ec : v' 6 = .agg #[.bool xe1, .slice xe2 xe3 xe4, .bool xe5, .slice xe6 xe7 xe8] := fc.2.1
      have ff := hb.fr
      obtain ⟨cc0, cc1, cc2, cc3⟩ := hb.r3
      go_step
      exact hK.out undef _ (keeps4 hb rfl) ⟨(below4 j0 (by show wo.heap.size ≤ p16; omega)), jk.trans (keeps4 hb rfl), by simpa using jn, (b_s).far4 (show w.heap.size ≠ p16 by omega), (b_vx).far4 (show p11 ≠ p16 by omega), (b_vy).far4 (show p12 ≠ p16 by omega), (b_vl).far4 (show w12.heap.size ≠ p16 by omega), fun _ => ⟨p16, e1, e2, by simpa using e3, fun h => Bool.noConfusion h, fun _ => ⟨fc.1, _, ec, (Blk.set2 (cs' := #[.bool xe1, .slice xe2 xe3 xe4, .bool xe5, .slice xe6 xe7 xe8]) (Blk.set2 (cs' := #[.bool xe1, .slice xe2 xe3 xe4, .bool xe5, .slice none 0 0]) (Blk.set2 (cs' := #[.bool xe1, .slice xe2 xe3 xe4, .bool false, .slice none 0 0]) (Blk.set2 (cs' := #[.bool xe1, .slice none 0 0, .bool false, .slice none 0 0]) hb (i := 0) rfl) (i := 1) rfl) (i := 2) rfl) (i := 3) rfl)⟩⟩⟩ trivial trivial
     refine Reg.RC_end (fun Dn v' w13 hd hj hf => ?_)
     obtain ⟨j0, jk, jn, b_s, b_vx, b_vy, b_vl, a_7⟩ := hj
     have B := j0
     have os := b_s
     clear b_s
     have ovx := b_vx
     clear b_vx
     have ovy := b_vy
     clear b_vy
     have ovl := b_vl
     clear b_vl
     have f := hf (7, some 16) (.tail _ (.head _)) rfl
     have e6_ : v' 7 = .pointer (some ⟨p16, 0, none⟩) := f.2.1
     obtain ⟨g, e1_, zve, -, -, e5_⟩ := a_7 f.1
     obtain rfl : p16 = g := Reg.ptr_eq (e6_.symm.trans e1_)
     obtain ⟨-, cs_, ee, ove⟩ := e5_ (hd 8 (Nat.le_of_ble_eq_true rfl))
     have ef : v' 6 = .agg #[.bool xe1, .slice xe2 xe3 xe4, .bool xe5, .slice xe6 xe7 xe8] := (hf (6, some 47) (.head _) rfl).2.1
     obtain rfl : #[.bool xe1, .slice xe2 xe3 xe4, .bool xe5, .slice xe6 xe7 xe8] = cs_ := by have := ef.symm.trans ee; simpa only [Value.tuple.injEq, Value.agg.injEq, Array.mk.injEq, List.cons.injEq, and_true, true_and] using this
     clear ee ef f e5_ e1_ e6_
     have Fxe : Hid (FR w13 (.agg #[.bool xe1, .slice xe2 xe3 xe4, .bool xe5, .slice xe6 xe7 xe8]) ((DD i k))) := (hf (6, some 47) (.head _) rfl).2.2
     replace Fxa := Hid.mk_ (Fxa.out.keeps jk)
     replace Fxb := Hid.mk_ (Fxb.out.keeps jk)
     replace Fy := Hid.mk_ (Fy.out.keeps jk)
     replace kk := kk.trans jk
     clear hd hf jk j0
     refine hQ _ _ ?_
     clear hQ hops Q' ops'
     obtain ⟨cvl0, cvl1, cvl2, cvl3⟩ := ovl.r3
     have lvl := ovl.lt
     obtain ⟨cve0, cve1, cve2, cve3⟩ := ove.r3
     have lve := ove.lt
     go_wp2_with fail
     refine (cik _ _ _ (Fxe.out.keeps keepsB) (Fy.out.keeps keepsB)).mono ?_
     rintro e w14 ⟨rfl, hb14⟩
     have st : Steps _ w14 := hb14
     have sk : Below w13.heap.size w13 w14 := belowA st
     replace B := below_steps B (Nat.le_refl _) sk
     replace os := os.steps sk
     replace ovx := ovx.steps sk
     replace ovy := ovy.steps sk
     replace ovl := ovl.steps sk
     replace ove := ove.steps sk
     replace Fxa := Hid.mk_ (Fxa.out.steps sk)
     replace Fxb := Hid.mk_ (Fxb.out.steps sk)
     replace Fy := Hid.mk_ (Fy.out.steps sk)
     replace Fxe := Hid.mk_ (Fxe.out.steps sk)
     replace kk := kk.then_ sk
     clear st sk cvl0 cvl1 cvl2 cvl3 lvl cve0 cve1 cve2 cve3 lve
     dsimp only
     by_cases c1 : c < 0
     ·
      have e0 := sq.1 (by omega)
      have d1 : decide (c < 0) = true := decide_eq_true (by omega)
      have lve := ove.lt
      have lvl := ovl.lt
      have fvl := ovl.fr
      obtain ⟨cve0, cve1, cve2, cve3⟩ := ove.r3
      obtain ⟨cvl0, cvl1, cvl2, cvl3⟩ := ovl.r3
      go_upto_region 13 with fail
      go_region
      go_wp2_with fail
      go_roundw
      case rel => exact ⟨k + 1, _, _, _, _, _, _, _, _, by omega, by go_num, by rw [e0], ownK, by rw [e0]; exact Fxe.out.keeps keepsB, ownK, ownK, ownK, belowB, kk.trans keepsB⟩
      case measure => simp [intOf]; omega
     ·
      have d1 : decide (c < 0) = false := decide_eq_false c1
      by_cases c2 : pk < 0
      ·
       have d2 : decide (pk < 0) = true := decide_eq_true c2
       by_cases c3 : c = 0
       ·
        have e0 := sq.2.1 (by omega) (by omega)
        subst c3
        have lve := ove.lt
        have lvl := ovl.lt
        have fvl := ovl.fr
        obtain ⟨cve0, cve1, cve2, cve3⟩ := ove.r3
        obtain ⟨cvl0, cvl1, cvl2, cvl3⟩ := ovl.r3
        go_upto_region 13 with fail
        go_region
        go_wp2_with fail
        go_roundw
        case rel => exact ⟨k + 1, _, _, _, _, _, _, _, _, by omega, by go_num, by rw [e0], ownK, by rw [e0]; exact Fxe.out.keeps keepsB, ownK, ownK, ownK, belowB, kk.trans keepsB⟩
        case measure => simp [intOf]; omega
       ·
        have e0 := sq.2.2 (by omega) (by rintro ⟨h, g⟩; omega)
        have d3 : (c == 0) = false := by simpa using c3
        clear c1 c2 c3
        go_wp2_with fail
        go_roundw
        case rel => exact ⟨k + 1, _, _, _, _, _, _, _, _, by omega, by go_num, by rw [e0, hpk], ownK, by rw [e0]; exact Fy.out.keeps keepsB, ownK, ownK, ownK, belowB, kk.trans keepsB⟩
        case measure => simp [intOf]; omega
      ·
       have e0 := sq.2.2 (by omega) (by rintro ⟨h, g⟩; omega)
       have d2 : decide (pk < 0) = false := decide_eq_false c2
       clear c1 c2
       go_wp2_with fail
       go_roundw
       case rel => exact ⟨k + 1, _, _, _, _, _, _, _, _, by omega, by go_num, by rw [e0, hpk], ownK, by rw [e0]; exact Fy.out.keeps keepsB, ownK, ownK, ownK, belowB, kk.trans keepsB⟩
       case measure => simp [intOf]; omega
    ·
     have hltM : decide ((k : Int) < (M : Int)) = false := decide_eq_false (by omega)
     have eM : k = M := by omega
     rw [eM] at hpk
     have hr1 := Hid.mk_ (HR.out.steps B)
     have PSi : PA (i + 1) = PA i ++ [pk] := by rw [PS'.out i, hpk]
     have PLi := PL'.out i
     have PLj := PL'.out (i + 1)
     have lq := os.lt
     have zz9 := B.size
     repeat' (first | ((with_reducible show wpList _ _ _ (⟨some 66, _, _, _, _, _⟩ :: _) _ _); refine app_int rfl (.tmp 63) (.tmp 65) rfl (w.heap.size + 1) (PA i).length (.slice oa (PA i).length oc) (PA i) rfl (hr1.out.alloc _) wr.heap.size pk rfl (Blk.new _ _ _) (by omega) (by rw [World.size_alloc]; omega) (fun v' w7 hr7 hg7 => ?_)) | go_values | go_skip | go_guarded | go_step | go_upon)
     obtain ⟨oa', ocap', rfl⟩ := hr7.len
     have r6 := hr1.out.alloc (.cells #[.int .i64 pk] 3)
     have os7 := r6.blk hg7 (os.alloc _) (by omega)
     have B6 : Below w.heap.size w wr := below_steps Bw (Nat.le_refl _) B
     have B7 := r6.below hg7 (B6.alloc B6.size _) (by omega)
     have k7 : Keeps w w7 := ((kw.trans (kko.trans kk)).alloc _).trans (r6.keeps hg7)
     go_roundw
     case rel => exact ⟨i + 1, _, _, by omega, by go_num, by rw [PLj, PLi], by rw [PSi, List.length_append]; exact hr7, os7, B7, k7⟩
     case measure => simp [intOf]; omega
  ·
   have hltN : decide ((i : Int) < (N : Int)) = false := decide_eq_false (by omega)
   obtain rfl : i = N := by omega
   go_wp2_with fail
   go_returns
   exact ⟨_, rfl, HR.out.ints, Bw⟩
theorem mpairs {ka1 ka5 kb1 kb5 kc1 kc5 kd1 kd5 : Bool} {ka2 ka6 kb2 kb6 kc2 kc6 kd2 kd6 : Option Addr} {ka3 ka4 ka7 ka8 kb3 kb4 kb7 kb8 kc3 kc4 kc7 kc8 kd3 kd4 kd7 kd8 : Nat} {gc : Nat} {tc : TypeId} {t : Nat → Rat} {vl vm : Value} {l m : PL} (rad : Int) (w : World) (hc : Blk w gc tc #[.int .i64 0]) (h0 : FR w (.agg #[.bool ka1, .slice ka2 ka3 ka4, .bool ka5, .slice ka6 ka7 ka8]) (t 0)) (h1 : FR w (.agg #[.bool kb1, .slice kb2 kb3 kb4, .bool kb5, .slice kb6 kb7 kb8]) (t 1)) (h2 : FR w (.agg #[.bool kc1, .slice kc2 kc3 kc4, .bool kc5, .slice kc6 kc7 kc8]) (t 2)) (h3 : FR w (.agg #[.bool kd1, .slice kd2 kd3 kd4, .bool kd5, .slice kd6 kd7 kd8]) (t 3)) (ht : ∀ i, i < 4 → sz (t i) 16) (hl : Pts w vl l) (hm : Pts w vm m) (cl : chkP l = 0) (cm : chkP m = 0) (r0 : 1 ≤ rad) (r1 : rad ≤ 65536) :
  Calls Tryz.prog 61 #[.pointer (some ⟨gc, 0, none⟩), .agg #[.bool ka1, .slice ka2 ka3 ka4, .bool ka5, .slice ka6 ka7 ka8, .bool kb1, .slice kb2 kb3 kb4, .bool kb5, .slice kb6 kb7 kb8, .bool kc1, .slice kc2 kc3 kc4, .bool kc5, .slice kc6 kc7 kc8, .bool kd1, .slice kd2 kd3 kd4, .bool kd5, .slice kd6 kd7 kd8], vl, vm, .int .i64 rad] w fun e w' => ∃ u, e = .returned u ∧ IntsR w' u (partners t (rad : Rat) l m l.length) ∧ Steps w w' := by
 have KC : ∀ w', Steps w w' → Blk w' gc tc #[.int .i64 0] := fun w' s => hc.steps s
 have AP : ∀ i, i < l.length → ∀ w', Steps w w' → Calls Tryz.prog 42 #[.pointer (some ⟨gc, 0, none⟩), .agg #[.bool ka1, .slice ka2 ka3 ka4, .bool ka5, .slice ka6 ka7 ka8, .bool kb1, .slice kb2 kb3 kb4, .bool kb5, .slice kb6 kb7 kb8, .bool kc1, .slice kc2 kc3 kc4, .bool kc5, .slice kc6 kc7 kc8, .bool kd1, .slice kd2 kd3 kd4, .bool kd5, .slice kd6 kd7 kd8], .agg #[.int .i64 (pt l i).1, .int .i64 (pt l i).2]] w' fun e w2 => ∃ u v, e = .returned (.tuple #[u, v]) ∧ FR w2 u (apX t (pt l i)) ∧ FR w2 v (apY t (pt l i)) ∧ Steps w' w2 := fun i hi w' s => by
  have ok := chk_okP cl i hi
  have k := Keeps.steps s
  exact mapply (pt l i).1 (pt l i).2 w' (KC w' s) (h0.keeps k) (h1.keeps k) (h2.keeps k) (h3.keeps k) ((ht 0 (by omega)).mono (by omega)) ((ht 1 (by omega)).mono (by omega)) ((ht 2 (by omega)).mono (by omega)) ((ht 3 (by omega)).mono (by omega)) ⟨ok.1, ok.2.1⟩ ⟨ok.2.2.1, ok.2.2.2⟩
 have RA : ∀ w', Steps w w' → Calls Tryz.prog 66 #[.pointer (some ⟨gc, 0, none⟩), .int .i64 rad] w' fun e w2 => ∃ v, e = .returned v ∧ FR w2 v (rad : Rat) ∧ Steps w' w2 := fun w' s => mof rad w' (KC w' s) (by omega) (by omega)
 have SA := fun i (hi : i < l.length) => sz_apX ht (chk_okP cl i hi)
 have zr : sz (rad : Rat) 2 := sz_coord ⟨by omega, by omega⟩
 have DI : ∀ i, i < l.length → ∀ k, k < m.length → ∀ (w' : World) (u v : Value), Steps w w' → FR w' u (apX t (pt l i)) → FR w' v (apY t (pt l i)) → Calls Tryz.prog 101 #[.pointer (some ⟨gc, 0, none⟩), u, v, .agg #[.int .i64 (pt m k).1, .int .i64 (pt m k).2]] w' fun e w2 => ∃ d, e = .returned d ∧ FR w2 d (apartQ (apX t (pt l i)) (apY t (pt l i)) (pt m k)) ∧ Steps w' w2 := fun i hi k hk w' u v s hu hv => mapart (pt m k).1 (pt m k).2 w' (KC w' s) hu hv ((SA i hi).1.mono (by omega)) ((SA i hi).2.mono (by omega)) (chk_okP cm k hk)
 have CM : ∀ i, i < l.length → ∀ k, k < m.length → ∀ (w' : World) (u v : Value), Steps w w' → FR w' u (apartQ (apX t (pt l i)) (apY t (pt l i)) (pt m k)) → FR w' v (prtP (apX t (pt l i)) (apY t (pt l i)) (rad : Rat) m k).2 → Calls Tryz.prog 67 #[.pointer (some ⟨gc, 0, none⟩), u, v] w' fun e w2 => e = .returned (.int .i64 (cmpQ (apartQ (apX t (pt l i)) (apY t (pt l i)) (pt m k)) (prtP (apX t (pt l i)) (apY t (pt l i)) (rad : Rat) m k).2)) ∧ Steps w' w2 := fun i hi k hk w' u v s hu hv => mcompare w' (KC w' s) hu hv (sz_apart (SA i hi).1 (SA i hi).2 (chk_okP cm k hk)) (prtP_sz (SA i hi).1 (SA i hi).2 zr cm k (by omega)) (by omega)
 have SP := fun i k c (h : cmpQ (apartQ (apX t (pt l i)) (apY t (pt l i)) (pt m k)) (prtP (apX t (pt l i)) (apY t (pt l i)) (rad : Rat) m k).2 = c) => prtP_step h
 have P0 : ∀ i, prtP (apX t (pt l i)) (apY t (pt l i)) (rad : Rat) m 0 = (-1, (rad : Rat)) := fun i => rfl
 have PS : ∀ i, partners t (rad : Rat) l m (i + 1) = partners t (rad : Rat) l m i ++ [(prtP (apX t (pt l i)) (apY t (pt l i)) (rad : Rat) m m.length).1] := fun i => rfl
 have PL0 := partners_len t (rad : Rat) l m
 have PZ : partners t (rad : Rat) l m 0 = [] := rfl
 have hlN := chk_short cl
 have hmN := chk_short cm
 obtain ⟨PA, hPA⟩ : ∃ f, partners t (rad : Rat) l m = f := ⟨_, rfl⟩
 obtain ⟨XX, hXX⟩ : ∃ f : Nat → Rat, ∀ i, apX t (pt l i) = f i := ⟨_, fun _ => rfl⟩
 obtain ⟨YY, hYY⟩ : ∃ f : Nat → Rat, ∀ i, apY t (pt l i) = f i := ⟨_, fun _ => rfl⟩
 simp only [hXX, hYY, hPA] at AP DI CM SP P0 PS PL0 PZ ⊢
 obtain ⟨DD, hDD⟩ : ∃ f : Nat → Nat → Rat, ∀ i k, apartQ (XX i) (YY i) (pt m k) = f i k := ⟨_, fun _ _ => rfl⟩
 obtain ⟨PP, hPP⟩ : ∃ f : Nat → Nat → Int × Rat, ∀ i k, prtP (XX i) (YY i) (rad : Rat) m k = f i k := ⟨_, fun _ _ => rfl⟩
 simp only [hDD, hPP] at DI CM SP P0 PS
 obtain ⟨la, lc, rfl⟩ := hl.shape
 obtain ⟨ma, mc, rfl⟩ := hm.shape
 have HPl := Hid.mk_ hl
 have HPm := Hid.mk_ hm
 obtain ⟨N, hN⟩ : ∃ n, l.length = n := ⟨_, rfl⟩
 obtain ⟨M, hM⟩ : ∃ n, m.length = n := ⟨_, rfl⟩
 have HN := Hid.mk_ hN
 have HM := Hid.mk_ hM
 rw [hN] at AP DI CM HPl hlN ⊢
 rw [hM] at DI CM PS HPm hmN ⊢
 have hmk := make_ints N (by omega)
 clear hc h0 h1 h2 h3 ht hl hm cl cm r0 r1 SA zr hPA hXX hYY hDD hPP hN hM
 go_enter Tryz.func61, Tryz.ntmps61
 have kk := Keeps.refl w
 go_wp2_with fail
 go_loopw [29] (fun sl0 wr => ∃ (i : Nat) (CO : Array Value), i ≤ N ∧ sl0 = .int .i64 i ∧ CO.size = N ∧ CO.toList.take i = ints (PA i) ∧ noU32 CO = true ∧ Blk wr (w.heap.size + 1) 3 CO ∧ Blk wr (w.heap.size) 30 #[.bool ka1, .slice ka2 ka3 ka4, .bool ka5, .slice ka6 ka7 ka8, .bool kb1, .slice kb2 kb3 kb4, .bool kb5, .slice kb6 kb7 kb8, .bool kc1, .slice kc2 kc3 kc4, .bool kc5, .slice kc6 kc7 kc8, .bool kd1, .slice kd2 kd3 kd4, .bool kd5, .slice kd6 kd7 kd8] ∧ Below w.heap.size w wr ∧ Keeps w wr) (fun sl0 _ => N - (intOf sl0).toNat)
 case atStart => exact ⟨0, _, by omega, rfl, size_madeCells _ _, (by rw [PZ]; rfl), noU_made _, ownK, ownK, belowB, keepsB⟩
 case round =>
  rename World => wo
  try clear B
  try clear kk
  obtain ⟨i, CO, hi, rfl, hs, htk, hno, oq, os, B, kk⟩ := hrel
  obtain ⟨cs0, cs1, cs2, cs3, cs4, cs5, cs6, cs7, cs8, cs9, cs10, cs11, cs12, cs13, cs14, cs15⟩ := os.r15
  have ls := os.lt
  rcases Nat.lt_or_ge i N with i4 | i4
  ·
   have hlt : decide ((i : Int) < (N : Int)) = true := decide_eq_true (by omega)
   obtain ⟨b, of, rfl, hbl, hx0, hy0⟩ := HPl.out.at (a := i) (by have := HN.out; omega)
   have cx : wo.cell? ⟨b, of + i * 2, none⟩ = some (.int .i64 (pt l i).1) := (B.cell (p := ⟨b, _, none⟩) hbl).trans hx0
   have cy : wo.cell? ⟨b, of + i * 2 + 1, none⟩ = some (.int .i64 (pt l i).2) := (B.cell (p := ⟨b, _, none⟩) hbl).trans hy0
   have ap := AP i i4
   have di := DI i i4
   have cmp := CM i i4
   have sp := SP i
   have p0 := P0 i
   have ps := PS i
   clear hx0 hy0 hbl
   have zq_0 : w.heap.size + 1 < wo.heap.size := oq.lt
   have zz0 := B.size
   go_wp2_with fail
   refine (ap _ belowB).mono ?_
   rintro e w1 ⟨vxa, vxb, rfl, hvxa, hvxb, hb1⟩
   have st : Steps _ w1 := hb1
   have sk : Below wo.heap.size wo w1 := belowA st
   replace B := below_steps B (Nat.le_refl _) sk
   have ovn : Blk w1 (wo.heap.size) 23 #[.int .i64 (pt l i).1, .int .i64 (pt l i).2] := Blk.stepsK st
   replace os := os.steps sk
   replace oq := oq.steps sk
   replace kk := kk.then_ sk
   clear st sk cs0 cs1 cs2 cs3 cs4 cs5 cs6 cs7 cs8 cs9 cs10 cs11 cs12 cs13 cs14 cs15 ls
   obtain ⟨xa1, xa2, xa3, xa4, xa5, xa6, xa7, xa8, rfl⟩ := FR.shape hvxa
   have Fxa := Hid.mk_ hvxa
   clear hvxa
   obtain ⟨xb1, xb2, xb3, xb4, xb5, xb6, xb7, xb8, rfl⟩ := FR.shape hvxb
   have Fxb := Hid.mk_ hvxb
   clear hvxb
   have zvn_1 : wo.heap.size < w1.heap.size := ovn.lt
   have zz1 := B.size
   dsimp only
   have lq := oq.lt
   have fq := oq.fr
   have zz9 := B.size
   have nq1 : w.heap.size + 1 ≠ w1.heap.size := by omega
   have nq2 : w.heap.size + 1 ≠ w1.heap.size + 1 := by omega
   have nq3 : w.heap.size + 1 < w1.heap.size + 1 := by omega
   have cqi : w1.cell? ⟨w.heap.size + 1, i, none⟩ = some (CO[i]'(by omega)) := (oq.cell i).trans (Array.getElem?_eq_getElem (by omega))
   repeat' (first | (with_reducible show wpList _ _ _ (⟨some 44, _, _, _, _, _⟩ :: _) _ _; generalize hZ : @wpList = Z) | go_values | go_skip | go_guarded | go_step | go_upon)
   subst hZ
   clear lq fq cqi zz9 nq1 nq2 nq3
   refine wp_seal (fun wz => Blk wz (w.heap.size) 30 #[.bool ka1, .slice ka2 ka3 ka4, .bool ka5, .slice ka6 ka7 ka8, .bool kb1, .slice kb2 kb3 kb4, .bool kb5, .slice kb6 kb7 kb8, .bool kc1, .slice kc2 kc3 kc4, .bool kc5, .slice kc6 kc7 kc8, .bool kd1, .slice kd2 kd3 kd4, .bool kd5, .slice kd6 kd7 kd8] ∧ Blk wz (w.heap.size + 1) 3 (CO.setIfInBounds i (.int .i64 (-1))) ∧ Blk wz (wo.heap.size) 23 #[.int .i64 (pt l i).1, .int .i64 (pt l i).2] ∧ Blk wz (w1.heap.size) 28 #[.bool xa1, .slice xa2 xa3 xa4, .bool xa5, .slice xa6 xa7 xa8] ∧ Blk wz (w1.heap.size + 1) 28 #[.bool xb1, .slice xb2 xb3 xb4, .bool xb5, .slice xb6 xb7 xb8] ∧ Below w.heap.size w wz ∧ Keeps w1 wz) ⟨ownK, ((oq.set_ i _).alloc _).alloc _, ownK, ownK, ownK, belowB, ((Keeps.set (Keeps.refl _) ⟨3, CO, oq, hno⟩).alloc _).alloc _⟩ ?_
   rintro wx ⟨ps, pq, pvn, pvx, pvy, B2, k2⟩
   clear os oq ovn
   clear B
   have B := B2
   clear B2
   have os := ps
   have oq := pq
   have ovn := pvn
   have ovx := pvx
   have ovy := pvy
   clear ps pq pvn pvx pvy
   replace Fxa := Hid.mk_ (Fxa.out.keeps k2)
   replace Fxb := Hid.mk_ (Fxb.out.keeps k2)
   replace kk := kk.trans k2
   clear k2
   go_wp2_with fail
   refine (RA _ belowB).mono ?_
   rintro e w2 ⟨vxd, rfl, hvxd, hb2⟩
   have st : Steps _ w2 := hb2
   have sk : Below wx.heap.size wx w2 := belowA st
   replace B := below_steps B (Nat.le_refl _) sk
   replace os := os.steps sk
   replace oq := oq.steps sk
   replace ovn := ovn.steps sk
   replace ovx := ovx.steps sk
   replace ovy := ovy.steps sk
   replace Fxa := Hid.mk_ (Fxa.out.steps sk)
   replace Fxb := Hid.mk_ (Fxb.out.steps sk)
   replace kk := kk.then_ sk
   clear st sk
   obtain ⟨xd1, xd2, xd3, xd4, xd5, xd6, xd7, xd8, rfl⟩ := hvxd.shape
   have Fxd := Hid.mk_ hvxd
   clear hvxd
   have zvy_2 : w1.heap.size + 1 < w2.heap.size := ovy.lt
   have zz2 := B.size
   go_wp2_with fail
   go_loopw [49] (fun sl0 wr => ∃ (k : Nat) (y1 : Bool) (y2 : Option Addr) (y3 y4 : Nat) (y5 : Bool) (y6 : Option Addr) (y7 y8 : Nat), k ≤ M ∧ sl0 = .int .i64 k ∧ Blk wr (w.heap.size + 1) 3 (CO.setIfInBounds i (.int .i64 (PP i k).1)) ∧ Blk wr (w2.heap.size) 28 #[.bool y1, .slice y2 y3 y4, .bool y5, .slice y6 y7 y8] ∧ FR wr (.agg #[.bool y1, .slice y2 y3 y4, .bool y5, .slice y6 y7 y8]) (PP i k).2 ∧ Blk wr (w.heap.size) 30 #[.bool ka1, .slice ka2 ka3 ka4, .bool ka5, .slice ka6 ka7 ka8, .bool kb1, .slice kb2 kb3 kb4, .bool kb5, .slice kb6 kb7 kb8, .bool kc1, .slice kc2 kc3 kc4, .bool kc5, .slice kc6 kc7 kc8, .bool kd1, .slice kd2 kd3 kd4, .bool kd5, .slice kd6 kd7 kd8] ∧ Blk wr (wo.heap.size) 23 #[.int .i64 (pt l i).1, .int .i64 (pt l i).2] ∧ Blk wr (w1.heap.size) 28 #[.bool xa1, .slice xa2 xa3 xa4, .bool xa5, .slice xa6 xa7 xa8] ∧ Blk wr (w1.heap.size + 1) 28 #[.bool xb1, .slice xb2 xb3 xb4, .bool xb5, .slice xb6 xb7 xb8] ∧ Below w.heap.size w wr ∧ Keeps w2 wr) (fun sl0 _ => M - (intOf sl0).toNat)
   case atStart => exact ⟨0, _, _, _, _, _, _, _, _, by omega, rfl, (by rw [p0]; exact ownK), ownK, (by rw [p0]; exact Fxd.out.keeps keepsB), ownK, ownK, ownK, ownK, belowB, keepsB⟩
   case round =>
    clear os oq ovn ovx ovy
    try clear B
    have kko := kk.trans keepsB
    try clear kk
    clear Fxd
    obtain ⟨k, y1, y2, y3, y4, y5, y6, y7, y8, hk, rfl, oq, ovd, fy, os, ovn, ovx, ovy, B, kk⟩ := hrel
    replace Fxa := Hid.mk_ (Fxa.out.keeps kk)
    replace Fxb := Hid.mk_ (Fxb.out.keeps kk)
    have Fy := Hid.mk_ fy
    clear fy
    obtain ⟨pk, hpk⟩ : ∃ z, (PP i k).1 = z := ⟨_, rfl⟩
    rw [hpk] at oq
    obtain ⟨cvx0, cvx1, cvx2, cvx3⟩ := ovx.r3
    have lvx := ovx.lt
    obtain ⟨cvy0, cvy1, cvy2, cvy3⟩ := ovy.r3
    have lvy := ovy.lt
    rcases Nat.lt_or_ge k M with k4 | k4
    ·
     have hlt2 : decide ((k : Int) < (M : Int)) = true := decide_eq_true (by omega)
     obtain ⟨b', of', rfl, hbl', hx0, hy0⟩ := HPm.out.at (a := k) (by have := HM.out; omega)
     have cx : wr.cell? ⟨b', of' + k * 2, none⟩ = some (.int .i64 (pt m k).1) := (B.cell (p := ⟨b', _, none⟩) hbl').trans hx0
     have cy : wr.cell? ⟨b', of' + k * 2 + 1, none⟩ = some (.int .i64 (pt m k).2) := (B.cell (p := ⟨b', _, none⟩) hbl').trans hy0
     have dik := di k k4
     have cik := cmp k k4
     obtain ⟨c, hcc⟩ : ∃ c, cmpQ (DD i k) (PP i k).2 = c := ⟨_, rfl⟩
     rw [hcc] at cik
     have sq := sp k c hcc
     rw [hpk] at sq
     clear hx0 hy0 hbl' hcc
     have zvd_2 : w2.heap.size < wr.heap.size := ovd.lt
     have zz2 := B.size
     go_wp2_with fail
     refine (dik _ _ _ belowB (Fxa.out.keeps keepsB) (Fxb.out.keeps keepsB)).mono ?_
     rintro e w3 ⟨vxe, rfl, hvxe, hb3⟩
     have st : Steps _ w3 := hb3
     have sk : Below wr.heap.size wr w3 := belowA st
     replace B := below_steps B (Nat.le_refl _) sk
     have ovm : Blk w3 (wr.heap.size) 23 #[.int .i64 (pt m k).1, .int .i64 (pt m k).2] := Blk.stepsK st
     replace os := os.steps sk
     replace ovn := ovn.steps sk
     replace ovx := ovx.steps sk
     replace ovy := ovy.steps sk
     replace oq := oq.steps sk
     replace ovd := ovd.steps sk
     replace Fxa := Hid.mk_ (Fxa.out.steps sk)
     replace Fxb := Hid.mk_ (Fxb.out.steps sk)
     replace Fy := Hid.mk_ (Fy.out.steps sk)
     replace kk := kk.then_ sk
     clear st sk cvx0 cvx1 cvx2 cvx3 lvx cvy0 cvy1 cvy2 cvy3 lvy
     obtain ⟨cvd0, cvd1, cvd2, cvd3⟩ := ovd.r3
     have lvd := ovd.lt
     obtain ⟨xe1, xe2, xe3, xe4, xe5, xe6, xe7, xe8, rfl⟩ := hvxe.shape
     have Fxe := Hid.mk_ hvxe
     clear hvxe
     have zvm_3 : wr.heap.size < w3.heap.size := ovm.lt
     have zz3 := B.size
     go_wp2_with fail
     refine (cik _ _ _ belowB (Fxe.out.keeps keepsB) (Fy.out.keeps keepsB)).mono ?_
     rintro e w4 ⟨rfl, hb4⟩
     have st : Steps _ w4 := hb4
     have sk : Below w3.heap.size w3 w4 := belowA st
     replace B := below_steps B (Nat.le_refl _) sk
     have ove : Blk w4 (w3.heap.size) 28 #[.bool xe1, .slice xe2 xe3 xe4, .bool xe5, .slice xe6 xe7 xe8] := Blk.stepsK st
     replace os := os.steps sk
     replace ovn := ovn.steps sk
     replace ovx := ovx.steps sk
     replace ovy := ovy.steps sk
     replace oq := oq.steps sk
     replace ovd := ovd.steps sk
     replace ovm := ovm.steps sk
     replace Fxa := Hid.mk_ (Fxa.out.steps sk)
     replace Fxb := Hid.mk_ (Fxb.out.steps sk)
     replace Fy := Hid.mk_ (Fy.out.steps sk)
     replace Fxe := Hid.mk_ (Fxe.out.steps sk)
     replace kk := kk.then_ sk
     clear st sk cvd0 cvd1 cvd2 cvd3 lvd
     dsimp only
     have lq := oq.lt
     have fq := oq.fr
     have cqk : w4.cell? ⟨w.heap.size + 1, i, none⟩ = some (.int .i64 pk) := (oq.cell i).trans (Array.getElem?_setIfInBounds_self_of_lt (by omega))
     by_cases c1 : c < 0
     ·
      have e0 := sq.1 (by omega)
      have lve := ove.lt
      have lvd := ovd.lt
      have fvd := ovd.fr
      obtain ⟨cve0, cve1, cve2, cve3⟩ := ove.r3
      obtain ⟨cvd0, cvd1, cvd2, cvd3⟩ := ovd.r3
      have nqd : w.heap.size + 1 ≠ w2.heap.size := by omega
      have nqe : w.heap.size + 1 ≠ w3.heap.size := by omega
      have nde : w2.heap.size ≠ w3.heap.size := by omega
      go_upto_region 15 with fail
      go_region
      have kq : Keeps w4 (w4.setCell ⟨w.heap.size + 1, i, none⟩ (.int .i64 (k : Int))) := Keeps.set (Keeps.refl _) ⟨_, _, oq, noU_set hno i pk⟩
      have oq2 : Blk (w4.setCell ⟨w.heap.size + 1, i, none⟩ (.int .i64 (k : Int))) (w.heap.size + 1) 3 (CO.setIfInBounds i (.int .i64 (k : Int))) := by have := oq.set_ i (.int .i64 (k : Int)); rw [Array.setIfInBounds_setIfInBounds] at this; exact this
      go_wp2_with fail
      go_roundw
      case rel => exact ⟨k + 1, _, _, _, _, _, _, _, _, by omega, by go_num, (by rw [e0]; exact ownK), ownK, (by rw [e0]; exact Fxe.out.keeps (kq.trans keepsB)), ownK, ownK, ownK, ownK, belowB, kk.trans (kq.trans keepsB)⟩
      case measure => simp [intOf]; omega
     ·
      by_cases c2 : c = 0
      ·
       by_cases c3 : pk < 0
       ·
        have e0 := sq.2.1 (by omega) (by omega)
        subst c2
        have lve := ove.lt
        have lvd := ovd.lt
        have fvd := ovd.fr
        obtain ⟨cve0, cve1, cve2, cve3⟩ := ove.r3
        obtain ⟨cvd0, cvd1, cvd2, cvd3⟩ := ovd.r3
        have nqd : w.heap.size + 1 ≠ w2.heap.size := by omega
        have nqe : w.heap.size + 1 ≠ w3.heap.size := by omega
        have nde : w2.heap.size ≠ w3.heap.size := by omega
        go_upto_region 15 with fail
        go_region
        have kq : Keeps w4 (w4.setCell ⟨w.heap.size + 1, i, none⟩ (.int .i64 (k : Int))) := Keeps.set (Keeps.refl _) ⟨_, _, oq, noU_set hno i pk⟩
        have oq2 : Blk (w4.setCell ⟨w.heap.size + 1, i, none⟩ (.int .i64 (k : Int))) (w.heap.size + 1) 3 (CO.setIfInBounds i (.int .i64 (k : Int))) := by have := oq.set_ i (.int .i64 (k : Int)); rw [Array.setIfInBounds_setIfInBounds] at this; exact this
        go_wp2_with fail
        go_roundw
        case rel => exact ⟨k + 1, _, _, _, _, _, _, _, _, by omega, by go_num, (by rw [e0]; exact ownK), ownK, (by rw [e0]; exact Fxe.out.keeps (kq.trans keepsB)), ownK, ownK, ownK, ownK, belowB, kk.trans (kq.trans keepsB)⟩
        case measure => simp [intOf]; omega
       ·
        have e0 := sq.2.2 (by omega) (by first | omega | (intro h; omega) | (rintro ⟨h, g⟩; omega))
        subst c2
        go_wp2_with fail
        go_roundw
        case rel => exact ⟨k + 1, _, _, _, _, _, _, _, _, by omega, by go_num, (by rw [e0, hpk]; exact ownK), ownK, (by rw [e0]; exact Fy.out.keeps keepsB), ownK, ownK, ownK, ownK, belowB, kk.trans keepsB⟩
        case measure => simp [intOf]; omega
      ·
       have e0 := sq.2.2 (by omega) (by first | omega | (intro h; omega) | (rintro ⟨h, g⟩; omega))
       go_wp2_with fail
       go_roundw
       case rel => exact ⟨k + 1, _, _, _, _, _, _, _, _, by omega, by go_num, (by rw [e0, hpk]; exact ownK), ownK, (by rw [e0]; exact Fy.out.keeps keepsB), ownK, ownK, ownK, ownK, belowB, kk.trans keepsB⟩
       case measure => simp [intOf]; omega
    ·
     have hltM : decide ((k : Int) < (M : Int)) = false := decide_eq_false (by omega)
     have eM : k = M := by omega
     rw [eM] at hpk
     go_wp2_with fail
     go_roundw
     case rel => exact ⟨i + 1, CO.setIfInBounds i (.int .i64 pk), by omega, by go_num, by rw [Array.size_setIfInBounds]; exact hs, by rw [ps, hpk]; exact cur_next (by omega) (PL0 i) htk pk, noU_set hno i pk, ownK, ownK, belowB, kko.trans (kk.trans keepsB)⟩
     case measure => simp [intOf]; omega
  ·
   have eN : i = N := by omega
   have hltN : decide ((i : Int) < (N : Int)) = false := decide_eq_false (by omega)
   rw [eN] at htk
   go_wp2_with fail
   refine bodyPost_ret (by simp [results, Tryz.results61, go_sem, cs0, cs1, cs2, cs3, cs4, cs5, cs6, cs7, cs8, cs9, cs10, cs11, cs12, cs13, cs14, cs15, ls]; rfl) rfl ?_
   exact ⟨_, rfl, ints_of_cur ownK (PL0 N) (Nat.le_refl _) htk, belowB⟩
def pairsE (cl cm : Int) (lim : Bool) (rad : Int) : Int := if cl ≠ 0 then cl else if cm ≠ 0 then cm else if lim = false then 8 else if rad < 1 ∨ 65536 < rad then 2 else 0
def pairsR (e : Int) (l : List Int) : List Int := if e = 0 then l else []
theorem mPairs {ka1 ka5 kb1 kb5 kc1 kc5 kd1 kd5 : Bool} {ka2 ka6 kb2 kb6 kc2 kc6 kd2 kd6 : Option Addr} {ka3 ka4 ka7 ka8 kb3 kb4 kb7 kb8 kc3 kc4 kc7 kc8 kd3 kd4 kd7 kd8 : Nat} {O : Nat → Option Rat} {vl vm : Value} {l m : PL} (rad : Int) (w : World) (b0 : FB w (.agg #[.bool ka1, .slice ka2 ka3 ka4, .bool ka5, .slice ka6 ka7 ka8]) (O 0)) (b1 : FB w (.agg #[.bool kb1, .slice kb2 kb3 kb4, .bool kb5, .slice kb6 kb7 kb8]) (O 1)) (b2 : FB w (.agg #[.bool kc1, .slice kc2 kc3 kc4, .bool kc5, .slice kc6 kc7 kc8]) (O 2)) (b3 : FB w (.agg #[.bool kd1, .slice kd2 kd3 kd4, .bool kd5, .slice kd6 kd7 kd8]) (O 3)) (fw : FewL O (f4v ka3 kb3 kc3 kd3) (f4v ka7 kb7 kc7 kd7) 4) (hl : Pts w vl l) (hm : Pts w vm m) (ll : l.length ≤ 1000) (lm : m.length ≤ 1000) :
  Calls Tryz.prog 23 #[.agg #[.bool ka1, .slice ka2 ka3 ka4, .bool ka5, .slice ka6 ka7 ka8, .bool kb1, .slice kb2 kb3 kb4, .bool kb5, .slice kb6 kb7 kb8, .bool kc1, .slice kc2 kc3 kc4, .bool kc5, .slice kc6 kc7 kc8, .bool kd1, .slice kd2 kd3 kd4, .bool kd5, .slice kd6 kd7 kd8], vl, vm, .int .i64 rad] w fun e w' => ∃ u, e = .returned (.tuple #[u, .int .i64 (pairsE (chkP l) (chkP m) (limL 16 O (f4v ka3 kb3 kc3 kd3) (f4v ka7 kb7 kc7 kd7) 4) rad)]) ∧ IntsR w' u (pairsR (pairsE (chkP l) (chkP m) (limL 16 O (f4v ka3 kb3 kc3 kd3) (f4v ka7 kb7 kc7 kd7) 4) rad) (partners (fun i => (O i).getD 0) (rad : Rat) l m l.length)) ∧ Steps w w' := by
 have CL : ∀ w', Steps w w' → Calls Tryz.prog 37 #[vl] w' fun e w2 => e = .returned (.int .i64 (chkP l)) ∧ Steps w' w2 := fun w' s => qcheckP w' (hl.steps s) ll
 have CN : ∀ w', Steps w w' → Calls Tryz.prog 37 #[vm] w' fun e w2 => e = .returned (.int .i64 (chkP m)) ∧ Steps w' w2 := fun w' s => qcheckP w' (hm.steps s) lm
 have LM : ∀ w' g t, Keeps w w' → Blk w' g t #[.bool ka1, .slice ka2 ka3 ka4, .bool ka5, .slice ka6 ka7 ka8, .bool kb1, .slice kb2 kb3 kb4, .bool kb5, .slice kb6 kb7 kb8, .bool kc1, .slice kc2 kc3 kc4, .bool kc5, .slice kc6 kc7 kc8, .bool kd1, .slice kd2 kd3 kd4, .bool kd5, .slice kd6 kd7 kd8] → Calls Tryz.prog 41 #[.int .i64 16, .slice (some ⟨g, 0, none⟩) 4 4] w' fun e w2 => e = .returned (.bool (limL 16 O (f4v ka3 kb3 kc3 kd3) (f4v ka7 kb7 kc7 kd7) 4)) ∧ Steps w' w2 := fun w' g t k hb => mlimited 16 w' (fls4 hb (b0.keeps k) (b1.keeps k) (b2.keeps k) (b3.keeps k)) (by omega)
 have PR : chkP l = 0 → chkP m = 0 → limL 16 O (f4v ka3 kb3 kc3 kd3) (f4v ka7 kb7 kc7 kd7) 4 = true → 1 ≤ rad → rad ≤ 65536 → ∀ w' g, Keeps w w' → Steps w w' → Blk w' g 89 #[.int .i64 0] → Calls Tryz.prog 61 #[.pointer (some ⟨g, 0, none⟩), .agg #[.bool ka1, .slice ka2 ka3 ka4, .bool ka5, .slice ka6 ka7 ka8, .bool kb1, .slice kb2 kb3 kb4, .bool kb5, .slice kb6 kb7 kb8, .bool kc1, .slice kc2 kc3 kc4, .bool kc5, .slice kc6 kc7 kc8, .bool kd1, .slice kd2 kd3 kd4, .bool kd5, .slice kd6 kd7 kd8], vl, vm, .int .i64 rad] w' fun e w2 => ∃ u, e = .returned u ∧ IntsR w2 u (partners (fun i => (O i).getD 0) (rad : Rat) l m l.length) ∧ Steps w' w2 := fun c1 c2 hL r0 r1 w' g k s hb => by
  obtain ⟨q0, e0, z0⟩ := limL_sz hL fw 0 (by omega)
  obtain ⟨q1, e1, z1⟩ := limL_sz hL fw 1 (by omega)
  obtain ⟨q2, e2, z2⟩ := limL_sz hL fw 2 (by omega)
  obtain ⟨q3, e3, z3⟩ := limL_sz hL fw 3 (by omega)
  have g0 : (O 0).getD 0 = q0 := by rw [e0]; rfl
  have g1 : (O 1).getD 0 = q1 := by rw [e1]; rfl
  have g2 : (O 2).getD 0 = q2 := by rw [e2]; rfl
  have g3 : (O 3).getD 0 = q3 := by rw [e3]; rfl
  rw [e0] at b0
  rw [e1] at b1
  rw [e2] at b2
  rw [e3] at b3
  exact mpairs (t := fun i => (O i).getD 0) rad w' hb (by show FR _ _ ((O 0).getD 0); rw [g0]; exact FR.keeps b0 k) (by show FR _ _ ((O 1).getD 0); rw [g1]; exact FR.keeps b1 k) (by show FR _ _ ((O 2).getD 0); rw [g2]; exact FR.keeps b2 k) (by show FR _ _ ((O 3).getD 0); rw [g3]; exact FR.keeps b3 k) (fun i hi => by
   rcases (show i = 0 ∨ i = 1 ∨ i = 2 ∨ i = 3 by omega) with rfl | rfl | rfl | rfl
   · show sz ((O 0).getD 0) 16; rw [g0]; exact z0
   · show sz ((O 1).getD 0) 16; rw [g1]; exact z1
   · show sz ((O 2).getD 0) 16; rw [g2]; exact z2
   · show sz ((O 3).getD 0) 16; rw [g3]; exact z3) (hl.steps s) (hm.steps s) c1 c2 r0 r1
 obtain ⟨la, lc, rfl⟩ := hl.shape
 obtain ⟨ma, mc, rfl⟩ := hm.shape
 generalize partners (fun i => (O i).getD 0) (rad : Rat) l m l.length = P at *
 generalize limL 16 O (f4v ka3 kb3 kc3 kd3) (f4v ka7 kb7 kc7 kd7) 4 = L at *
 generalize chkP l = cl at *
 generalize chkP m = cm at *
 obtain ⟨N, hN⟩ : ∃ n, l.length = n := ⟨_, rfl⟩
 obtain ⟨M, hM⟩ : ∃ n, m.length = n := ⟨_, rfl⟩
 rw [hN, hM] at PR
 rw [hN] at CL
 rw [hM] at CN
 rw [hN, hM]
 clear hl hm ll lm b0 b1 b2 b3 fw hN hM
 by_cases c1 : cl = 0
 ·
  subst c1
  by_cases c2 : cm = 0
  ·
   subst c2
   cases L with
   | false =>
    have eE : pairsE 0 0 false rad = 8 := by simp [pairsE]
    rw [eE]
    clear PR
    show Calls _ _ _ _ fun e w' => ∃ u, e = _ ∧ IntsR w' u [] ∧ _
    go_enter Tryz.func23, Tryz.ntmps23
    have kk := Keeps.refl w
    go_wp2_with fail
    refine (CL _ belowB).mono ?_
    rintro e w1 ⟨rfl, hb1⟩
    have st : Steps _ w1 := hb1
    have B : Below w.heap.size w w1 := belowA st
    have kp : Keeps w w1 := Keeps.then_ keepsB st
    replace kk := kk.trans kp
    have os : Blk w1 (w.heap.size) 30 #[.bool ka1, .slice ka2 ka3 ka4, .bool ka5, .slice ka6 ka7 ka8, .bool kb1, .slice kb2 kb3 kb4, .bool kb5, .slice kb6 kb7 kb8, .bool kc1, .slice kc2 kc3 kc4, .bool kc5, .slice kc6 kc7 kc8, .bool kd1, .slice kd2 kd3 kd4, .bool kd5, .slice kd6 kd7 kd8] := Blk.stepsK st
    clear kp
    clear st
    go_wp2_with fail
    refine (CN _ belowB).mono ?_
    rintro e w2 ⟨rfl, hb2⟩
    have st : Steps _ w2 := hb2
    have sk : Below w1.heap.size w1 w2 := belowA st
    replace B := below_steps B (Nat.le_refl _) sk
    replace os := os.steps sk
    replace kk := kk.then_ sk
    clear st sk
    obtain ⟨cs0, cs1, cs2, cs3, cs4, cs5, cs6, cs7, cs8, cs9, cs10, cs11, cs12, cs13, cs14, cs15⟩ := os.r15
    have ls := os.lt
    have zs_2 : w.heap.size < w2.heap.size := os.lt
    have zz2 := B.size
    go_wp2_with fail
    refine (LM _ (w2.heap.size) 28 (kk.trans keepsB) ownK).mono ?_
    rintro e w3 ⟨rfl, hb3⟩
    have st : Steps _ w3 := hb3
    have sk : Below w2.heap.size w2 w3 := belowA st
    replace B := below_steps B (Nat.le_refl _) sk
    replace os := os.steps sk
    replace kk := kk.then_ sk
    clear st sk cs0 cs1 cs2 cs3 cs4 cs5 cs6 cs7 cs8 cs9 cs10 cs11 cs12 cs13 cs14 cs15 ls
    go_wp2_with fail
    refine bodyPost_ret (by simp [results, Tryz.results23, go_sem, ]; rfl) rfl ?_
    exact ⟨_, rfl, IntsR.nil _, belowB⟩
   | true =>
    rcases (show rad < 1 ∨ (¬ rad < 1 ∧ 65536 < rad) ∨ (¬ rad < 1 ∧ ¬ 65536 < rad) by omega) with r0 | ⟨r0, r1⟩ | ⟨r0, r1⟩
    ·
     have eE : pairsE 0 0 true rad = 2 := by simp [pairsE]; omega
     rw [eE]
     clear PR
     show Calls _ _ _ _ fun e w' => ∃ u, e = _ ∧ IntsR w' u [] ∧ _
     go_enter Tryz.func23, Tryz.ntmps23
     have kk := Keeps.refl w
     go_wp2_with fail
     refine (CL _ belowB).mono ?_
     rintro e w1 ⟨rfl, hb1⟩
     have st : Steps _ w1 := hb1
     have B : Below w.heap.size w w1 := belowA st
     have kp : Keeps w w1 := Keeps.then_ keepsB st
     replace kk := kk.trans kp
     have os : Blk w1 (w.heap.size) 30 #[.bool ka1, .slice ka2 ka3 ka4, .bool ka5, .slice ka6 ka7 ka8, .bool kb1, .slice kb2 kb3 kb4, .bool kb5, .slice kb6 kb7 kb8, .bool kc1, .slice kc2 kc3 kc4, .bool kc5, .slice kc6 kc7 kc8, .bool kd1, .slice kd2 kd3 kd4, .bool kd5, .slice kd6 kd7 kd8] := Blk.stepsK st
     clear kp
     clear st
     go_wp2_with fail
     refine (CN _ belowB).mono ?_
     rintro e w2 ⟨rfl, hb2⟩
     have st : Steps _ w2 := hb2
     have sk : Below w1.heap.size w1 w2 := belowA st
     replace B := below_steps B (Nat.le_refl _) sk
     replace os := os.steps sk
     replace kk := kk.then_ sk
     clear st sk
     obtain ⟨cs0, cs1, cs2, cs3, cs4, cs5, cs6, cs7, cs8, cs9, cs10, cs11, cs12, cs13, cs14, cs15⟩ := os.r15
     have ls := os.lt
     have zs_2 : w.heap.size < w2.heap.size := os.lt
     have zz2 := B.size
     go_wp2_with fail
     refine (LM _ (w2.heap.size) 28 (kk.trans keepsB) ownK).mono ?_
     rintro e w3 ⟨rfl, hb3⟩
     have st : Steps _ w3 := hb3
     have sk : Below w2.heap.size w2 w3 := belowA st
     replace B := below_steps B (Nat.le_refl _) sk
     replace os := os.steps sk
     replace kk := kk.then_ sk
     clear st sk cs0 cs1 cs2 cs3 cs4 cs5 cs6 cs7 cs8 cs9 cs10 cs11 cs12 cs13 cs14 cs15 ls
     go_wp2_with fail
     refine bodyPost_ret (by simp [results, Tryz.results23, go_sem, ]; rfl) rfl ?_
     exact ⟨_, rfl, IntsR.nil _, belowB⟩
    ·
     have eE : pairsE 0 0 true rad = 2 := by simp [pairsE]; omega
     rw [eE]
     clear PR
     show Calls _ _ _ _ fun e w' => ∃ u, e = _ ∧ IntsR w' u [] ∧ _
     go_enter Tryz.func23, Tryz.ntmps23
     have kk := Keeps.refl w
     go_wp2_with fail
     refine (CL _ belowB).mono ?_
     rintro e w1 ⟨rfl, hb1⟩
     have st : Steps _ w1 := hb1
     have B : Below w.heap.size w w1 := belowA st
     have kp : Keeps w w1 := Keeps.then_ keepsB st
     replace kk := kk.trans kp
     have os : Blk w1 (w.heap.size) 30 #[.bool ka1, .slice ka2 ka3 ka4, .bool ka5, .slice ka6 ka7 ka8, .bool kb1, .slice kb2 kb3 kb4, .bool kb5, .slice kb6 kb7 kb8, .bool kc1, .slice kc2 kc3 kc4, .bool kc5, .slice kc6 kc7 kc8, .bool kd1, .slice kd2 kd3 kd4, .bool kd5, .slice kd6 kd7 kd8] := Blk.stepsK st
     clear kp
     clear st
     go_wp2_with fail
     refine (CN _ belowB).mono ?_
     rintro e w2 ⟨rfl, hb2⟩
     have st : Steps _ w2 := hb2
     have sk : Below w1.heap.size w1 w2 := belowA st
     replace B := below_steps B (Nat.le_refl _) sk
     replace os := os.steps sk
     replace kk := kk.then_ sk
     clear st sk
     obtain ⟨cs0, cs1, cs2, cs3, cs4, cs5, cs6, cs7, cs8, cs9, cs10, cs11, cs12, cs13, cs14, cs15⟩ := os.r15
     have ls := os.lt
     have zs_2 : w.heap.size < w2.heap.size := os.lt
     have zz2 := B.size
     go_wp2_with fail
     refine (LM _ (w2.heap.size) 28 (kk.trans keepsB) ownK).mono ?_
     rintro e w3 ⟨rfl, hb3⟩
     have st : Steps _ w3 := hb3
     have sk : Below w2.heap.size w2 w3 := belowA st
     replace B := below_steps B (Nat.le_refl _) sk
     replace os := os.steps sk
     replace kk := kk.then_ sk
     clear st sk cs0 cs1 cs2 cs3 cs4 cs5 cs6 cs7 cs8 cs9 cs10 cs11 cs12 cs13 cs14 cs15 ls
     go_wp2_with fail
     refine bodyPost_ret (by simp [results, Tryz.results23, go_sem, ]; rfl) rfl ?_
     exact ⟨_, rfl, IntsR.nil _, belowB⟩
    ·
     have eE : pairsE 0 0 true rad = 0 := by simp [pairsE]; omega
     rw [eE]
     replace PR := PR rfl rfl rfl (by omega) (by omega)
     show Calls _ _ _ _ fun e w' => ∃ u, e = _ ∧ IntsR w' u P ∧ _
     go_enter Tryz.func23, Tryz.ntmps23
     have kk := Keeps.refl w
     go_wp2_with fail
     refine (CL _ belowB).mono ?_
     rintro e w1 ⟨rfl, hb1⟩
     have st : Steps _ w1 := hb1
     have B : Below w.heap.size w w1 := belowA st
     have kp : Keeps w w1 := Keeps.then_ keepsB st
     replace kk := kk.trans kp
     have os : Blk w1 (w.heap.size) 30 #[.bool ka1, .slice ka2 ka3 ka4, .bool ka5, .slice ka6 ka7 ka8, .bool kb1, .slice kb2 kb3 kb4, .bool kb5, .slice kb6 kb7 kb8, .bool kc1, .slice kc2 kc3 kc4, .bool kc5, .slice kc6 kc7 kc8, .bool kd1, .slice kd2 kd3 kd4, .bool kd5, .slice kd6 kd7 kd8] := Blk.stepsK st
     clear kp
     clear st
     go_wp2_with fail
     refine (CN _ belowB).mono ?_
     rintro e w2 ⟨rfl, hb2⟩
     have st : Steps _ w2 := hb2
     have sk : Below w1.heap.size w1 w2 := belowA st
     replace B := below_steps B (Nat.le_refl _) sk
     replace os := os.steps sk
     replace kk := kk.then_ sk
     clear st sk
     obtain ⟨cs0, cs1, cs2, cs3, cs4, cs5, cs6, cs7, cs8, cs9, cs10, cs11, cs12, cs13, cs14, cs15⟩ := os.r15
     have ls := os.lt
     have zs_2 : w.heap.size < w2.heap.size := os.lt
     have zz2 := B.size
     go_wp2_with fail
     refine (LM _ (w2.heap.size) 28 (kk.trans keepsB) ownK).mono ?_
     rintro e w3 ⟨rfl, hb3⟩
     have st : Steps _ w3 := hb3
     have sk : Below w2.heap.size w2 w3 := belowA st
     replace B := below_steps B (Nat.le_refl _) sk
     replace os := os.steps sk
     replace kk := kk.then_ sk
     clear st sk cs0 cs1 cs2 cs3 cs4 cs5 cs6 cs7 cs8 cs9 cs10 cs11 cs12 cs13 cs14 cs15 ls
     obtain ⟨cs0, cs1, cs2, cs3, cs4, cs5, cs6, cs7, cs8, cs9, cs10, cs11, cs12, cs13, cs14, cs15⟩ := os.r15
     have ls := os.lt
     have zs_3 : w.heap.size < w3.heap.size := os.lt
     have zz3 := B.size
     go_wp2_with fail
     refine (PR _ (w3.heap.size) (kk.trans keepsB) belowB ownK).mono ?_
     rintro e w4 ⟨vu, rfl, hvu, hb4⟩
     have st : Steps _ w4 := hb4
     have sk : Below w3.heap.size w3 w4 := belowA st
     replace B := below_steps B (Nat.le_refl _) sk
     have ovc : Blk w4 (w3.heap.size) 89 #[.int .i64 0] := Blk.stepsK st
     replace os := os.steps sk
     replace kk := kk.then_ sk
     clear st sk cs0 cs1 cs2 cs3 cs4 cs5 cs6 cs7 cs8 cs9 cs10 cs11 cs12 cs13 cs14 cs15 ls
     have cvc0 := ovc.q0
     have lvc := ovc.lt
     obtain ⟨ua, uc, rfl⟩ := hvu.shape
     go_wp2_with fail
     refine bodyPost_ret (by simp [results, Tryz.results23, go_sem, cvc0, lvc]; rfl) rfl ?_
     exact ⟨_, rfl, hvu, belowB⟩
  ·
   have eE : pairsE 0 cm L rad = cm := by simp [pairsE, c2]
   have eR : pairsR cm P = [] := if_neg c2
   rw [eE, eR]
   clear PR LM
   go_enter Tryz.func23, Tryz.ntmps23
   have kk := Keeps.refl w
   go_wp2_with fail
   refine (CL _ belowB).mono ?_
   rintro e w1 ⟨rfl, hb1⟩
   have st : Steps _ w1 := hb1
   have B : Below w.heap.size w w1 := belowA st
   have kp : Keeps w w1 := Keeps.then_ keepsB st
   replace kk := kk.trans kp
   have os : Blk w1 (w.heap.size) 30 #[.bool ka1, .slice ka2 ka3 ka4, .bool ka5, .slice ka6 ka7 ka8, .bool kb1, .slice kb2 kb3 kb4, .bool kb5, .slice kb6 kb7 kb8, .bool kc1, .slice kc2 kc3 kc4, .bool kc5, .slice kc6 kc7 kc8, .bool kd1, .slice kd2 kd3 kd4, .bool kd5, .slice kd6 kd7 kd8] := Blk.stepsK st
   clear kp
   clear st
   go_wp2_with fail
   refine (CN _ belowB).mono ?_
   rintro e w2 ⟨rfl, hb2⟩
   have st : Steps _ w2 := hb2
   have sk : Below w1.heap.size w1 w2 := belowA st
   replace B := below_steps B (Nat.le_refl _) sk
   replace os := os.steps sk
   replace kk := kk.then_ sk
   clear st sk
   go_wp2_with fail
   refine bodyPost_ret (by simp [results, Tryz.results23, go_sem, ]; rfl) rfl ?_
   exact ⟨_, rfl, IntsR.nil _, belowB⟩
 ·
  have eE : pairsE cl cm L rad = cl := by simp [pairsE, c1]
  have eR : pairsR cl P = [] := if_neg c1
  rw [eE, eR]
  clear PR LM CN
  go_enter Tryz.func23, Tryz.ntmps23
  have kk := Keeps.refl w
  go_wp2_with fail
  refine (CL _ belowB).mono ?_
  rintro e w1 ⟨rfl, hb1⟩
  have st : Steps _ w1 := hb1
  have B : Below w.heap.size w w1 := belowA st
  have kp : Keeps w w1 := Keeps.then_ keepsB st
  replace kk := kk.trans kp
  have os : Blk w1 (w.heap.size) 30 #[.bool ka1, .slice ka2 ka3 ka4, .bool ka5, .slice ka6 ka7 ka8, .bool kb1, .slice kb2 kb3 kb4, .bool kb5, .slice kb6 kb7 kb8, .bool kc1, .slice kc2 kc3 kc4, .bool kc5, .slice kc6 kc7 kc8, .bool kd1, .slice kd2 kd3 kd4, .bool kd5, .slice kd6 kd7 kd8] := Blk.stepsK st
  clear kp
  clear st
  go_wp2_with fail
  refine bodyPost_ret (by simp [results, Tryz.results23, go_sem, ]; rfl) rfl ?_
  exact ⟨_, rfl, IntsR.nil _, belowB⟩
def longB (k n : Int) : Bool := (decide (k < n) && decide (n ≤ 200)) || decide (210 < n)
theorem llong {v : Value} {l : PL} (k : Int) (w : World) (hl : Pts w v l) : Calls Tryz.prog 22 #[v, .int .i64 k] w fun e w' => e = .returned (.bool (longB k l.length)) ∧ Steps w w' := by
 obtain ⟨la, lc, rfl⟩ := hl.shape
 unfold longB
 obtain ⟨n, hn⟩ : ∃ n, l.length = n := ⟨_, rfl⟩
 rw [hn]
 clear hl hn
 by_cases h1 : k < (n : Int)
 ·
  by_cases h2 : (n : Int) ≤ 200
  ·
   have h3 : ¬ 210 < (n : Int) := by omega
   rw [decide_eq_true h1, decide_eq_true h2, decide_eq_false h3]
   go_enter Tryz.func22, Tryz.ntmps22
   go_wp2
   go_returns
   exact ⟨rfl, belowB⟩
  ·
   rw [decide_eq_true h1, decide_eq_false h2]
   go_enter Tryz.func22, Tryz.ntmps22
   go_wp2
   go_returns
   exact ⟨by simp, belowB⟩
 ·
  rw [decide_eq_false h1]
  go_enter Tryz.func22, Tryz.ntmps22
  go_wp2
  go_returns
  exact ⟨by simp, belowB⟩
theorem prPairs {ka1 ka5 kb1 kb5 kc1 kc5 kd1 kd5 : Bool} {ka2 ka6 kb2 kb6 kc2 kc6 kd2 kd6 : Option Addr} {ka3 ka4 ka7 ka8 kb3 kb4 kb7 kb8 kc3 kc4 kc7 kc8 kd3 kd4 kd7 kd8 : Nat} {O : Nat → Option Rat} {vl vm : Value} {l m : PL} (rad : Int) (w : World) (b0 : FB w (.agg #[.bool ka1, .slice ka2 ka3 ka4, .bool ka5, .slice ka6 ka7 ka8]) (O 0)) (b1 : FB w (.agg #[.bool kb1, .slice kb2 kb3 kb4, .bool kb5, .slice kb6 kb7 kb8]) (O 1)) (b2 : FB w (.agg #[.bool kc1, .slice kc2 kc3 kc4, .bool kc5, .slice kc6 kc7 kc8]) (O 2)) (b3 : FB w (.agg #[.bool kd1, .slice kd2 kd3 kd4, .bool kd5, .slice kd6 kd7 kd8]) (O 3)) (fw : FewL O (f4v ka3 kb3 kc3 kd3) (f4v ka7 kb7 kc7 kd7) 4) (hl : Pts w vl l) (hm : Pts w vm m) (ll : l.length ≤ 1000) (lm : m.length ≤ 1000) :
  Calls Tryz.prog 24 #[.agg #[.bool ka1, .slice ka2 ka3 ka4, .bool ka5, .slice ka6 ka7 ka8, .bool kb1, .slice kb2 kb3 kb4, .bool kb5, .slice kb6 kb7 kb8, .bool kc1, .slice kc2 kc3 kc4, .bool kc5, .slice kc6 kc7 kc8, .bool kd1, .slice kd2 kd3 kd4, .bool kd5, .slice kd6 kd7 kd8], vl, vm, .int .i64 rad] w fun e w' => ∃ u, e = .returned (.tuple #[u, .int .i64 (pairsE (chkP l) (chkP m) (limL 16 O (f4v ka3 kb3 kc3 kd3) (f4v ka7 kb7 kc7 kd7) 4) rad)]) ∧ IntsR w' u (pairsR (pairsE (chkP l) (chkP m) (limL 16 O (f4v ka3 kb3 kc3 kd3) (f4v ka7 kb7 kc7 kd7) 4) rad) (partners (fun i => (O i).getD 0) (rad : Rat) l m l.length)) ∧ Steps w w' := by
 have CL : ∀ w', Steps w w' → Calls Tryz.prog 62 #[vl] w' fun e w2 => e = .returned (.int .i64 (chkP l)) ∧ Steps w' w2 := fun w' s => rcheckP w' (hl.steps s) ll
 have CN : ∀ w', Steps w w' → Calls Tryz.prog 62 #[vm] w' fun e w2 => e = .returned (.int .i64 (chkP m)) ∧ Steps w' w2 := fun w' s => rcheckP w' (hm.steps s) lm
 have LM := fun w' (k : Keeps w w') => rValid21 w' (b0.keeps k) (b1.keeps k) (b2.keeps k) (b3.keeps k)
 have PR : chkP l = 0 → chkP m = 0 → limL 16 O (f4v ka3 kb3 kc3 kd3) (f4v ka7 kb7 kc7 kd7) 4 = true → 1 ≤ rad → rad ≤ 65536 → ∀ w', Keeps w w' → Steps w w' → Calls Tryz.prog 63 #[.agg #[.bool ka1, .slice ka2 ka3 ka4, .bool ka5, .slice ka6 ka7 ka8, .bool kb1, .slice kb2 kb3 kb4, .bool kb5, .slice kb6 kb7 kb8, .bool kc1, .slice kc2 kc3 kc4, .bool kc5, .slice kc6 kc7 kc8, .bool kd1, .slice kd2 kd3 kd4, .bool kd5, .slice kd6 kd7 kd8], vl, vm, .int .i64 rad] w' fun e w2 => ∃ u, e = .returned u ∧ IntsR w2 u (partners (fun i => (O i).getD 0) (rad : Rat) l m l.length) ∧ Steps w' w2 := fun c1 c2 hL r0 r1 w' k s => by
  obtain ⟨q0, e0, z0⟩ := limL_sz hL fw 0 (by omega)
  obtain ⟨q1, e1, z1⟩ := limL_sz hL fw 1 (by omega)
  obtain ⟨q2, e2, z2⟩ := limL_sz hL fw 2 (by omega)
  obtain ⟨q3, e3, z3⟩ := limL_sz hL fw 3 (by omega)
  have g0 : (O 0).getD 0 = q0 := by rw [e0]; rfl
  have g1 : (O 1).getD 0 = q1 := by rw [e1]; rfl
  have g2 : (O 2).getD 0 = q2 := by rw [e2]; rfl
  have g3 : (O 3).getD 0 = q3 := by rw [e3]; rfl
  rw [e0] at b0
  rw [e1] at b1
  rw [e2] at b2
  rw [e3] at b3
  exact prpairs (t := fun i => (O i).getD 0) rad w' (by show FR _ _ ((O 0).getD 0); rw [g0]; exact FR.keeps b0 k) (by show FR _ _ ((O 1).getD 0); rw [g1]; exact FR.keeps b1 k) (by show FR _ _ ((O 2).getD 0); rw [g2]; exact FR.keeps b2 k) (by show FR _ _ ((O 3).getD 0); rw [g3]; exact FR.keeps b3 k) (fun i hi => by
   rcases (show i = 0 ∨ i = 1 ∨ i = 2 ∨ i = 3 by omega) with rfl | rfl | rfl | rfl
   · show sz ((O 0).getD 0) 16; rw [g0]; exact z0
   · show sz ((O 1).getD 0) 16; rw [g1]; exact z1
   · show sz ((O 2).getD 0) 16; rw [g2]; exact z2
   · show sz ((O 3).getD 0) 16; rw [g3]; exact z3) (hl.steps s) (hm.steps s) c1 c2 r0 r1
 obtain ⟨la, lc, rfl⟩ := hl.shape
 obtain ⟨ma, mc, rfl⟩ := hm.shape
 generalize partners (fun i => (O i).getD 0) (rad : Rat) l m l.length = P at *
 generalize limL 16 O (f4v ka3 kb3 kc3 kd3) (f4v ka7 kb7 kc7 kd7) 4 = L at *
 generalize chkP l = cl at *
 generalize chkP m = cm at *
 obtain ⟨N, hN⟩ : ∃ n, l.length = n := ⟨_, rfl⟩
 obtain ⟨M, hM⟩ : ∃ n, m.length = n := ⟨_, rfl⟩
 rw [hN, hM] at PR
 rw [hN] at CL
 rw [hM] at CN
 rw [hN, hM]
 clear hl hm ll lm b0 b1 b2 b3 fw hN hM
 by_cases c1 : cl = 0
 ·
  subst c1
  by_cases c2 : cm = 0
  ·
   subst c2
   cases L with
   | false =>
    have eE : pairsE 0 0 false rad = 8 := by simp [pairsE]
    rw [eE]
    clear PR
    show Calls _ _ _ _ fun e w' => ∃ u, e = _ ∧ IntsR w' u [] ∧ _
    go_enter Tryz.func24, Tryz.ntmps24
    have kk := Keeps.refl w
    go_wp2_with fail
    refine (CL _ belowB).mono ?_
    rintro e w1 ⟨rfl, hb1⟩
    have st : Steps _ w1 := hb1
    have B : Below w.heap.size w w1 := belowA st
    have kp : Keeps w w1 := Keeps.then_ keepsB st
    replace kk := kk.trans kp
    have os : Blk w1 (w.heap.size) 30 #[.bool ka1, .slice ka2 ka3 ka4, .bool ka5, .slice ka6 ka7 ka8, .bool kb1, .slice kb2 kb3 kb4, .bool kb5, .slice kb6 kb7 kb8, .bool kc1, .slice kc2 kc3 kc4, .bool kc5, .slice kc6 kc7 kc8, .bool kd1, .slice kd2 kd3 kd4, .bool kd5, .slice kd6 kd7 kd8] := Blk.stepsK st
    clear kp
    clear st
    go_wp2_with fail
    refine (CN _ belowB).mono ?_
    rintro e w2 ⟨rfl, hb2⟩
    have st : Steps _ w2 := hb2
    have sk : Below w1.heap.size w1 w2 := belowA st
    replace B := below_steps B (Nat.le_refl _) sk
    replace os := os.steps sk
    replace kk := kk.then_ sk
    clear st sk
    go_wp2_with (first
     | (
       (with_reducible show wpList _ _ _ (⟨some 22, _, _, _, _, _⟩ :: _) _ _)
       refine load_big rfl 30 (.tmp 4) rfl (w.heap.size) rfl 30 #[.bool ka1, .slice ka2 ka3 ka4, .bool ka5, .slice ka6 ka7 ka8, .bool kb1, .slice kb2 kb3 kb4, .bool kb5, .slice kb6 kb7 kb8, .bool kc1, .slice kc2 kc3 kc4, .bool kc5, .slice kc6 kc7 kc8, .bool kd1, .slice kd2 kd3 kd4, .bool kd5, .slice kd6 kd7 kd8] _ ownK Tryz.underlying30 rfl (by kernel_rfl) ?_
       skip)
     )
    refine (LM _ (kk.trans keepsB)).mono ?_
    rintro e w3 ⟨rfl, hb3⟩
    have st : Steps _ w3 := hb3
    have sk : Below w2.heap.size w2 w3 := belowA st
    replace B := below_steps B (Nat.le_refl _) sk
    replace os := os.steps sk
    replace kk := kk.then_ sk
    clear st sk
    go_wp2_with fail
    refine bodyPost_ret (by simp [results, Tryz.results24, go_sem, ]; rfl) rfl ?_
    exact ⟨_, rfl, IntsR.nil _, belowB⟩
   | true =>
    rcases (show rad < 1 ∨ (¬ rad < 1 ∧ 65536 < rad) ∨ (¬ rad < 1 ∧ ¬ 65536 < rad) by omega) with r0 | ⟨r0, r1⟩ | ⟨r0, r1⟩
    ·
     have eE : pairsE 0 0 true rad = 2 := by simp [pairsE]; omega
     rw [eE]
     clear PR
     show Calls _ _ _ _ fun e w' => ∃ u, e = _ ∧ IntsR w' u [] ∧ _
     go_enter Tryz.func24, Tryz.ntmps24
     have kk := Keeps.refl w
     go_wp2_with fail
     refine (CL _ belowB).mono ?_
     rintro e w1 ⟨rfl, hb1⟩
     have st : Steps _ w1 := hb1
     have B : Below w.heap.size w w1 := belowA st
     have kp : Keeps w w1 := Keeps.then_ keepsB st
     replace kk := kk.trans kp
     have os : Blk w1 (w.heap.size) 30 #[.bool ka1, .slice ka2 ka3 ka4, .bool ka5, .slice ka6 ka7 ka8, .bool kb1, .slice kb2 kb3 kb4, .bool kb5, .slice kb6 kb7 kb8, .bool kc1, .slice kc2 kc3 kc4, .bool kc5, .slice kc6 kc7 kc8, .bool kd1, .slice kd2 kd3 kd4, .bool kd5, .slice kd6 kd7 kd8] := Blk.stepsK st
     clear kp
     clear st
     go_wp2_with fail
     refine (CN _ belowB).mono ?_
     rintro e w2 ⟨rfl, hb2⟩
     have st : Steps _ w2 := hb2
     have sk : Below w1.heap.size w1 w2 := belowA st
     replace B := below_steps B (Nat.le_refl _) sk
     replace os := os.steps sk
     replace kk := kk.then_ sk
     clear st sk
     go_wp2_with (first
      | (
        (with_reducible show wpList _ _ _ (⟨some 22, _, _, _, _, _⟩ :: _) _ _)
        refine load_big rfl 30 (.tmp 4) rfl (w.heap.size) rfl 30 #[.bool ka1, .slice ka2 ka3 ka4, .bool ka5, .slice ka6 ka7 ka8, .bool kb1, .slice kb2 kb3 kb4, .bool kb5, .slice kb6 kb7 kb8, .bool kc1, .slice kc2 kc3 kc4, .bool kc5, .slice kc6 kc7 kc8, .bool kd1, .slice kd2 kd3 kd4, .bool kd5, .slice kd6 kd7 kd8] _ ownK Tryz.underlying30 rfl (by kernel_rfl) ?_
        skip)
      )
     refine (LM _ (kk.trans keepsB)).mono ?_
     rintro e w3 ⟨rfl, hb3⟩
     have st : Steps _ w3 := hb3
     have sk : Below w2.heap.size w2 w3 := belowA st
     replace B := below_steps B (Nat.le_refl _) sk
     replace os := os.steps sk
     replace kk := kk.then_ sk
     clear st sk
     go_wp2_with fail
     refine bodyPost_ret (by simp [results, Tryz.results24, go_sem, ]; rfl) rfl ?_
     exact ⟨_, rfl, IntsR.nil _, belowB⟩
    ·
     have eE : pairsE 0 0 true rad = 2 := by simp [pairsE]; omega
     rw [eE]
     clear PR
     show Calls _ _ _ _ fun e w' => ∃ u, e = _ ∧ IntsR w' u [] ∧ _
     go_enter Tryz.func24, Tryz.ntmps24
     have kk := Keeps.refl w
     go_wp2_with fail
     refine (CL _ belowB).mono ?_
     rintro e w1 ⟨rfl, hb1⟩
     have st : Steps _ w1 := hb1
     have B : Below w.heap.size w w1 := belowA st
     have kp : Keeps w w1 := Keeps.then_ keepsB st
     replace kk := kk.trans kp
     have os : Blk w1 (w.heap.size) 30 #[.bool ka1, .slice ka2 ka3 ka4, .bool ka5, .slice ka6 ka7 ka8, .bool kb1, .slice kb2 kb3 kb4, .bool kb5, .slice kb6 kb7 kb8, .bool kc1, .slice kc2 kc3 kc4, .bool kc5, .slice kc6 kc7 kc8, .bool kd1, .slice kd2 kd3 kd4, .bool kd5, .slice kd6 kd7 kd8] := Blk.stepsK st
     clear kp
     clear st
     go_wp2_with fail
     refine (CN _ belowB).mono ?_
     rintro e w2 ⟨rfl, hb2⟩
     have st : Steps _ w2 := hb2
     have sk : Below w1.heap.size w1 w2 := belowA st
     replace B := below_steps B (Nat.le_refl _) sk
     replace os := os.steps sk
     replace kk := kk.then_ sk
     clear st sk
     go_wp2_with (first
      | (
        (with_reducible show wpList _ _ _ (⟨some 22, _, _, _, _, _⟩ :: _) _ _)
        refine load_big rfl 30 (.tmp 4) rfl (w.heap.size) rfl 30 #[.bool ka1, .slice ka2 ka3 ka4, .bool ka5, .slice ka6 ka7 ka8, .bool kb1, .slice kb2 kb3 kb4, .bool kb5, .slice kb6 kb7 kb8, .bool kc1, .slice kc2 kc3 kc4, .bool kc5, .slice kc6 kc7 kc8, .bool kd1, .slice kd2 kd3 kd4, .bool kd5, .slice kd6 kd7 kd8] _ ownK Tryz.underlying30 rfl (by kernel_rfl) ?_
        skip)
      )
     refine (LM _ (kk.trans keepsB)).mono ?_
     rintro e w3 ⟨rfl, hb3⟩
     have st : Steps _ w3 := hb3
     have sk : Below w2.heap.size w2 w3 := belowA st
     replace B := below_steps B (Nat.le_refl _) sk
     replace os := os.steps sk
     replace kk := kk.then_ sk
     clear st sk
     go_wp2_with fail
     refine bodyPost_ret (by simp [results, Tryz.results24, go_sem, ]; rfl) rfl ?_
     exact ⟨_, rfl, IntsR.nil _, belowB⟩
    ·
     have eE : pairsE 0 0 true rad = 0 := by simp [pairsE]; omega
     rw [eE]
     replace PR := PR rfl rfl rfl (by omega) (by omega)
     show Calls _ _ _ _ fun e w' => ∃ u, e = _ ∧ IntsR w' u P ∧ _
     go_enter Tryz.func24, Tryz.ntmps24
     have kk := Keeps.refl w
     go_wp2_with fail
     refine (CL _ belowB).mono ?_
     rintro e w1 ⟨rfl, hb1⟩
     have st : Steps _ w1 := hb1
     have B : Below w.heap.size w w1 := belowA st
     have kp : Keeps w w1 := Keeps.then_ keepsB st
     replace kk := kk.trans kp
     have os : Blk w1 (w.heap.size) 30 #[.bool ka1, .slice ka2 ka3 ka4, .bool ka5, .slice ka6 ka7 ka8, .bool kb1, .slice kb2 kb3 kb4, .bool kb5, .slice kb6 kb7 kb8, .bool kc1, .slice kc2 kc3 kc4, .bool kc5, .slice kc6 kc7 kc8, .bool kd1, .slice kd2 kd3 kd4, .bool kd5, .slice kd6 kd7 kd8] := Blk.stepsK st
     clear kp
     clear st
     go_wp2_with fail
     refine (CN _ belowB).mono ?_
     rintro e w2 ⟨rfl, hb2⟩
     have st : Steps _ w2 := hb2
     have sk : Below w1.heap.size w1 w2 := belowA st
     replace B := below_steps B (Nat.le_refl _) sk
     replace os := os.steps sk
     replace kk := kk.then_ sk
     clear st sk
     go_wp2_with (first
      | (
        (with_reducible show wpList _ _ _ (⟨some 22, _, _, _, _, _⟩ :: _) _ _)
        refine load_big rfl 30 (.tmp 4) rfl (w.heap.size) rfl 30 #[.bool ka1, .slice ka2 ka3 ka4, .bool ka5, .slice ka6 ka7 ka8, .bool kb1, .slice kb2 kb3 kb4, .bool kb5, .slice kb6 kb7 kb8, .bool kc1, .slice kc2 kc3 kc4, .bool kc5, .slice kc6 kc7 kc8, .bool kd1, .slice kd2 kd3 kd4, .bool kd5, .slice kd6 kd7 kd8] _ ownK Tryz.underlying30 rfl (by kernel_rfl) ?_
        skip)
      )
     refine (LM _ (kk.trans keepsB)).mono ?_
     rintro e w3 ⟨rfl, hb3⟩
     have st : Steps _ w3 := hb3
     have sk : Below w2.heap.size w2 w3 := belowA st
     replace B := below_steps B (Nat.le_refl _) sk
     replace os := os.steps sk
     replace kk := kk.then_ sk
     clear st sk
     go_wp2_with (first
      | (
        (with_reducible show wpList _ _ _ (⟨some 31, _, _, _, _, _⟩ :: _) _ _)
        refine load_big rfl 30 (.tmp 4) rfl (w.heap.size) rfl 30 #[.bool ka1, .slice ka2 ka3 ka4, .bool ka5, .slice ka6 ka7 ka8, .bool kb1, .slice kb2 kb3 kb4, .bool kb5, .slice kb6 kb7 kb8, .bool kc1, .slice kc2 kc3 kc4, .bool kc5, .slice kc6 kc7 kc8, .bool kd1, .slice kd2 kd3 kd4, .bool kd5, .slice kd6 kd7 kd8] _ ownK Tryz.underlying30 rfl (by kernel_rfl) ?_
        skip)
      )
     refine (PR _ (kk.trans keepsB) belowB).mono ?_
     rintro e w4 ⟨vu, rfl, hvu, hb4⟩
     have st : Steps _ w4 := hb4
     have sk : Below w3.heap.size w3 w4 := belowA st
     replace B := below_steps B (Nat.le_refl _) sk
     replace os := os.steps sk
     replace kk := kk.then_ sk
     clear st sk
     obtain ⟨ua, uc, rfl⟩ := hvu.shape
     go_wp2_with fail
     refine bodyPost_ret (by simp [results, Tryz.results24, go_sem, ]; rfl) rfl ?_
     exact ⟨_, rfl, hvu, belowB⟩
  ·
   have eE : pairsE 0 cm L rad = cm := by simp [pairsE, c2]
   have eR : pairsR cm P = [] := if_neg c2
   rw [eE, eR]
   clear PR LM
   go_enter Tryz.func24, Tryz.ntmps24
   have kk := Keeps.refl w
   go_wp2_with fail
   refine (CL _ belowB).mono ?_
   rintro e w1 ⟨rfl, hb1⟩
   have st : Steps _ w1 := hb1
   have B : Below w.heap.size w w1 := belowA st
   have kp : Keeps w w1 := Keeps.then_ keepsB st
   replace kk := kk.trans kp
   have os : Blk w1 (w.heap.size) 30 #[.bool ka1, .slice ka2 ka3 ka4, .bool ka5, .slice ka6 ka7 ka8, .bool kb1, .slice kb2 kb3 kb4, .bool kb5, .slice kb6 kb7 kb8, .bool kc1, .slice kc2 kc3 kc4, .bool kc5, .slice kc6 kc7 kc8, .bool kd1, .slice kd2 kd3 kd4, .bool kd5, .slice kd6 kd7 kd8] := Blk.stepsK st
   clear kp
   clear st
   go_wp2_with fail
   refine (CN _ belowB).mono ?_
   rintro e w2 ⟨rfl, hb2⟩
   have st : Steps _ w2 := hb2
   have sk : Below w1.heap.size w1 w2 := belowA st
   replace B := below_steps B (Nat.le_refl _) sk
   replace os := os.steps sk
   replace kk := kk.then_ sk
   clear st sk
   go_wp2_with fail
   refine bodyPost_ret (by simp [results, Tryz.results24, go_sem, ]; rfl) rfl ?_
   exact ⟨_, rfl, IntsR.nil _, belowB⟩
 ·
  have eE : pairsE cl cm L rad = cl := by simp [pairsE, c1]
  have eR : pairsR cl P = [] := if_neg c1
  rw [eE, eR]
  clear PR LM CN
  go_enter Tryz.func24, Tryz.ntmps24
  have kk := Keeps.refl w
  go_wp2_with fail
  refine (CL _ belowB).mono ?_
  rintro e w1 ⟨rfl, hb1⟩
  have st : Steps _ w1 := hb1
  have B : Below w.heap.size w w1 := belowA st
  have kp : Keeps w w1 := Keeps.then_ keepsB st
  replace kk := kk.trans kp
  have os : Blk w1 (w.heap.size) 30 #[.bool ka1, .slice ka2 ka3 ka4, .bool ka5, .slice ka6 ka7 ka8, .bool kb1, .slice kb2 kb3 kb4, .bool kb5, .slice kb6 kb7 kb8, .bool kc1, .slice kc2 kc3 kc4, .bool kc5, .slice kc6 kc7 kc8, .bool kd1, .slice kd2 kd3 kd4, .bool kd5, .slice kd6 kd7 kd8] := Blk.stepsK st
  clear kp
  clear st
  go_wp2_with fail
  refine bodyPost_ret (by simp [results, Tryz.results24, go_sem, ]; rfl) rfl ?_
  exact ⟨_, rfl, IntsR.nil _, belowB⟩
end Go.Proofs.YtffmbepfbienaaaGreat
