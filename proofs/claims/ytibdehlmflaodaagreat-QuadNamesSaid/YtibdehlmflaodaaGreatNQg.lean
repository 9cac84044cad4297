import Derived.RangeFuncNested
import Derived.RangeFuncBox
import Derived.RangeFuncLeaves
import Derived.Shelf.Abstract
import Derived.WalkKit
import Derived.OwnWalkIn
import Derived.TacticsInMore
import Derived.LoopNIn
import Derived.LoopIn
import Derived.Test.YtibdehlmflaodaaGreatNQd
import Derived.Test.YtibdehlmflaodaaGreatNRow
import Derived.Test.YtibdehlmflaodaaGreatNRound
import Derived.Test.YtibdehlmflaodaaGreatNTk
set_option linter.unusedVariables false
set_option linter.unusedSimpArgs false
set_option maxHeartbeats 6400000
set_option maxRecDepth 1000000
namespace Go.Proofs.YtibdehlmflaodaaGreat
open Go.RowKit Go.Shelf
def arrC (a : Arr) : Array Value := #[.int .i64 a.k0, .int .i64 a.k1, .int .i64 a.k2, .int .i64 a.k3, .int .i64 a.a1, .int .i64 a.a2, .int .i64 a.b1, .int .i64 a.b2, .int .i64 a.n]
theorem qbetter (a b : Arr) (g : Nat) (w : World) (hb : Blk w g 57 (arrC b)) (oa : okA a) (ob : okA b) :
  Calls Tryz.prog 34 #[arrV a, .pointer (some ⟨g, 0, none⟩)] w fun e w' => e = .returned (.bool (a.beats b)) ∧ Steps w w' := by
 have hc : ∀ w', Calls Tryz.prog 35 #[arrV a, arrV b] w' fun e w2 => e = .returned (.int .i64 (cmpA a b)) ∧ Steps w' w2 := fun w' => qcompare a b w' oa ob
 obtain ⟨c, hcc⟩ : ∃ c, cmpA a b = c := ⟨_, rfl⟩
 rw [hcc] at hc
 have E1 : b.n < a.n → Hid (a.beats b = true) := fun h => beats_iff.2 (.inl h)
 have E2 : a.n < b.n → Hid (a.beats b = false) := fun h => by
  show a.beats b = false
  cases hq : a.beats b
  · rfl
  · rw [beats_iff] at hq; omega
 have E3 : a.n = b.n → ¬ 0 < a.n → Hid (a.beats b = false) := fun h h2 => by
  show a.beats b = false
  cases hq : a.beats b
  · rfl
  · rw [beats_iff] at hq; omega
 have E4 : a.n = b.n → 0 < a.n → Hid (a.beats b = decide (c < 0)) := fun h h2 => by
  show a.beats b = _
  rw [Bool.eq_iff_iff, beats_iff, decide_eq_true_eq, hcc]
  omega
 clear hcc oa ob
 obtain ⟨k0, k1, k2, k3, A1, A2, B1, B2, N⟩ := a
 obtain ⟨l0, l1, l2, l3, C1, C2, D1, D2, M⟩ := b
 unfold arrV at *
 unfold arrC at hb
 dsimp only at hc hb E1 E2 E3 E4 ⊢
 have lb := hb.lt
 have fb := hb.fr
 have cb8 := hb.q8
 rcases (show M < N ∨ N < M ∨ N = M by omega) with h | h | h
 ·
  have E := E1 h
  clear E1 E2 E3 E4 hc
  go_enter Tryz.func34, Tryz.ntmps34
  go_wp2
  go_returns
  exact ⟨retB E.out.symm, belowB⟩
 ·
  have E := E2 h
  have h1 : ¬ M < N := by omega
  have h2 : (N == M) = false := by simp; omega
  clear E1 E2 E3 E4 hc
  go_enter Tryz.func34, Tryz.ntmps34
  go_wp2
  go_returns
  exact ⟨retB E.out.symm, belowB⟩
 ·
  subst h
  by_cases h0 : 0 < N
  ·
   have E := E4 rfl h0
   clear E1 E2 E3 E4
   obtain ⟨cb0, cb1, cb2, cb3, cb4, cb5, cb6, cb7⟩ := hb.r7
   go_enter Tryz.func34, Tryz.ntmps34
   go_wp2_with fail
   refine (hc _).mono ?_
   rintro e w1 ⟨rfl, hb1⟩
   have st : Steps _ w1 := hb1
   have B : Below w.heap.size w w1 := belowA st
   have oa : Blk w1 (w.heap.size) 57 #[.int .i64 k0, .int .i64 k1, .int .i64 k2, .int .i64 k3, .int .i64 A1, .int .i64 A2, .int .i64 B1, .int .i64 B2, .int .i64 N] := Blk.stepsK st
   have ob : Blk w1 (g) 57 #[.int .i64 l0, .int .i64 l1, .int .i64 l2, .int .i64 l3, .int .i64 C1, .int .i64 C2, .int .i64 D1, .int .i64 D2, .int .i64 N] := Blk.stepsK st
   clear st
   go_wp2
   go_returns
   exact ⟨retB E.out.symm, belowB⟩
  ·
   have E := E3 rfl h0
   clear E1 E2 E3 E4 hc
   go_enter Tryz.func34, Tryz.ntmps34
   go_wp2
   go_returns
   exact ⟨retB E.out.symm, belowB⟩
end Go.Proofs.YtibdehlmflaodaaGreat
namespace Go.Proofs.YtibdehlmflaodaaGreat
open Go.RowKit Go.Shelf
attribute [local go_sem] Oper.semAt_some
def ordV (K : Nat → Nat) (p : P4) : Value := .agg #[.int .i64 (K p.1), .int .i64 (K p.2.1), .int .i64 (K p.2.2.1), .int .i64 (K p.2.2.2)]
def ordE (K : Nat → Nat) (p : P4) : Array Value := #[ordV K p]
theorem upto4_len : ∀ a, a < 4 → ∀ b, b < 4 → ∀ c, c < 4 → a ≠ b ∧ a ≠ c ∧ b ≠ c → (upto4 a b c).length < 24 := by
 intro a ha b hb c hc
 rcases (show a = 0 ∨ a = 1 ∨ a = 2 ∨ a = 3 by omega) with rfl | rfl | rfl | rfl <;> rcases (show b = 0 ∨ b = 1 ∨ b = 2 ∨ b = 3 by omega) with rfl | rfl | rfl | rfl <;> rcases (show c = 0 ∨ c = 1 ∨ c = 2 ∨ c = 3 by omega) with rfl | rfl | rfl | rfl <;> decide
theorem orders_in (F : Fence) (n : Nat) (h5 : F.fn 36) (hro : F.round = none) (x0 x1 x2 x3 : Value) (w : World) :
  CallsIn F n Tryz.prog 36 #[.agg #[x0, x1, x2, x3]] w fun e w' => e = .returned (.func (.func 61) #[] #[.pointer (some ⟨w.heap.size, 0, none⟩)]) ∧ w' = w.alloc (.cells #[x0, x1, x2, x3] 25) := by
 refine callsIn_of_wp Tryz.func36 rfl h5 ?_ hro
 simp only [Tryz.ntmps36, List.size_toArray, List.length_cons, List.length_nil, Nat.reduceAdd, Nat.reduceSub, Array.replicate_succ, Array.replicate_zero, List.push_toArray, List.append_toArray, List.nil_append, List.cons_append]
 gi_wp2
 go_ret
 exact ⟨rfl, rfl⟩
theorem orders1_in (n l Bs n₀ B0 k0 k1 k2 k3 : Nat) (J Jx : List P4 → World → Prop) (hJ : AbidesFrom B0 J)
  (hY : ∀ pre (x : P4) W, J pre W → pre.length < 24 → YieldAt Fence.wide (n - 1) Tryz.prog l (ordE (at4 k0 k1 k2 k3) x) W fun e W' =>
   (e = .returned (.bool true) ∧ J (pre ++ [x]) W' ∧ KD n₀ Bs W W') ∨ (e = .returned (.bool false) ∧ Jx (pre ++ [x]) W'))
  (W : World) (hBs : Blk W Bs 25 #[.int .i64 k0, .int .i64 k1, .int .i64 k2, .int .i64 k3]) (h0 : J [] W) :
  CallsIn Fence.wide n Tryz.prog 61 #[.func (.yield l) #[] #[], .pointer (some ⟨Bs, 0, none⟩)] W fun e W' => (∃ v, e = .returned v) ∧
   ((∃ ys, ys = perms4 ∧ J ys W') ∨ (∃ pre : List P4, True ∧ Jx pre W')) := by
 have hro : Fence.wide.round = none := rfl
 have hK4 : ∀ i, i < 4 → (#[.int .i64 k0, .int .i64 k1, .int .i64 k2, .int .i64 k3] : Array Value)[i]? = some (.int .i64 (at4 k0 k1 k2 k3 i : Nat)) := fun i hi => by rcases (show i = 0 ∨ i = 1 ∨ i = 2 ∨ i = 3 by omega) with rfl | rfl | rfl | rfl <;> rfl
 refine callsIn_of_wp Tryz.func61 rfl trivial ?_ hro
 simp only [Tryz.ntmps61, List.size_toArray, List.length_cons, List.length_nil, Nat.reduceAdd, Nat.reduceSub, Array.replicate_succ, Array.replicate_zero, List.push_toArray, List.append_toArray, List.nil_append, List.cons_append]
 gi_wp2
 gi_loopw [6] (fun i wr => ∃ a : Nat, a ≤ 4 ∧ i = .int .i64 a ∧ J (upto4 a 0 0) wr ∧ KD n₀ Bs W wr) (fun i _ => 4 - (intOf i).toNat)
 case atStart => exact ⟨0, by omega, rfl, by rw [upto4_0]; exact h0, KD.refl _ _ _⟩
 case round =>
  obtain ⟨a, ha, rfl, hJa, hKa⟩ := hrel
  rcases Nat.lt_or_ge a 4 with a4 | a4
  ·
   have hla : decide ((a : Int) < 4) = true := decide_eq_true (by omega)
   gi_wp2
   gi_loopw [9] (fun i wr => ∃ b : Nat, b ≤ 4 ∧ i = .int .i64 b ∧ J (upto4 a b 0) wr ∧ KD n₀ Bs W wr) (fun i _ => 4 - (intOf i).toNat)
   case atStart => exact ⟨0, by omega, rfl, hJa, hKa⟩
   case round =>
    obtain ⟨b, hb, rfl, hJb, hKb⟩ := hrel
    rcases Nat.lt_or_ge b 4 with b4 | b4
    ·
     have hlb : decide ((b : Int) < 4) = true := decide_eq_true (by omega)
     gi_wp2
     gi_loopw [12] (fun i wr => ∃ c : Nat, c ≤ 4 ∧ i = .int .i64 c ∧ J (upto4 a b c) wr ∧ KD n₀ Bs W wr) (fun i _ => 4 - (intOf i).toNat)
     case atStart => exact ⟨0, by omega, rfl, hJb, hKb⟩
     case round =>
      obtain ⟨c, hc, rfl, hJc, hKc⟩ := hrel
      rcases Nat.lt_or_ge c 4 with c4 | c4
      ·
       have hlc : decide ((c : Int) < 4) = true := decide_eq_true (by omega)
       have HU := upto4_c a a4 b b4 c c4
       by_cases e1 : a = b
       ·
        have q1 : ((a : Int) != (b : Int)) = false := by simp [e1]
        rw [if_neg (fun h => h.1 e1)] at HU
        replace HU := Hid.mk_ HU
        clear e1
        gi_wp2_with fail
        refine RegY.wpIn_chainY (fun D _ W' => ∃ m, W' = wr.drewN m) (Reg.inl []) (Reg.gv []) Reg.None_ (fun _ => Reg.Any) (fun _ _ => False) (Reg.pl []) (Reg.pl [])
         (by kernel_rfl) (by kernel_rfl) (by kernel_rfl) (Reg.gv_some _ (by intro p hp; cases hp)) (fun _ => ⟨1, rfl⟩) (fun _ _ _ _ _ h => h) (fun _ _ _ _ _ _ _ _ _ _ _ _ _ => Reg.none_) (fun _ _ _ _ h => h.elim) (fun ops' Q' hops hQ => ?_)
        apply RegY.RC_pure (hc := rfl) (hst := rfl) (hw := rfl) (t := 15) (hd := rfl) (ht := Nat.le_of_ble_eq_true rfl)
        ·
         intro D v' W' hc hj hf K hK
         go_step
         exact hK.out
        · rfl
        apply RegY.RC_pure (hc := rfl) (hst := rfl) (hw := rfl) (t := 16) (hd := rfl) (ht := Nat.le_of_ble_eq_true rfl)
        ·
         intro D v' W' hc hj hf K hK
         go_step
         exact hK.out
        · rfl
        apply RegY.RC_pure (hc := rfl) (hst := rfl) (hw := rfl) (t := 17) (hd := rfl) (ht := Nat.le_of_ble_eq_true rfl)
        ·
         intro D v' W' hc hj hf K hK
         go_step
         exact hK.out
        · rfl
        apply RegY.RC_pure (hc := rfl) (hst := rfl) (hw := rfl) (t := 18) (hd := rfl) (ht := Nat.le_of_ble_eq_true rfl)
        ·
         intro D v' W' hc hj hf K hK
         go_step
         exact hK.out
        · rfl
        refine RegY.RC_skip rfl (by rw [hops]; rfl) (RegY.RC_at (b := ⟨#[_,_,_,_,_,_,_,_,_,_,_,_,_,_,_,_,_,_,_,_,_,_,_,_,_,_,_,_,_,_,_,_,_,_,_,_,_,_,_,_,_,_,_,_,_,_,_,_,_,_,_,_,_,_], _⟩) rfl ?_)
        refine RegY.RC_skip rfl (by rw [hops]; rfl) (RegY.RC_at (b := ⟨#[_,_,_,_,_,_,_,_,_,_,_,_,_,_,_,_,_,_,_,_,_,_,_,_,_,_,_,_,_,_,_,_,_,_,_,_,_,_,_,_,_,_,_,_,_,_,_,_,_,_,_,_,_,_], _⟩) rfl ?_)
        refine RegY.RC_skip rfl (by rw [hops]; rfl) (RegY.RC_at (b := ⟨#[_,_,_,_,_,_,_,_,_,_,_,_,_,_,_,_,_,_,_,_,_,_,_,_,_,_,_,_,_,_,_,_,_,_,_,_,_,_,_,_,_,_,_,_,_,_,_,_,_,_,_,_,_,_], _⟩) rfl ?_)
        apply RegY.RC_pure (hc := rfl) (hst := rfl) (hw := rfl) (t := 22) (hd := rfl) (ht := Nat.le_of_ble_eq_true rfl)
        ·
         intro D v' W' hc hj hf K hK
         go_step
         exact hK.out
        · rfl
        apply RegY.RC_pure (hc := rfl) (hst := rfl) (hw := rfl) (t := 23) (hd := rfl) (ht := Nat.le_of_ble_eq_true rfl)
        ·
         intro D v' W' hc hj hf K hK
         go_step
         exact hK.out
        · rfl
        refine RegY.RC_skip rfl (by rw [hops]; rfl) (RegY.RC_at (b := ⟨#[_,_,_,_,_,_,_,_,_,_,_,_,_,_,_,_,_,_,_,_,_,_,_,_,_,_,_,_,_,_,_,_,_,_,_,_,_,_,_,_,_,_,_,_,_,_,_,_,_,_,_,_,_,_], _⟩) rfl ?_)
        refine RegY.RC_skip rfl (by rw [hops]; rfl) (RegY.RC_at (b := ⟨#[_,_,_,_,_,_,_,_,_,_,_,_,_,_,_,_,_,_,_,_,_,_,_,_,_,_,_,_,_,_,_,_,_,_,_,_,_,_,_,_,_,_,_,_,_,_,_,_,_,_,_,_,_,_], _⟩) rfl ?_)
        refine RegY.RC_skip rfl (by rw [hops]; rfl) (RegY.RC_at (b := ⟨#[_,_,_,_,_,_,_,_,_,_,_,_,_,_,_,_,_,_,_,_,_,_,_,_,_,_,_,_,_,_,_,_,_,_,_,_,_,_,_,_,_,_,_,_,_,_,_,_,_,_,_,_,_,_], _⟩) rfl ?_)
        apply RegY.RC_pure (hc := rfl) (hst := rfl) (hw := rfl) (t := 27) (hd := rfl) (ht := Nat.le_of_ble_eq_true rfl)
        ·
         intro D v' W' hc hj hf K hK
         go_step
         exact hK.out
        · rfl
        apply RegY.RC_pure (hc := rfl) (hst := rfl) (hw := rfl) (t := 28) (hd := rfl) (ht := Nat.le_of_ble_eq_true rfl)
        ·
         intro D v' W' hc hj hf K hK
         go_step
         exact hK.out
        · rfl
        refine RegY.RC_skip rfl (by rw [hops]; rfl) (RegY.RC_at (b := ⟨#[_,_,_,_,_,_,_,_,_,_,_,_,_,_,_,_,_,_,_,_,_,_,_,_,_,_,_,_,_,_,_,_,_,_,_,_,_,_,_,_,_,_,_,_,_,_,_,_,_,_,_,_,_,_], _⟩) rfl ?_)
        refine RegY.RC_skip rfl (by rw [hops]; rfl) (RegY.RC_at (b := ⟨#[_,_,_,_,_,_,_,_,_,_,_,_,_,_,_,_,_,_,_,_,_,_,_,_,_,_,_,_,_,_,_,_,_,_,_,_,_,_,_,_,_,_,_,_,_,_,_,_,_,_,_,_,_,_], _⟩) rfl ?_)
        refine RegY.RC_skip rfl (by rw [hops]; rfl) (RegY.RC_at (b := ⟨#[_,_,_,_,_,_,_,_,_,_,_,_,_,_,_,_,_,_,_,_,_,_,_,_,_,_,_,_,_,_,_,_,_,_,_,_,_,_,_,_,_,_,_,_,_,_,_,_,_,_,_,_,_,_], _⟩) rfl ?_)
        refine RegY.RC_skip rfl (by rw [hops]; rfl) (RegY.RC_at (b := ⟨#[_,_,_,_,_,_,_,_,_,_,_,_,_,_,_,_,_,_,_,_,_,_,_,_,_,_,_,_,_,_,_,_,_,_,_,_,_,_,_,_,_,_,_,_,_,_,_,_,_,_,_,_,_,_], _⟩) rfl ?_)
        refine RegY.RC_skip rfl (by rw [hops]; rfl) (RegY.RC_at (b := ⟨#[_,_,_,_,_,_,_,_,_,_,_,_,_,_,_,_,_,_,_,_,_,_,_,_,_,_,_,_,_,_,_,_,_,_,_,_,_,_,_,_,_,_,_,_,_,_,_,_,_,_,_,_,_,_], _⟩) rfl ?_)
        refine RegY.RC_skip rfl (by rw [hops]; rfl) (RegY.RC_at (b := ⟨#[_,_,_,_,_,_,_,_,_,_,_,_,_,_,_,_,_,_,_,_,_,_,_,_,_,_,_,_,_,_,_,_,_,_,_,_,_,_,_,_,_,_,_,_,_,_,_,_,_,_,_,_,_,_], _⟩) rfl ?_)
        refine RegY.RC_skip rfl (by rw [hops]; rfl) (RegY.RC_at (b := ⟨#[_,_,_,_,_,_,_,_,_,_,_,_,_,_,_,_,_,_,_,_,_,_,_,_,_,_,_,_,_,_,_,_,_,_,_,_,_,_,_,_,_,_,_,_,_,_,_,_,_,_,_,_,_,_], _⟩) rfl ?_)
        refine RegY.RC_skip rfl (by rw [hops]; rfl) (RegY.RC_at (b := ⟨#[_,_,_,_,_,_,_,_,_,_,_,_,_,_,_,_,_,_,_,_,_,_,_,_,_,_,_,_,_,_,_,_,_,_,_,_,_,_,_,_,_,_,_,_,_,_,_,_,_,_,_,_,_,_], _⟩) rfl ?_)
        refine RegY.RC_skip rfl (by rw [hops]; rfl) (RegY.RC_at (b := ⟨#[_,_,_,_,_,_,_,_,_,_,_,_,_,_,_,_,_,_,_,_,_,_,_,_,_,_,_,_,_,_,_,_,_,_,_,_,_,_,_,_,_,_,_,_,_,_,_,_,_,_,_,_,_,_], _⟩) rfl ?_)
        refine RegY.RC_skip rfl (by rw [hops]; rfl) (RegY.RC_at (b := ⟨#[_,_,_,_,_,_,_,_,_,_,_,_,_,_,_,_,_,_,_,_,_,_,_,_,_,_,_,_,_,_,_,_,_,_,_,_,_,_,_,_,_,_,_,_,_,_,_,_,_,_,_,_,_,_], _⟩) rfl ?_)
        refine RegY.RC_skip rfl (by rw [hops]; rfl) (RegY.RC_at (b := ⟨#[_,_,_,_,_,_,_,_,_,_,_,_,_,_,_,_,_,_,_,_,_,_,_,_,_,_,_,_,_,_,_,_,_,_,_,_,_,_,_,_,_,_,_,_,_,_,_,_,_,_,_,_,_,_], _⟩) rfl ?_)
        refine RegY.RC_skip rfl (by rw [hops]; rfl) (RegY.RC_at (b := ⟨#[_,_,_,_,_,_,_,_,_,_,_,_,_,_,_,_,_,_,_,_,_,_,_,_,_,_,_,_,_,_,_,_,_,_,_,_,_,_,_,_,_,_,_,_,_,_,_,_,_,_,_,_,_,_], _⟩) rfl ?_)
        refine RegY.RC_skip rfl (by rw [hops]; rfl) (RegY.RC_at (b := ⟨#[_,_,_,_,_,_,_,_,_,_,_,_,_,_,_,_,_,_,_,_,_,_,_,_,_,_,_,_,_,_,_,_,_,_,_,_,_,_,_,_,_,_,_,_,_,_,_,_,_,_,_,_,_,_], _⟩) rfl ?_)
        refine RegY.RC_skip rfl (by rw [hops]; rfl) (RegY.RC_at (b := ⟨#[_,_,_,_,_,_,_,_,_,_,_,_,_,_,_,_,_,_,_,_,_,_,_,_,_,_,_,_,_,_,_,_,_,_,_,_,_,_,_,_,_,_,_,_,_,_,_,_,_,_,_,_,_,_], _⟩) rfl ?_)
        refine RegY.RC_skip rfl (by rw [hops]; rfl) (RegY.RC_at (b := ⟨#[_,_,_,_,_,_,_,_,_,_,_,_,_,_,_,_,_,_,_,_,_,_,_,_,_,_,_,_,_,_,_,_,_,_,_,_,_,_,_,_,_,_,_,_,_,_,_,_,_,_,_,_,_,_], _⟩) rfl ?_)
        refine RegY.RC_skip rfl (by rw [hops]; rfl) (RegY.RC_at (b := ⟨#[_,_,_,_,_,_,_,_,_,_,_,_,_,_,_,_,_,_,_,_,_,_,_,_,_,_,_,_,_,_,_,_,_,_,_,_,_,_,_,_,_,_,_,_,_,_,_,_,_,_,_,_,_,_], _⟩) rfl ?_)
        refine RegY.RC_skip rfl (by rw [hops]; rfl) (RegY.RC_at (b := ⟨#[_,_,_,_,_,_,_,_,_,_,_,_,_,_,_,_,_,_,_,_,_,_,_,_,_,_,_,_,_,_,_,_,_,_,_,_,_,_,_,_,_,_,_,_,_,_,_,_,_,_,_,_,_,_], _⟩) rfl ?_)
        refine RegY.RC_skip rfl (by rw [hops]; rfl) (RegY.RC_at (b := ⟨#[_,_,_,_,_,_,_,_,_,_,_,_,_,_,_,_,_,_,_,_,_,_,_,_,_,_,_,_,_,_,_,_,_,_,_,_,_,_,_,_,_,_,_,_,_,_,_,_,_,_,_,_,_,_], _⟩) rfl ?_)
        refine RegY.RC_skip rfl (by rw [hops]; rfl) (RegY.RC_at (b := ⟨#[_,_,_,_,_,_,_,_,_,_,_,_,_,_,_,_,_,_,_,_,_,_,_,_,_,_,_,_,_,_,_,_,_,_,_,_,_,_,_,_,_,_,_,_,_,_,_,_,_,_,_,_,_,_], _⟩) rfl ?_)
        refine RegY.RC_skip rfl (by rw [hops]; rfl) (RegY.RC_at (b := ⟨#[_,_,_,_,_,_,_,_,_,_,_,_,_,_,_,_,_,_,_,_,_,_,_,_,_,_,_,_,_,_,_,_,_,_,_,_,_,_,_,_,_,_,_,_,_,_,_,_,_,_,_,_,_,_], _⟩) rfl ?_)
        refine RegY.RC_skip rfl (by rw [hops]; rfl) (RegY.RC_at (b := ⟨#[_,_,_,_,_,_,_,_,_,_,_,_,_,_,_,_,_,_,_,_,_,_,_,_,_,_,_,_,_,_,_,_,_,_,_,_,_,_,_,_,_,_,_,_,_,_,_,_,_,_,_,_,_,_], _⟩) rfl ?_)
        apply RegY.RC_pure (hc := rfl) (hst := rfl) (hw := rfl) (t := 50) (hd := rfl) (ht := Nat.le_of_ble_eq_true rfl)
        ·
         intro D v' W' hc hj hf K hK
         go_step
         exact hK.out
        · rfl
        refine RegY.RC_end (fun Dn v' W4 hd hj hf => ?_)
        obtain ⟨m, rfl⟩ := hj
        clear hd hf
        refine hQ _ _ ?_
        clear hQ hops Q' ops'
        gi_wp2
        go_roundw
        case rel => exact ⟨c + 1, by omega, by go_num, by rw [HU.out]; exact hJ _ _ _ none hJc ⟨rfl, rfl, rfl, Nat.le_refl _, fun _ _ _ => rfl⟩ (fun _ e => by cases e), hKc.trans ⟨⟨rfl, rfl, rfl, Nat.le_refl _, fun _ _ => rfl⟩, rfl⟩⟩
        case measure => simp [intOf]; omega
       have q1 : ((a : Int) != (b : Int)) = true := by simp; omega
       by_cases e2 : a = c
       ·
        have q2 : ((a : Int) != (c : Int)) = false := by simp [e2]
        rw [if_neg (fun h => h.2.1 e2)] at HU
        replace HU := Hid.mk_ HU
        clear e1 e2
        gi_wp2_with fail
        refine RegY.wpIn_chainY (fun D _ W' => ∃ m, W' = wr.drewN m) (Reg.inl []) (Reg.gv []) Reg.None_ (fun _ => Reg.Any) (fun _ _ => False) (Reg.pl []) (Reg.pl [])
         (by kernel_rfl) (by kernel_rfl) (by kernel_rfl) (Reg.gv_some _ (by intro p hp; cases hp)) (fun _ => ⟨1, rfl⟩) (fun _ _ _ _ _ h => h) (fun _ _ _ _ _ _ _ _ _ _ _ _ _ => Reg.none_) (fun _ _ _ _ h => h.elim) (fun ops' Q' hops hQ => ?_)
        apply RegY.RC_pure (hc := rfl) (hst := rfl) (hw := rfl) (t := 15) (hd := rfl) (ht := Nat.le_of_ble_eq_true rfl)
        ·
         intro D v' W' hc hj hf K hK
         go_step
         exact hK.out
        · rfl
        apply RegY.RC_pure (hc := rfl) (hst := rfl) (hw := rfl) (t := 16) (hd := rfl) (ht := Nat.le_of_ble_eq_true rfl)
        ·
         intro D v' W' hc hj hf K hK
         go_step
         exact hK.out
        · rfl
        apply RegY.RC_pure (hc := rfl) (hst := rfl) (hw := rfl) (t := 17) (hd := rfl) (ht := Nat.le_of_ble_eq_true rfl)
        ·
         intro D v' W' hc hj hf K hK
         go_step
         exact hK.out
        · rfl
        apply RegY.RC_pure (hc := rfl) (hst := rfl) (hw := rfl) (t := 18) (hd := rfl) (ht := Nat.le_of_ble_eq_true rfl)
        ·
         intro D v' W' hc hj hf K hK
         go_step
         exact hK.out
        · rfl
        apply RegY.RC_pure (hc := rfl) (hst := rfl) (hw := by rw [hops]; rfl) (t := 19) (hd := rfl) (ht := Nat.le_of_ble_eq_true rfl)
        ·
         intro D v' W' hc hj hf K hK
         go_step
         exact hK.out
        · rfl
        apply RegY.RC_pure (hc := rfl) (hst := rfl) (hw := by rw [hops]; rfl) (t := 20) (hd := rfl) (ht := Nat.le_of_ble_eq_true rfl)
        ·
         intro D v' W' hc hj hf K hK
         go_step
         exact hK.out
        · rfl
        apply RegY.RC_pure (hc := rfl) (hst := rfl) (hw := by rw [hops]; rfl) (t := 21) (hd := rfl) (ht := Nat.le_of_ble_eq_true rfl)
        ·
         intro D v' W' hc hj hf K hK
         go_step
         exact hK.out
        · rfl
        apply RegY.RC_pure (hc := rfl) (hst := rfl) (hw := rfl) (t := 22) (hd := rfl) (ht := Nat.le_of_ble_eq_true rfl)
        ·
         intro D v' W' hc hj hf K hK
         go_step
         exact hK.out
        · rfl
        apply RegY.RC_pure (hc := rfl) (hst := rfl) (hw := rfl) (t := 23) (hd := rfl) (ht := Nat.le_of_ble_eq_true rfl)
        ·
         intro D v' W' hc hj hf K hK
         go_step
         exact hK.out
        · rfl
        refine RegY.RC_skip rfl (by rw [hops]; rfl) (RegY.RC_at (b := ⟨#[_,_,_,_,_,_,_,_,_,_,_,_,_,_,_,_,_,_,_,_,_,_,_,_,_,_,_,_,_,_,_,_,_,_,_,_,_,_,_,_,_,_,_,_,_,_,_,_,_,_,_,_,_,_], _⟩) rfl ?_)
        refine RegY.RC_skip rfl (by rw [hops]; rfl) (RegY.RC_at (b := ⟨#[_,_,_,_,_,_,_,_,_,_,_,_,_,_,_,_,_,_,_,_,_,_,_,_,_,_,_,_,_,_,_,_,_,_,_,_,_,_,_,_,_,_,_,_,_,_,_,_,_,_,_,_,_,_], _⟩) rfl ?_)
        refine RegY.RC_skip rfl (by rw [hops]; rfl) (RegY.RC_at (b := ⟨#[_,_,_,_,_,_,_,_,_,_,_,_,_,_,_,_,_,_,_,_,_,_,_,_,_,_,_,_,_,_,_,_,_,_,_,_,_,_,_,_,_,_,_,_,_,_,_,_,_,_,_,_,_,_], _⟩) rfl ?_)
        apply RegY.RC_pure (hc := rfl) (hst := rfl) (hw := rfl) (t := 27) (hd := rfl) (ht := Nat.le_of_ble_eq_true rfl)
        ·
         intro D v' W' hc hj hf K hK
         go_step
         exact hK.out
        · rfl
        apply RegY.RC_pure (hc := rfl) (hst := rfl) (hw := rfl) (t := 28) (hd := rfl) (ht := Nat.le_of_ble_eq_true rfl)
        ·
         intro D v' W' hc hj hf K hK
         go_step
         exact hK.out
        · rfl
        refine RegY.RC_skip rfl (by rw [hops]; rfl) (RegY.RC_at (b := ⟨#[_,_,_,_,_,_,_,_,_,_,_,_,_,_,_,_,_,_,_,_,_,_,_,_,_,_,_,_,_,_,_,_,_,_,_,_,_,_,_,_,_,_,_,_,_,_,_,_,_,_,_,_,_,_], _⟩) rfl ?_)
        refine RegY.RC_skip rfl (by rw [hops]; rfl) (RegY.RC_at (b := ⟨#[_,_,_,_,_,_,_,_,_,_,_,_,_,_,_,_,_,_,_,_,_,_,_,_,_,_,_,_,_,_,_,_,_,_,_,_,_,_,_,_,_,_,_,_,_,_,_,_,_,_,_,_,_,_], _⟩) rfl ?_)
        refine RegY.RC_skip rfl (by rw [hops]; rfl) (RegY.RC_at (b := ⟨#[_,_,_,_,_,_,_,_,_,_,_,_,_,_,_,_,_,_,_,_,_,_,_,_,_,_,_,_,_,_,_,_,_,_,_,_,_,_,_,_,_,_,_,_,_,_,_,_,_,_,_,_,_,_], _⟩) rfl ?_)
        refine RegY.RC_skip rfl (by rw [hops]; rfl) (RegY.RC_at (b := ⟨#[_,_,_,_,_,_,_,_,_,_,_,_,_,_,_,_,_,_,_,_,_,_,_,_,_,_,_,_,_,_,_,_,_,_,_,_,_,_,_,_,_,_,_,_,_,_,_,_,_,_,_,_,_,_], _⟩) rfl ?_)
        refine RegY.RC_skip rfl (by rw [hops]; rfl) (RegY.RC_at (b := ⟨#[_,_,_,_,_,_,_,_,_,_,_,_,_,_,_,_,_,_,_,_,_,_,_,_,_,_,_,_,_,_,_,_,_,_,_,_,_,_,_,_,_,_,_,_,_,_,_,_,_,_,_,_,_,_], _⟩) rfl ?_)
        refine RegY.RC_skip rfl (by rw [hops]; rfl) (RegY.RC_at (b := ⟨#[_,_,_,_,_,_,_,_,_,_,_,_,_,_,_,_,_,_,_,_,_,_,_,_,_,_,_,_,_,_,_,_,_,_,_,_,_,_,_,_,_,_,_,_,_,_,_,_,_,_,_,_,_,_], _⟩) rfl ?_)
        refine RegY.RC_skip rfl (by rw [hops]; rfl) (RegY.RC_at (b := ⟨#[_,_,_,_,_,_,_,_,_,_,_,_,_,_,_,_,_,_,_,_,_,_,_,_,_,_,_,_,_,_,_,_,_,_,_,_,_,_,_,_,_,_,_,_,_,_,_,_,_,_,_,_,_,_], _⟩) rfl ?_)
        refine RegY.RC_skip rfl (by rw [hops]; rfl) (RegY.RC_at (b := ⟨#[_,_,_,_,_,_,_,_,_,_,_,_,_,_,_,_,_,_,_,_,_,_,_,_,_,_,_,_,_,_,_,_,_,_,_,_,_,_,_,_,_,_,_,_,_,_,_,_,_,_,_,_,_,_], _⟩) rfl ?_)
        refine RegY.RC_skip rfl (by rw [hops]; rfl) (RegY.RC_at (b := ⟨#[_,_,_,_,_,_,_,_,_,_,_,_,_,_,_,_,_,_,_,_,_,_,_,_,_,_,_,_,_,_,_,_,_,_,_,_,_,_,_,_,_,_,_,_,_,_,_,_,_,_,_,_,_,_], _⟩) rfl ?_)
        refine RegY.RC_skip rfl (by rw [hops]; rfl) (RegY.RC_at (b := ⟨#[_,_,_,_,_,_,_,_,_,_,_,_,_,_,_,_,_,_,_,_,_,_,_,_,_,_,_,_,_,_,_,_,_,_,_,_,_,_,_,_,_,_,_,_,_,_,_,_,_,_,_,_,_,_], _⟩) rfl ?_)
        refine RegY.RC_skip rfl (by rw [hops]; rfl) (RegY.RC_at (b := ⟨#[_,_,_,_,_,_,_,_,_,_,_,_,_,_,_,_,_,_,_,_,_,_,_,_,_,_,_,_,_,_,_,_,_,_,_,_,_,_,_,_,_,_,_,_,_,_,_,_,_,_,_,_,_,_], _⟩) rfl ?_)
        refine RegY.RC_skip rfl (by rw [hops]; rfl) (RegY.RC_at (b := ⟨#[_,_,_,_,_,_,_,_,_,_,_,_,_,_,_,_,_,_,_,_,_,_,_,_,_,_,_,_,_,_,_,_,_,_,_,_,_,_,_,_,_,_,_,_,_,_,_,_,_,_,_,_,_,_], _⟩) rfl ?_)
        refine RegY.RC_skip rfl (by rw [hops]; rfl) (RegY.RC_at (b := ⟨#[_,_,_,_,_,_,_,_,_,_,_,_,_,_,_,_,_,_,_,_,_,_,_,_,_,_,_,_,_,_,_,_,_,_,_,_,_,_,_,_,_,_,_,_,_,_,_,_,_,_,_,_,_,_], _⟩) rfl ?_)
        refine RegY.RC_skip rfl (by rw [hops]; rfl) (RegY.RC_at (b := ⟨#[_,_,_,_,_,_,_,_,_,_,_,_,_,_,_,_,_,_,_,_,_,_,_,_,_,_,_,_,_,_,_,_,_,_,_,_,_,_,_,_,_,_,_,_,_,_,_,_,_,_,_,_,_,_], _⟩) rfl ?_)
        refine RegY.RC_skip rfl (by rw [hops]; rfl) (RegY.RC_at (b := ⟨#[_,_,_,_,_,_,_,_,_,_,_,_,_,_,_,_,_,_,_,_,_,_,_,_,_,_,_,_,_,_,_,_,_,_,_,_,_,_,_,_,_,_,_,_,_,_,_,_,_,_,_,_,_,_], _⟩) rfl ?_)
        refine RegY.RC_skip rfl (by rw [hops]; rfl) (RegY.RC_at (b := ⟨#[_,_,_,_,_,_,_,_,_,_,_,_,_,_,_,_,_,_,_,_,_,_,_,_,_,_,_,_,_,_,_,_,_,_,_,_,_,_,_,_,_,_,_,_,_,_,_,_,_,_,_,_,_,_], _⟩) rfl ?_)
        refine RegY.RC_skip rfl (by rw [hops]; rfl) (RegY.RC_at (b := ⟨#[_,_,_,_,_,_,_,_,_,_,_,_,_,_,_,_,_,_,_,_,_,_,_,_,_,_,_,_,_,_,_,_,_,_,_,_,_,_,_,_,_,_,_,_,_,_,_,_,_,_,_,_,_,_], _⟩) rfl ?_)
        refine RegY.RC_skip rfl (by rw [hops]; rfl) (RegY.RC_at (b := ⟨#[_,_,_,_,_,_,_,_,_,_,_,_,_,_,_,_,_,_,_,_,_,_,_,_,_,_,_,_,_,_,_,_,_,_,_,_,_,_,_,_,_,_,_,_,_,_,_,_,_,_,_,_,_,_], _⟩) rfl ?_)
        refine RegY.RC_skip rfl (by rw [hops]; rfl) (RegY.RC_at (b := ⟨#[_,_,_,_,_,_,_,_,_,_,_,_,_,_,_,_,_,_,_,_,_,_,_,_,_,_,_,_,_,_,_,_,_,_,_,_,_,_,_,_,_,_,_,_,_,_,_,_,_,_,_,_,_,_], _⟩) rfl ?_)
        refine RegY.RC_skip rfl (by rw [hops]; rfl) (RegY.RC_at (b := ⟨#[_,_,_,_,_,_,_,_,_,_,_,_,_,_,_,_,_,_,_,_,_,_,_,_,_,_,_,_,_,_,_,_,_,_,_,_,_,_,_,_,_,_,_,_,_,_,_,_,_,_,_,_,_,_], _⟩) rfl ?_)
        refine RegY.RC_skip rfl (by rw [hops]; rfl) (RegY.RC_at (b := ⟨#[_,_,_,_,_,_,_,_,_,_,_,_,_,_,_,_,_,_,_,_,_,_,_,_,_,_,_,_,_,_,_,_,_,_,_,_,_,_,_,_,_,_,_,_,_,_,_,_,_,_,_,_,_,_], _⟩) rfl ?_)
        apply RegY.RC_pure (hc := rfl) (hst := rfl) (hw := rfl) (t := 50) (hd := rfl) (ht := Nat.le_of_ble_eq_true rfl)
        ·
         intro D v' W' hc hj hf K hK
         go_step
         exact hK.out
        · rfl
        refine RegY.RC_end (fun Dn v' W4 hd hj hf => ?_)
        obtain ⟨m, rfl⟩ := hj
        clear hd hf
        refine hQ _ _ ?_
        clear hQ hops Q' ops'
        gi_wp2
        go_roundw
        case rel => exact ⟨c + 1, by omega, by go_num, by rw [HU.out]; exact hJ _ _ _ none hJc ⟨rfl, rfl, rfl, Nat.le_refl _, fun _ _ _ => rfl⟩ (fun _ e => by cases e), hKc.trans ⟨⟨rfl, rfl, rfl, Nat.le_refl _, fun _ _ => rfl⟩, rfl⟩⟩
        case measure => simp [intOf]; omega
       have q2 : ((a : Int) != (c : Int)) = true := by simp; omega
       by_cases e3 : b = c
       ·
        have q3 : ((b : Int) != (c : Int)) = false := by simp [e3]
        rw [if_neg (fun h => h.2.2 e3)] at HU
        replace HU := Hid.mk_ HU
        clear e1 e2 e3
        gi_wp2_with fail
        refine RegY.wpIn_chainY (fun D _ W' => ∃ m, W' = wr.drewN m) (Reg.inl []) (Reg.gv []) Reg.None_ (fun _ => Reg.Any) (fun _ _ => False) (Reg.pl []) (Reg.pl [])
         (by kernel_rfl) (by kernel_rfl) (by kernel_rfl) (Reg.gv_some _ (by intro p hp; cases hp)) (fun _ => ⟨1, rfl⟩) (fun _ _ _ _ _ h => h) (fun _ _ _ _ _ _ _ _ _ _ _ _ _ => Reg.none_) (fun _ _ _ _ h => h.elim) (fun ops' Q' hops hQ => ?_)
        apply RegY.RC_pure (hc := rfl) (hst := rfl) (hw := rfl) (t := 15) (hd := rfl) (ht := Nat.le_of_ble_eq_true rfl)
        ·
         intro D v' W' hc hj hf K hK
         go_step
         exact hK.out
        · rfl
        apply RegY.RC_pure (hc := rfl) (hst := rfl) (hw := rfl) (t := 16) (hd := rfl) (ht := Nat.le_of_ble_eq_true rfl)
        ·
         intro D v' W' hc hj hf K hK
         go_step
         exact hK.out
        · rfl
        apply RegY.RC_pure (hc := rfl) (hst := rfl) (hw := rfl) (t := 17) (hd := rfl) (ht := Nat.le_of_ble_eq_true rfl)
        ·
         intro D v' W' hc hj hf K hK
         go_step
         exact hK.out
        · rfl
        apply RegY.RC_pure (hc := rfl) (hst := rfl) (hw := rfl) (t := 18) (hd := rfl) (ht := Nat.le_of_ble_eq_true rfl)
        ·
         intro D v' W' hc hj hf K hK
         go_step
         exact hK.out
        · rfl
        apply RegY.RC_pure (hc := rfl) (hst := rfl) (hw := by rw [hops]; rfl) (t := 19) (hd := rfl) (ht := Nat.le_of_ble_eq_true rfl)
        ·
         intro D v' W' hc hj hf K hK
         go_step
         exact hK.out
        · rfl
        apply RegY.RC_pure (hc := rfl) (hst := rfl) (hw := by rw [hops]; rfl) (t := 20) (hd := rfl) (ht := Nat.le_of_ble_eq_true rfl)
        ·
         intro D v' W' hc hj hf K hK
         go_step
         exact hK.out
        · rfl
        apply RegY.RC_pure (hc := rfl) (hst := rfl) (hw := by rw [hops]; rfl) (t := 21) (hd := rfl) (ht := Nat.le_of_ble_eq_true rfl)
        ·
         intro D v' W' hc hj hf K hK
         go_step
         exact hK.out
        · rfl
        apply RegY.RC_pure (hc := rfl) (hst := rfl) (hw := rfl) (t := 22) (hd := rfl) (ht := Nat.le_of_ble_eq_true rfl)
        ·
         intro D v' W' hc hj hf K hK
         go_step
         exact hK.out
        · rfl
        apply RegY.RC_pure (hc := rfl) (hst := rfl) (hw := rfl) (t := 23) (hd := rfl) (ht := Nat.le_of_ble_eq_true rfl)
        ·
         intro D v' W' hc hj hf K hK
         go_step
         exact hK.out
        · rfl
        apply RegY.RC_pure (hc := rfl) (hst := rfl) (hw := by rw [hops]; rfl) (t := 24) (hd := rfl) (ht := Nat.le_of_ble_eq_true rfl)
        ·
         intro D v' W' hc hj hf K hK
         go_step
         exact hK.out
        · rfl
        apply RegY.RC_pure (hc := rfl) (hst := rfl) (hw := by rw [hops]; rfl) (t := 25) (hd := rfl) (ht := Nat.le_of_ble_eq_true rfl)
        ·
         intro D v' W' hc hj hf K hK
         go_step
         exact hK.out
        · rfl
        apply RegY.RC_pure (hc := rfl) (hst := rfl) (hw := by rw [hops]; rfl) (t := 26) (hd := rfl) (ht := Nat.le_of_ble_eq_true rfl)
        ·
         intro D v' W' hc hj hf K hK
         go_step
         exact hK.out
        · rfl
        apply RegY.RC_pure (hc := rfl) (hst := rfl) (hw := rfl) (t := 27) (hd := rfl) (ht := Nat.le_of_ble_eq_true rfl)
        ·
         intro D v' W' hc hj hf K hK
         go_step
         exact hK.out
        · rfl
        apply RegY.RC_pure (hc := rfl) (hst := rfl) (hw := rfl) (t := 28) (hd := rfl) (ht := Nat.le_of_ble_eq_true rfl)
        ·
         intro D v' W' hc hj hf K hK
         go_step
         exact hK.out
        · rfl
        refine RegY.RC_skip rfl (by rw [hops]; rfl) (RegY.RC_at (b := ⟨#[_,_,_,_,_,_,_,_,_,_,_,_,_,_,_,_,_,_,_,_,_,_,_,_,_,_,_,_,_,_,_,_,_,_,_,_,_,_,_,_,_,_,_,_,_,_,_,_,_,_,_,_,_,_], _⟩) rfl ?_)
        refine RegY.RC_skip rfl (by rw [hops]; rfl) (RegY.RC_at (b := ⟨#[_,_,_,_,_,_,_,_,_,_,_,_,_,_,_,_,_,_,_,_,_,_,_,_,_,_,_,_,_,_,_,_,_,_,_,_,_,_,_,_,_,_,_,_,_,_,_,_,_,_,_,_,_,_], _⟩) rfl ?_)
        refine RegY.RC_skip rfl (by rw [hops]; rfl) (RegY.RC_at (b := ⟨#[_,_,_,_,_,_,_,_,_,_,_,_,_,_,_,_,_,_,_,_,_,_,_,_,_,_,_,_,_,_,_,_,_,_,_,_,_,_,_,_,_,_,_,_,_,_,_,_,_,_,_,_,_,_], _⟩) rfl ?_)
        refine RegY.RC_skip rfl (by rw [hops]; rfl) (RegY.RC_at (b := ⟨#[_,_,_,_,_,_,_,_,_,_,_,_,_,_,_,_,_,_,_,_,_,_,_,_,_,_,_,_,_,_,_,_,_,_,_,_,_,_,_,_,_,_,_,_,_,_,_,_,_,_,_,_,_,_], _⟩) rfl ?_)
        refine RegY.RC_skip rfl (by rw [hops]; rfl) (RegY.RC_at (b := ⟨#[_,_,_,_,_,_,_,_,_,_,_,_,_,_,_,_,_,_,_,_,_,_,_,_,_,_,_,_,_,_,_,_,_,_,_,_,_,_,_,_,_,_,_,_,_,_,_,_,_,_,_,_,_,_], _⟩) rfl ?_)
        refine RegY.RC_skip rfl (by rw [hops]; rfl) (RegY.RC_at (b := ⟨#[_,_,_,_,_,_,_,_,_,_,_,_,_,_,_,_,_,_,_,_,_,_,_,_,_,_,_,_,_,_,_,_,_,_,_,_,_,_,_,_,_,_,_,_,_,_,_,_,_,_,_,_,_,_], _⟩) rfl ?_)
        refine RegY.RC_skip rfl (by rw [hops]; rfl) (RegY.RC_at (b := ⟨#[_,_,_,_,_,_,_,_,_,_,_,_,_,_,_,_,_,_,_,_,_,_,_,_,_,_,_,_,_,_,_,_,_,_,_,_,_,_,_,_,_,_,_,_,_,_,_,_,_,_,_,_,_,_], _⟩) rfl ?_)
        refine RegY.RC_skip rfl (by rw [hops]; rfl) (RegY.RC_at (b := ⟨#[_,_,_,_,_,_,_,_,_,_,_,_,_,_,_,_,_,_,_,_,_,_,_,_,_,_,_,_,_,_,_,_,_,_,_,_,_,_,_,_,_,_,_,_,_,_,_,_,_,_,_,_,_,_], _⟩) rfl ?_)
        refine RegY.RC_skip rfl (by rw [hops]; rfl) (RegY.RC_at (b := ⟨#[_,_,_,_,_,_,_,_,_,_,_,_,_,_,_,_,_,_,_,_,_,_,_,_,_,_,_,_,_,_,_,_,_,_,_,_,_,_,_,_,_,_,_,_,_,_,_,_,_,_,_,_,_,_], _⟩) rfl ?_)
        refine RegY.RC_skip rfl (by rw [hops]; rfl) (RegY.RC_at (b := ⟨#[_,_,_,_,_,_,_,_,_,_,_,_,_,_,_,_,_,_,_,_,_,_,_,_,_,_,_,_,_,_,_,_,_,_,_,_,_,_,_,_,_,_,_,_,_,_,_,_,_,_,_,_,_,_], _⟩) rfl ?_)
        refine RegY.RC_skip rfl (by rw [hops]; rfl) (RegY.RC_at (b := ⟨#[_,_,_,_,_,_,_,_,_,_,_,_,_,_,_,_,_,_,_,_,_,_,_,_,_,_,_,_,_,_,_,_,_,_,_,_,_,_,_,_,_,_,_,_,_,_,_,_,_,_,_,_,_,_], _⟩) rfl ?_)
        refine RegY.RC_skip rfl (by rw [hops]; rfl) (RegY.RC_at (b := ⟨#[_,_,_,_,_,_,_,_,_,_,_,_,_,_,_,_,_,_,_,_,_,_,_,_,_,_,_,_,_,_,_,_,_,_,_,_,_,_,_,_,_,_,_,_,_,_,_,_,_,_,_,_,_,_], _⟩) rfl ?_)
        refine RegY.RC_skip rfl (by rw [hops]; rfl) (RegY.RC_at (b := ⟨#[_,_,_,_,_,_,_,_,_,_,_,_,_,_,_,_,_,_,_,_,_,_,_,_,_,_,_,_,_,_,_,_,_,_,_,_,_,_,_,_,_,_,_,_,_,_,_,_,_,_,_,_,_,_], _⟩) rfl ?_)
        refine RegY.RC_skip rfl (by rw [hops]; rfl) (RegY.RC_at (b := ⟨#[_,_,_,_,_,_,_,_,_,_,_,_,_,_,_,_,_,_,_,_,_,_,_,_,_,_,_,_,_,_,_,_,_,_,_,_,_,_,_,_,_,_,_,_,_,_,_,_,_,_,_,_,_,_], _⟩) rfl ?_)
        refine RegY.RC_skip rfl (by rw [hops]; rfl) (RegY.RC_at (b := ⟨#[_,_,_,_,_,_,_,_,_,_,_,_,_,_,_,_,_,_,_,_,_,_,_,_,_,_,_,_,_,_,_,_,_,_,_,_,_,_,_,_,_,_,_,_,_,_,_,_,_,_,_,_,_,_], _⟩) rfl ?_)
        refine RegY.RC_skip rfl (by rw [hops]; rfl) (RegY.RC_at (b := ⟨#[_,_,_,_,_,_,_,_,_,_,_,_,_,_,_,_,_,_,_,_,_,_,_,_,_,_,_,_,_,_,_,_,_,_,_,_,_,_,_,_,_,_,_,_,_,_,_,_,_,_,_,_,_,_], _⟩) rfl ?_)
        refine RegY.RC_skip rfl (by rw [hops]; rfl) (RegY.RC_at (b := ⟨#[_,_,_,_,_,_,_,_,_,_,_,_,_,_,_,_,_,_,_,_,_,_,_,_,_,_,_,_,_,_,_,_,_,_,_,_,_,_,_,_,_,_,_,_,_,_,_,_,_,_,_,_,_,_], _⟩) rfl ?_)
        refine RegY.RC_skip rfl (by rw [hops]; rfl) (RegY.RC_at (b := ⟨#[_,_,_,_,_,_,_,_,_,_,_,_,_,_,_,_,_,_,_,_,_,_,_,_,_,_,_,_,_,_,_,_,_,_,_,_,_,_,_,_,_,_,_,_,_,_,_,_,_,_,_,_,_,_], _⟩) rfl ?_)
        refine RegY.RC_skip rfl (by rw [hops]; rfl) (RegY.RC_at (b := ⟨#[_,_,_,_,_,_,_,_,_,_,_,_,_,_,_,_,_,_,_,_,_,_,_,_,_,_,_,_,_,_,_,_,_,_,_,_,_,_,_,_,_,_,_,_,_,_,_,_,_,_,_,_,_,_], _⟩) rfl ?_)
        refine RegY.RC_skip rfl (by rw [hops]; rfl) (RegY.RC_at (b := ⟨#[_,_,_,_,_,_,_,_,_,_,_,_,_,_,_,_,_,_,_,_,_,_,_,_,_,_,_,_,_,_,_,_,_,_,_,_,_,_,_,_,_,_,_,_,_,_,_,_,_,_,_,_,_,_], _⟩) rfl ?_)
        refine RegY.RC_skip rfl (by rw [hops]; rfl) (RegY.RC_at (b := ⟨#[_,_,_,_,_,_,_,_,_,_,_,_,_,_,_,_,_,_,_,_,_,_,_,_,_,_,_,_,_,_,_,_,_,_,_,_,_,_,_,_,_,_,_,_,_,_,_,_,_,_,_,_,_,_], _⟩) rfl ?_)
        apply RegY.RC_pure (hc := rfl) (hst := rfl) (hw := rfl) (t := 50) (hd := rfl) (ht := Nat.le_of_ble_eq_true rfl)
        ·
         intro D v' W' hc hj hf K hK
         go_step
         exact hK.out
        · rfl
        refine RegY.RC_end (fun Dn v' W4 hd hj hf => ?_)
        obtain ⟨m, rfl⟩ := hj
        clear hd hf
        refine hQ _ _ ?_
        clear hQ hops Q' ops'
        gi_wp2
        go_roundw
        case rel => exact ⟨c + 1, by omega, by go_num, by rw [HU.out]; exact hJ _ _ _ none hJc ⟨rfl, rfl, rfl, Nat.le_refl _, fun _ _ _ => rfl⟩ (fun _ e => by cases e), hKc.trans ⟨⟨rfl, rfl, rfl, Nat.le_refl _, fun _ _ => rfl⟩, rfl⟩⟩
        case measure => simp [intOf]; omega
       have q3 : ((b : Int) != (c : Int)) = true := by simp; omega
       have hlen := upto4_len a a4 b b4 c c4 ⟨e1, e2, e3⟩
       rw [if_pos ⟨e1, e2, e3⟩] at HU
       obtain ⟨d, hd⟩ : ∃ d, 6 - a - b - c = d := ⟨_, rfl⟩
       have hdI : (6 : Int) - a - b - c = (d : Int) := by omega
       have d4 : d < 4 := by omega
       rw [hd] at HU
       replace HU := Hid.mk_ HU
       have blk : Blk wr Bs 25 #[.int .i64 k0, .int .i64 k1, .int .i64 k2, .int .i64 k3] := (hKc.2).trans hBs
       have ca := blk.c a (hK4 a a4)
       have cb := blk.c b (hK4 b b4)
       have cc := blk.c c (hK4 c c4)
       have cd := blk.c d (hK4 d d4)
       obtain ⟨ka, eka⟩ : ∃ z, at4 k0 k1 k2 k3 a = z := ⟨_, rfl⟩
       obtain ⟨kb, ekb⟩ : ∃ z, at4 k0 k1 k2 k3 b = z := ⟨_, rfl⟩
       obtain ⟨kc, ekc⟩ : ∃ z, at4 k0 k1 k2 k3 c = z := ⟨_, rfl⟩
       obtain ⟨kd, ekd⟩ : ∃ z, at4 k0 k1 k2 k3 d = z := ⟨_, rfl⟩
       rw [eka] at ca
       rw [ekb] at cb
       rw [ekc] at cc
       rw [ekd] at cd
       clear hd e1 e2 e3 blk hK4
       gi_wp2_with fail
       refine RegY.wpIn_chainY (fun D _ W' => D 33 = false → ∃ m, W' = wr.drewN m) (Reg.inl [33]) (Reg.gv [(33, fun x => x = .bool true ∨ x = .bool false)])
        (gw [(33, fun x W' => (x = .bool true ∧ J (upto4 a b c ++ [(a, b, c, d)]) W' ∧ KD n₀ Bs wr W') ∨ (x = .bool false ∧ Jx (upto4 a b c ++ [(a, b, c, d)]) W'))]) (fun _ => Reg.Any) (fun _ _ => False) (Reg.pl [(36, [(33, some 48)])]) (Reg.pl [(17, [33]), (20, [33]), (23, [33]), (31, [33])])
        (by kernel_rfl) (by kernel_rfl) (by kernel_rfl) (Reg.gv_some _ (by intro p hp; simp only [List.mem_cons, List.not_mem_nil, or_false] at hp; rcases hp with rfl; exact ⟨_, .inl rfl⟩)) (fun _ _ => ⟨1, rfl⟩) (fun _ _ _ _ _ h => h)
        (fun D v k j W W' x hne hj hk _ _ _ => absurd ((by simpa [Reg.inl] using hj : j = 33).trans (by simpa [Reg.inl] using hk : k = 33).symm) hne) (fun _ _ _ _ h => h.elim) (fun ops' Q' hops hQ => ?_)
       apply RegY.RC_pure (hc := rfl) (hst := rfl) (hw := rfl) (t := 15) (hd := rfl) (ht := Nat.le_of_ble_eq_true rfl)
       ·
        intro D v' W' hc hj hf K hK
        go_step
        exact hK.out
       · rfl
       apply RegY.RC_pure (hc := rfl) (hst := rfl) (hw := rfl) (t := 16) (hd := rfl) (ht := Nat.le_of_ble_eq_true rfl)
       ·
        intro D v' W' hc hj hf K hK
        go_step
        exact hK.out
       · rfl
       apply RegY.RC_pure (hc := rfl) (hst := rfl) (hw := rfl) (t := 17) (hd := rfl) (ht := Nat.le_of_ble_eq_true rfl)
       ·
        intro D v' W' hc hj hf K hK
        go_step
        exact hK.out
       · rfl
       apply RegY.RC_pure (hc := rfl) (hst := rfl) (hw := rfl) (t := 18) (hd := rfl) (ht := Nat.le_of_ble_eq_true rfl)
       ·
        intro D v' W' hc hj hf K hK
        go_step
        exact hK.out
       · rfl
       apply RegY.RC_pure (hc := rfl) (hst := rfl) (hw := by rw [hops]; rfl) (t := 19) (hd := rfl) (ht := Nat.le_of_ble_eq_true rfl)
       ·
        intro D v' W' hc hj hf K hK
        go_step
        exact hK.out
       · rfl
       apply RegY.RC_pure (hc := rfl) (hst := rfl) (hw := by rw [hops]; rfl) (t := 20) (hd := rfl) (ht := Nat.le_of_ble_eq_true rfl)
       ·
        intro D v' W' hc hj hf K hK
        go_step
        exact hK.out
       · rfl
       apply RegY.RC_pure (hc := rfl) (hst := rfl) (hw := by rw [hops]; rfl) (t := 21) (hd := rfl) (ht := Nat.le_of_ble_eq_true rfl)
       ·
        intro D v' W' hc hj hf K hK
        go_step
        exact hK.out
       · rfl
       apply RegY.RC_pure (hc := rfl) (hst := rfl) (hw := rfl) (t := 22) (hd := rfl) (ht := Nat.le_of_ble_eq_true rfl)
       ·
        intro D v' W' hc hj hf K hK
        go_step
        exact hK.out
       · rfl
       apply RegY.RC_pure (hc := rfl) (hst := rfl) (hw := rfl) (t := 23) (hd := rfl) (ht := Nat.le_of_ble_eq_true rfl)
       ·
        intro D v' W' hc hj hf K hK
        go_step
        exact hK.out
       · rfl
       apply RegY.RC_pure (hc := rfl) (hst := rfl) (hw := by rw [hops]; rfl) (t := 24) (hd := rfl) (ht := Nat.le_of_ble_eq_true rfl)
       ·
        intro D v' W' hc hj hf K hK
        go_step
        exact hK.out
       · rfl
       apply RegY.RC_pure (hc := rfl) (hst := rfl) (hw := by rw [hops]; rfl) (t := 25) (hd := rfl) (ht := Nat.le_of_ble_eq_true rfl)
       ·
        intro D v' W' hc hj hf K hK
        go_step
        exact hK.out
       · rfl
       apply RegY.RC_pure (hc := rfl) (hst := rfl) (hw := by rw [hops]; rfl) (t := 26) (hd := rfl) (ht := Nat.le_of_ble_eq_true rfl)
       ·
        intro D v' W' hc hj hf K hK
        go_step
        exact hK.out
       · rfl
       apply RegY.RC_pure (hc := rfl) (hst := rfl) (hw := rfl) (t := 27) (hd := rfl) (ht := Nat.le_of_ble_eq_true rfl)
       ·
        intro D v' W' hc hj hf K hK
        go_step
        exact hK.out
       · rfl
       apply RegY.RC_pure (hc := rfl) (hst := rfl) (hw := rfl) (t := 28) (hd := rfl) (ht := Nat.le_of_ble_eq_true rfl)
       ·
        intro D v' W' hc hj hf K hK
        go_step
        exact hK.out
       · rfl
       apply RegY.RC_pure (hc := rfl) (hst := rfl) (hw := by rw [hops]; rfl) (t := 29) (hd := rfl) (ht := Nat.le_of_ble_eq_true rfl)
       ·
        intro D v' W' hc hj hf K hK
        go_step
        exact hK.out
       · rfl
       apply RegY.RC_pure (hc := rfl) (hst := rfl) (hw := by rw [hops]; rfl) (t := 30) (hd := rfl) (ht := Nat.le_of_ble_eq_true rfl)
       ·
        intro D v' W' hc hj hf K hK
        go_step
        exact hK.out
       · rfl
       apply RegY.RC_pure (hc := rfl) (hst := rfl) (hw := by rw [hops]; rfl) (t := 31) (hd := rfl) (ht := Nat.le_of_ble_eq_true rfl)
       ·
        intro D v' W' hc hj hf K hK
        go_step
        exact hK.out
       · rfl
       apply RegY.RC_pure (hc := rfl) (hst := rfl) (hw := by rw [hops]; rfl) (t := 32) (hd := rfl) (ht := Nat.le_of_ble_eq_true rfl)
       ·
        intro D v' W' hc hj hf K hK
        obtain ⟨m, rfl⟩ := hj (hc.2 33 (by decide))
        go_step
        exact hK.out
       · rfl
       apply RegY.RC_pure (hc := rfl) (hst := rfl) (hw := by rw [hops]; rfl) (t := 33) (hd := rfl) (ht := Nat.le_of_ble_eq_true rfl)
       ·
        intro D v' W' hc hj hf K hK
        go_step
        exact hK.out
       · rfl
       apply RegY.RC_pure (hc := rfl) (hst := rfl) (hw := by rw [hops]; rfl) (t := 34) (hd := rfl) (ht := Nat.le_of_ble_eq_true rfl)
       ·
        intro D v' W' hc hj hf K hK
        go_step
        exact hK.out
       · rfl
       apply RegY.RC_pure (hc := rfl) (hst := rfl) (hw := by rw [hops]; rfl) (t := 35) (hd := rfl) (ht := Nat.le_of_ble_eq_true rfl)
       ·
        intro D v' W' hc hj hf K hK
        obtain ⟨m, rfl⟩ := hj (hc.2 33 (by decide))
        go_step
        exact hK.out
       · rfl
       apply RegY.RC_pure (hc := rfl) (hst := rfl) (hw := by rw [hops]; rfl) (t := 36) (hd := rfl) (ht := Nat.le_of_ble_eq_true rfl)
       ·
        intro D v' W' hc hj hf K hK
        go_step
        exact hK.out
       · rfl
       apply RegY.RC_pure (hc := rfl) (hst := rfl) (hw := by rw [hops]; rfl) (t := 37) (hd := rfl) (ht := Nat.le_of_ble_eq_true rfl)
       ·
        intro D v' W' hc hj hf K hK
        go_step
        exact hK.out
       · rfl
       apply RegY.RC_pure (hc := rfl) (hst := rfl) (hw := by rw [hops]; rfl) (t := 38) (hd := rfl) (ht := Nat.le_of_ble_eq_true rfl)
       ·
        intro D v' W' hc hj hf K hK
        obtain ⟨m, rfl⟩ := hj (hc.2 33 (by decide))
        go_step
        exact hK.out
       · rfl
       apply RegY.RC_pure (hc := rfl) (hst := rfl) (hw := by rw [hops]; rfl) (t := 39) (hd := rfl) (ht := Nat.le_of_ble_eq_true rfl)
       ·
        intro D v' W' hc hj hf K hK
        go_step
        exact hK.out
       · rfl
       apply RegY.RC_pure (hc := rfl) (hst := rfl) (hw := by rw [hops]; rfl) (t := 40) (hd := rfl) (ht := Nat.le_of_ble_eq_true rfl)
       ·
        intro D v' W' hc hj hf K hK
        go_step
        exact hK.out
       · rfl
       apply RegY.RC_pure (hc := rfl) (hst := rfl) (hw := by rw [hops]; rfl) (t := 41) (hd := rfl) (ht := Nat.le_of_ble_eq_true rfl)
       ·
        intro D v' W' hc hj hf K hK
        go_step
        exact hK.out
       · rfl
       apply RegY.RC_pure (hc := rfl) (hst := rfl) (hw := by rw [hops]; rfl) (t := 42) (hd := rfl) (ht := Nat.le_of_ble_eq_true rfl)
       ·
        intro D v' W' hc hj hf K hK
        go_step
        exact hK.out
       · rfl
       apply RegY.RC_pure (hc := rfl) (hst := rfl) (hw := by rw [hops]; rfl) (t := 43) (hd := rfl) (ht := Nat.le_of_ble_eq_true rfl)
       ·
        intro D v' W' hc hj hf K hK
        go_step
        exact hK.out
       · rfl
       apply RegY.RC_pure (hc := rfl) (hst := rfl) (hw := by rw [hops]; rfl) (t := 44) (hd := rfl) (ht := Nat.le_of_ble_eq_true rfl)
       ·
        intro D v' W' hc hj hf K hK
        go_step
        exact hK.out
       · rfl
       apply RegY.RC_pure (hc := rfl) (hst := rfl) (hw := by rw [hops]; rfl) (t := 45) (hd := rfl) (ht := Nat.le_of_ble_eq_true rfl)
       ·
        intro D v' W' hc hj hf K hK
        go_step
        exact hK.out
       · rfl
       apply RegY.RC_pure (hc := rfl) (hst := rfl) (hw := by rw [hops]; rfl) (t := 46) (hd := rfl) (ht := Nat.le_of_ble_eq_true rfl)
       ·
        intro D v' W' hc hj hf K hK
        obtain ⟨m, rfl⟩ := hj (hc.2 33 (by decide))
        go_step
        exact hK.out
       · rfl
       apply RegY.RC_pure (hc := rfl) (hst := rfl) (hw := by rw [hops]; rfl) (t := 47) (hd := rfl) (ht := Nat.le_of_ble_eq_true rfl)
       ·
        intro D v' W' hc hj hf K hK
        go_step
        exact hK.out
       · rfl
       refine RegY.RC_call (n := n) rfl (by intro t ht; cases ht; exact Nat.le_of_ble_eq_true rfl) (by rw [hops]; rfl) (fun D v' W' hc hj hf K hK => ?_) ?_
       ·
        obtain ⟨m, rfl⟩ := hj hc.1
        obtain ⟨fn, tmps, assign, body, hy, hR⟩ := hY _ (a, b, c, d) (wr.drewN m) (hJ _ _ _ none hJc ⟨rfl, rfl, rfl, Nat.le_refl _, fun _ _ _ => rfl⟩ (fun _ e => by cases e)) hlen
        unfold ordE ordV at hy
        dsimp only at hy
        rw [eka, ekb, ekc, ekd] at hy
        unfold Oper.wpIn
        refine ⟨fun _ _ => trivial, ?_⟩
        rw [show Oper.semAt Fence.wide.round _ _ = execOp _ _ from rfl]
        have hrun : ∀ x y, x = Sem.run Tryz.prog (Instr.yield l #[.agg #[.int .i64 ka, .int .i64 kb, .int .i64 kc, .int .i64 kd]]) (wr.drewN m) → y = x → y = .ok (.round l fn tmps assign body) (wr.drewN m) := fun x y e1 e2 => by rw [e2, e1]; exact hy
        rw [hrun _ (Sem.run _ _ _) rfl (by simp [execOp, go_sem, Act.eval]), Oper.uponIn_round]
        refine ⟨fun h => (by cases h), roundIn_any (hR.mono ?_)⟩
        rintro e W3 (⟨rfl, hJ3, hk3⟩ | ⟨rfl, hJx3⟩)
        · exact hK.out _ _ Reg.any (fun h => by cases h) (.inl ⟨rfl, hJ3, ⟨⟨hk3.1.os, hk3.1.tape, hk3.1.output, hk3.1.size, hk3.1.block⟩, hk3.2⟩⟩) (.inl rfl)
        · exact hK.out _ _ Reg.any (fun h => by cases h) (.inr ⟨rfl, hJx3⟩) (.inr rfl)
       rintro _ (rfl | rfl)
       ·
        refine RegY.RC_at (b := ⟨#[_,_,_,_,_,_,_,_,_,_,_,_,_,_,_,_,_,_,_,_,_,_,_,_,_,_,_,_,_,_,_,_,_,_,_,_,_,_,_,_,_,_,_,_,_,_,_,_,_,_,_,_,_,_], _⟩) rfl ?_
        apply RegY.RC_pure (hc := rfl) (hst := rfl) (hw := by rw [hops]; rfl) (t := 49) (hd := rfl) (ht := Nat.le_of_ble_eq_true rfl)
        ·
         intro D v' W' hc hj hf K hK
         go_step
         exact hK.out
        · rfl
        apply RegY.RC_pure (hc := rfl) (hst := rfl) (hw := rfl) (t := 50) (hd := rfl) (ht := Nat.le_of_ble_eq_true rfl)
        ·
         intro D v' W' hc hj hf K hK
         go_step
         exact hK.out
        · rfl
        refine RegY.RC_end (fun Dn v' W4 hd hj hf => ?_)
        have hg := (hf (33, some 48) (.head _) rfl).2.2
        clear hd hf hj
        obtain ⟨hJ4, hk4⟩ : J (upto4 a b c ++ [(a, b, c, d)]) W4 ∧ KD n₀ Bs wr W4 := hg.elim (fun h => h.2) (fun h => by cases h.1)
        clear hg
        refine hQ _ _ ?_
        clear hQ hops Q' ops'
        gi_wp2
        go_roundw
        case rel => exact ⟨c + 1, by omega, by go_num, by rw [HU.out]; exact hJ4, hKc.trans hk4⟩
        case measure => simp [intOf]; omega
       ·
        refine RegY.RC_at (b := ⟨#[_,_,_,_,_,_,_,_,_,_,_,_,_,_,_,_,_,_,_,_,_,_,_,_,_,_,_,_,_,_,_,_,_,_,_,_,_,_,_,_,_,_,_,_,_,_,_,_,_,_,_,_,_,_], _⟩) rfl ?_
        apply RegY.RC_pure (hc := rfl) (hst := rfl) (hw := by rw [hops]; rfl) (t := 49) (hd := rfl) (ht := Nat.le_of_ble_eq_true rfl)
        ·
         intro D v' W' hc hj hf K hK
         go_step
         exact hK.out
        · rfl
        apply RegY.RC_pure (hc := rfl) (hst := rfl) (hw := rfl) (t := 50) (hd := rfl) (ht := Nat.le_of_ble_eq_true rfl)
        ·
         intro D v' W' hc hj hf K hK
         go_step
         exact hK.out
        · rfl
        refine RegY.RC_end (fun Dn v' W4 hd hj hf => ?_)
        have hg := (hf (33, some 48) (.head _) rfl).2.2
        clear hd hf hj
        obtain hJ4 : Jx (upto4 a b c ++ [(a, b, c, d)]) W4 := hg.elim (fun h => by cases h.1) (fun h => h.2)
        clear hg
        refine hQ _ _ ?_
        clear hQ hops Q' ops'
        gi_wp2
        refine bodyPost_ret (results_none rfl _ _ _) rfl ?_
        exact ⟨⟨_, rfl⟩, .inr ⟨_, trivial, hJ4⟩⟩
      ·
       obtain rfl : c = 4 := by omega
       rw [upto4_b a a4 b b4] at hJc
       gi_wp2
       go_roundw
       case rel => exact ⟨b + 1, by omega, by go_num, hJc, hKc⟩
       case measure => simp [intOf]; omega
    ·
     obtain rfl : b = 4 := by omega
     rw [upto4_a a a4] at hJb
     gi_wp2
     go_roundw
     case rel => exact ⟨a + 1, by omega, by go_num, hJb, hKb⟩
     case measure => simp [intOf]; omega
  ·
   obtain rfl : a = 4 := by omega
   rw [upto4_all] at hJa
   gi_wp2
   go_end0
   exact ⟨⟨_, rfl⟩, .inl ⟨_, rfl, hJa⟩⟩
theorem orders_stops (n Bs n₀ k0 k1 k2 k3 : Nat) (w : World) (hB : Blk w Bs 25 #[.int .i64 k0, .int .i64 k1, .int .i64 k2, .int .i64 k3]) :
  SeqStopsK Fence.wide n Tryz.prog 61 #[.pointer (some ⟨Bs, 0, none⟩)] (ordE (at4 k0 k1 k2 k3)) (KD n₀ Bs) (fun ys => ys = perms4) (fun _ => True) 24 w := fun l J Jx W hW hJ _ hY h0 =>
 orders1_in n l Bs n₀ W.heap.size k0 k1 k2 k3 J Jx hJ hY W ((hW.block Bs hB.lt).trans hB) h0
end Go.Proofs.YtibdehlmflaodaaGreat
