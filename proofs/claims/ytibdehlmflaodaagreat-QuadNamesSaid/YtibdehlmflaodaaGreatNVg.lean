import Derived.Test.YtibdehlmflaodaaGreatNVe
import Derived.Test.YtibdehlmflaodaaGreatNGluQ
set_option linter.unusedVariables false
set_option linter.unusedSimpArgs false
namespace Go.Proofs.YtibdehlmflaodaaGreat
open Go.RowKit
theorem IntsR.at {w : World} {ao : Option Addr} {n cap : Nat} {l : List Int} (h : IntsR w (.slice ao n cap) l) {t : Nat} (ht : t < l.length) : ∃ b o, ao = some ⟨b, o, none⟩ ∧ b < w.heap.size ∧ w.cell? ⟨b, o + t, none⟩ = some (.int .i64 (l.getD t 0)) := by
 obtain ⟨ao', cap', e, _, h2⟩ := h
 injection e with e1 e2 e3
 subst e1
 obtain ⟨b, o, e, hb, hc⟩ := h2 (fun e => by rw [e] at ht; cases ht)
 exact ⟨b, o, e, hb, hc t ht⟩
set_option maxHeartbeats 6400000 in
set_option maxRecDepth 1000000 in
theorem rsameInts {va vb : Value} {l : List Int} (w : World) (h : IntsR w va l) (h' : IntsR w vb l) (hl : l.length ≤ 100000) : Calls Tryz.prog 12 #[va, vb] w fun e w' => e = .returned (.bool true) ∧ Steps w w' := by
 have HA := Hid.mk_ h
 have HB := Hid.mk_ h'
 obtain ⟨ao, cap, rfl⟩ := h.shape
 obtain ⟨bo, cbp, rfl⟩ := h'.shape
 obtain ⟨n, hn⟩ : ∃ n, l.length = n := ⟨_, rfl⟩
 have HL := Hid.mk_ hn
 rw [hn] at HA HB hl ⊢
 clear h h' hn
 go_enter Tryz.func12, Tryz.ntmps12
 go_wp2_with fail
 go_loopw [5] (fun kk wr => ∃ i : Nat, i ≤ n ∧ kk = .int .i64 i ∧ Below w.heap.size w wr) (fun kk _ => n - (intOf kk).toNat)
 case atStart => exact ⟨0, by omega, rfl, belowB⟩
 case round =>
  obtain ⟨i, hi, rfl, B⟩ := hrel
  rcases Nat.lt_or_ge i n with i4 | i4
  ·
   have hlt : decide ((i : Int) < (n : Int)) = true := decide_eq_true (by omega)
   obtain ⟨b, o, rfl, hb, ha⟩ := HA.out.at (t := i) (by have := HL.out; omega)
   obtain ⟨b', o', rfl, hb', ha'⟩ := HB.out.at (t := i) (by have := HL.out; omega)
   obtain ⟨x, hx⟩ : ∃ x, l.getD i 0 = x := ⟨_, rfl⟩
   rw [hx] at ha ha'
   have exx : (x == x) = true := by simp
   clear hx
   repeat' (first | go_values | go_skip | go_guarded | go_step | go_upon)
   refine Reg.wp_chain (fun D v W => Below wr.heap.size wr W ∧ True) (Reg.inl []) (Reg.gv []) Reg.None_ (fun _ => Reg.Any) (fun _ _ => False) (Reg.pl []) (Reg.pl [])
    (by kernel_rfl) (by kernel_rfl) (by kernel_rfl) (Reg.gv_some _ (by intro p hp; cases hp)) (fun _ => ⟨belowB, trivial⟩) (fun _ _ _ _ _ h => h) (fun _ _ _ _ _ _ _ _ _ _ _ _ _ => Reg.none_) (fun _ _ _ _ h => h.elim) (fun ops' Q' hops hQ => ?_)
   apply Reg.RP rfl rfl rfl 17 rfl rfl
   ·
    intro D v W hc hj hf K' hK'
    go_step
    exact hK'.out
   · rfl
   apply Reg.RP rfl rfl rfl 18 rfl rfl
   ·
    intro D v W hc hj hf K' hK'
    go_step
    exact hK'.out
   · rfl
   apply Reg.RP rfl rfl rfl 19 rfl rfl
   ·
    intro D v W hc hj hf K' hK'
    go_step
    exact hK'.out
   · rfl
   apply Reg.RP rfl rfl rfl 20 rfl rfl
   ·
    intro D v W hc hj hf K' hK'
    obtain ⟨j0, _⟩ := hj
    have c0 : W.cell? ⟨b, o + i, none⟩ = some (.int .i64 x) := (below_steps B (Nat.le_refl _) j0).cell (p := ⟨b, _, none⟩) hb |>.trans ha
    go_step
    exact hK'.out
   · rfl
   apply Reg.RP rfl rfl rfl 21 rfl rfl
   ·
    intro D v W hc hj hf K' hK'
    go_step
    exact hK'.out
   · rfl
   apply Reg.RP rfl rfl rfl 22 rfl rfl
   ·
    intro D v W hc hj hf K' hK'
    go_step
    exact hK'.out
   · rfl
   apply Reg.RP rfl rfl rfl 23 rfl rfl
   ·
    intro D v W hc hj hf K' hK'
    go_step
    exact hK'.out
   · rfl
   apply Reg.RP rfl rfl rfl 24 rfl rfl
   ·
    intro D v W hc hj hf K' hK'
    obtain ⟨j0, _⟩ := hj
    have c0 : W.cell? ⟨b', o' + i, none⟩ = some (.int .i64 x) := (below_steps B (Nat.le_refl _) j0).cell (p := ⟨b', _, none⟩) hb' |>.trans ha'
    go_step
    exact hK'.out
   · rfl
   apply Reg.RP rfl rfl rfl 25 rfl rfl
   ·
    intro D v W hc hj hf K' hK'
    go_step
    exact hK'.out
   · rfl
   refine Reg.RC_end (fun D v w9 hd hj hf => ?_)
   obtain ⟨j0, _⟩ := hj
   have B9 := j0
   clear hd hf j0
   refine hQ _ _ ?_
   clear hQ hops Q' ops'
   have B6 := below_steps B (Nat.le_refl _) B9
   go_wp2
   go_roundw
   case rel => exact ⟨i + 1, by omega, by go_num, B6⟩
   case measure => simp [intOf]; omega
  ·
   obtain rfl : i = n := by omega
   go_wp2
   go_returns
   exact ⟨rfl, B⟩
def greatQ (la lb : Nat → Nat) : Nat → Bool
 | 0 => false
 | i + 1 => greatQ la lb i || (decide (6 < la i) || decide (6 < lb i))
end Go.Proofs.YtibdehlmflaodaaGreat
