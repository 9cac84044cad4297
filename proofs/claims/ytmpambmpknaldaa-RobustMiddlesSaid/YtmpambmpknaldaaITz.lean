import Derived.Test.YtmpambmpknaldaaITw
import Derived.Test.YtmpambmpknaldaaINg
import Derived.Deep.RegionWith
import Derived.Deep.QuietTactic
import Derived.BigQuiet
import Derived.Test.YtmpambmpknaldaaIReg
set_option linter.unusedVariables false
set_option linter.unusedSimpArgs false
set_option maxHeartbeats 6400000
set_option maxRecDepth 1000000
namespace Go.Proofs.Ytmpambmpknaldaa
open Go.RowKit
def Frc (w : World) (v : Value) (p q : Int) : Prop := ∃ sp sq, v = .agg #[.bool (decide (p < 0)), sp, .bool false, sq] ∧ Lim w sp (limbs (absN p)) ∧ Lim w sq (limbs q) ∧ 0 < q ∧ gcdI p q = 1 ∧ fits p ∧ fits q
theorem Frc.steps {w w' : World} {v : Value} {p q : Int} (h : Frc w v p q) (hs : Steps w w') : Frc w' v p q := by
 obtain ⟨sp, sq, e, l1, l2, h⟩ := h
 exact ⟨sp, sq, e, l1.steps hs, l2.steps hs, h⟩
def ofI (p q : Int) : Int × Int × Int := md (divF (p * 1099511627776) q) (divF (p * 1099511627776) q + if 0 < modF (p * 1099511627776) q then 1 else 0)
def whI (n : Int) : Int × Int × Int := if n < -2097152 ∨ 2097152 < n then (0, 0, 16) else (n * 1099511627776, n * 1099511627776, 0)
theorem divmod_is {x y L r : Int} (h0 : 0 ≤ r) (h1 : r < y) (h : L * y + r = x) : divF x y = L ∧ modF x y = r :=
 divF_of (by rw [Int.mul_comm]; exact h.symm) (.inl ⟨h0, h1⟩)
def OfInv (p q : Int) (j : Nat) (L r S : Int) : Prop := 0 ≤ r ∧ r < q ∧ L * q + r = p * ((2 ^ (40 - j) : Nat) : Int) ∧ S = L * ((2 ^ j : Nat) : Int) ∧ -2305843009213693952 ≤ S ∧ S + ((2 ^ j : Nat) : Int) ≤ 2305844108725321728
theorem OfInv.start {p q N R0 : Int} (DM : N * q + R0 = p ∧ 0 ≤ R0 ∧ R0 < q) (h1 : -2097152 ≤ N) (h2 : N ≤ 2097152) : OfInv p q 40 N R0 (N * 1099511627776) := by
 refine ⟨DM.2.1, DM.2.2, by simp; exact DM.1, by simp, by omega, by simp; omega⟩
theorem OfInv.done {p q L r S : Int} (I : OfInv p q 0 L r S) : divF (p * 1099511627776) q = S ∧ modF (p * 1099511627776) q = r := by
 obtain ⟨a, b, c, d, e, f⟩ := I
 simp at c d
 rw [d]
 exact divmod_is a b c
def rg (x y : Int) : Int := if y < 0 then -gcdI x y else gcdI x y
def rdP (x y : Int) : Int := divF x (rg x y)
def rdQ (x y : Int) : Int := divF y (rg x y)
theorem gcdI_pos {x y : Int} (h : y ≠ 0) : 0 < gcdI x y := by
 unfold gcdI
 have := Int.gcd_pos_of_ne_zero_right x h
 omega
theorem divF_exact {k g : Int} (h : g ≠ 0) : divF (k * g) g = k := by
 unfold divF
 exact Int.mul_fdiv_cancel k h
theorem rg_ne {x y : Int} (h : y ≠ 0) : rg x y ≠ 0 := by
 have := gcdI_pos (x := x) h
 unfold rg
 split <;> omega
theorem gcdI_dvd (x y : Int) : gcdI x y ∣ x ∧ gcdI x y ∣ y := ⟨Int.gcd_dvd_left x y, Int.gcd_dvd_right x y⟩
theorem rg_dvd (x y : Int) : rg x y ∣ x ∧ rg x y ∣ y := by
 have := gcdI_dvd x y
 unfold rg
 split
 · exact ⟨Int.neg_dvd.2 this.1, Int.neg_dvd.2 this.2⟩
 · exact this
theorem rd_mul {x y : Int} (h : y ≠ 0) : rdP x y * rg x y = x ∧ rdQ x y * rg x y = y := by
 obtain ⟨⟨a, ha⟩, ⟨b, hb⟩⟩ := rg_dvd x y
 have g0 := rg_ne (x := x) h
 unfold rdP rdQ
 have e1 : divF x (rg x y) = a := by
  conv => lhs; rw [ha, Int.mul_comm]
  rw [show rg (a * rg x y) y = rg (a * rg x y) y from rfl]
  rw [Int.mul_comm a, ← ha]
  have := divF_exact (k := a) g0
  rw [Int.mul_comm, ← ha] at this
  exact this
 have e2 : divF y (rg x y) = b := by
  have := divF_exact (k := b) g0
  rw [Int.mul_comm, ← hb] at this
  exact this
 rw [e1, e2, Int.mul_comm a, Int.mul_comm b]
 exact ⟨ha.symm, hb.symm⟩
theorem rdQ_pos {x y : Int} (h : y ≠ 0) : 0 < rdQ x y := by
 have m := (rd_mul (x := x) h).2
 have g := gcdI_pos (x := x) h
 obtain ⟨G, hG⟩ : ∃ G, gcdI x y = G := ⟨_, rfl⟩
 unfold rg at m
 rw [hG] at m g
 rcases Int.lt_or_le 0 (rdQ x y) with k | k
 · exact k
 ·
  exfalso
  split at m
  ·
   have h1 := Int.mul_nonneg_of_nonpos_of_nonpos k (show -G ≤ 0 by omega)
   rw [m] at h1
   omega
  ·
   have := Int.mul_le_mul_of_nonneg_right k (show 0 ≤ G by omega)
   rw [m] at this
   omega
theorem gcd_one_of {a b g : Int} (hg : 0 < g) (h : gcdI (a * g) (b * g) = g) : gcdI a b = 1 := by
 unfold gcdI at h ⊢
 rw [Int.gcd_mul_right] at h
 have e : ((g.natAbs : Nat) : Int) = g := by omega
 have k : ((Int.gcd a b : Nat) : Int) * g = 1 * g := by
  rw [Int.one_mul]
  conv => rhs; rw [← h]
  rw [Int.natCast_mul, e]
 exact Int.eq_of_mul_eq_mul_right (by omega) k
theorem rd_gcd {x y : Int} (h : y ≠ 0) : gcdI (rdP x y) (rdQ x y) = 1 := by
 have m := rd_mul (x := x) h
 have g := gcdI_pos (x := x) h
 unfold rg at m
 split at m
 ·
  rw [Int.mul_neg, Int.mul_neg] at m
  refine gcd_one_of g ?_
  have e1 : rdP x y * gcdI x y = -x := by omega
  have e2 : rdQ x y * gcdI x y = -y := by omega
  rw [e1, e2]
  unfold gcdI
  rw [Int.neg_gcd, Int.gcd_neg]
 ·
  refine gcd_one_of g ?_
  rw [m.1, m.2]
theorem dvd_of_gcd_one {k n m : Int} (h : Int.gcd k n = 1) (hd : k ∣ n * m) : k ∣ m := by
 have := (Int.dvd_gcd_mul_iff_dvd_mul (k := k) (n := n) (m := m)).2 hd
 rw [h] at this
 simpa using this
theorem red_unique {p q p' q' : Int} (q0 : 0 < q) (q0' : 0 < q') (g : gcdI p q = 1) (g' : gcdI p' q' = 1) (h : p * q' = p' * q) : p = p' ∧ q = q' := by
 unfold gcdI at g g'
 have g1 : Int.gcd p q = 1 := by omega
 have g2 : Int.gcd p' q' = 1 := by omega
 have d1 : q ∣ q' := by
  have : q ∣ p * q' := ⟨p', by rw [h, Int.mul_comm]⟩
  exact dvd_of_gcd_one (by rw [Int.gcd_comm]; exact g1) this
 have d2 : q' ∣ q := by
  have : q' ∣ p' * q := ⟨p, by rw [← h, Int.mul_comm]⟩
  exact dvd_of_gcd_one (by rw [Int.gcd_comm]; exact g2) this
 have e : q = q' := by
  have l1 := Int.le_of_dvd q0' d1
  have l2 := Int.le_of_dvd q0 d2
  omega
 subst e
 exact ⟨Int.eq_of_mul_eq_mul_right (by omega) h, rfl⟩
theorem rd_unique {x y p q : Int} (hy : y ≠ 0) (q0 : 0 < q) (g : gcdI p q = 1) (h : p * y = x * q) : rdP x y = p ∧ rdQ x y = q := by
 have m := rd_mul (x := x) hy
 have g0 := rg_ne (x := x) hy
 refine red_unique (rdQ_pos hy) q0 (rd_gcd hy) g ?_
 have e : (rdP x y * q) * rg x y = (p * rdQ x y) * rg x y := by
  rw [Int.mul_right_comm, m.1, Int.mul_assoc, m.2]; exact h.symm
 exact Int.eq_of_mul_eq_mul_right g0 e
theorem rd_abs {x y : Int} (h : y ≠ 0) : absN (rdP x y) ≤ absN x ∧ absN (rdQ x y) ≤ absN y ∧ absN (rg x y) ≤ absN y := by
 have m := rd_mul (x := x) h
 have g0 := rg_ne (x := x) h
 have key : ∀ a g : Int, g ≠ 0 → absN a ≤ absN (a * g) := fun a g hg => by
  unfold absN
  rw [Int.natAbs_mul]
  have : 1 ≤ g.natAbs := by omega
  have := Nat.mul_le_mul_left a.natAbs this
  omega
 have k1 := key (rdP x y) (rg x y) g0
 have k2 := key (rdQ x y) (rg x y) g0
 have q0 := rdQ_pos (x := x) h
 have k3 := key (rg x y) (rdQ x y) (by omega)
 rw [m.1] at k1
 rw [m.2] at k2
 rw [Int.mul_comm, m.2] at k3
 exact ⟨k1, k2, k3⟩
theorem Frc.mk' {w : World} {a b : Bool} {s t : Value} {p q : Int} (h1 : Num w (.agg #[.bool a, s]) p) (h2 : Num w (.agg #[.bool b, t]) q) (q0 : 0 < q) (hg : gcdI p q = 1) (fp : fits p) (fq : fits q) : Frc w (.agg #[.bool a, s, .bool b, t]) p q := by
 obtain ⟨s1, e1, l1⟩ := h1
 obtain ⟨s2, e2, l2⟩ := h2
 simp only [Value.agg.injEq, Array.mk.injEq, List.cons.injEq, Value.bool.injEq, and_true] at e1 e2
 obtain ⟨rfl, rfl⟩ := e1
 obtain ⟨rfl, rfl⟩ := e2
 rw [absN_of (by omega)] at l2
 exact ⟨s, t, by rw [decide_eq_false (by omega : ¬ q < 0)], l1, l2, q0, hg, fp, fq⟩
theorem Frc.nums {w : World} {v : Value} {p q : Int} (h : Frc w v p q) : ∃ ap np cp aq nq cq, v = .agg #[.bool (decide (p < 0)), .slice ap np cp, .bool false, .slice aq nq cq] ∧ Num w (.agg #[.bool (decide (p < 0)), .slice ap np cp]) p ∧ Num w (.agg #[.bool false, .slice aq nq cq]) q := by
 obtain ⟨sp, sq, rfl, lp, lq, q0, hg, fp, fq⟩ := h
 obtain ⟨ap, cp, e1⟩ := lp.shape
 obtain ⟨aq, cq, e2⟩ := lq.shape
 refine ⟨ap, (limbs (absN p)).length, cp, aq, (limbs q).length, cq, by rw [e1, e2], ⟨_, rfl, by rw [← e1]; exact lp⟩, ⟨_, by rw [decide_eq_false (by omega : ¬ q < 0)], by rw [absN_of (by omega), ← e2]; exact lq⟩⟩
def Only (r : Nat) (w w' : World) : Prop := w'.heap.size = w.heap.size ∧ ∀ k, k ≠ r → w'.heap[k]? = w.heap[k]?
theorem Only.refl (r : Nat) (w : World) : Only r w w := ⟨rfl, fun _ _ => rfl⟩
theorem Only.set {r i : Nat} {w w' : World} {u : Value} (h : Only r w w') : Only r w (w'.setCell ⟨r, i, none⟩ u) :=
 ⟨by rw [World.size_setCell]; exact h.1, fun k hk => (Below.heap_setCell w' ⟨r, i, none⟩ u k hk).trans (h.2 k hk)⟩
def noU32 (cs : Array Value) : Bool := cs.toList.all fun v => match v with | .int .u32 _ => false | _ => true
theorem noU32_get {cs : Array Value} {k : Nat} {x : Int} (h : noU32 cs = true) : cs[k]? ≠ some (.int .u32 x) := by
 intro e
 obtain ⟨hk, e⟩ := Array.getElem?_eq_some_iff.1 e
 have := List.all_eq_true.1 h cs[k] (by simp)
 rw [e] at this
 cases this
theorem Lim.only {w w' : World} {v : Value} {l : List Int} {r : Nat} {t : TypeId} {cs : Array Value} (h : Lim w v l) (hb : Blk w r t cs) (hn : noU32 cs = true) (ho : Only r w w') : Lim w' v l := by
 obtain ⟨h0, ao', cap, rfl, h1, h3, h2⟩ := h
 refine ⟨h0, ao', cap, rfl, h1, h3, fun hne => ?_⟩
 obtain ⟨b, o, rfl, hbb, hc⟩ := h2 hne
 have hr : b ≠ r := by
  rintro rfl
  have g := hc 0 (List.length_pos_iff.2 hne)
  rw [hb.cell] at g
  exact noU32_get hn g
 exact ⟨b, o, rfl, by rw [ho.1]; exact hbb, fun t ht => (World.cell?_of_block (a := ⟨b, o + t, none⟩) (ho.2 b hr)).trans (hc t ht)⟩
theorem Num.only {w w' : World} {v : Value} {z : Int} {r : Nat} {t : TypeId} {cs : Array Value} (h : Num w v z) (hb : Blk w r t cs) (hn : noU32 cs = true) (ho : Only r w w') : Num w' v z := by
 obtain ⟨s, e, hl⟩ := h
 exact ⟨s, e, hl.only hb hn ho⟩
theorem Frc.only {w w' : World} {v : Value} {p q : Int} {r : Nat} {t : TypeId} {cs : Array Value} (h : Frc w v p q) (hb : Blk w r t cs) (hn : noU32 cs = true) (ho : Only r w w') : Frc w' v p q := by
 obtain ⟨sp, sq, e, l1, l2, h⟩ := h
 exact ⟨sp, sq, e, l1.only hb hn ho, l2.only hb hn ho, h⟩
theorem Frc.alloc_ {w : World} {v : Value} {p q : Int} (h : Frc w v p q) (o : Obj) : Frc (w.alloc o) v p q := h.steps ((Below.refl _ _).alloc (Nat.le_refl _) _)
theorem Frc.shape {w : World} {v : Value} {p q : Int} (h : Frc w v p q) : ∃ a s n c b t m d, v = .agg #[.bool a, .slice s n c, .bool b, .slice t m d] := by
 obtain ⟨ap, np, cp, aq, nq, cq, e, -⟩ := h.nums
 exact ⟨_, _, _, _, _, _, _, _, e⟩
theorem fits_neg {x : Int} (h : fits x) : fits (-x) := by
 unfold fits at *
 rw [show absN (-x) = absN x by unfold absN; omega]
 exact h
theorem zv_not (x : Int) : zv (!decide (x < 0)) (absN x) = -x := by
 unfold zv absN
 by_cases h : x < 0
 · rw [decide_eq_true h]; simp; omega
 · rw [decide_eq_false h]; simp; omega
end Go.Proofs.Ytmpambmpknaldaa
/- Fractions in memory as rational numbers; their sizes. -/
namespace Go.Proofs.Ytmpambmpknaldaa
open Go.RowKit
def cmpQ (r s : Rat) : Int := if r = s then 0 else if r < s then -1 else 1
theorem gcd_rat (r : Rat) : gcdI r.num r.den = 1 := by
 have h := r.reduced
 unfold gcdI Int.gcd
 rw [Int.natAbs_natCast]
 have h2 : Nat.gcd r.num.natAbs r.den = 1 := h
 rw [h2]
 rfl
theorem den_pos' (r : Rat) : (0 : Int) < r.den := by have := r.den_nz; omega
theorem rat_of {p q : Int} (q0 : 0 < q) (hg : gcdI p q = 1) : ∃ r : Rat, r.num = p ∧ (r.den : Int) = q := by
 refine ⟨⟨p, q.toNat, by omega, ?_⟩, rfl, ?_⟩
 ·
  unfold gcdI Int.gcd at hg
  have e : q.natAbs = q.toNat := by omega
  rw [e] at hg
  show Nat.gcd p.natAbs q.toNat = 1
  omega
 ·
  show ((q.toNat : Nat) : Int) = q
  omega
theorem rat_frac (x y : Int) : (x : Rat) / (y : Rat) = Rat.divInt x y := (Rat.divInt_eq_div x y).symm
theorem frac_mul {x y : Int} (hy : y ≠ 0) : ((x : Rat) / (y : Rat)).num * y = x * (((x : Rat) / (y : Rat)).den : Int) := by
 have h := Rat.num_divInt_den ((x : Rat) / (y : Rat))
 conv at h => rhs; rw [rat_frac]
 exact (Rat.divInt_eq_divInt_iff (by have := den_pos' ((x : Rat) / (y : Rat)); omega) hy).1 h
theorem rd_rat {x y : Int} (hy : y ≠ 0) : rdP x y = ((x : Rat) / (y : Rat)).num ∧ rdQ x y = (((x : Rat) / (y : Rat)).den : Int) :=
 rd_unique hy (den_pos' _) (gcd_rat _) (frac_mul hy)
def sz (r : Rat) (k : Nat) : Prop := absN r.num ≤ bp k ∧ (r.den : Int) ≤ bp k
theorem sz.mono {r : Rat} {i j : Nat} (h : sz r i) (hij : i ≤ j) : sz r j := ⟨Int.le_trans h.1 (bp_mono hij), Int.le_trans h.2 (bp_mono hij)⟩
theorem sz_frac {x y : Int} {k : Nat} (hy : y ≠ 0) (hx : absN x ≤ bp k) (hy2 : absN y ≤ bp k) : sz ((x : Rat) / (y : Rat)) k := by
 have h := rd_abs (x := x) hy
 rw [(rd_rat hy).1, (rd_rat hy).2] at h
 refine ⟨Int.le_trans h.1 hx, ?_⟩
 have := h.2.1
 rw [absN_of (by have := den_pos' ((x : Rat) / (y : Rat)); omega)] at this
 exact Int.le_trans this hy2
theorem absN_mul (x y : Int) : absN (x * y) = absN x * absN y := by unfold absN; rw [Int.natAbs_mul]; simp
theorem absN_mul_le {x y : Int} {i j : Nat} (hx : absN x ≤ bp i) (hy : absN y ≤ bp j) : absN (x * y) ≤ bp (i + j) := by
 rw [absN_mul, bp_add]
 exact Int.mul_le_mul hx hy (absN_nonneg y) (by have := bp_pos i; omega)
theorem absN_add_le {x y : Int} {i : Nat} (hx : absN x ≤ bp i) (hy : absN y ≤ bp i) : absN (x + y) ≤ bp (i + 1) := by
 have h := bp_succ i
 have h1 := bp_pos i
 have h2 : absN (x + y) ≤ absN x + absN y := by unfold absN; omega
 omega
theorem absN_neg (x : Int) : absN (-x) = absN x := by unfold absN; omega
theorem den_abs (r : Rat) : absN (r.den : Int) = r.den := absN_of (by have := den_pos' r; omega)
theorem fits_bp {z : Int} {k : Nat} (h : absN z ≤ bp k) (hk : k ≤ 4095) : fits z := by
 unfold fits
 refine (limbs_length (absN_nonneg z) 4096).2 ?_
 have h1 := bp_mono hk
 have h2 : bp 4096 = 4294967296 * bp 4095 := bp_succ 4095
 have h3 := bp_pos 4095
 omega
theorem cast_den (r : Rat) : ((r.den : Int) : Rat) = (r.den : Rat) := Rat.intCast_natCast _
theorem den_ne (r : Rat) : (r.den : Rat) ≠ 0 := fun h => r.den_nz (Rat.natCast_eq_zero_iff.1 h)
theorem self_div (r : Rat) : r = (r.num : Rat) / ((r.den : Int) : Rat) := by rw [rat_frac, Rat.num_divInt_den]
theorem num_eq (r : Rat) : (r.num : Rat) = r * (r.den : Rat) := by
 have := self_div r
 rw [cast_den] at this
 have h := Rat.div_mul_cancel (a := (r.num : Rat)) (den_ne r)
 rw [← this] at h
 exact h.symm
theorem div_of_mul {x y z : Rat} (hy : y ≠ 0) (h : x = z * y) : x / y = z := by rw [h]; exact Rat.mul_div_cancel hy
theorem add_frac (r s : Rat) : ((r.num * s.den + s.num * r.den : Int) : Rat) / ((r.den * s.den : Int) : Rat) = r + s := by
 refine div_of_mul ?_ ?_
 ·
  rw [Rat.intCast_mul, cast_den, cast_den]
  intro h
  rcases Rat.mul_eq_zero.1 h with h | h
  · exact den_ne r h
  · exact den_ne s h
 ·
  rw [Rat.intCast_add, Rat.intCast_mul, Rat.intCast_mul, Rat.intCast_mul, cast_den, cast_den, num_eq r, num_eq s]
  grind
theorem sub_frac (r s : Rat) : ((r.num * s.den - s.num * r.den : Int) : Rat) / ((r.den * s.den : Int) : Rat) = r - s := by
 refine div_of_mul ?_ ?_
 ·
  rw [Rat.intCast_mul, cast_den, cast_den]
  intro h
  rcases Rat.mul_eq_zero.1 h with h | h
  · exact den_ne r h
  · exact den_ne s h
 ·
  rw [Rat.intCast_sub, Rat.intCast_mul, Rat.intCast_mul, Rat.intCast_mul, cast_den, cast_den, num_eq r, num_eq s]
  grind
theorem dens_ne (r s : Rat) : (r.den * s.den : Int) ≠ 0 := by
 have := Int.mul_pos (den_pos' r) (den_pos' s)
 omega
theorem sum_size {r s : Rat} {i j : Nat} (hr : sz r i) (hs : sz s j) : absN (r.num * s.den) ≤ bp (i + j) ∧ absN (s.num * r.den) ≤ bp (i + j) ∧ absN (r.den * s.den : Int) ≤ bp (i + j) := by
 have d1 : absN (r.den : Int) ≤ bp i := by rw [den_abs]; exact hr.2
 have d2 : absN (s.den : Int) ≤ bp j := by rw [den_abs]; exact hs.2
 have h2 := absN_mul_le hs.1 d1
 rw [Nat.add_comm] at h2
 exact ⟨absN_mul_le hr.1 d2, h2, absN_mul_le d1 d2⟩
theorem sz.add {r s : Rat} {i j : Nat} (hr : sz r i) (hs : sz s j) : sz (r + s) (i + j + 1) := by
 obtain ⟨h1, h2, h3⟩ := sum_size hr hs
 rw [← add_frac]
 exact sz_frac (dens_ne r s) (absN_add_le h1 h2) (Int.le_trans h3 (bp_mono (by omega)))
theorem sz.sub {r s : Rat} {i j : Nat} (hr : sz r i) (hs : sz s j) : sz (r - s) (i + j + 1) := by
 obtain ⟨h1, h2, h3⟩ := sum_size hr hs
 rw [← sub_frac, Int.sub_eq_add_neg]
 exact sz_frac (dens_ne r s) (absN_add_le h1 (by rw [absN_neg]; exact h2)) (Int.le_trans h3 (bp_mono (by omega)))
def FR (w : World) (v : Value) (r : Rat) : Prop := Frc w v r.num r.den
theorem FR.steps {w w' : World} {v : Value} {r : Rat} (h : FR w v r) (hs : Steps w w') : FR w' v r := Frc.steps h hs
theorem Frc.fr {w : World} {v : Value} {p q : Int} (h : Frc w v p q) : ∃ r : Rat, r.num = p ∧ (r.den : Int) = q ∧ FR w v r := by
 have h' := h
 obtain ⟨_, _, _, _, _, q0, hg, _, _⟩ := h'
 obtain ⟨r, e1, e2⟩ := rat_of q0 hg
 refine ⟨r, e1, e2, ?_⟩
 unfold FR
 rw [e1, e2]
 exact h
theorem FR.of_rd {w : World} {v : Value} {x y : Int} (hy : y ≠ 0) (h : Frc w v (rdP x y) (rdQ x y)) : FR w v ((x : Rat) / (y : Rat)) := by
 unfold FR
 rw [← (rd_rat hy).1, ← (rd_rat hy).2]
 exact h
theorem FR.only {w w' : World} {v : Value} {q : Rat} {r : Nat} {t : TypeId} {cs : Array Value} (h : FR w v q) (hb : Blk w r t cs) (hn : noU32 cs = true) (ho : Only r w w') : FR w' v q := Frc.only h hb hn ho
theorem FR.alloc_ {w : World} {v : Value} {q : Rat} (h : FR w v q) (o : Obj) : FR (w.alloc o) v q := Frc.alloc_ h o
end Go.Proofs.Ytmpambmpknaldaa
/- What reads as limbs goes on to do so: 'Keeps'; drawn regions whose calls yield numbers and fractions. -/
namespace Go.Proofs.Ytmpambmpknaldaa
open Go.RowKit
theorem Blk.four {w : World} {g : Nat} {t : TypeId} {a b c d x y z u : Value} (h : Blk w g t #[a, b, c, d]) :
  Blk ((((w.setCell ⟨g, 0, none⟩ x).setCell ⟨g, 1, none⟩ y).setCell ⟨g, 2, none⟩ z).setCell ⟨g, 3, none⟩ u) g t #[x, y, z, u] := (((h.set_ 0 x).set_ 1 y).set_ 2 z).set_ 3 u
theorem Blk.at0 {w : World} {g : Nat} {t : TypeId} {a b c d x : Value} (h : Blk w g t #[a, b, c, d]) : Blk (w.setCell ⟨g, 0, none⟩ x) g t #[x, b, c, d] := h.set_ 0 x
theorem ownK {w : World} {g : Nat} {t : TypeId} {cs : Array Value} (h : Blk w g t cs := by (repeat' first | with_reducible assumption | (with_reducible refine Blk.new' ?_; first | with_reducible rfl | (simp only [World.size_alloc, World.size_setCell, World.size_drew]; done)) | with_reducible refine Blk.alloc ?_ _ | with_reducible refine Blk.drew ?_ | with_reducible refine Blk.drewN ?_ _ | with_reducible apply Blk.both | with_reducible apply Blk.four | with_reducible apply Blk.at0 | with_reducible refine Blk.far' ?_ ?_ | (show _ ≠ _; omega))) : Blk w g t cs := h
theorem Blk.stepsK {w w' : World} {g : Nat} {t : TypeId} {cs : Array Value} (st : Steps w w') (h : Blk w g t cs := by (repeat' first | with_reducible assumption | (with_reducible refine Blk.new' ?_; first | with_reducible rfl | (simp only [World.size_alloc, World.size_setCell, World.size_drew]; done)) | with_reducible refine Blk.alloc ?_ _ | with_reducible refine Blk.drew ?_ | with_reducible refine Blk.drewN ?_ _ | with_reducible apply Blk.both | with_reducible apply Blk.four | with_reducible apply Blk.at0 | with_reducible refine Blk.far' ?_ ?_ | (show _ ≠ _; omega))) : Blk w' g t cs := h.steps st
def Keeps (w w' : World) : Prop := ∀ v l, Lim w v l → Lim w' v l
section
variable {w w' w'' : World}
theorem Keeps.refl (w : World) : Keeps w w := fun _ _ h => h
theorem Keeps.trans (h : Keeps w w') (h' : Keeps w' w'') : Keeps w w'' := fun v l x => h' v l (h v l x)
theorem Keeps.steps (h : Steps w w') : Keeps w w' := fun _ _ x => x.steps h
theorem Keeps.then_ (h : Keeps w w') (h' : Steps w' w'') : Keeps w w'' := h.trans (Keeps.steps h')
theorem Keeps.alloc (h : Keeps w w') (o : Obj) : Keeps w (w'.alloc o) := h.then_ ((Below.refl _ _).alloc (Nat.le_refl _) _)
theorem Keeps.drew (h : Keeps w w') : Keeps w w'.drew := fun v l x => h v l x
theorem Keeps.drewN (h : Keeps w w') (n : Nat) : Keeps w (w'.drewN n) := fun v l x => h v l x
def NoU (w : World) (r : Nat) : Prop := ∃ t cs, Blk w r t cs ∧ noU32 cs = true
def plainV (v : Value) : Bool := match v with | .int .u32 _ => false | _ => true
theorem noU32_set {cs : Array Value} {i : Nat} {u : Value} (h : noU32 cs = true) (hu : plainV u = true) : noU32 (cs.setIfInBounds i u) = true := by
 unfold noU32 at *
 rw [List.all_eq_true] at *
 intro x hx
 rw [Array.toList_setIfInBounds] at hx
 rcases List.mem_or_eq_of_mem_set hx with g | g
 · exact h x g
 · subst g; exact hu
theorem NoU.of {r : Nat} {t : TypeId} {cs : Array Value} (h : Blk w r t cs) (hn : noU32 cs = true) : NoU w r := ⟨t, cs, h, hn⟩
theorem NoU.alloc {r : Nat} (h : NoU w r) (o : Obj) : NoU (w.alloc o) r := by obtain ⟨t, cs, h, e⟩ := h; exact ⟨t, cs, h.alloc o, e⟩
theorem NoU.drew {r : Nat} (h : NoU w r) : NoU w.drew r := by obtain ⟨t, cs, h, e⟩ := h; exact ⟨t, cs, h.drew, e⟩
theorem NoU.drewN {r : Nat} (h : NoU w r) (n : Nat) : NoU (w.drewN n) r := by obtain ⟨t, cs, h, e⟩ := h; exact ⟨t, cs, h.drewN n, e⟩
theorem NoU.set {r b i : Nat} {u : Value} (h : NoU w r) (hu : plainV u = true) : NoU (w.setCell ⟨b, i, none⟩ u) r := by
 obtain ⟨t, cs, h, e⟩ := h
 by_cases hb : r = b
 · subst hb; exact ⟨t, _, h.set_ i u, noU32_set e hu⟩
 · exact ⟨t, cs, h.far' hb, e⟩
theorem NoU.new {r : Nat} {t : TypeId} {cs : Array Value} (h : w.heap.size = r) (e : noU32 cs = true) : NoU (w.alloc (.cells cs t)) r := ⟨t, cs, Blk.new' h, e⟩
theorem NoU.steps {r : Nat} (h : NoU w r) (st : Steps w w') : NoU w' r := by obtain ⟨t, cs, h, e⟩ := h; exact ⟨t, cs, h.steps st, e⟩
theorem Keeps.set {r i : Nat} {u : Value} (h : Keeps w w') (hn : NoU w' r) : Keeps w (w'.setCell ⟨r, i, none⟩ u) := by
 obtain ⟨t, cs, hb, e⟩ := hn
 exact fun v l x => (h v l x).only hb e ((Only.refl _ _).set)
theorem Keeps.only {r : Nat} {t : TypeId} {cs : Array Value} (hb : Blk w r t cs) (hn : noU32 cs = true) (ho : Only r w w') : Keeps w w' := fun _ _ x => x.only hb hn ho
theorem Num.keeps {v : Value} {z : Int} (h : Num w v z) (k : Keeps w w') : Num w' v z := by
 obtain ⟨s, e, hl⟩ := h
 exact ⟨s, e, k _ _ hl⟩
theorem Frc.keeps {v : Value} {p q : Int} (h : Frc w v p q) (k : Keeps w w') : Frc w' v p q := by
 obtain ⟨sp, sq, e, l1, l2, h⟩ := h
 exact ⟨sp, sq, e, k _ _ l1, k _ _ l2, h⟩
theorem FR.keeps {v : Value} {r : Rat} (h : FR w v r) (k : Keeps w w') : FR w' v r := Frc.keeps h k
theorem Lim.keeps {v : Value} {l : List Int} (h : Lim w v l) (k : Keeps w w') : Lim w' v l := k _ _ h
theorem FR.shape {v : Value} {r : Rat} (h : FR w v r) : ∃ a s n c b t m d, v = .agg #[.bool a, .slice s n c, .bool b, .slice t m d] := Frc.shape h
theorem FR.nums {v : Value} {r : Rat} (h : FR w v r) : ∃ ap np cp aq nq cq, v = .agg #[.bool (decide (r < 0)), .slice ap np cp, .bool false, .slice aq nq cq] ∧ Num w (.agg #[.bool (decide (r < 0)), .slice ap np cp]) r.num ∧ Num w (.agg #[.bool false, .slice aq nq cq]) (r.den : Int) ∧ (np = 0 ↔ r = 0) := by
 have h2 := h
 obtain ⟨sp, sq, rfl, lp, lq, q0, hg, fp, fq⟩ := h
 obtain ⟨ap, cp, e1⟩ := lp.shape
 obtain ⟨aq, cq, e2⟩ := lq.shape
 have e3 : decide (r < 0) = decide (r.num < 0) := by
  have : r < 0 ↔ r.num < 0 := by
   rw [← Rat.not_le, ← Rat.num_nonneg]; omega
  simp [this]
 refine ⟨ap, (limbs (absN r.num)).length, cp, aq, (limbs (r.den : Int)).length, cq, by rw [e1, e2, e3], ⟨_, by rw [e3], by rw [← e1]; exact lp⟩, ⟨_, by rw [decide_eq_false (by omega : ¬ (r.den : Int) < 0)], by rw [absN_of (by omega), ← e2]; exact lq⟩, ?_⟩
 rw [List.length_eq_zero_iff, limbs_nil (absN_nonneg _), ← Rat.num_eq_zero]
 unfold absN; omega
theorem FR.fit {v : Value} {r : Rat} (h : FR w v r) : fits r.num ∧ fits (r.den : Int) := by
 obtain ⟨_, _, _, _, _, q0, _, fp, fq⟩ := h
 exact ⟨fp, fq⟩
end
theorem keepsB {w W : World} (h : Keeps w W := by (repeat' first | with_reducible assumption | with_reducible exact Keeps.refl _ | with_reducible refine Keeps.alloc ?_ _ | with_reducible refine Keeps.drew ?_ | with_reducible refine Keeps.drewN ?_ _ | with_reducible refine Keeps.set ?_ ?_ | ((with_reducible apply NoU.of); (with_reducible assumption); exact Eq.refl true) | with_reducible refine NoU.alloc ?_ _ | with_reducible refine NoU.drew ?_ | with_reducible refine NoU.drewN ?_ _ | refine NoU.set ?_ (Eq.refl true) | (refine NoU.new ?_ (Eq.refl true); first | with_reducible rfl | (simp only [World.size_alloc, World.size_setCell, World.size_drew]; done)))) : Keeps w W := h
def gw : List (Nat × (Value → World → Prop)) → Nat → Value → World → Prop
 | [], _, _, _ => True
 | (i, e) :: r, k, x, W => if k = i then e x W else gw r k x W
theorem gw_keeps (l : List (Nat × (Value → World → Prop))) (h : ∀ p ∈ l, ∀ x W W', Keeps W W' → p.2 x W → p.2 x W') {k : Nat} {x : Value} {W W' : World} (hk : Keeps W W') (hg : gw l k x W) : gw l k x W' := by
 induction l with
 | nil => exact hg
 | cons p r ih =>
  obtain ⟨i, e⟩ := p
  unfold gw at hg ⊢
  by_cases hi : k = i
  · rw [if_pos hi] at hg ⊢; exact h _ (.head _) x W W' hk hg
  · rw [if_neg hi] at hg ⊢; exact ih (fun p hp => h p (.tail _ hp)) hg
def IsFr (x : Value) : Prop := ∃ a s n c b t m d, x = .agg #[.bool a, .slice s n c, .bool b, .slice t m d]
def IsFrE (e : Int) (x : Value) : Prop := ∃ a s n c b t m d, x = .tuple #[.agg #[.bool a, .slice s n c, .bool b, .slice t m d], .int .i64 e]
def IsNu (x : Value) : Prop := ∃ a s n c, x = .agg #[.bool a, .slice s n c]
def IsNuE (e : Int) (x : Value) : Prop := ∃ a s n c, x = .tuple #[.agg #[.bool a, .slice s n c], .int .i64 e]
def Reg.cat (l : List (Array Value)) : Array Value := (l.flatMap Array.toList).toArray
def IsLi (x : Value) : Prop := ∃ s n c, x = .slice s n c
def GLi (p : List Int → Prop) (x : Value) (W : World) : Prop := ∃ l, p l ∧ Lim W x l
theorem GLi.keeps {p : List Int → Prop} (x : Value) (W W' : World) (k : Keeps W W') (h : GLi p x W) : GLi p x W' := by obtain ⟨l, h1, h2⟩ := h; exact ⟨l, h1, k _ _ h2⟩
theorem GLi.shape {p : List Int → Prop} {x : Value} {W : World} (h : GLi p x W) : ∃ s n c, x = .slice s n c := by obtain ⟨l, _, h2⟩ := h; obtain ⟨s, c, e⟩ := h2.shape; exact ⟨s, _, c, e⟩
def IsPtr (x : Value) : Prop := ∃ g : Nat, x = .pointer (some ⟨g, 0, none⟩)
def GFr (r : Rat) (x : Value) (W : World) : Prop := FR W x r
def GFrE (r : Rat) (e : Int) (x : Value) (W : World) : Prop := ∃ v, x = .tuple #[v, .int .i64 e] ∧ FR W v r
def GNu (z : Int) (x : Value) (W : World) : Prop := Num W x z
def GNuE (z e : Int) (x : Value) (W : World) : Prop := ∃ v, x = .tuple #[v, .int .i64 e] ∧ Num W v z
def GNo (_ : Value) (_ : World) : Prop := True
theorem GFr.keeps {r : Rat} (x : Value) (W W' : World) (k : Keeps W W') (h : GFr r x W) : GFr r x W' := FR.keeps h k
theorem GFrE.keeps {r : Rat} {e : Int} (x : Value) (W W' : World) (k : Keeps W W') (h : GFrE r e x W) : GFrE r e x W' := by obtain ⟨v, h1, h2⟩ := h; exact ⟨v, h1, h2.keeps k⟩
theorem GNu.keeps {z : Int} (x : Value) (W W' : World) (k : Keeps W W') (h : GNu z x W) : GNu z x W' := Num.keeps h k
theorem GNuE.keeps {z e : Int} (x : Value) (W W' : World) (k : Keeps W W') (h : GNuE z e x W) : GNuE z e x W' := by obtain ⟨v, h1, h2⟩ := h; exact ⟨v, h1, h2.keeps k⟩
theorem GNo.keeps (x : Value) (W W' : World) (_ : Keeps W W') (_ : GNo x W) : GNo x W' := trivial
theorem GFrE.get {r : Rat} {e : Int} {v : Value} {W : World} (h : GFrE r e (.tuple #[v, .int .i64 e]) W) : FR W v r := by
 obtain ⟨u, h1, h2⟩ := h
 simp only [Value.tuple.injEq, Array.mk.injEq, List.cons.injEq, and_true] at h1
 rw [h1]; exact h2
theorem GNuE.get {z e : Int} {v : Value} {W : World} (h : GNuE z e (.tuple #[v, .int .i64 e]) W) : Num W v z := by
 obtain ⟨u, h1, h2⟩ := h
 simp only [Value.tuple.injEq, Array.mk.injEq, List.cons.injEq, and_true] at h1
 rw [h1]; exact h2
theorem Reg.gvA (l : List (Nat × (Value → Prop))) (h : ∀ p ∈ l, ∃ x, p.2 x := by (repeat' refine List.forall_mem_cons.2 ⟨?_, ?_⟩) <;> first | exact ⟨_, rfl⟩ | exact ⟨_, 0, rfl⟩ | exact ⟨_, none, 0, 0, rfl⟩ | exact ⟨_, false, none, 0, 0, rfl⟩ | exact ⟨_, false, none, 0, 0, false, none, 0, 0, rfl⟩ | (intro p hp; cases hp)) : ∀ k, ∃ x, Reg.gv l k x := Reg.gv_some l h
theorem gwA {l : List (Nat × (Value → World → Prop))} {k : Nat} {x : Value} {W W' : World} (hk : Keeps W W') (hg : gw l k x W) (h : ∀ p ∈ l, ∀ x W W', Keeps W W' → p.2 x W → p.2 x W' := by (repeat' refine List.forall_mem_cons.2 ⟨?_, ?_⟩) <;> first | exact GFr.keeps | exact GFrE.keeps | exact GNu.keeps | exact GNuE.keeps | exact GLi.keeps | (intro p hp; cases hp)) : gw l k x W' := gw_keeps l h hk hg
theorem jst {a W W2 : World} (h : Below a.heap.size a W) (hs : Steps W W2) : Below a.heap.size a W2 := below_steps h (Nat.le_refl _) hs
theorem jsz {n : Nat} {W W2 : World} (h : n ≤ W.heap.size) (hs : Steps W W2) : n ≤ W2.heap.size := Nat.le_trans h hs.size
theorem tlt {x n : Nat} (h : Nat.ble (x + 1) n = true) : ∀ t, some x = some t → t < n := by intro t ht; cases ht; exact Nat.le_of_ble_eq_true h
theorem rnegN {va : Value} {x : Int} (w : World) (ha : Num w va x) (fx : fits x) :
  Calls Try.prog 55 #[va] w fun e w' => ∃ v, e = .returned (.tuple #[v, .int .i64 0]) ∧ Num w' v (-x) ∧ Steps w w' := by
 have fn := fits_neg fx
 obtain ⟨aa, ca, rfl, pa⟩ := ha.parts
 have ck : ∀ w', Steps w w' → Calls Try.prog 43 #[.agg #[.bool (decide (x < 0)), .slice aa (limbs (absN x)).length ca]] w' fun e w2 => e = .returned (.int .i64 0) ∧ Steps w' w2 := fun w' h => by
  have := rcheckN (decide (x < 0)) w' (pa.steps h)
  rw [show errC (valid (decide (x < 0)) (limbs (absN x))) = 0 from if_pos (valid_of fx)] at this
  exact this
 have mk : ∀ w', Steps w w' → Calls Try.prog 45 #[.bool (!decide (x < 0)), .slice aa (limbs (absN x)).length ca] w' fun e w2 => ∃ v', e = .returned (.tuple #[v', .int .i64 0]) ∧ Num w2 v' (-x) ∧ Steps w' w2 := fun w' h => by
  have := rmadeN (!decide (x < 0)) w' (pa.steps h) (by unfold fits at fx; unfold few; omega)
  rw [lval_limbs (absN_nonneg x), zv_not, errN_fits fn, clipN_fits fn] at this
  exact this
 obtain ⟨n, hn⟩ : ∃ n, (limbs (absN x)).length = n := ⟨_, rfl⟩
 obtain ⟨gx, hgx⟩ : ∃ b, decide (x < 0) = b := ⟨_, rfl⟩
 rw [hn, hgx] at ck mk ⊢
 clear ha pa hn hgx fx fn
 go_enter Try.func55, Try.ntmps55
 go_wp2_with fail
 refine (ck _ belowB).mono ?_
 rintro e w1 ⟨rfl, hb1⟩
 have st : Steps _ w1 := hb1
 have Bn : Below w.heap.size w w1 := belowA st
 have oa : Blk w1 (w.heap.size) 26 #[.bool gx, .slice aa n ca] := Blk.stepsA st
 have or : Blk w1 (w.heap.size + 1) 26 #[.bool false, .slice none 0 0] := Blk.stepsA st
 clear st
 have B := Bn
 clear Bn
 obtain ⟨ca0, ca1, fa, la⟩ := oa.s1
 obtain ⟨cr0, cr1, fr, lr⟩ := or.s1
 clear ck
 go_wp2_with fail
 refine (mk _ B).mono ?_
 rintro e w2 ⟨v2, rfl, hn2, hb2⟩
 have st : Steps _ w2 := hb2
 have Bn : Below w.heap.size w w2 := belowA st
 have na := oa.stq st
 have nr := or.stq st
 clear B oa or ca0 ca1 fa la cr0 cr1 fr lr
 clear st
 have B := Bn
 clear Bn
 have oa := na
 clear na
 obtain ⟨ca0, ca1, fa, la⟩ := oa.s1
 have or := nr
 clear nr
 obtain ⟨cr0, cr1, fr, lr⟩ := or.s1
 clear mk
 obtain ⟨bb, ao, k, c, rfl⟩ := hn2.shape
 have HV := Hid.mk_ hn2
 clear hn2
 go_wp2
 refine bodyPost_ret (by simp [results, Try.results55, go_sem, ca0, ca1, fa, la, cr0, cr1, fr, lr]; rfl) rfl ?_
 exact ⟨_, rfl, HV.out.put2 or, belowB⟩
theorem rreduced {va vb : Value} {x y : Int} (w : World) (ha : Num w va x) (hb : Num w vb y) (fx : fits x) (fy : fits y) (hy : y ≠ 0) :
  Calls Try.prog 44 #[va, vb] w fun e w' => ∃ v, e = .returned v ∧ Frc w' v (rdP x y) (rdQ x y) ∧ Steps w w' := by
 have RA := rd_abs (x := x) hy
 have fP : fits (rdP x y) := fits_le RA.1 fx
 have fQ : fits (rdQ x y) := fits_le RA.2.1 fy
 have fG : fits (rg x y) := fits_le RA.2.2 fy
 have g0 := rg_ne (x := x) hy
 have gc := fun (w' : World) (h : Steps w w') => rgcd w' (ha.steps h) (hb.steps h) fx fy
 have d1 : ∀ w' v, Steps w w' → Num w' v (rg x y) → Calls Try.prog 56 #[va, v] w' fun e w2 => ∃ q r, e = .returned (.tuple #[q, r, .int .i64 0]) ∧ Num w2 q (rdP x y) ∧ Num w2 r (modF x (rg x y)) ∧ Steps w' w2 := fun w' v h hv => rdivmod w' (ha.steps h) hv fx fG g0
 have d2 : ∀ w' v, Steps w w' → Num w' v (rg x y) → Calls Try.prog 56 #[vb, v] w' fun e w2 => ∃ q r, e = .returned (.tuple #[q, r, .int .i64 0]) ∧ Num w2 q (rdQ x y) ∧ Num w2 r (modF y (rg x y)) ∧ Steps w' w2 := fun w' v h hv => rdivmod w' (hb.steps h) hv fy fG g0
 have MK := Hid.mk_ (And.intro (rdQ_pos (x := x) hy) (And.intro (rd_gcd (x := x) hy) (And.intro fP fQ)))
 have fg : fits (gcdI x y) := by
  unfold rg at fG
  split at fG
  · have := fits_neg fG; rwa [Int.neg_neg] at this
  · exact fG
 obtain ⟨aa, ca, rfl, -⟩ := ha.parts
 obtain ⟨ab, cb, rfl, -⟩ := hb.parts
 obtain ⟨n, hn⟩ : ∃ n, (limbs (absN x)).length = n := ⟨_, rfl⟩
 obtain ⟨m, hm⟩ : ∃ m, (limbs (absN y)).length = m := ⟨_, rfl⟩
 rw [hn] at gc d1 ⊢
 rw [hm] at gc d2 ⊢
 obtain ⟨gx, hgx⟩ : ∃ b, decide (x < 0) = b := ⟨_, rfl⟩
 rw [hgx] at gc d1 ⊢
 clear ha hb hn hm hgx RA fP fQ fG g0 fx fy
 by_cases hs : y < 0
 ·
  have e := decide_eq_true hs
  rw [e] at gc d2 ⊢
  have HG : rg x y = -gcdI x y := if_pos hs
  rw [HG] at d1 d2
  have ng : ∀ w' v, Num w' v (gcdI x y) → Calls Try.prog 55 #[v] w' fun e w2 => ∃ v', e = .returned (.tuple #[v', .int .i64 0]) ∧ Num w2 v' (-gcdI x y) ∧ Steps w' w2 := fun w' v h => rnegN w' h fg
  clear hs e HG fg hy
  go_enter Try.func44, Try.ntmps44
  go_wp2_with fail
  refine (gc _ belowB).mono ?_
  rintro e w1 ⟨vg, rfl, hg, fg, hb1⟩
  have st : Steps _ w1 := hb1
  have Bn : Below w.heap.size w w1 := belowA st
  have oa : Blk w1 (w.heap.size) 26 #[.bool gx, .slice aa n ca] := Blk.stepsA st
  have ob : Blk w1 (w.heap.size + 1) 26 #[.bool true, .slice ab m cb] := Blk.stepsA st
  have or : Blk w1 (w.heap.size + 1 + 1) 28 #[.bool false, .slice none 0 0, .bool false, .slice none 0 0] := Blk.stepsA st
  clear st
  have B := Bn
  clear Bn
  obtain ⟨ca0, ca1, fa, la⟩ := oa.s1
  obtain ⟨cb0, cb1, fb, lb⟩ := ob.s1
  obtain ⟨cr0, cr1, cr2, cr3, fr, lr⟩ := or.s3
  clear gc fg
  obtain ⟨bg, ag, ng_, cg, rfl⟩ := hg.shape
  have NG := Hid.mk_ hg
  clear hg
  have z1 : w.heap.size + 1 + 1 < w1.heap.size := or.lt
  go_wp2_with fail
  refine (ng _ _ (NG.out.alloc_ _)).mono ?_
  rintro e w2 ⟨vh, rfl, hh, hb2⟩
  have st : Steps _ w2 := hb2
  have Bn : Below w.heap.size w w2 := belowA st
  have na := oa.stq st
  have nb := ob.stq st
  have nr := or.stq st
  have og : Blk w2 (w1.heap.size) 26 #[.bool bg, .slice ag ng_ cg] := Blk.stepsA st
  clear B oa ob or ca0 ca1 fa la cb0 cb1 fb lb cr0 cr1 cr2 cr3 fr lr
  clear st
  have B := Bn
  clear Bn
  have oa := na
  clear na
  obtain ⟨ca0, ca1, fa, la⟩ := oa.s1
  have ob := nb
  clear nb
  obtain ⟨cb0, cb1, fb, lb⟩ := ob.s1
  have or := nr
  clear nr
  obtain ⟨cr0, cr1, cr2, cr3, fr, lr⟩ := or.s3
  obtain ⟨cg0, cg1, fg, lg⟩ := og.s1
  clear ng NG
  obtain ⟨bh, ah, nh, ch, rfl⟩ := hh.shape
  have NH := Hid.mk_ hh
  clear hh
  have og' := og
  go_wp2_with fail
  refine (d1 _ _ belowB (NH.out.put2 og')).mono ?_
  rintro e w3 ⟨vp, vr, rfl, hp, hr, hb3⟩
  have st : Steps _ w3 := hb3
  have Bn : Below w.heap.size w w3 := belowA st
  have na := oa.stq st
  have nb := ob.stq st
  have nr := or.stq st
  replace og : Blk w3 (w1.heap.size) 26 #[.bool bh, .slice ah nh ch] := Blk.stepsA st
  clear B oa ob or ca0 ca1 fa la cb0 cb1 fb lb cr0 cr1 cr2 cr3 fr lr cg0 cg1 fg lg
  clear st
  have B := Bn
  clear Bn
  have oa := na
  clear na
  obtain ⟨ca0, ca1, fa, la⟩ := oa.s1
  have ob := nb
  clear nb
  obtain ⟨cb0, cb1, fb, lb⟩ := ob.s1
  have or := nr
  clear nr
  obtain ⟨cr0, cr1, cr2, cr3, fr, lr⟩ := or.s3
  obtain ⟨cg0, cg1, fg, lg⟩ := og.s1
  clear d1
  have NG2 := Hid.mk_ ((NH.out.put2 og').steps hb3)
  clear NH og'
  obtain ⟨bp_, ap, np, cp, rfl⟩ := hp.shape
  have NP := Hid.mk_ hp
  clear hp
  obtain ⟨br, ar, nr_, cr, rfl⟩ := hr.shape
  clear hr
  have z2 : w1.heap.size < w3.heap.size := og.lt
  go_wp2_with fail
  refine (d2 _ _ belowB ((NG2.out.alloc_ _).alloc_ _)).mono ?_
  rintro e w4 ⟨vq, vt, rfl, hq, ht, hb4⟩
  have st : Steps _ w4 := hb4
  have Bn : Below w.heap.size w w4 := belowA st
  have na := oa.stq st
  have nb := ob.stq st
  have nr := or.stq st
  have ng := og.stq st
  have op : Blk w4 (w3.heap.size) 26 #[.bool bp_, .slice ap np cp] := Blk.stepsA st
  have os : Blk w4 (w3.heap.size + 1) 26 #[.bool br, .slice ar nr_ cr] := Blk.stepsA st
  clear B oa ob or og ca0 ca1 fa la cb0 cb1 fb lb cr0 cr1 cr2 cr3 fr lr cg0 cg1 fg lg
  clear st
  have B := Bn
  clear Bn
  have oa := na
  clear na
  obtain ⟨ca0, ca1, fa, la⟩ := oa.s1
  have ob := nb
  clear nb
  obtain ⟨cb0, cb1, fb, lb⟩ := ob.s1
  have or := nr
  clear nr
  obtain ⟨cr0, cr1, cr2, cr3, fr, lr⟩ := or.s3
  have og := ng
  clear ng
  obtain ⟨cg0, cg1, fg, lg⟩ := og.s1
  obtain ⟨cp0, cp1, fp, lp⟩ := op.s1
  obtain ⟨cs0, cs1, fs, ls⟩ := os.s1
  clear d2
  have NP2 := Hid.mk_ (((NP.out.alloc_ (.cells #[.bool bp_, .slice ap np cp] 26)).alloc_ (.cells #[.bool br, .slice ar nr_ cr] 26)).steps hb4)
  clear NP NG2
  obtain ⟨bq, aq, nq, cq, rfl⟩ := hq.shape
  have NQ := Hid.mk_ hq
  clear hq
  obtain ⟨bt, at_', nt_, ct, rfl⟩ := ht.shape
  clear ht
  dsimp only; repeat' (first | go_values | go_skip | go_guarded | go_step | go_upon)
  refine bodyPost_ret (by simp [results, Try.results44, go_sem, ca0, ca1, fa, la, cb0, cb1, fb, lb, cr0, cr1, cr2, cr3, fr, lr, cg0, cg1, fg, lg, cp0, cp1, fp, lp, cs0, cs1, fs, ls]; rfl) rfl ?_
  refine ⟨_, rfl, ?_, belowB⟩
  have HM := MK.out
  exact (((Frc.mk' NP2.out NQ.out HM.1 HM.2.1 HM.2.2.1 HM.2.2.2).only or rfl ((Only.refl _ _).set.set.set.set)).alloc_ _).alloc_ _
 ·
  have e := decide_eq_false hs
  rw [e] at gc d2 ⊢
  have HG : rg x y = gcdI x y := if_neg hs
  rw [HG] at d1 d2
  clear hs e HG fg hy
  go_enter Try.func44, Try.ntmps44
  go_wp2_with fail
  refine (gc _ belowB).mono ?_
  rintro e w1 ⟨vg, rfl, hg, fg, hb1⟩
  have st : Steps _ w1 := hb1
  have Bn : Below w.heap.size w w1 := belowA st
  have oa : Blk w1 (w.heap.size) 26 #[.bool gx, .slice aa n ca] := Blk.stepsA st
  have ob : Blk w1 (w.heap.size + 1) 26 #[.bool false, .slice ab m cb] := Blk.stepsA st
  have or : Blk w1 (w.heap.size + 1 + 1) 28 #[.bool false, .slice none 0 0, .bool false, .slice none 0 0] := Blk.stepsA st
  clear st
  have B := Bn
  clear Bn
  obtain ⟨ca0, ca1, fa, la⟩ := oa.s1
  obtain ⟨cb0, cb1, fb, lb⟩ := ob.s1
  obtain ⟨cr0, cr1, cr2, cr3, fr, lr⟩ := or.s3
  clear gc fg
  obtain ⟨bg, ag, ng_, cg, rfl⟩ := hg.shape
  have NG := Hid.mk_ hg
  clear hg
  have z1 : w.heap.size + 1 + 1 < w1.heap.size := or.lt
  go_wp2_with fail
  refine (d1 _ _ belowB (NG.out.alloc_ _)).mono ?_
  rintro e w2 ⟨vp, vr, rfl, hp, hr, hb2⟩
  have st : Steps _ w2 := hb2
  have Bn : Below w.heap.size w w2 := belowA st
  have na := oa.stq st
  have nb := ob.stq st
  have nr := or.stq st
  have og : Blk w2 (w1.heap.size) 26 #[.bool bg, .slice ag ng_ cg] := Blk.stepsA st
  clear B oa ob or ca0 ca1 fa la cb0 cb1 fb lb cr0 cr1 cr2 cr3 fr lr
  clear st
  have B := Bn
  clear Bn
  have oa := na
  clear na
  obtain ⟨ca0, ca1, fa, la⟩ := oa.s1
  have ob := nb
  clear nb
  obtain ⟨cb0, cb1, fb, lb⟩ := ob.s1
  have or := nr
  clear nr
  obtain ⟨cr0, cr1, cr2, cr3, fr, lr⟩ := or.s3
  obtain ⟨cg0, cg1, fg, lg⟩ := og.s1
  clear d1
  have NG2 := Hid.mk_ ((NG.out.alloc_ _).steps hb2)
  clear NG
  obtain ⟨bp_, ap, np, cp, rfl⟩ := hp.shape
  have NP := Hid.mk_ hp
  clear hp
  obtain ⟨br, ar, nr_, cr, rfl⟩ := hr.shape
  clear hr
  have z2 : w1.heap.size < w2.heap.size := og.lt
  go_wp2_with fail
  refine (d2 _ _ belowB ((NG2.out.alloc_ _).alloc_ _)).mono ?_
  rintro e w3 ⟨vq, vt, rfl, hq, ht, hb3⟩
  have st : Steps _ w3 := hb3
  have Bn : Below w.heap.size w w3 := belowA st
  have na := oa.stq st
  have nb := ob.stq st
  have nr := or.stq st
  have ng := og.stq st
  have op : Blk w3 (w2.heap.size) 26 #[.bool bp_, .slice ap np cp] := Blk.stepsA st
  have os : Blk w3 (w2.heap.size + 1) 26 #[.bool br, .slice ar nr_ cr] := Blk.stepsA st
  clear B oa ob or og ca0 ca1 fa la cb0 cb1 fb lb cr0 cr1 cr2 cr3 fr lr cg0 cg1 fg lg
  clear st
  have B := Bn
  clear Bn
  have oa := na
  clear na
  obtain ⟨ca0, ca1, fa, la⟩ := oa.s1
  have ob := nb
  clear nb
  obtain ⟨cb0, cb1, fb, lb⟩ := ob.s1
  have or := nr
  clear nr
  obtain ⟨cr0, cr1, cr2, cr3, fr, lr⟩ := or.s3
  have og := ng
  clear ng
  obtain ⟨cg0, cg1, fg, lg⟩ := og.s1
  obtain ⟨cp0, cp1, fp, lp⟩ := op.s1
  obtain ⟨cs0, cs1, fs, ls⟩ := os.s1
  clear d2
  have NP2 := Hid.mk_ (((NP.out.alloc_ (.cells #[.bool bp_, .slice ap np cp] 26)).alloc_ (.cells #[.bool br, .slice ar nr_ cr] 26)).steps hb3)
  clear NP NG2
  obtain ⟨bq, aq, nq, cq, rfl⟩ := hq.shape
  have NQ := Hid.mk_ hq
  clear hq
  obtain ⟨bt, at_', nt_, ct, rfl⟩ := ht.shape
  clear ht
  dsimp only; repeat' (first | go_values | go_skip | go_guarded | go_step | go_upon)
  refine bodyPost_ret (by simp [results, Try.results44, go_sem, ca0, ca1, fa, la, cb0, cb1, fb, lb, cr0, cr1, cr2, cr3, fr, lr, cg0, cg1, fg, lg, cp0, cp1, fp, lp, cs0, cs1, fs, ls]; rfl) rfl ?_
  refine ⟨_, rfl, ?_, belowB⟩
  have HM := MK.out
  exact (((Frc.mk' NP2.out NQ.out HM.1 HM.2.1 HM.2.2.1 HM.2.2.2).only or rfl ((Only.refl _ _).set.set.set.set)).alloc_ _).alloc_ _
theorem rmake {va vb : Value} {x y : Int} (w : World) (ha : Num w va x) (hb : Num w vb y) (fx : fits x) (fy : fits y) (hy : y ≠ 0) :
  Calls Try.prog 29 #[va, vb] w fun e w' => ∃ v, e = .returned (.tuple #[v, .int .i64 0]) ∧ Frc w' v (rdP x y) (rdQ x y) ∧ Steps w w' := by
 have cka : ∀ w', Steps w w' → Calls Try.prog 43 #[va] w' fun e w2 => e = .returned (.int .i64 0) ∧ Steps w' w2 := fun w' h => by
  obtain ⟨sa, rfl, la⟩ := ha
  have := rcheckN (decide (x < 0)) w' (la.steps h)
  rw [show errC (valid (decide (x < 0)) (limbs (absN x))) = 0 from if_pos (valid_of fx)] at this
  exact this
 have ckb : ∀ w', Steps w w' → Calls Try.prog 43 #[vb] w' fun e w2 => e = .returned (.int .i64 0) ∧ Steps w' w2 := fun w' h => by
  obtain ⟨sb, rfl, lb⟩ := hb
  have := rcheckN (decide (y < 0)) w' (lb.steps h)
  rw [show errC (valid (decide (y < 0)) (limbs (absN y))) = 0 from if_pos (valid_of fy)] at this
  exact this
 have rd := fun (w' : World) (h : Steps w w') => rreduced w' (ha.steps h) (hb.steps h) fx fy hy
 have y0 : 0 < (limbs (absN y)).length := List.length_pos_iff.2 (fun e => by have := (limbs_nil (absN_nonneg y)).1 e; unfold absN at this; omega)
 obtain ⟨aa, ca, rfl, -⟩ := ha.parts
 obtain ⟨ab, cb, rfl, -⟩ := hb.parts
 obtain ⟨n, hn⟩ : ∃ n, (limbs (absN x)).length = n := ⟨_, rfl⟩
 obtain ⟨m, hm⟩ : ∃ m, (limbs (absN y)).length = m := ⟨_, rfl⟩
 rw [hn] at cka rd ⊢
 rw [hm] at ckb rd y0 ⊢
 obtain ⟨gx, hgx⟩ : ∃ b, decide (x < 0) = b := ⟨_, rfl⟩
 obtain ⟨gy, hgy⟩ : ∃ b, decide (y < 0) = b := ⟨_, rfl⟩
 rw [hgx] at cka rd ⊢
 rw [hgy] at ckb rd ⊢
 clear ha hb hn hm hgx hgy fx fy hy
 go_enter Try.func29, Try.ntmps29
 go_wp2_with fail
 refine (cka _ belowB).mono ?_
 rintro e w1 ⟨rfl, hb1⟩
 have st : Steps _ w1 := hb1
 have Bn : Below w.heap.size w w1 := belowA st
 have oa : Blk w1 (w.heap.size) 26 #[.bool gx, .slice aa n ca] := Blk.stepsA st
 have ob : Blk w1 (w.heap.size + 1) 26 #[.bool gy, .slice ab m cb] := Blk.stepsA st
 have or : Blk w1 (w.heap.size + 1 + 1) 28 #[.bool false, .slice none 0 0, .bool false, .slice none 0 0] := Blk.stepsA st
 clear st
 have B := Bn
 clear Bn
 obtain ⟨ca0, ca1, fa, la⟩ := oa.s1
 obtain ⟨cb0, cb1, fb, lb⟩ := ob.s1
 obtain ⟨cr0, cr1, cr2, cr3, fr, lr⟩ := or.s3
 clear cka
 go_wp2_with fail
 refine (ckb _ B).mono ?_
 rintro e w2 ⟨rfl, hb2⟩
 have st : Steps _ w2 := hb2
 have Bn : Below w.heap.size w w2 := belowA st
 have na := oa.stq st
 have nb := ob.stq st
 have nr := or.stq st
 clear B oa ob or ca0 ca1 fa la cb0 cb1 fb lb cr0 cr1 cr2 cr3 fr lr
 clear st
 have B := Bn
 clear Bn
 have oa := na
 clear na
 obtain ⟨ca0, ca1, fa, la⟩ := oa.s1
 have ob := nb
 clear nb
 obtain ⟨cb0, cb1, fb, lb⟩ := ob.s1
 have or := nr
 clear nr
 obtain ⟨cr0, cr1, cr2, cr3, fr, lr⟩ := or.s3
 clear ckb
 go_wp2_with fail
 refine (rd _ B).mono ?_
 rintro e w3 ⟨v3, rfl, hf, hb3⟩
 have st : Steps _ w3 := hb3
 have Bn : Below w.heap.size w w3 := belowA st
 have na := oa.stq st
 have nb := ob.stq st
 have nr := or.stq st
 clear B oa ob or ca0 ca1 fa la cb0 cb1 fb lb cr0 cr1 cr2 cr3 fr lr
 clear st
 have B := Bn
 clear Bn
 have oa := na
 clear na
 obtain ⟨ca0, ca1, fa, la⟩ := oa.s1
 have ob := nb
 clear nb
 obtain ⟨cb0, cb1, fb, lb⟩ := ob.s1
 have or := nr
 clear nr
 obtain ⟨cr0, cr1, cr2, cr3, fr, lr⟩ := or.s3
 clear rd
 obtain ⟨k1, k2, k3, k4, k5, k6, k7, k8, rfl⟩ := hf.shape
 have HF := Hid.mk_ hf
 clear hf
 go_wp2
 refine bodyPost_ret (by simp [results, Try.results29, go_sem, ca0, ca1, fa, la, cb0, cb1, fb, lb, cr0, cr1, cr2, cr3, fr, lr]; rfl) rfl ?_
 exact ⟨_, rfl, HF.out.only or rfl ((Only.refl _ _).set.set.set.set), belowB⟩
theorem rof (x y : Int) (w : World) (x0 : -9223372036854775808 ≤ x) (x1 : x ≤ 9223372036854775807) (y0 : -9223372036854775808 ≤ y) (y1 : y ≤ 9223372036854775807) (hy : y ≠ 0) :
  Calls Try.prog 18 #[.int .i64 x, .int .i64 y] w fun e w' => ∃ v, e = .returned (.tuple #[v, .int .i64 0]) ∧ Frc w' v (rdP x y) (rdQ x y) ∧ Steps w w' := by
 have fx : fits x := fits_small (by unfold absN; omega)
 have fy : fits y := fits_small (by unfold absN; omega)
 go_enter Try.func18, Try.ntmps18
 go_wp2_with fail
 refine (rfrom x _ x0 x1).mono ?_
 rintro e w1 ⟨va, rfl, na, hb1⟩
 have st : Steps _ w1 := hb1
 have Bn : Below w.heap.size w w1 := belowA st
 have or : Blk w1 (w.heap.size) 28 #[.bool false, .slice none 0 0, .bool false, .slice none 0 0] := Blk.stepsA st
 clear st
 have B := Bn
 clear Bn
 obtain ⟨cr0, cr1, cr2, cr3, fr, lr⟩ := or.s3
 go_wp2_with fail
 refine (rfrom y _ y0 y1).mono ?_
 rintro e w2 ⟨vb, rfl, nb, hb2⟩
 have st : Steps _ w2 := hb2
 have Bn : Below w.heap.size w w2 := belowA st
 have nr := or.stq st
 clear B or cr0 cr1 cr2 cr3 fr lr
 clear st
 have B := Bn
 clear Bn
 have or := nr
 clear nr
 obtain ⟨cr0, cr1, cr2, cr3, fr, lr⟩ := or.s3
 have na2 := na.steps hb2
 clear na
 go_wp2_with fail
 refine (rmake _ na2 nb fx fy hy).mono ?_
 rintro e w3 ⟨v3, rfl, hf, hb3⟩
 have st : Steps _ w3 := hb3
 have Bn : Below w.heap.size w w3 := belowA st
 have nr := or.stq st
 clear B or cr0 cr1 cr2 cr3 fr lr
 clear st
 have B := Bn
 clear Bn
 have or := nr
 clear nr
 obtain ⟨cr0, cr1, cr2, cr3, fr, lr⟩ := or.s3
 clear na2 nb
 obtain ⟨k1, k2, k3, k4, k5, k6, k7, k8, rfl⟩ := hf.shape
 have HF := Hid.mk_ hf
 clear hf
 go_wp2
 refine bodyPost_ret (by simp [results, Try.results18, go_sem, cr0, cr1, cr2, cr3, fr, lr]; rfl) rfl ?_
 exact ⟨_, rfl, HF.out.only or rfl ((Only.refl _ _).set.set.set.set), belowB⟩
end Go.Proofs.Ytmpambmpknaldaa
/- Four points: the arrangement that comes before all others (plain Lean). -/
namespace Go.Proofs.Ytmpambmpknaldaa
def cmpL : List Int → List Int → Int
 | x :: xs, y :: ys => if x = y then cmpL xs ys else if x < y then -1 else 1
 | _, _ => 0
structure Arr where
 k0 : Int
 k1 : Int
 k2 : Int
 k3 : Int
 a1 : Int
 a2 : Int
 b1 : Int
 b2 : Int
 n : Int
deriving DecidableEq
def Arr.key (a : Arr) : List Int := [a.a1 + a.b1, a.a1, a.a2, a.b1, a.b2, a.k0, a.k1, a.k2, a.k3]
def cmpA (a b : Arr) : Int := cmpL a.key b.key
def noArr : Arr := ⟨0, 0, 0, 0, 0, 0, 0, 0, 0⟩
def Arr.beats (a b : Arr) : Bool := decide (b.n < a.n) || (a.n == b.n && (decide (0 < a.n) && decide (cmpA a b < 0)))
def best (l : List Arr) : Arr := l.foldl (fun b a => if a.beats b then a else b) noArr
def bestR (N : Int) (l : List Arr) : Option Arr := l.foldl (fun b a => if a.n = N then (match b with | none => some a | some c => if cmpA a c < 0 then some a else some c) else b) none
abbrev P4 := Nat × Nat × Nat × Nat
def perms4 : List P4 := (List.range 4).flatMap fun a => (List.range 4).flatMap fun b => (List.range 4).filterMap fun c => if a ≠ b ∧ a ≠ c ∧ b ≠ c then some (a, b, c, 6 - a - b - c) else none
def upto4 (a b c : Nat) : List P4 := perms4.filter fun p => decide (16 * p.1 + 4 * p.2.1 + p.2.2.1 < 16 * a + 4 * b + c)
end Go.Proofs.Ytmpambmpknaldaa
/- Four points: the arrangements' numbers (plain Lean). -/
namespace Go.Proofs.Ytmpambmpknaldaa
def cre (ux uy vx vy : Int) : Int := vx * ux + vy * uy
def cim (ux uy vx vy : Int) : Int := vy * ux - vx * uy
def csq (ux uy : Int) : Int := ux * ux + uy * uy
def at4 (k0 k1 k2 k3 i : Nat) : Nat := match i with | 0 => k0 | 1 => k1 | 2 => k2 | _ => k3
abbrev PL := List (Int × Int)
def pt (l : PL) (k : Nat) : Int × Int := l.getD k (0, 0)
def sqd (p q : Int × Int) : Int := csq (q.1 - p.1) (q.2 - p.2)
theorem csq_nonneg (x y : Int) : 0 ≤ csq x y := by
 unfold csq
 have h1 : 0 ≤ x * x := by rcases Int.le_total 0 x with h | h; exact Int.mul_nonneg h h; exact Int.mul_nonneg_of_nonpos_of_nonpos h h
 have h2 : 0 ≤ y * y := by rcases Int.le_total 0 y with h | h; exact Int.mul_nonneg h h; exact Int.mul_nonneg_of_nonpos_of_nonpos h h
 omega
def arr4 (k0 k1 k2 k3 : Nat) (p0 p1 p2 p3 : Int × Int) : Arr :=
 ⟨k0, k1, k2, k3, cre (p1.1 - p0.1) (p1.2 - p0.2) (p2.1 - p0.1) (p2.2 - p0.2), cim (p1.1 - p0.1) (p1.2 - p0.2) (p2.1 - p0.1) (p2.2 - p0.2),
  cre (p1.1 - p0.1) (p1.2 - p0.2) (p3.1 - p0.1) (p3.2 - p0.2), cim (p1.1 - p0.1) (p1.2 - p0.2) (p3.1 - p0.1) (p3.2 - p0.2), sqd p0 p1⟩
def arrOf (l : PL) (K : Nat → Nat) (p : P4) : Arr := arr4 (K p.1) (K p.2.1) (K p.2.2.1) (K p.2.2.2) (pt l (K p.1)) (pt l (K p.2.1)) (pt l (K p.2.2.1)) (pt l (K p.2.2.2))
def dst (l : PL) (K : Nat → Nat) (i k : Nat) : Int := sqd (pt l (K i)) (pt l (K k))
def wid (l : PL) (K : Nat → Nat) : Int :=
 max (max (max (max (max (max 0 (dst l K 1 0)) (dst l K 2 0)) (dst l K 2 1)) (dst l K 3 0)) (dst l K 3 1)) (dst l K 3 2)
def arrs (l : PL) (K : Nat → Nat) : List Arr := perms4.map (arrOf l K)
def bestOf (l : PL) (K : Nat → Nat) : Arr := best (arrs l K)
end Go.Proofs.Ytmpambmpknaldaa
/- Four points: other orders of the indices, and moved points (plain Lean). -/
namespace Go.Proofs.Ytmpambmpknaldaa
def K' (K : Nat → Nat) (i : Nat) : Nat := K (at4 2 0 3 1 i)
def Arr.scale (s : Int) (a : Arr) : Arr := ⟨a.k0, a.k1, a.k2, a.k3, s * a.a1, s * a.a2, s * a.b1, s * a.b2, s * a.n⟩
def mv (re im dx dy : Int) (p : Int × Int) : Int × Int := (p.1 * re - p.2 * im + dx, p.1 * im + p.2 * re + dy)
end Go.Proofs.Ytmpambmpknaldaa
/- Four points: the code of the best arrangement lies within its bounds (plain Lean). -/
namespace Go.Proofs.Ytmpambmpknaldaa
theorem sq_nonneg' (x : Int) : 0 ≤ x * x := by
 rcases Int.le_total 0 x with h | h
 · exact Int.mul_nonneg h h
 · exact Int.mul_nonneg_of_nonpos_of_nonpos h h
theorem sq_lt' {x y : Int} (h0 : 0 ≤ x) (h : x < y) : x * x < y * y := by
 have h1 : 0 < (y - x) * (y + x) := Int.mul_pos (by omega) (by omega)
 simp only [Int.sub_mul, Int.mul_add] at h1
 have h2 : x * y = y * x := Int.mul_comm x y
 omega
theorem abs_of_sq {x n : Int} (hn : 0 ≤ n) (h : x * x ≤ n * n) : -n ≤ x ∧ x ≤ n := by
 constructor
 ·
  rcases (show x < -n ∨ -n ≤ x by omega) with g | g
  ·
   have := sq_lt' hn (show n < -x by omega)
   rw [Int.neg_mul_neg] at this
   omega
  · exact g
 ·
  rcases (show n < x ∨ x ≤ n by omega) with g | g
  ·
   have := sq_lt' hn g
   omega
  · exact g
theorem within {ux uy vx vy : Int} (h1 : csq vx vy ≤ csq ux uy) (h2 : csq (vx - ux) (vy - uy) ≤ csq ux uy) :
  (0 ≤ cre ux uy vx vy ∧ cre ux uy vx vy ≤ csq ux uy) ∧ (-csq ux uy ≤ cim ux uy vx vy ∧ cim ux uy vx vy ≤ csq ux uy) := by
 have n0 := csq_nonneg ux uy
 have v0 := csq_nonneg vx vy
 have d0 := csq_nonneg (vx - ux) (vy - uy)
 have e : csq (vx - ux) (vy - uy) = csq vx vy - 2 * cre ux uy vx vy + csq ux uy := by
  unfold csq cre; simp only [Int.sub_mul, Int.mul_sub]; simp only [Int.mul_comm ux vx, Int.mul_comm uy vy]; omega
 have q : cre ux uy vx vy * cre ux uy vx vy + cim ux uy vx vy * cim ux uy vx vy = csq ux uy * csq vx vy := by
  unfold csq cre cim; simp only [Int.sub_mul, Int.mul_sub, Int.add_mul, Int.mul_add]; simp only [Int.mul_comm, Int.mul_left_comm, Int.mul_assoc]; omega
 have m := Int.mul_le_mul_of_nonneg_left h1 n0
 have s1 := sq_nonneg' (cre ux uy vx vy)
 have s2 := sq_nonneg' (cim ux uy vx vy)
 have a := abs_of_sq (x := cre ux uy vx vy) n0 (by omega)
 have b := abs_of_sq (x := cim ux uy vx vy) n0 (by omega)
 exact ⟨⟨by omega, a.2⟩, b⟩
end Go.Proofs.Ytmpambmpknaldaa
