import Derived.Test.YtibdehlmflaodaaCTz
import Derived.Test.YtibdehlmflaodaaCReg
/- Fractions in memory as rational numbers; their sizes. -/
namespace Go.Proofs.Ytibdehlmflaodaa
open Go.RowKit
def cmpQ (r s : Rat) : Int := if r = s then 0 else if r < s then -1 else 1
theorem gcd_rat (r : Rat) : gcdI r.num r.den = 1 := by
  have h := r.reduced
  unfold gcdI Int.gcd
  rw [Int.natAbs_natCast]
  have h2 : Nat.gcd r.num.natAbs r.den = 1 := h
  rw [h2]
  rfl
theorem den_pos' (r : Rat) : (0 : Int) < r.den := by have := r.den_nz; omega
theorem rat_of {p q : Int} (q0 : 0 < q) (hg : gcdI p q = 1) : ∃ r : Rat, r.num = p ∧ (r.den : Int) = q := by
  refine ⟨⟨p, q.toNat, by omega, ?_⟩, rfl, ?_⟩
  · unfold gcdI Int.gcd at hg
    have e : q.natAbs = q.toNat := by omega
    rw [e] at hg
    show Nat.gcd p.natAbs q.toNat = 1
    omega
  · show ((q.toNat : Nat) : Int) = q
    omega
theorem cmpI_rat (r s : Rat) : cmpI (r.num * s.den) (s.num * r.den) = cmpQ r s := by
  unfold cmpI cmpQ
  by_cases h : r = s
  · rw [if_pos h, if_pos (Rat.eq_iff_mul_eq_mul.1 h)]
  · rw [if_neg h, if_neg (fun e => h (Rat.eq_iff_mul_eq_mul.2 e))]
    by_cases h2 : r < s
    · rw [if_pos h2, if_pos ((Rat.lt_iff r s).1 h2)]
    · rw [if_neg h2, if_neg (fun e => h2 ((Rat.lt_iff r s).2 e))]
theorem cmpQ_le {r s : Rat} : cmpQ r s ≤ 0 ↔ r ≤ s := by
  rw [← cmpI_rat, cmpI_le, Rat.le_iff]
theorem rat_frac (x y : Int) : (x : Rat) / (y : Rat) = Rat.divInt x y := (Rat.divInt_eq_div x y).symm
theorem frac_mul {x y : Int} (hy : y ≠ 0) : ((x : Rat) / (y : Rat)).num * y = x * (((x : Rat) / (y : Rat)).den : Int) := by
  have h := Rat.num_divInt_den ((x : Rat) / (y : Rat))
  conv at h => rhs; rw [rat_frac]
  exact (Rat.divInt_eq_divInt_iff (by have := den_pos' ((x : Rat) / (y : Rat)); omega) hy).1 h
theorem rd_rat {x y : Int} (hy : y ≠ 0) : rdP x y = ((x : Rat) / (y : Rat)).num ∧ rdQ x y = (((x : Rat) / (y : Rat)).den : Int) :=
  rd_unique hy (den_pos' _) (gcd_rat _) (frac_mul hy)
def sz (r : Rat) (k : Nat) : Prop := absN r.num ≤ bp k ∧ (r.den : Int) ≤ bp k
theorem sz.mono {r : Rat} {i j : Nat} (h : sz r i) (hij : i ≤ j) : sz r j := ⟨Int.le_trans h.1 (bp_mono hij), Int.le_trans h.2 (bp_mono hij)⟩
theorem sz_frac {x y : Int} {k : Nat} (hy : y ≠ 0) (hx : absN x ≤ bp k) (hy2 : absN y ≤ bp k) : sz ((x : Rat) / (y : Rat)) k := by
  have h := rd_abs (x := x) hy
  rw [(rd_rat hy).1, (rd_rat hy).2] at h
  refine ⟨Int.le_trans h.1 hx, ?_⟩
  have := h.2.1
  rw [absN_of (by have := den_pos' ((x : Rat) / (y : Rat)); omega)] at this
  exact Int.le_trans this hy2
theorem absN_mul (x y : Int) : absN (x * y) = absN x * absN y := by unfold absN; rw [Int.natAbs_mul]; simp
theorem absN_mul_le {x y : Int} {i j : Nat} (hx : absN x ≤ bp i) (hy : absN y ≤ bp j) : absN (x * y) ≤ bp (i + j) := by
  rw [absN_mul, bp_add]
  exact Int.mul_le_mul hx hy (absN_nonneg y) (by have := bp_pos i; omega)
theorem absN_add_le {x y : Int} {i : Nat} (hx : absN x ≤ bp i) (hy : absN y ≤ bp i) : absN (x + y) ≤ bp (i + 1) := by
  have h := bp_succ i
  have h1 := bp_pos i
  have h2 : absN (x + y) ≤ absN x + absN y := by unfold absN; omega
  omega
theorem absN_neg (x : Int) : absN (-x) = absN x := by unfold absN; omega
theorem den_abs (r : Rat) : absN (r.den : Int) = r.den := absN_of (by have := den_pos' r; omega)
theorem fits_bp {z : Int} {k : Nat} (h : absN z ≤ bp k) (hk : k ≤ 4095) : fits z := by
  unfold fits
  refine (limbs_length (absN_nonneg z) 4096).2 ?_
  have h1 := bp_mono hk
  have h2 : bp 4096 = 4294967296 * bp 4095 := bp_succ 4095
  have h3 := bp_pos 4095
  omega
theorem cast_den (r : Rat) : ((r.den : Int) : Rat) = (r.den : Rat) := Rat.intCast_natCast _
theorem den_ne (r : Rat) : (r.den : Rat) ≠ 0 := fun h => r.den_nz (Rat.natCast_eq_zero_iff.1 h)
theorem self_div (r : Rat) : r = (r.num : Rat) / ((r.den : Int) : Rat) := by rw [rat_frac, Rat.num_divInt_den]
theorem num_eq (r : Rat) : (r.num : Rat) = r * (r.den : Rat) := by
  have := self_div r
  rw [cast_den] at this
  have h := Rat.div_mul_cancel (a := (r.num : Rat)) (den_ne r)
  rw [← this] at h
  exact h.symm
theorem div_of_mul {x y z : Rat} (hy : y ≠ 0) (h : x = z * y) : x / y = z := by rw [h]; exact Rat.mul_div_cancel hy
theorem mul_frac (r s : Rat) : ((r.num * s.num : Int) : Rat) / ((r.den * s.den : Int) : Rat) = r * s := by
  refine div_of_mul ?_ ?_
  · rw [Rat.intCast_mul, cast_den, cast_den]
    intro h
    rcases Rat.mul_eq_zero.1 h with h | h
    · exact den_ne r h
    · exact den_ne s h
  · rw [Rat.intCast_mul, Rat.intCast_mul, cast_den, cast_den, num_eq r, num_eq s]
    grind
theorem add_frac (r s : Rat) : ((r.num * s.den + s.num * r.den : Int) : Rat) / ((r.den * s.den : Int) : Rat) = r + s := by
  refine div_of_mul ?_ ?_
  · rw [Rat.intCast_mul, cast_den, cast_den]
    intro h
    rcases Rat.mul_eq_zero.1 h with h | h
    · exact den_ne r h
    · exact den_ne s h
  · rw [Rat.intCast_add, Rat.intCast_mul, Rat.intCast_mul, Rat.intCast_mul, cast_den, cast_den, num_eq r, num_eq s]
    grind
theorem sub_frac (r s : Rat) : ((r.num * s.den - s.num * r.den : Int) : Rat) / ((r.den * s.den : Int) : Rat) = r - s := by
  refine div_of_mul ?_ ?_
  · rw [Rat.intCast_mul, cast_den, cast_den]
    intro h
    rcases Rat.mul_eq_zero.1 h with h | h
    · exact den_ne r h
    · exact den_ne s h
  · rw [Rat.intCast_sub, Rat.intCast_mul, Rat.intCast_mul, Rat.intCast_mul, cast_den, cast_den, num_eq r, num_eq s]
    grind
theorem dens_ne (r s : Rat) : (r.den * s.den : Int) ≠ 0 := by
  have := Int.mul_pos (den_pos' r) (den_pos' s)
  omega
theorem sz.mul {r s : Rat} {i j : Nat} (hr : sz r i) (hs : sz s j) : sz (r * s) (i + j) := by
  rw [← mul_frac]
  exact sz_frac (dens_ne r s) (absN_mul_le hr.1 hs.1) (absN_mul_le (by rw [den_abs]; exact hr.2) (by rw [den_abs]; exact hs.2))
theorem sum_size {r s : Rat} {i j : Nat} (hr : sz r i) (hs : sz s j) : absN (r.num * s.den) ≤ bp (i + j) ∧ absN (s.num * r.den) ≤ bp (i + j) ∧ absN (r.den * s.den : Int) ≤ bp (i + j) := by
  have d1 : absN (r.den : Int) ≤ bp i := by rw [den_abs]; exact hr.2
  have d2 : absN (s.den : Int) ≤ bp j := by rw [den_abs]; exact hs.2
  have h2 := absN_mul_le hs.1 d1
  rw [Nat.add_comm] at h2
  exact ⟨absN_mul_le hr.1 d2, h2, absN_mul_le d1 d2⟩
theorem sz.add {r s : Rat} {i j : Nat} (hr : sz r i) (hs : sz s j) : sz (r + s) (i + j + 1) := by
  obtain ⟨h1, h2, h3⟩ := sum_size hr hs
  rw [← add_frac]
  exact sz_frac (dens_ne r s) (absN_add_le h1 h2) (Int.le_trans h3 (bp_mono (by omega)))
theorem sz.neg {r : Rat} {i : Nat} (hr : sz r i) : sz (-r) i := ⟨by rw [Rat.neg_num, absN_neg]; exact hr.1, hr.2⟩
theorem sz_int {x : Int} {k : Nat} (h : absN x ≤ bp k) : sz (x : Rat) k := ⟨h, by have := bp_pos k; simpa using this⟩
theorem sz.fits {r : Rat} {k : Nat} (h : sz r k) (hk : k ≤ 4095) : Go.Proofs.Ytibdehlmflaodaa.fits r.num ∧ Go.Proofs.Ytibdehlmflaodaa.fits (r.den : Int) := ⟨fits_bp h.1 hk, fits_bp (by rw [den_abs]; exact h.2) hk⟩
def FR (w : World) (v : Value) (r : Rat) : Prop := Frc w v r.num r.den
theorem FR.steps {w w' : World} {v : Value} {r : Rat} (h : FR w v r) (hs : Steps w w') : FR w' v r := Frc.steps h hs
theorem Frc.fr {w : World} {v : Value} {p q : Int} (h : Frc w v p q) : ∃ r : Rat, r.num = p ∧ (r.den : Int) = q ∧ FR w v r := by
  have h' := h
  obtain ⟨_, _, _, _, _, q0, hg, _, _⟩ := h'
  obtain ⟨r, e1, e2⟩ := rat_of q0 hg
  refine ⟨r, e1, e2, ?_⟩
  unfold FR
  rw [e1, e2]
  exact h
theorem FR.of_rd {w : World} {v : Value} {x y : Int} (hy : y ≠ 0) (h : Frc w v (rdP x y) (rdQ x y)) : FR w v ((x : Rat) / (y : Rat)) := by
  unfold FR
  rw [← (rd_rat hy).1, ← (rd_rat hy).2]
  exact h
theorem FR.only {w w' : World} {v : Value} {q : Rat} {r : Nat} {t : TypeId} {cs : Array Value} (h : FR w v q) (hb : Blk w r t cs) (hn : noU32 cs = true) (ho : Only r w w') : FR w' v q := Frc.only h hb hn ho
theorem FR.alloc_ {w : World} {v : Value} {q : Rat} (h : FR w v q) (o : Obj) : FR (w.alloc o) v q := Frc.alloc_ h o
end Go.Proofs.Ytibdehlmflaodaa
/- What reads as limbs goes on to do so: 'Keeps'; drawn regions whose calls yield numbers and fractions. -/
namespace Go.Proofs.Ytibdehlmflaodaa
open Go.RowKit
theorem Blk.four {w : World} {g : Nat} {t : TypeId} {a b c d x y z u : Value} (h : Blk w g t #[a, b, c, d]) :
    Blk ((((w.setCell ⟨g, 0, none⟩ x).setCell ⟨g, 1, none⟩ y).setCell ⟨g, 2, none⟩ z).setCell ⟨g, 3, none⟩ u) g t #[x, y, z, u] := (((h.set_ 0 x).set_ 1 y).set_ 2 z).set_ 3 u
theorem Blk.at0 {w : World} {g : Nat} {t : TypeId} {a b c d x : Value} (h : Blk w g t #[a, b, c, d]) : Blk (w.setCell ⟨g, 0, none⟩ x) g t #[x, b, c, d] := h.set_ 0 x
theorem ownK {w : World} {g : Nat} {t : TypeId} {cs : Array Value} (h : Blk w g t cs := by (repeat' first | with_reducible assumption | (with_reducible refine Blk.new' ?_; first | with_reducible rfl | (simp only [World.size_alloc, World.size_setCell, World.size_drew]; done)) | with_reducible refine Blk.alloc ?_ _ | with_reducible refine Blk.drew ?_ | with_reducible refine Blk.drewN ?_ _ | with_reducible apply Blk.both | with_reducible apply Blk.four | with_reducible apply Blk.at0 | with_reducible refine Blk.far' ?_ ?_ | (show _ ≠ _; omega))) : Blk w g t cs := h
theorem Blk.stepsK {w w' : World} {g : Nat} {t : TypeId} {cs : Array Value} (st : Steps w w') (h : Blk w g t cs := by (repeat' first | with_reducible assumption | (with_reducible refine Blk.new' ?_; first | with_reducible rfl | (simp only [World.size_alloc, World.size_setCell, World.size_drew]; done)) | with_reducible refine Blk.alloc ?_ _ | with_reducible refine Blk.drew ?_ | with_reducible refine Blk.drewN ?_ _ | with_reducible apply Blk.both | with_reducible apply Blk.four | with_reducible apply Blk.at0 | with_reducible refine Blk.far' ?_ ?_ | (show _ ≠ _; omega))) : Blk w' g t cs := h.steps st
theorem Blk.stp {w0 w w' : World} {g : Nat} {t : TypeId} {cs : Array Value} (_o : Blk w0 g t cs) (st : Steps w w') (h : Blk w g t cs := by (repeat' first | with_reducible assumption | (with_reducible refine Blk.new' ?_; first | with_reducible rfl | (simp only [World.size_alloc, World.size_setCell, World.size_drew]; done)) | with_reducible refine Blk.alloc ?_ _ | with_reducible refine Blk.drew ?_ | with_reducible refine Blk.drewN ?_ _ | with_reducible apply Blk.both | with_reducible apply Blk.four | with_reducible apply Blk.at0 | with_reducible refine Blk.far' ?_ ?_ | (show _ ≠ _; omega))) : Blk w' g t cs := h.steps st
def Keeps (w w' : World) : Prop := ∀ v l, Lim w v l → Lim w' v l
section
variable {w w' w'' : World}
theorem Keeps.refl (w : World) : Keeps w w := fun _ _ h => h
theorem Keeps.trans (h : Keeps w w') (h' : Keeps w' w'') : Keeps w w'' := fun v l x => h' v l (h v l x)
theorem Keeps.steps (h : Steps w w') : Keeps w w' := fun _ _ x => x.steps h
theorem Keeps.then_ (h : Keeps w w') (h' : Steps w' w'') : Keeps w w'' := h.trans (Keeps.steps h')
theorem Keeps.alloc (h : Keeps w w') (o : Obj) : Keeps w (w'.alloc o) := h.then_ ((Below.refl _ _).alloc (Nat.le_refl _) _)
theorem Keeps.drew (h : Keeps w w') : Keeps w w'.drew := fun v l x => h v l x
theorem Keeps.drewN (h : Keeps w w') (n : Nat) : Keeps w (w'.drewN n) := fun v l x => h v l x
def NoU (w : World) (r : Nat) : Prop := ∃ t cs, Blk w r t cs ∧ noU32 cs = true
def plainV (v : Value) : Bool := match v with | .int .u32 _ => false | _ => true
theorem noU32_set {cs : Array Value} {i : Nat} {u : Value} (h : noU32 cs = true) (hu : plainV u = true) : noU32 (cs.setIfInBounds i u) = true := by
  unfold noU32 at *
  rw [List.all_eq_true] at *
  intro x hx
  rw [Array.toList_setIfInBounds] at hx
  rcases List.mem_or_eq_of_mem_set hx with g | g
  · exact h x g
  · subst g; exact hu
theorem NoU.of {r : Nat} {t : TypeId} {cs : Array Value} (h : Blk w r t cs) (hn : noU32 cs = true) : NoU w r := ⟨t, cs, h, hn⟩
theorem NoU.alloc {r : Nat} (h : NoU w r) (o : Obj) : NoU (w.alloc o) r := by obtain ⟨t, cs, h, e⟩ := h; exact ⟨t, cs, h.alloc o, e⟩
theorem NoU.drew {r : Nat} (h : NoU w r) : NoU w.drew r := by obtain ⟨t, cs, h, e⟩ := h; exact ⟨t, cs, h.drew, e⟩
theorem NoU.drewN {r : Nat} (h : NoU w r) (n : Nat) : NoU (w.drewN n) r := by obtain ⟨t, cs, h, e⟩ := h; exact ⟨t, cs, h.drewN n, e⟩
theorem NoU.set {r b i : Nat} {u : Value} (h : NoU w r) (hu : plainV u = true) : NoU (w.setCell ⟨b, i, none⟩ u) r := by
  obtain ⟨t, cs, h, e⟩ := h
  by_cases hb : r = b
  · subst hb; exact ⟨t, _, h.set_ i u, noU32_set e hu⟩
  · exact ⟨t, cs, h.far' hb, e⟩
theorem NoU.new {r : Nat} {t : TypeId} {cs : Array Value} (h : w.heap.size = r) (e : noU32 cs = true) : NoU (w.alloc (.cells cs t)) r := ⟨t, cs, Blk.new' h, e⟩
theorem NoU.steps {r : Nat} (h : NoU w r) (st : Steps w w') : NoU w' r := by obtain ⟨t, cs, h, e⟩ := h; exact ⟨t, cs, h.steps st, e⟩
theorem Keeps.set {r i : Nat} {u : Value} (h : Keeps w w') (hn : NoU w' r) : Keeps w (w'.setCell ⟨r, i, none⟩ u) := by
  obtain ⟨t, cs, hb, e⟩ := hn
  exact fun v l x => (h v l x).only hb e ((Only.refl _ _).set)
theorem Keeps.only {r : Nat} {t : TypeId} {cs : Array Value} (hb : Blk w r t cs) (hn : noU32 cs = true) (ho : Only r w w') : Keeps w w' := fun _ _ x => x.only hb hn ho
theorem Num.keeps {v : Value} {z : Int} (h : Num w v z) (k : Keeps w w') : Num w' v z := by
  obtain ⟨s, e, hl⟩ := h
  exact ⟨s, e, k _ _ hl⟩
theorem Frc.keeps {v : Value} {p q : Int} (h : Frc w v p q) (k : Keeps w w') : Frc w' v p q := by
  obtain ⟨sp, sq, e, l1, l2, h⟩ := h
  exact ⟨sp, sq, e, k _ _ l1, k _ _ l2, h⟩
theorem FR.keeps {v : Value} {r : Rat} (h : FR w v r) (k : Keeps w w') : FR w' v r := Frc.keeps h k
theorem Lim.keeps {v : Value} {l : List Int} (h : Lim w v l) (k : Keeps w w') : Lim w' v l := k _ _ h
theorem FR.shape {v : Value} {r : Rat} (h : FR w v r) : ∃ a s n c b t m d, v = .agg #[.bool a, .slice s n c, .bool b, .slice t m d] := Frc.shape h
theorem FR.nums {v : Value} {r : Rat} (h : FR w v r) : ∃ ap np cp aq nq cq, v = .agg #[.bool (decide (r < 0)), .slice ap np cp, .bool false, .slice aq nq cq] ∧ Num w (.agg #[.bool (decide (r < 0)), .slice ap np cp]) r.num ∧ Num w (.agg #[.bool false, .slice aq nq cq]) (r.den : Int) ∧ (np = 0 ↔ r = 0) := by
  have h2 := h
  obtain ⟨sp, sq, rfl, lp, lq, q0, hg, fp, fq⟩ := h
  obtain ⟨ap, cp, e1⟩ := lp.shape
  obtain ⟨aq, cq, e2⟩ := lq.shape
  have e3 : decide (r < 0) = decide (r.num < 0) := by
    have : r < 0 ↔ r.num < 0 := by
      rw [← Rat.not_le, ← Rat.num_nonneg]; omega
    simp [this]
  refine ⟨ap, (limbs (absN r.num)).length, cp, aq, (limbs (r.den : Int)).length, cq, by rw [e1, e2, e3], ⟨_, by rw [e3], by rw [← e1]; exact lp⟩, ⟨_, by rw [decide_eq_false (by omega : ¬ (r.den : Int) < 0)], by rw [absN_of (by omega), ← e2]; exact lq⟩, ?_⟩
  rw [List.length_eq_zero_iff, limbs_nil (absN_nonneg _), ← Rat.num_eq_zero]
  unfold absN; omega
theorem FR.fit {v : Value} {r : Rat} (h : FR w v r) : fits r.num ∧ fits (r.den : Int) := by
  obtain ⟨_, _, _, _, _, q0, _, fp, fq⟩ := h
  exact ⟨fp, fq⟩
end
theorem keepsB {w W : World} (h : Keeps w W := by (repeat' first | with_reducible assumption | with_reducible exact Keeps.refl _ | with_reducible refine Keeps.alloc ?_ _ | with_reducible refine Keeps.drew ?_ | with_reducible refine Keeps.drewN ?_ _ | with_reducible refine Keeps.set ?_ ?_ | ((with_reducible apply NoU.of); (with_reducible assumption); exact Eq.refl true) | with_reducible refine NoU.alloc ?_ _ | with_reducible refine NoU.drew ?_ | with_reducible refine NoU.drewN ?_ _ | refine NoU.set ?_ (Eq.refl true) | (refine NoU.new ?_ (Eq.refl true); first | with_reducible rfl | (simp only [World.size_alloc, World.size_setCell, World.size_drew]; done)))) : Keeps w W := h
def gw : List (Nat × (Value → World → Prop)) → Nat → Value → World → Prop
  | [], _, _, _ => True
  | (i, e) :: r, k, x, W => if k = i then e x W else gw r k x W
theorem gw_keeps (l : List (Nat × (Value → World → Prop))) (h : ∀ p ∈ l, ∀ x W W', Keeps W W' → p.2 x W → p.2 x W') {k : Nat} {x : Value} {W W' : World} (hk : Keeps W W') (hg : gw l k x W) : gw l k x W' := by
  induction l with
  | nil => exact hg
  | cons p r ih =>
    obtain ⟨i, e⟩ := p
    unfold gw at hg ⊢
    by_cases hi : k = i
    · rw [if_pos hi] at hg ⊢; exact h _ (.head _) x W W' hk hg
    · rw [if_neg hi] at hg ⊢; exact ih (fun p hp => h p (.tail _ hp)) hg
def IsFr (x : Value) : Prop := ∃ a s n c b t m d, x = .agg #[.bool a, .slice s n c, .bool b, .slice t m d]
def IsFrE (e : Int) (x : Value) : Prop := ∃ a s n c b t m d, x = .tuple #[.agg #[.bool a, .slice s n c, .bool b, .slice t m d], .int .i64 e]
def IsNu (x : Value) : Prop := ∃ a s n c, x = .agg #[.bool a, .slice s n c]
def IsNuE (e : Int) (x : Value) : Prop := ∃ a s n c, x = .tuple #[.agg #[.bool a, .slice s n c], .int .i64 e]
def Reg.cat (l : List (Array Value)) : Array Value := (l.flatMap Array.toList).toArray
def IsLi (x : Value) : Prop := ∃ s n c, x = .slice s n c
def GLi (p : List Int → Prop) (x : Value) (W : World) : Prop := ∃ l, p l ∧ Lim W x l
theorem GLi.keeps {p : List Int → Prop} (x : Value) (W W' : World) (k : Keeps W W') (h : GLi p x W) : GLi p x W' := by obtain ⟨l, h1, h2⟩ := h; exact ⟨l, h1, k _ _ h2⟩
theorem GLi.shape {p : List Int → Prop} {x : Value} {W : World} (h : GLi p x W) : ∃ s n c, x = .slice s n c := by obtain ⟨l, _, h2⟩ := h; obtain ⟨s, c, e⟩ := h2.shape; exact ⟨s, _, c, e⟩
def IsPtr (x : Value) : Prop := ∃ g : Nat, x = .pointer (some ⟨g, 0, none⟩)
def GFr (r : Rat) (x : Value) (W : World) : Prop := FR W x r
def GFrE (r : Rat) (e : Int) (x : Value) (W : World) : Prop := ∃ v, x = .tuple #[v, .int .i64 e] ∧ FR W v r
def GNu (z : Int) (x : Value) (W : World) : Prop := Num W x z
def GNuE (z e : Int) (x : Value) (W : World) : Prop := ∃ v, x = .tuple #[v, .int .i64 e] ∧ Num W v z
def GNo (_ : Value) (_ : World) : Prop := True
theorem GFr.keeps {r : Rat} (x : Value) (W W' : World) (k : Keeps W W') (h : GFr r x W) : GFr r x W' := FR.keeps h k
theorem GFrE.keeps {r : Rat} {e : Int} (x : Value) (W W' : World) (k : Keeps W W') (h : GFrE r e x W) : GFrE r e x W' := by obtain ⟨v, h1, h2⟩ := h; exact ⟨v, h1, h2.keeps k⟩
theorem GNu.keeps {z : Int} (x : Value) (W W' : World) (k : Keeps W W') (h : GNu z x W) : GNu z x W' := Num.keeps h k
theorem GNuE.keeps {z e : Int} (x : Value) (W W' : World) (k : Keeps W W') (h : GNuE z e x W) : GNuE z e x W' := by obtain ⟨v, h1, h2⟩ := h; exact ⟨v, h1, h2.keeps k⟩
theorem GNo.keeps (x : Value) (W W' : World) (_ : Keeps W W') (_ : GNo x W) : GNo x W' := trivial
theorem GFrE.get {r : Rat} {e : Int} {v : Value} {W : World} (h : GFrE r e (.tuple #[v, .int .i64 e]) W) : FR W v r := by
  obtain ⟨u, h1, h2⟩ := h
  simp only [Value.tuple.injEq, Array.mk.injEq, List.cons.injEq, and_true] at h1
  rw [h1]; exact h2
theorem GNuE.get {z e : Int} {v : Value} {W : World} (h : GNuE z e (.tuple #[v, .int .i64 e]) W) : Num W v z := by
  obtain ⟨u, h1, h2⟩ := h
  simp only [Value.tuple.injEq, Array.mk.injEq, List.cons.injEq, and_true] at h1
  rw [h1]; exact h2
end Go.Proofs.Ytibdehlmflaodaa
/- Four points: the arrangement that comes before all others (plain Lean). -/
namespace Go.Proofs.Ytibdehlmflaodaa
def cmpL : List Int → List Int → Int
  | x :: xs, y :: ys => if x = y then cmpL xs ys else if x < y then -1 else 1
  | _, _ => 0
theorem cmpL_self : ∀ l : List Int, cmpL l l = 0
  | [] => rfl
  | x :: xs => by rw [cmpL, if_pos rfl]; exact cmpL_self xs
theorem cmpL_trans : ∀ a b c : List Int, cmpL a b < 0 → cmpL b c < 0 → cmpL a c < 0
  | [], _, _, h, _ => by simp [cmpL] at h
  | _ :: _, [], _, h, _ => by simp [cmpL] at h
  | _ :: _, _ :: _, [], _, h => by simp [cmpL] at h
  | x :: xs, y :: ys, z :: zs, h, k => by
    unfold cmpL at h k ⊢
    by_cases g : x = y
    · subst g
      rw [if_pos rfl] at h
      by_cases g2 : x = z
      · rw [if_pos g2] at k ⊢; exact cmpL_trans xs ys zs h k
      · rw [if_neg g2] at k ⊢; exact k
    · rw [if_neg g] at h
      have g1 : x < y := by
        by_cases q : x < y
        · exact q
        · rw [if_neg q] at h; omega
      by_cases g2 : y = z
      · subst g2
        rw [if_neg g, if_pos g1]; decide
      · rw [if_neg g2] at k
        have g3 : y < z := by
          by_cases q : y < z
          · exact q
          · rw [if_neg q] at k; omega
        rw [if_neg (by omega), if_pos (by omega)]; decide
structure Arr where
  k0 : Int
  k1 : Int
  k2 : Int
  k3 : Int
  a1 : Int
  a2 : Int
  b1 : Int
  b2 : Int
  n : Int
deriving DecidableEq
def Arr.key (a : Arr) : List Int := [a.a1 + a.b1, a.a1, a.a2, a.b1, a.b2, a.k0, a.k1, a.k2, a.k3]
def cmpA (a b : Arr) : Int := cmpL a.key b.key
def noArr : Arr := ⟨0, 0, 0, 0, 0, 0, 0, 0, 0⟩
def Arr.beats (a b : Arr) : Bool := decide (b.n < a.n) || (a.n == b.n && (decide (0 < a.n) && decide (cmpA a b < 0)))
theorem beats_iff {a b : Arr} : a.beats b = true ↔ b.n < a.n ∨ (a.n = b.n ∧ 0 < a.n ∧ cmpA a b < 0) := by
  unfold Arr.beats
  simp only [Bool.or_eq_true, decide_eq_true_eq, Bool.and_eq_true, beq_iff_eq]
theorem beats_trans {a b c : Arr} (h : a.beats b = true) (k : b.beats c = true) : a.beats c = true := by
  rw [beats_iff] at *
  rcases h with h | ⟨h1, h2, h3⟩ <;> rcases k with k | ⟨k1, k2, k3⟩
  · exact .inl (by omega)
  · exact .inl (by omega)
  · exact .inl (by omega)
  · exact .inr ⟨by omega, h2, cmpL_trans _ _ _ h3 k3⟩
theorem beats_self (a : Arr) : a.beats a = false := by
  cases h : a.beats a
  · rfl
  · rw [beats_iff] at h
    unfold cmpA at h
    rw [cmpL_self] at h
    omega
def best (l : List Arr) : Arr := l.foldl (fun b a => if a.beats b then a else b) noArr
theorem best_append (l : List Arr) (a : Arr) : best (l ++ [a]) = if a.beats (best l) then a else best l := by unfold best; rw [List.foldl_append]; rfl
theorem best_spec (l : List Arr) (h0 : ∀ a ∈ l, 0 ≤ a.n) : (best l = noArr ∧ ∀ a ∈ l, a.n = 0) ∨ (best l ∈ l ∧ 0 < (best l).n ∧ ∀ a ∈ l, a.beats (best l) = false) := by
  have key : ∀ l r : List Arr, l = r.reverse → (∀ a ∈ l, 0 ≤ a.n) → (best l = noArr ∧ ∀ a ∈ l, a.n = 0) ∨ (best l ∈ l ∧ 0 < (best l).n ∧ ∀ a ∈ l, a.beats (best l) = false) := by
    intro l r
    induction r generalizing l with
    | nil => rintro rfl _; exact .inl ⟨rfl, fun a h => by simp at h⟩
    | cons x r ih =>
      rintro rfl h0
      rw [List.reverse_cons] at h0 ⊢
      rw [best_append]
      have hx := h0 x (by simp)
      cases hb : x.beats (best r.reverse)
      · rw [if_neg (by simp)]
        rcases ih _ rfl (fun a ha => h0 a (List.mem_append_left _ ha)) with ⟨h1, h2⟩ | ⟨h1, h2, h3⟩
        · refine .inl ⟨h1, fun a ha => ?_⟩
          rcases List.mem_append.1 ha with g | g
          · exact h2 a g
          · rw [List.mem_singleton] at g; subst g
            rw [h1] at hb
            have : ¬ a.beats noArr = true := by simp [hb]
            rw [beats_iff] at this
            simp only [noArr] at this
            omega
        · refine .inr ⟨List.mem_append_left _ h1, h2, fun a ha => ?_⟩
          rcases List.mem_append.1 ha with g | g
          · exact h3 a g
          · rw [List.mem_singleton] at g; subst g; exact hb
      · rw [if_pos rfl]
        refine .inr ⟨by simp, ?_, fun a ha => ?_⟩
        · rcases ih _ rfl (fun a ha => h0 a (List.mem_append_left _ ha)) with ⟨h1, h2⟩ | ⟨h1, h2, h3⟩
          · rw [h1] at hb
            rw [beats_iff] at hb
            simp only [noArr] at hb
            omega
          · rw [beats_iff] at hb; omega
        · rcases List.mem_append.1 ha with g | g
          · rcases ih _ rfl (fun a ha => h0 a (List.mem_append_left _ ha)) with ⟨h1, h2⟩ | ⟨h1, h2, h3⟩
            · cases hc : a.beats x
              · rfl
              · rw [beats_iff] at hc
                have := h2 a g
                omega
            · cases hc : a.beats x
              · rfl
              · have := beats_trans hc hb
                rw [h3 a g] at this; cases this
          · rw [List.mem_singleton] at g; subst g; exact beats_self a
  exact key l l.reverse (by rw [List.reverse_reverse]) h0
def bestR (N : Int) (l : List Arr) : Option Arr := l.foldl (fun b a => if a.n = N then (match b with | none => some a | some c => if cmpA a c < 0 then some a else some c) else b) none
theorem best_none (l : List Arr) (h0 : ∀ a ∈ l, a.n = 0) : best l = noArr := by
  rcases best_spec l (fun a ha => by rw [h0 a ha]; omega) with ⟨h, -⟩ | ⟨h1, h2, -⟩
  · exact h
  · have := h0 _ h1; omega
theorem best_n (l : List Arr) (h0 : ∀ a ∈ l, 0 ≤ a.n) (hex : ∃ a ∈ l, 0 < a.n) : best l ∈ l ∧ 0 < (best l).n ∧ ∀ a ∈ l, a.beats (best l) = false := by
  rcases best_spec l h0 with ⟨-, h⟩ | h
  · obtain ⟨a, h1, h2⟩ := hex
    have := h a h1; omega
  · exact h
abbrev P4 := Nat × Nat × Nat × Nat
def perms4 : List P4 := (List.range 4).flatMap fun a => (List.range 4).flatMap fun b => (List.range 4).filterMap fun c => if a ≠ b ∧ a ≠ c ∧ b ≠ c then some (a, b, c, 6 - a - b - c) else none
def upto4 (a b c : Nat) : List P4 := perms4.filter fun p => decide (16 * p.1 + 4 * p.2.1 + p.2.2.1 < 16 * a + 4 * b + c)
theorem upto4_c : ∀ a, a < 4 → ∀ b, b < 4 → ∀ c, c < 4 → upto4 a b (c + 1) = if a ≠ b ∧ a ≠ c ∧ b ≠ c then upto4 a b c ++ [(a, b, c, 6 - a - b - c)] else upto4 a b c := by
  intro a ha b hb c hc
  rcases (show a = 0 ∨ a = 1 ∨ a = 2 ∨ a = 3 by omega) with rfl | rfl | rfl | rfl <;> rcases (show b = 0 ∨ b = 1 ∨ b = 2 ∨ b = 3 by omega) with rfl | rfl | rfl | rfl <;> rcases (show c = 0 ∨ c = 1 ∨ c = 2 ∨ c = 3 by omega) with rfl | rfl | rfl | rfl <;> decide
theorem upto4_b : ∀ a, a < 4 → ∀ b, b < 4 → upto4 a b 4 = upto4 a (b + 1) 0 := by
  intro a ha b hb
  rcases (show a = 0 ∨ a = 1 ∨ a = 2 ∨ a = 3 by omega) with rfl | rfl | rfl | rfl <;> rcases (show b = 0 ∨ b = 1 ∨ b = 2 ∨ b = 3 by omega) with rfl | rfl | rfl | rfl <;> decide
theorem upto4_a : ∀ a, a < 4 → upto4 a 4 0 = upto4 (a + 1) 0 0 := by decide
theorem upto4_0 : upto4 0 0 0 = [] := by decide
theorem upto4_all : upto4 4 0 0 = perms4 := by decide
theorem perms4_ok : ∀ p ∈ perms4, p.1 < 4 ∧ p.2.1 < 4 ∧ p.2.2.1 < 4 ∧ p.2.2.2 < 4 ∧ p.1 ≠ p.2.1 ∧ p.1 ≠ p.2.2.1 ∧ p.1 ≠ p.2.2.2 ∧ p.2.1 ≠ p.2.2.1 ∧ p.2.1 ≠ p.2.2.2 ∧ p.2.2.1 ≠ p.2.2.2 := by decide
theorem perms4_pair : ∀ a, a < 4 → ∀ b, b < 4 → a ≠ b → ∃ p ∈ perms4, p.1 = a ∧ p.2.1 = b := by decide
end Go.Proofs.Ytibdehlmflaodaa
/- Four points: the arrangements' numbers (plain Lean). -/
namespace Go.Proofs.Ytibdehlmflaodaa
def cre (ux uy vx vy : Int) : Int := vx * ux + vy * uy
def cim (ux uy vx vy : Int) : Int := vy * ux - vx * uy
def csq (ux uy : Int) : Int := ux * ux + uy * uy
def at4 (k0 k1 k2 k3 i : Nat) : Nat := match i with | 0 => k0 | 1 => k1 | 2 => k2 | _ => k3
abbrev PL := List (Int × Int)
def pt (l : PL) (k : Nat) : Int × Int := l.getD k (0, 0)
def sqd (p q : Int × Int) : Int := csq (q.1 - p.1) (q.2 - p.2)
theorem sqd_symm (p q : Int × Int) : sqd p q = sqd q p := by
  unfold sqd csq
  have h1 : q.1 - p.1 = -(p.1 - q.1) := by omega
  have h2 : q.2 - p.2 = -(p.2 - q.2) := by omega
  rw [h1, h2, Int.neg_mul_neg, Int.neg_mul_neg]
theorem csq_nonneg (x y : Int) : 0 ≤ csq x y := by
  unfold csq
  have h1 : 0 ≤ x * x := by rcases Int.le_total 0 x with h | h; exact Int.mul_nonneg h h; exact Int.mul_nonneg_of_nonpos_of_nonpos h h
  have h2 : 0 ≤ y * y := by rcases Int.le_total 0 y with h | h; exact Int.mul_nonneg h h; exact Int.mul_nonneg_of_nonpos_of_nonpos h h
  omega
theorem sqd_nonneg (p q : Int × Int) : 0 ≤ sqd p q := csq_nonneg _ _
def arr4 (k0 k1 k2 k3 : Nat) (p0 p1 p2 p3 : Int × Int) : Arr :=
  ⟨k0, k1, k2, k3, cre (p1.1 - p0.1) (p1.2 - p0.2) (p2.1 - p0.1) (p2.2 - p0.2), cim (p1.1 - p0.1) (p1.2 - p0.2) (p2.1 - p0.1) (p2.2 - p0.2),
    cre (p1.1 - p0.1) (p1.2 - p0.2) (p3.1 - p0.1) (p3.2 - p0.2), cim (p1.1 - p0.1) (p1.2 - p0.2) (p3.1 - p0.1) (p3.2 - p0.2), sqd p0 p1⟩
def arrOf (l : PL) (K : Nat → Nat) (p : P4) : Arr := arr4 (K p.1) (K p.2.1) (K p.2.2.1) (K p.2.2.2) (pt l (K p.1)) (pt l (K p.2.1)) (pt l (K p.2.2.1)) (pt l (K p.2.2.2))
def dst (l : PL) (K : Nat → Nat) (i k : Nat) : Int := sqd (pt l (K i)) (pt l (K k))
def wid (l : PL) (K : Nat → Nat) : Int :=
  max (max (max (max (max (max 0 (dst l K 1 0)) (dst l K 2 0)) (dst l K 2 1)) (dst l K 3 0)) (dst l K 3 1)) (dst l K 3 2)
theorem dst_symm (l : PL) (K : Nat → Nat) (i k : Nat) : dst l K i k = dst l K k i := sqd_symm _ _
theorem dst_le (l : PL) (K : Nat → Nat) {i k : Nat} (hi : i < 4) (hk : k < 4) (hne : i ≠ k) : dst l K i k ≤ wid l K := by
  have a := dst_symm l K 0 1
  have b := dst_symm l K 0 2
  have c := dst_symm l K 0 3
  have d := dst_symm l K 1 2
  have e := dst_symm l K 1 3
  have f := dst_symm l K 2 3
  unfold wid
  rcases (show i = 0 ∨ i = 1 ∨ i = 2 ∨ i = 3 by omega) with rfl | rfl | rfl | rfl <;> rcases (show k = 0 ∨ k = 1 ∨ k = 2 ∨ k = 3 by omega) with rfl | rfl | rfl | rfl <;> first | exact absurd rfl hne | omega
theorem wid_nonneg (l : PL) (K : Nat → Nat) : 0 ≤ wid l K := by unfold wid; omega
theorem wid_ex (l : PL) (K : Nat → Nat) (h : 0 < wid l K) : ∃ i k, i < 4 ∧ k < 4 ∧ i ≠ k ∧ dst l K i k = wid l K := by
  have key : wid l K = 0 ∨ wid l K = dst l K 1 0 ∨ wid l K = dst l K 2 0 ∨ wid l K = dst l K 2 1 ∨ wid l K = dst l K 3 0 ∨ wid l K = dst l K 3 1 ∨ wid l K = dst l K 3 2 := by unfold wid; omega
  rcases key with e | e | e | e | e | e | e
  · omega
  · exact ⟨1, 0, by decide, by decide, by decide, e.symm⟩
  · exact ⟨2, 0, by decide, by decide, by decide, e.symm⟩
  · exact ⟨2, 1, by decide, by decide, by decide, e.symm⟩
  · exact ⟨3, 0, by decide, by decide, by decide, e.symm⟩
  · exact ⟨3, 1, by decide, by decide, by decide, e.symm⟩
  · exact ⟨3, 2, by decide, by decide, by decide, e.symm⟩
def arrs (l : PL) (K : Nat → Nat) : List Arr := perms4.map (arrOf l K)
theorem arrs_nonneg (l : PL) (K : Nat → Nat) : ∀ a ∈ arrs l K, 0 ≤ a.n := by
  intro a ha
  obtain ⟨p, -, rfl⟩ := List.mem_map.1 ha
  exact sqd_nonneg _ _
theorem arrs_le (l : PL) (K : Nat → Nat) : ∀ a ∈ arrs l K, a.n ≤ wid l K := by
  intro a ha
  obtain ⟨p, hp, rfl⟩ := List.mem_map.1 ha
  obtain ⟨h1, h2, -, -, h3, -⟩ := perms4_ok p hp
  exact dst_le l K h1 h2 h3
theorem arrs_ex (l : PL) (K : Nat → Nat) (h : 0 < wid l K) : ∃ a ∈ arrs l K, a.n = wid l K := by
  obtain ⟨i, k, hi, hk, hne, e⟩ := wid_ex l K h
  obtain ⟨p, hp, rfl, rfl⟩ := perms4_pair i hi k hk hne
  exact ⟨_, List.mem_map.2 ⟨p, hp, rfl⟩, e⟩
def bestOf (l : PL) (K : Nat → Nat) : Arr := best (arrs l K)
theorem bestOf_none (l : PL) (K : Nat → Nat) (h : wid l K = 0) : bestOf l K = noArr :=
  best_none _ fun a ha => by have := arrs_nonneg l K a ha; have := arrs_le l K a ha; omega
theorem bestOf_spec (l : PL) (K : Nat → Nat) (h : 0 < wid l K) : bestOf l K ∈ arrs l K ∧ (bestOf l K).n = wid l K ∧ ∀ a ∈ arrs l K, a.beats (bestOf l K) = false := by
  obtain ⟨a, ha, hn⟩ := arrs_ex l K h
  obtain ⟨h1, h2, h3⟩ := best_n _ (arrs_nonneg l K) ⟨a, ha, by omega⟩
  refine ⟨h1, ?_, h3⟩
  have h4 := arrs_le l K _ h1
  have h5 := h3 a ha
  rcases (show (bestOf l K).n < wid l K ∨ (bestOf l K).n = wid l K by unfold bestOf at *; omega) with g | g
  · have : a.beats (best (arrs l K)) = true := beats_iff.2 (.inl (by unfold bestOf at g; omega))
    rw [h5] at this; cases this
  · exact g
end Go.Proofs.Ytibdehlmflaodaa
/- Four points: other orders of the indices, and moved points (plain Lean). -/
namespace Go.Proofs.Ytibdehlmflaodaa
def K' (K : Nat → Nat) (i : Nat) : Nat := K (at4 2 0 3 1 i)
def Arr.scale (s : Int) (a : Arr) : Arr := ⟨a.k0, a.k1, a.k2, a.k3, s * a.a1, s * a.a2, s * a.b1, s * a.b2, s * a.n⟩
def mv (re im dx dy : Int) (p : Int × Int) : Int × Int := (p.1 * re - p.2 * im + dx, p.1 * im + p.2 * re + dy)
end Go.Proofs.Ytibdehlmflaodaa
/- Four points: the code of the best arrangement lies within its bounds (plain Lean). -/
namespace Go.Proofs.Ytibdehlmflaodaa
theorem sq_nonneg' (x : Int) : 0 ≤ x * x := by
  rcases Int.le_total 0 x with h | h
  · exact Int.mul_nonneg h h
  · exact Int.mul_nonneg_of_nonpos_of_nonpos h h
theorem sq_lt' {x y : Int} (h0 : 0 ≤ x) (h : x < y) : x * x < y * y := by
  have h1 : 0 < (y - x) * (y + x) := Int.mul_pos (by omega) (by omega)
  simp only [Int.sub_mul, Int.mul_add] at h1
  have h2 : x * y = y * x := Int.mul_comm x y
  omega
theorem abs_of_sq {x n : Int} (hn : 0 ≤ n) (h : x * x ≤ n * n) : -n ≤ x ∧ x ≤ n := by
  constructor
  · rcases (show x < -n ∨ -n ≤ x by omega) with g | g
    · have := sq_lt' hn (show n < -x by omega)
      rw [Int.neg_mul_neg] at this
      omega
    · exact g
  · rcases (show n < x ∨ x ≤ n by omega) with g | g
    · have := sq_lt' hn g
      omega
    · exact g
theorem within {ux uy vx vy : Int} (h1 : csq vx vy ≤ csq ux uy) (h2 : csq (vx - ux) (vy - uy) ≤ csq ux uy) :
    (0 ≤ cre ux uy vx vy ∧ cre ux uy vx vy ≤ csq ux uy) ∧ (-csq ux uy ≤ cim ux uy vx vy ∧ cim ux uy vx vy ≤ csq ux uy) := by
  have n0 := csq_nonneg ux uy
  have v0 := csq_nonneg vx vy
  have d0 := csq_nonneg (vx - ux) (vy - uy)
  have e : csq (vx - ux) (vy - uy) = csq vx vy - 2 * cre ux uy vx vy + csq ux uy := by
    unfold csq cre; simp only [Int.sub_mul, Int.mul_sub]; simp only [Int.mul_comm ux vx, Int.mul_comm uy vy]; omega
  have q : cre ux uy vx vy * cre ux uy vx vy + cim ux uy vx vy * cim ux uy vx vy = csq ux uy * csq vx vy := by
    unfold csq cre cim; simp only [Int.sub_mul, Int.mul_sub, Int.add_mul, Int.mul_add]; simp only [Int.mul_comm, Int.mul_left_comm, Int.mul_assoc]; omega
  have m := Int.mul_le_mul_of_nonneg_left h1 n0
  have s1 := sq_nonneg' (cre ux uy vx vy)
  have s2 := sq_nonneg' (cim ux uy vx vy)
  have a := abs_of_sq (x := cre ux uy vx vy) n0 (by omega)
  have b := abs_of_sq (x := cim ux uy vx vy) n0 (by omega)
  exact ⟨⟨by omega, a.2⟩, b⟩
theorem cre_swap (x0 y0 x1 y1 x2 y2 : Int) : cre (x0 - x1) (y0 - y1) (x2 - x1) (y2 - y1) = csq (x1 - x0) (y1 - y0) - cre (x1 - x0) (y1 - y0) (x2 - x0) (y2 - y0) := by
  unfold cre csq; simp only [Int.sub_mul, Int.mul_sub]; simp only [Int.mul_comm x1 x0, Int.mul_comm y1 y0, Int.mul_comm x2 x1, Int.mul_comm y2 y1, Int.mul_comm x2 x0, Int.mul_comm y2 y0]; omega
theorem csq_swap (x0 y0 x1 y1 : Int) : csq (x0 - x1) (y0 - y1) = csq (x1 - x0) (y1 - y0) := by
  unfold csq; simp only [Int.sub_mul, Int.mul_sub]; simp only [Int.mul_comm x1 x0, Int.mul_comm y1 y0]; omega
theorem cmpL_lt {x y : Int} {a b : List Int} (h : x < y) : cmpL (x :: a) (y :: b) < 0 := by
  rw [cmpL, if_neg (by omega), if_pos h]; decide
theorem best_arr {l : PL} {K : Nat → Nat} (h : 0 < wid l K) : ∃ p ∈ perms4, bestOf l K = arrOf l K p := by
  obtain ⟨p, hp, e⟩ := List.mem_map.1 (bestOf_spec l K h).1
  exact ⟨p, hp, e.symm⟩
theorem sub_sub1 (a b c : Int) : a - b - (c - b) = a - c := by omega
theorem best_in {l : PL} {K : Nat → Nat} (h : 0 < wid l K) :
    (0 ≤ (bestOf l K).a1 ∧ (bestOf l K).a1 ≤ (bestOf l K).n) ∧ (-(bestOf l K).n ≤ (bestOf l K).a2 ∧ (bestOf l K).a2 ≤ (bestOf l K).n) ∧
    (0 ≤ (bestOf l K).b1 ∧ (bestOf l K).b1 ≤ (bestOf l K).n) ∧ (-(bestOf l K).n ≤ (bestOf l K).b2 ∧ (bestOf l K).b2 ≤ (bestOf l K).n) ∧ (bestOf l K).a1 + (bestOf l K).b1 ≤ (bestOf l K).n := by
  obtain ⟨hm, hn, hb⟩ := bestOf_spec l K h
  obtain ⟨p, hp, e⟩ := best_arr h
  obtain ⟨q0, q1, q2, q3, n01, n02, n03, n12, n13, n23⟩ := perms4_ok p hp
  have d02 := dst_le l K q0 q2 n02
  have d12 := dst_le l K q1 q2 n12
  have d03 := dst_le l K q0 q3 n03
  have d13 := dst_le l K q1 q3 n13
  -- the arrangement with A and B exchanged
  obtain ⟨p', hp', e0, e1⟩ : ∃ p' ∈ perms4, (p'.1 = p.2.1 ∧ p'.2.1 = p.1) ∧ (p'.2.2.1 = p.2.2.1 ∧ p'.2.2.2 = p.2.2.2) := by
    have : ∀ p ∈ perms4, ∃ p' ∈ perms4, (p'.1 = p.2.1 ∧ p'.2.1 = p.1) ∧ (p'.2.2.1 = p.2.2.1 ∧ p'.2.2.2 = p.2.2.2) := by decide
    exact this p hp
  have hb' := hb _ (List.mem_map.2 ⟨p', hp', rfl⟩)
  rw [← hn] at d02 d12 d03 d13
  rw [e] at d02 d12 d03 d13 hb' ⊢
  obtain ⟨p0, p1, p2, p3⟩ := p
  obtain ⟨p0', p1', p2', p3'⟩ := p'
  dsimp only at e0 e1
  obtain ⟨rfl, rfl⟩ := e0
  obtain ⟨rfl, rfl⟩ := e1
  unfold arrOf dst sqd at *
  dsimp only at d02 d12 d03 d13 hb' ⊢
  generalize pt l (K p1') = P0 at *
  generalize pt l (K p0') = P1 at *
  generalize pt l (K p2') = P2 at *
  generalize pt l (K p3') = P3 at *
  obtain ⟨x0, y0⟩ := P0
  obtain ⟨x1, y1⟩ := P1
  obtain ⟨x2, y2⟩ := P2
  obtain ⟨x3, y3⟩ := P3
  unfold arr4 sqd at *
  dsimp only at d02 d12 d03 d13 hb' ⊢
  have w2 := within (ux := x1 - x0) (uy := y1 - y0) (vx := x2 - x0) (vy := y2 - y0) d02 (by rw [sub_sub1, sub_sub1]; exact d12)
  have w3 := within (ux := x1 - x0) (uy := y1 - y0) (vx := x3 - x0) (vy := y3 - y0) d03 (by rw [sub_sub1, sub_sub1]; exact d13)
  refine ⟨w2.1, w2.2, w3.1, w3.2, ?_⟩
  rcases (show cre (x1 - x0) (y1 - y0) (x2 - x0) (y2 - y0) + cre (x1 - x0) (y1 - y0) (x3 - x0) (y3 - y0) ≤ csq (x1 - x0) (y1 - y0) ∨ csq (x1 - x0) (y1 - y0) < cre (x1 - x0) (y1 - y0) (x2 - x0) (y2 - y0) + cre (x1 - x0) (y1 - y0) (x3 - x0) (y3 - y0) by omega) with g | g
  · exact g
  · exfalso
    refine Bool.noConfusion (hb'.symm.trans (beats_iff.2 (.inr ⟨csq_swap _ _ _ _, ?_, ?_⟩)))
    · dsimp only; rw [csq_swap x0 y0 x1 y1]; rw [← hn, e] at h; exact h
    · unfold cmpA Arr.key
      dsimp only
      refine cmpL_lt ?_
      rw [cre_swap x0 y0 x1 y1 x2 y2, cre_swap x0 y0 x1 y1 x3 y3]
      omega
end Go.Proofs.Ytibdehlmflaodaa
