import Derived.Test.YtibdehlmflaodaaGreatNTl
import Derived.Test.YtibdehlmflaodaaGreatNNe
set_option linter.unusedVariables false
set_option linter.unusedSimpArgs false
set_option maxHeartbeats 6400000
set_option maxRecDepth 1000000
namespace Go.Proofs.YtibdehlmflaodaaGreat
open Go.RowKit
theorem wto {va vb : Value} {x y : Int} (w : World) (ha : Num w va x) (hb : Num w vb y) (fx : fits x) (fy : fits y) :
  Calls Tryz.prog 93 #[va, vb] w fun e w' => e = .returned (.int .i64 (cmpI x y)) ∧ Steps w w' := by
 obtain ⟨aa, ca, rfl, pa⟩ := ha.parts
 obtain ⟨ab, cb, rfl, pb⟩ := hb.parts
 unfold fits at fx fy
 have nx : (limbs (absN x)).length ≤ few := by unfold few; omega
 have ny : (limbs (absN y)).length ≤ few := by unfold few; omega
 obtain ⟨n, hn⟩ : ∃ n, (limbs (absN x)).length = n := ⟨_, rfl⟩
 obtain ⟨m, hm⟩ : ∃ m, (limbs (absN y)).length = m := ⟨_, rfl⟩
 rw [hn] at pa ⊢
 rw [hm] at pb ⊢
 clear ha hb
 rcases Int.lt_or_le x 0 with h1 | h1
 ·
  have e1 : decide (x < 0) = true := by simp [h1]
  rcases Int.lt_or_le y 0 with h2 | h2
  ·
   have e2 : decide (y < 0) = true := by simp [h2]
   have E := Hid.mk_ (cmpN_neg x y h1 h2)
   rw [e1, e2]
   clear hn hm e1 e2 h1 h2
   go_enter Tryz.func93, Tryz.ntmps93
   go_wp2_with fail
   refine (wcompare _ (pb.steps belowB) (pa.steps belowB) (absN_nonneg _) (absN_nonneg _) ny nx).mono ?_
   rintro e w1 ⟨rfl, hs1⟩
   go_wp2
   go_returns
   exact ⟨retI E.out, (show Below _ _ _ from belowB).trans (hs1.mono (by simp only [World.size_alloc]; omega))⟩
  ·
   have e2 : decide (y < 0) = false := by simp; omega
   have E : Hid (cmpI x y = -1) := by show cmpI x y = -1; unfold cmpI; rw [if_neg (by omega), if_pos (by omega)]
   rw [e1, e2]
   clear hn hm e1 e2 h1 h2
   go_enter Tryz.func93, Tryz.ntmps93
   go_wp2
   go_returns
   exact ⟨retI E.out.symm, belowB⟩
 ·
  have e1 : decide (x < 0) = false := by simp; omega
  rcases Int.lt_or_le y 0 with h2 | h2
  ·
   have e2 : decide (y < 0) = true := by simp [h2]
   have E : Hid (cmpI x y = 1) := by show cmpI x y = 1; unfold cmpI; rw [if_neg (by omega), if_neg (by omega)]
   rw [e1, e2]
   clear hn hm e1 e2 h1 h2
   go_enter Tryz.func93, Tryz.ntmps93
   go_wp2
   go_returns
   exact ⟨retI E.out.symm, belowB⟩
  ·
   have e2 : decide (y < 0) = false := by simp; omega
   have E := Hid.mk_ (cmpN_pos x y h1 h2)
   rw [e1, e2]
   clear hn hm e1 e2 h1 h2
   go_enter Tryz.func93, Tryz.ntmps93
   go_wp2_with fail
   refine (wcompare _ (pa.steps belowB) (pb.steps belowB) (absN_nonneg _) (absN_nonneg _) nx ny).mono ?_
   rintro e w1 ⟨rfl, hs1⟩
   go_wp2
   go_returns
   exact ⟨retI E.out, (show Below _ _ _ from belowB).trans (hs1.mono (by simp only [World.size_alloc]; omega))⟩
theorem fzero {va : Value} {x : Int} (w : World) (ha : Num w va x) : Calls Tryz.prog 43 #[va] w fun e w' => e = .returned (.bool (decide (x = 0))) ∧ Steps w w' := by
 obtain ⟨aa, ca, rfl, pa⟩ := ha.parts
 have h0 := limbs_nil (absN_nonneg x)
 obtain ⟨n, hn⟩ : ∃ n, (limbs (absN x)).length = n := ⟨_, rfl⟩
 rw [hn]
 have E : Hid (((n : Int) == 0) = decide (x = 0)) := by
  show ((n : Int) == 0) = decide (x = 0)
  have h1 : n = 0 ↔ x = 0 := by
   rw [← hn, List.length_eq_zero_iff, h0]; unfold absN; omega
  by_cases h : x = 0
  · rw [decide_eq_true h, h1.2 h]; rfl
  ·
   have : ¬ n = 0 := fun e => h (h1.1 e)
   rw [decide_eq_false h]; simp [this]
 clear hn h0 ha pa
 go_enter Tryz.func43, Tryz.ntmps43
 go_wp2
 go_returns
 exact ⟨retB E.out, (show Below _ _ _ from (Below.refl _ _).alloc (Nat.le_refl _) _)⟩
theorem errC_eq {p : Prop} [Decidable p] : errC p = if p then 0 else 8 := rfl
theorem wcheck {n B cap : Nat} {ng : Nat → Bool} {sv : Nat → Value} {ls : Nat → List Int} (w : World) (hn : n ≤ 1000) (hB : B < w.heap.size)
  (hc : ∀ k, k < n → w.cell? ⟨B, k * 2, none⟩ = some (.bool (ng k)) ∧ w.cell? ⟨B, k * 2 + 1, none⟩ = some (sv k) ∧ Lim w (sv k) (ls k)) :
  Calls Tryz.prog 54 #[.slice (some ⟨B, 0, none⟩) n cap] w fun e w' => (e = .returned (.int .i64 0) ∧ (∀ k, k < n → valid (ng k) (ls k)) ∨ e = .returned (.int .i64 8) ∧ ∃ k, k < n ∧ ¬ valid (ng k) (ls k)) ∧ Steps w w' := by
 go_enter Tryz.func54, Tryz.ntmps54
 go_wp2
 go_loopw [4, 5, 8] (fun p l kk wr => ∃ k : Nat, k ≤ n ∧ kk = .int .i64 k ∧ (∀ i, i < k → valid (ng i) (ls i)) ∧ Below w.heap.size w wr) (fun _ _ k _ => n - (intOf k).toNat)
 case atStart => exact ⟨0, Nat.zero_le _, rfl, fun i h => absurd h (Nat.not_lt_zero i), Below.refl _ _⟩
 case round =>
  obtain ⟨k, hk, rfl, hv, hnx⟩ := hrel
  have Z := hnx.size
  rcases Nat.lt_or_ge k n with h1 | h1
  ·
   obtain ⟨c1, c2, hL⟩ := hc k h1
   have c1' := (hnx.cell (p := ⟨B, k * 2, none⟩) hB).trans c1
   have c2' := (hnx.cell (p := ⟨B, k * 2 + 1, none⟩) hB).trans c2
   obtain ⟨g, hg⟩ : ∃ g, ng k = g := ⟨_, rfl⟩
   obtain ⟨l, hl⟩ : ∃ l, ls k = l := ⟨_, rfl⟩
   rw [hl] at hL
   obtain ⟨ao, lc, hsv⟩ := hL.shape
   rw [hsv] at hL c2'
   rw [hg] at c1'
   obtain ⟨ok, -, lcap, fc⟩ := hL.cells
   obtain ⟨len, hlen⟩ : ∃ m, l.length = m := ⟨_, rfl⟩
   rw [hlen] at c2' lcap fc
   have bad : ¬ valid g l → ∃ k, k < n ∧ ¬ valid (ng k) (ls k) := fun h => ⟨k, h1, by rw [hg, hl]; exact h⟩
   have good : valid g l → ∀ i, i < k + 1 → valid (ng i) (ls i) := fun h i hi => by
    rcases Nat.lt_or_ge i k with q | q
    · exact hv i q
    ·
     obtain rfl : i = k := by omega
     rw [hg, hl]; exact h
   have HGd := Hid.mk_ good
   have HBd := Hid.mk_ bad
   have HN := Hid.mk_ hnx
   clear c1 c2 hc hL hsv hg hl good bad hv
   rcases Nat.lt_or_ge 4096 len with q1 | q1
   ·
    have hX := Hid.mk_ (HBd.out (fun h => by have := h.1; omega))
    clear fc
    go_wp2
    go_returns
    exact ⟨Or.inr ⟨rfl, hX.out⟩, HN.out.alloc Z _⟩
   ·
    match len, hlen with
    | 0, hlen =>
     obtain rfl := List.eq_nil_of_length_eq_zero hlen
     clear fc
     cases g
     ·
      have hX := Hid.mk_ (HGd.out ⟨by simp, rfl, fun _ => rfl⟩)
      go_wp2
      go_roundw
      case rel => exact ⟨k + 1, by omega, by go_num, hX.out, HN.out.alloc Z _⟩
      case measure => simp [intOf]; omega
     ·
      have hX := Hid.mk_ (HBd.out (fun h => by have := h.2.2 rfl; cases this))
      go_wp2
      go_returns
      exact ⟨Or.inr ⟨rfl, hX.out⟩, HN.out.alloc Z _⟩
    | j + 1, hlen =>
     obtain ⟨b, o, rfl, hb, hcc⟩ := fc (by omega)
     have hi := ltrim_iff hlen
     have g := hcc j (by omega)
     obtain ⟨x, hx⟩ : ∃ x, l.getD j 0 = x := ⟨_, rfl⟩
     rw [hx] at g hi
     have g1 := (hnx.cell (p := ⟨b, o + j, none⟩) hb).trans g
     have hbr : b < wr.heap.size := Nat.lt_of_lt_of_le hb Z
     have hne : l ≠ [] := by rintro rfl; cases hlen
     have g2 := Hid.mk_ g1
     have g3 : ∀ os : Obj, (wr.alloc os).cell? ⟨b, o + j, none⟩ = some (.int .u32 x) := fun os => by
      rw [← g1]; exact World.cell?_of_block (Below.heap_alloc _ _ _ hbr)
     clear hcc fc g
     rcases Int.decEq x 0 with h2 | h2
     ·
      have hx0 : (x == 0) = false := by simp [h2]
      have hX := Hid.mk_ (HGd.out ⟨by omega, hi.2 h2, fun e => absurd e hne⟩)
      clear hi hx
      go_wp2
      go_roundw
      case rel => exact ⟨k + 1, by omega, by go_num, hX.out, HN.out.alloc Z _⟩
      case measure => simp [intOf]; omega
     ·
      have hX := Hid.mk_ (HBd.out (fun h => hi.1 h.2.1 h2))
      clear hi hx
      subst h2
      go_wp2
      go_returns
      exact ⟨Or.inr ⟨rfl, hX.out⟩, HN.out.alloc Z _⟩
  ·
   have hkn : k = n := by omega
   subst hkn
   have HV := Hid.mk_ hv
   clear hv hc
   go_wp2
   go_returns
   exact ⟨Or.inl ⟨rfl, HV.out⟩, hnx⟩
theorem wcheck2 {B : Nat} {T : TypeId} {na nb : Bool} {sa sb : Value} {la lb : List Int} (w : World) (hb : Blk w B T #[.bool na, sa, .bool nb, sb]) (h1 : Lim w sa la) (h2 : Lim w sb lb) :
  Calls Tryz.prog 54 #[.slice (some ⟨B, 0, none⟩) 2 2] w fun e w' => e = .returned (.int .i64 (errC (valid na la ∧ valid nb lb))) ∧ Steps w w' := by
 have C := wcheck (n := 2) (B := B) (cap := 2) (ng := fun k => if k = 0 then na else nb) (sv := fun k => if k = 0 then sa else sb) (ls := fun k => if k = 0 then la else lb) w (by omega) hb.lt (fun k hk => by
  match k, hk with
  | 0, _ => exact ⟨hb.c 0 rfl, hb.c 1 rfl, h1⟩
  | 1, _ => exact ⟨hb.c 2 rfl, hb.c 3 rfl, h2⟩)
 refine C.mono ?_
 rintro e w' ⟨⟨rfl, hv⟩ | ⟨rfl, k, hk, hv⟩, hs⟩
 · exact ⟨retI (show (0 : Int) = errC _ from (if_pos ⟨hv 0 (by omega), hv 1 (by omega)⟩).symm), hs⟩
 ·
  refine ⟨retI (show (8 : Int) = errC _ from (if_neg (fun h => ?_)).symm), hs⟩
  match k, hk, hv with
  | 0, _, hv => exact hv h.1
  | 1, _, hv => exact hv h.2
theorem wcheck1 {B : Nat} {T : TypeId} {na : Bool} {sa : Value} {la : List Int} (w : World) (hb : Blk w B T #[.bool na, sa]) (h1 : Lim w sa la) :
  Calls Tryz.prog 54 #[.slice (some ⟨B, 0, none⟩) 1 1] w fun e w' => e = .returned (.int .i64 (errC (valid na la))) ∧ Steps w w' := by
 have C := wcheck (n := 1) (B := B) (cap := 1) (ng := fun _ => na) (sv := fun _ => sa) (ls := fun _ => la) w (by omega) hb.lt (fun k hk => by
  match k, hk with
  | 0, _ => exact ⟨hb.c 0 rfl, hb.c 1 rfl, h1⟩)
 refine C.mono ?_
 rintro e w' ⟨⟨rfl, hv⟩ | ⟨rfl, k, hk, hv⟩, hs⟩
 · exact ⟨retI (show (0 : Int) = errC _ from (if_pos (hv 0 (by omega))).symm), hs⟩
 · exact ⟨retI (show (8 : Int) = errC _ from (if_neg (fun h => hv h)).symm), hs⟩
theorem wcheck2_ok {B : Nat} {T : TypeId} {sa sb : Value} {x y : Int} (w : World) (hb : Blk w B T #[.bool (decide (x < 0)), sa, .bool (decide (y < 0)), sb]) (h1 : Lim w sa (limbs (absN x))) (h2 : Lim w sb (limbs (absN y))) (fx : fits x) (fy : fits y) :
  Calls Tryz.prog 54 #[.slice (some ⟨B, 0, none⟩) 2 2] w fun e w' => e = .returned (.int .i64 0) ∧ Steps w w' := by
 have := wcheck2 w hb h1 h2
 rw [show errC (valid (decide (x < 0)) (limbs (absN x)) ∧ valid (decide (y < 0)) (limbs (absN y))) = 0 from if_pos ⟨valid_of fx, valid_of fy⟩] at this
 exact this
theorem wCmp {va vb : Value} {x y : Int} (w : World) (ha : Num w va x) (hb : Num w vb y) (fx : fits x) (fy : fits y) :
  Calls Tryz.prog 71 #[va, vb] w fun e w' => e = .returned (.tuple #[.int .i64 (cmpI x y), .int .i64 0]) ∧ Steps w w' := by
 have ck : ∀ (w' : World) (q : Nat) (aa ab : Option Addr) (ca cb : Nat), Blk w' q 28 #[.bool (decide (x < 0)), .slice aa (limbs (absN x)).length ca, .bool (decide (y < 0)), .slice ab (limbs (absN y)).length cb] → Lim w' (.slice aa (limbs (absN x)).length ca) (limbs (absN x)) → Lim w' (.slice ab (limbs (absN y)).length cb) (limbs (absN y)) →
   Calls Tryz.prog 54 #[.slice (some ⟨q, 0, none⟩) 2 2] w' fun e w2 => e = .returned (.int .i64 0) ∧ Steps w' w2 := fun w' q aa ab ca cb hb h1 h2 => wcheck2_ok w' hb h1 h2 fx fy
 have ad := fun (w' : World) (h : Steps w w') => wto w' (ha.steps h) (hb.steps h) fx fy
 obtain ⟨aa, ca, rfl, pa⟩ := ha.parts
 obtain ⟨ab, cb, rfl, pb⟩ := hb.parts
 have ck' := fun (w' : World) (q : Nat) => ck w' q aa ab ca cb
 obtain ⟨n, hn⟩ : ∃ n, (limbs (absN x)).length = n := ⟨_, rfl⟩
 obtain ⟨m, hm⟩ : ∃ m, (limbs (absN y)).length = m := ⟨_, rfl⟩
 rw [hn] at pa ad ⊢
 rw [hm] at pb ad ⊢
 simp only [hn, hm] at ck'
 obtain ⟨gx, hgx⟩ : ∃ b, decide (x < 0) = b := ⟨_, rfl⟩
 obtain ⟨gy, hgy⟩ : ∃ b, decide (y < 0) = b := ⟨_, rfl⟩
 rw [hgx, hgy] at ad ⊢
 simp only [hgx, hgy] at ck'
 clear ha hb hn hm hgx hgy fx fy ck
 go_enter Tryz.func71, Tryz.ntmps71
 go_wp2_with fail
 refine (ck' _ _ ownB (pa.steps belowB) (pb.steps belowB)).mono ?_
 rintro e w1 ⟨rfl, hb1⟩
 have st : Steps _ w1 := hb1
 have Bn : Below w.heap.size w w1 := belowA st
 have oa : Blk w1 (w.heap.size) 28 #[.bool gx, .slice aa n ca] := Blk.stepsA st
 have ob : Blk w1 (w.heap.size + 1) 28 #[.bool gy, .slice ab m cb] := Blk.stepsA st
 clear st
 have B := Bn
 clear Bn
 obtain ⟨ca0, ca1, fa, la⟩ := oa.s1
 obtain ⟨cb0, cb1, fb, lb⟩ := ob.s1
 clear ck'
 go_wp2_with fail
 refine (ad _ B).mono ?_
 rintro e w2 ⟨rfl, hb2⟩
 have st : Steps _ w2 := hb2
 have Bn : Below w.heap.size w w2 := belowA st
 have na := oa.stq st
 have nb := ob.stq st
 clear B oa ob ca0 ca1 fa la cb0 cb1 fb lb
 clear st
 have B := Bn
 clear Bn
 have oa := na
 clear na
 obtain ⟨ca0, ca1, fa, la⟩ := oa.s1
 have ob := nb
 clear nb
 obtain ⟨cb0, cb1, fb, lb⟩ := ob.s1
 clear ad
 go_wp2
 go_returns
 exact ⟨rfl, belowB⟩
theorem fsame {va vb : Value} {x y : Int} (w : World) (ha : Num w va x) (hb : Num w vb y) (fx : fits x) (fy : fits y) :
  Calls Tryz.prog 44 #[va, vb] w fun e w' => e = .returned (.bool (decide (x = y))) ∧ Steps w w' := by
 have ad := fun (w' : World) (h : Steps w w') => wCmp w' (ha.steps h) (hb.steps h) fx fy
 obtain ⟨c, hc⟩ : ∃ c, cmpI x y = c := ⟨_, rfl⟩
 have E : Hid ((c == 0) = decide (x = y)) := by
  show (c == 0) = decide (x = y)
  have := cmpI_cases x y
  rw [hc] at this
  by_cases h : x = y
  · rw [decide_eq_true h, show c = 0 by omega]; rfl
  · rw [decide_eq_false h]; simp; omega
 rw [hc] at ad
 obtain ⟨aa, ca, rfl, pa⟩ := ha.parts
 obtain ⟨ab, cb, rfl, pb⟩ := hb.parts
 obtain ⟨n, hn⟩ : ∃ n, (limbs (absN x)).length = n := ⟨_, rfl⟩
 obtain ⟨m, hm⟩ : ∃ m, (limbs (absN y)).length = m := ⟨_, rfl⟩
 rw [hn, hm] at ad ⊢
 obtain ⟨gx, hgx⟩ : ∃ b, decide (x < 0) = b := ⟨_, rfl⟩
 obtain ⟨gy, hgy⟩ : ∃ b, decide (y < 0) = b := ⟨_, rfl⟩
 rw [hgx, hgy] at ad ⊢
 clear ha hb hn hm hgx hgy fx fy pa pb hc
 go_enter Tryz.func44, Tryz.ntmps44
 go_wp2_with fail
 refine (ad _ belowB).mono ?_
 rintro e w1 ⟨rfl, hb1⟩
 have st : Steps _ w1 := hb1
 have Bn : Below w.heap.size w w1 := belowA st
 have oa : Blk w1 (w.heap.size) 28 #[.bool gx, .slice aa n ca] := Blk.stepsA st
 have ob : Blk w1 (w.heap.size + 1) 28 #[.bool gy, .slice ab m cb] := Blk.stepsA st
 clear st
 have B := Bn
 clear Bn
 obtain ⟨ca0, ca1, fa, la⟩ := oa.s1
 obtain ⟨cb0, cb1, fb, lb⟩ := ob.s1
 clear ad
 go_wp2
 go_returns
 exact ⟨retB E.out, belowB⟩
theorem fone (w : World) : Calls Tryz.prog 45 #[] w fun e w' => ∃ v, e = .returned v ∧ Num w' v 1 ∧ Steps w w' := by
 go_enter Tryz.func45, Tryz.ntmps45
 go_wp2_with fail
 refine (wfrom 1 _ (by omega) (by omega)).mono ?_
 rintro e w1 ⟨v2, rfl, hn2, hb1⟩
 have st : Steps _ w1 := hb1
 have Bn : Below w.heap.size w w1 := belowA st
 have or : Blk w1 (w.heap.size) 28 #[.bool false, .slice none 0 0] := Blk.stepsA st
 clear st
 have B := Bn
 clear Bn
 obtain ⟨cr0, cr1, fr, lr⟩ := or.s1
 obtain ⟨bb, ao, k, c, rfl⟩ := hn2.shape
 have HV := Hid.mk_ hn2
 clear hn2
 go_wp2
 refine bodyPost_ret (by simp [results, Tryz.results45, go_sem, cr0, cr1, fr, lr]; rfl) rfl ?_
 exact ⟨_, rfl, HV.out.put2 or, belowB⟩
end Go.Proofs.YtibdehlmflaodaaGreat
