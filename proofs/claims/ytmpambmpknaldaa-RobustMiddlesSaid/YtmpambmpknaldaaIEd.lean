import Derived.Test.YtmpambmpknaldaaICh
import Derived.Test.YtmpambmpknaldaaICl
import Derived.Deep.RegionLaw
set_option linter.unusedVariables false
set_option linter.unusedSimpArgs false
set_option maxHeartbeats 6400000
set_option maxRecDepth 1000000
namespace Go.Proofs.Ytmpambmpknaldaa
open Go.RowKit
def RowO (w : World) (base g n cap : Nat) (f : Nat → Int) : Prop := base ≤ g ∧ n ≤ cap ∧ cap ≤ maxLen ∧ ∃ cs, Blk w g 2 cs ∧ cs.size = cap ∧ noU32 cs = true ∧ ∀ i, i < n → cs[i]? = some (.int .i64 (f i))
theorem RowO.s {w : World} {base g n cap : Nat} {f : Nat → Int} (h : RowO w base g n cap f) : RowS w g n f := by
 obtain ⟨h1, h2, h3, cs, h4, h5, h6, h7⟩ := h
 exact ⟨cs, h4, by omega, h6, h7⟩
theorem RowO.steps {w w' : World} {base g n cap : Nat} {f : Nat → Int} (h : RowO w base g n cap f) (s : Steps w w') : RowO w' base g n cap f := by
 obtain ⟨h1, h2, h3, cs, h4, h5⟩ := h
 exact ⟨h1, h2, h3, cs, h4.steps s, h5⟩
theorem RowO.drew {w : World} {base g n cap : Nat} {f : Nat → Int} (h : RowO w base g n cap f) : RowO w.drew base g n cap f := by
 obtain ⟨h1, h2, h3, cs, h4, h5⟩ := h
 exact ⟨h1, h2, h3, cs, h4.drew, h5⟩
theorem RowO.put {w : World} {base g n cap : Nat} {f : Nat → Int} (h : RowO w base g n cap f) {i : Nat} (hi : i < n) (x : Int) : RowO (w.setCell ⟨g, i, none⟩ (.int .i64 x)) base g n cap (fun k => if k = i then x else f k) := by
 obtain ⟨h1, h2, h3, cs, hb, hs, hu, hc⟩ := h
 refine ⟨h1, h2, h3, _, hb.set_ i _, by rw [Array.size_setIfInBounds]; exact hs, noU_set hu i x, fun k hk => ?_⟩
 by_cases e : k = i
 ·
  subst e
  rw [Array.getElem?_setIfInBounds_self_of_lt (by omega)]; dsimp only; rw [if_pos rfl]
 ·
  rw [Array.getElem?_setIfInBounds_ne (fun h => e h.symm)]; dsimp only; rw [if_neg e]
  exact hc k hk
theorem RowO.swap {w : World} {base g n cap : Nat} {f : Nat → Int} (h : RowO w base g n cap f) {i j : Nat} (hi : i < n) (hj : j < n) :
  RowO ((w.setCell ⟨g, i, none⟩ (.int .i64 (f j))).setCell ⟨g, j, none⟩ (.int .i64 (f i))) base g n cap (swp f i j) := by
 obtain ⟨h1, h2, h3, cs, h4, h5, h6, h7⟩ := (h.put hi (f j)).put hj (f i)
 refine ⟨h1, h2, h3, cs, h4, h5, h6, fun k hk => ?_⟩
 rw [h7 k hk]
 unfold swp
 by_cases e1 : k = i
 ·
  by_cases e2 : k = j
  · subst e1; subst e2; simp
  · simp [e1, e2, if_neg (fun e => e2 (e1.trans e))]
 · simp [e1]
theorem rowO_of {w : World} {base n : Nat} {v : Value} {l : List Int} (h : RowU w base 2 1 v n (ints l)) (hl : l.length = n) (h0 : 0 < n) : ∃ g cap, v = .slice (some ⟨g, 0, none⟩) n cap ∧ RowO w base g n cap (fun i => l.getD i 0) := by
 rcases h.own.2 with ⟨rfl, e⟩ | ⟨g, cap, cur, rfl, h1, h2, h3, h4, h5, h6⟩
 · omega
 ·
  rw [Nat.mul_one] at h6 h5
  exact ⟨g, cap, rfl, h1, h3, h4, cur, h2, h5, h.noU g cur rfl h2, fun i hi => cur_get hl h6 hi⟩
theorem RowO.toU {w : World} {base g n cap : Nat} {f : Nat → Int} (h : RowO w base g n cap f) : RowU w base 2 1 (.slice (some ⟨g, 0, none⟩) n cap) n (ints ((List.range n).map f)) := by
 obtain ⟨h1, h2, h3, cs, hb, hs, hu, hc⟩ := h
 refine ⟨⟨by simp [ints], .inr ⟨g, cap, cs, rfl, h1, hb, h2, h3, by omega, ?_⟩⟩, fun g' cur e hh => ?_⟩
 ·
  rw [Nat.mul_one]
  apply List.ext_getElem?
  intro i
  rw [List.getElem?_take]
  by_cases hi : i < n
  ·
   rw [if_pos hi, Array.getElem?_toList, hc i hi]
   simp [ints, hi]
  · rw [if_neg hi, List.getElem?_eq_none (by simp [ints]; omega)]
 ·
  injection e with e
  have e2 : g = g' := e
  subst e2
  have hh2 : w.heap[g]? = some (.cells cs 2 (0, 0)) := hb
  rw [hh2] at hh
  injection hh with hh
  injection hh with hh
  rw [← hh]; exact hu
theorem step_app_i64 {ops : Array Oper} {o : Oper} {a : Act} {w : World} {K : Act → World → Prop} {Q : Exit → Act → World → Prop} (hw : Region.wanted o (yielded ops a.tmps) = true) (s x : Operand) (ho : o.op = .call { callee := .builtin .append, args := #[s, x], argTypes := #[22, 22] })
  (base n : Nat) (v : Value) (l : List Int) (hs : a.eval s = v) (hown : RowU w base 2 1 v n (ints l)) (g : Nat) (y : Int) (hx : a.eval x = .slice (some ⟨g, 0, none⟩) 1 1) (hb : Blk w g 2 #[.int .i64 y]) (hn : n ≤ 100000) (hbase : base ≤ w.heap.size)
  (h : ∀ v' w', RowU w' base 2 1 v' (n + 1) (ints (l ++ [y])) → w.grownBy w' v.ownBlock → K (a.put o.dst v') w') : (if Region.wanted o (yielded ops a.tmps) = true then o.wp Try.prog a w K Q else K (a.put o.dst undef) w) := by
 rw [if_pos hw]
 obtain ⟨ie, z, h1, h2, h3, h4, h5⟩ := infoJ
 refine wp_append_U w s x 22 ho base 2 ie z 1 8 Try.underlying22 h1 h4 h2 h3 (by rw [h5]; rfl) (by rw [h5]; rfl) (by omega) v n (ints l) hs hown ⟨g, 0, none⟩ 1 1 [.int .i64 y] hx (by omega) rfl (fun j u hj => ?_) (fun u hu => ?_) rfl (by unfold maxLen; omega) (by omega) hbase (fun v' w' hr hg => h v' w' ?_ hg)
 ·
  have hc := hb.cell j
  rw [show (⟨g, 0, none⟩ : Addr).add j = ⟨g, 0 + j, none⟩ from Addr.add_lit .., Nat.zero_add, hc]
  simpa using hj
 ·
  simp only [List.mem_cons, List.not_mem_nil, or_false] at hu
  rw [hu]; rfl
 · rw [ints_snoc]; exact hr
theorem srt_snoc (a : List Int) (x : Int) : srt (srt a ++ [x]) = srt (a ++ [x]) := srt_perm_eq ((srt_perm a).append_right [x])
theorem srt_nil : srt [] = [] := List.eq_nil_of_length_eq_zero (by rw [srt_len]; rfl)
theorem up_app {s : List Int} {x : Int} {t : Nat} (h : Asc s) (hl : s.length = t) : Up (fun i => (s ++ [x]).getD i 0) 0 t := fun i j _ h2 h3 => by
 have e : ∀ k, k < t → (s ++ [x]).getD k 0 = s.getD k 0 := fun k hk => by simp [List.getD, List.getElem?_append_left (show k < s.length by omega)]
 show (s ++ [x]).getD i 0 ≤ (s ++ [x]).getD j 0
 rw [e i (by omega), e j h3]
 exact asc_get h h2 (by omega)
theorem sorted_step {l : List Int} {t n : Nat} {f' : Nat → Int} (ht : t < l.length) (hn : t + 1 = n) (hs : SP 0 n (fun i => (srt (l.take t) ++ [l.getD t 0]).getD i 0) f') (hu : Up f' 0 n) : (List.range n).map f' = srt (l.take (t + 1)) := by
 rw [up_srt hs hu]
 have e : (List.range n).map (fun i => (srt (l.take t) ++ [l.getD t 0]).getD i 0) = srt (l.take t) ++ [l.getD t 0] := by
  have h2 : (srt (l.take t) ++ [l.getD t 0]).length = n := by rw [List.length_append, srt_len, List.length_take]; simp; omega
  rw [← h2]; exact map_getD _
 rw [e, srt_snoc, take_step ht]
theorem swp_comm (f : Nat → Int) (i j : Nat) : swp f i j = swp f j i := by
 funext k
 unfold swp
 by_cases h1 : k = i
 ·
  by_cases h2 : k = j
  · rw [if_pos h1, if_pos h2, ← h1, ← h2]
  · rw [if_pos h1, if_neg h2, if_pos h1]
 ·
  by_cases h2 : k = j
  · rw [if_neg h1, if_pos h2, if_pos h2]
  · rw [if_neg h1, if_neg h2, if_neg h2, if_neg h1]
theorem RowU.ints_len {w : World} {base n : Nat} {v : Value} {l : List Int} (h : RowU w base 2 1 v n (Go.Proofs.Ytmpambmpknaldaa.ints l)) (hl : l.length = n) : IntsR w v l := by
 subst hl; exact h.ints
theorem prsorted {vl : Value} {l : List Int} (w : World) (hl : IntsR w vl l) (hn : l.length ≤ 24) :
  Calls Try.prog 22 #[vl] w fun e w' => ∃ v, e = .returned v ∧ IntsR w' v (srt l) ∧ Steps w w' := by
 obtain ⟨la, lc, rfl⟩ := hl.shape
 have HL := Hid.mk_ hl
 obtain ⟨N, hN⟩ : ∃ n, l.length = n := ⟨_, rfl⟩
 have HN := Hid.mk_ hN
 rw [hN] at hn HL ⊢
 clear hl hN
 go_enter Try.func22, Try.ntmps22
 go_wp2_with fail
 go_loopw [4, 3] (fun kk oo wr => ∃ (t : Nat) (ow : Value), ow = oo ∧ t ≤ N ∧ kk = .int .i64 t ∧ RowU wr w.heap.size 2 1 ow t (ints (srt (l.take t))) ∧ Below w.heap.size w wr) (fun kk _ _ => N - (intOf kk).toNat)
 case atStart => exact ⟨0, _, rfl, Nat.zero_le _, rfl, by rw [show srt (l.take 0) = [] from srt_nil]; exact RowU.nil _ _ _ _, belowB⟩
 case round =>
  obtain ⟨t, ow, rfl, ht, rfl, hr, B⟩ := hrel
  obtain ⟨oa, ocap, rfl⟩ := hr.len
  have HR := Hid.mk_ hr
  clear hr
  rcases Nat.lt_or_ge t N with tn | tn
  ·
   have hlt : decide ((t : Int) < (N : Int)) = true := decide_eq_true (by omega)
   obtain ⟨b, of, rfl, hbl, hx0⟩ := HL.out.at' (t := t) (by have := HN.out; omega)
   obtain ⟨x, hxx⟩ : ∃ x, l.getD t 0 = x := ⟨_, rfl⟩
   rw [hxx] at hx0
   have HX := Hid.mk_ hxx
   have c1 : wr.cell? ⟨b, of + t, none⟩ = some (.int .i64 x) := (B.cell (p := ⟨b, _, none⟩) hbl).trans hx0
   have zz := B.size
   clear hx0 hxx
   repeat' (first | ((with_reducible show wpList _ _ _ (⟨some 18, _, _, _, _, _⟩ :: _) _ _); refine app_i64 rfl (.tmp 12) (.tmp 17) rfl w.heap.size t (.slice oa t ocap) (srt (l.take t)) rfl (HR.out.alloc _) wr.heap.size x rfl (Blk.new _ _ _) (by omega) (by rw [World.size_alloc]; omega) (fun v' w7 hr7 hg7 => ?_)) | go_values | go_skip | go_guarded | go_step | go_upon)
   have r6 := HR.out.alloc (.cells #[.int .i64 x] 2)
   have B7 := r6.below hg7 (B.alloc B.size _) (Nat.le_refl _)
   obtain ⟨n, hn1⟩ : ∃ z, t + 1 = z := ⟨_, rfl⟩
   rw [hn1] at hr7
   have sl : (srt (l.take t)).length = t := by rw [srt_len, List.length_take]; have := HN.out; omega
   obtain ⟨g, cap, rfl, ro⟩ := rowO_of hr7 (by rw [List.length_append, sl]; exact hn1) (by omega)
   have HU := Hid.mk_ (up_app (x := x) (srt_asc (l.take t)) sl)
   have RO := Hid.mk_ ro
   have HN1 := Hid.mk_ hn1
   have tn1 : t < n := by omega
   have n25 : n ≤ 24 := by omega
   obtain ⟨f1, hf1⟩ : ∃ f : Nat → Int, (fun i => (srt (l.take t) ++ [x]).getD i 0) = f := ⟨_, rfl⟩
   rw [hf1] at RO HU
   have HF := Hid.mk_ hf1
   have wg : w.heap.size ≤ g := ro.1
   clear r6 hg7 hr7 HR B ro sl hf1 hn1 c1
   go_wp2_with fail
   go_loopw [5] (fun kk wq => ∃ (k : Nat) (f' : Nat → Int), k ≤ t ∧ kk = .int .i64 k ∧ RowO wq w.heap.size g n cap f' ∧ SP 0 n f1 f' ∧ Ins f' 0 k t ∧ Below w.heap.size w wq) (fun kk _ => (intOf kk).toNat)
   case atStart => exact ⟨t, f1, Nat.le_refl _, rfl, RO.out, SP.refl f1, Ins.start HU.out, B7⟩
   case round =>
    rename World => wq
    clear B7 RO
    obtain ⟨k, f2, kt, rfl, ro, sp2, in2, Bq⟩ := hrel
    have gq := ro.s.lt
    have HR2 := Hid.mk_ ro
    have HS2 := Hid.mk_ (And.intro sp2 in2)
    clear ro sp2 in2
    have kn : k < n := by omega
    rcases Nat.lt_or_ge 0 k with k0 | k0
    ·
     have hgt : decide ((0 : Int) < (k : Int)) = true := decide_eq_true (by omega)
     obtain ⟨r, hv⟩ : ∃ z, k - 1 = z := ⟨_, rfl⟩
     have ev : (k : Int) - 1 = (r : Int) := by omega
     have vn : r < n := by omega
     have kv : k ≠ r := by omega
     have vk : r ≠ k := by omega
     have hvt : r ≤ t := by omega
     have hvlt : r < k := by omega
     have ck := HR2.out.s.c (i := k) kn
     have cv := HR2.out.s.c (i := r) vn
     obtain ⟨z, hz⟩ : ∃ z, f2 k = z := ⟨_, rfl⟩
     obtain ⟨y, hy⟩ : ∃ y, f2 r = y := ⟨_, rfl⟩
     rw [hz] at ck
     rw [hy] at cv
     have HXY := Hid.mk_ (And.intro hz (And.intro hy hv))
     clear hz hy hv
     by_cases lt : z < y
     ·
      have dlt : decide (z < y) = true := decide_eq_true lt
      repeat' (first | go_values | go_skip | go_guarded | go_step | go_upon)
      refine Reg.wp_chain (fun D v W => Below wq.heap.size wq W ∧ True) (Reg.inl []) (Reg.gv []) Reg.None_ (fun _ => Reg.Any) (fun _ _ => False) (Reg.pl []) (Reg.pl [])
       (by kernel_rfl) (by kernel_rfl) (by kernel_rfl) (Reg.gv_some _ (by intro p hp; cases hp)) (fun _ => ⟨belowB, trivial⟩) (fun _ _ _ _ _ h => h) (fun _ _ _ _ _ _ _ _ _ _ _ _ _ => Reg.none_) (fun _ _ _ _ h => h.elim) (fun ops' Q' hops hQ => ?_)
      apply Reg.RP rfl rfl rfl 20 rfl rfl
      ·
       intro D v W hc hj hf K' hK'
       go_step
       exact hK'.out
      · rfl
      apply Reg.RP rfl rfl rfl 21 rfl rfl
      ·
       intro D v W hc hj hf K' hK'
       go_step
       exact hK'.out
      · rfl
      apply Reg.RP rfl rfl rfl 22 rfl rfl
      ·
       intro D v W hc hj hf K' hK'
       go_step
       exact hK'.out
      · rfl
      apply Reg.RP rfl rfl (by rw [hops]; rfl) 23 rfl rfl
      ·
       intro D v W hc hj hf K' hK'
       go_step
       exact hK'.out
      · rfl
      apply Reg.RP rfl rfl (by rw [hops]; rfl) 24 rfl rfl
      ·
       intro D v W hc hj hf K' hK'
       go_step
       exact hK'.out
      · rfl
      apply Reg.RP rfl rfl (by rw [hops]; rfl) 25 rfl rfl
      ·
       intro D v W hc hj hf K' hK'
       go_step
       exact hK'.out
      · rfl
      apply Reg.RP rfl rfl (by rw [hops]; rfl) 26 rfl rfl
      ·
       intro D v W hc hj hf K' hK'
       go_step
       exact hK'.out
      · rfl
      apply Reg.RP rfl rfl (by rw [hops]; rfl) 27 rfl rfl
      ·
       intro D v W hc hj hf K' hK'
       obtain ⟨j0, _⟩ := hj
       have c0 : W.cell? ⟨g, r, none⟩ = some (.int .i64 y) := (j0.cell (p := ⟨g, _, none⟩) gq).trans cv
       go_step
       exact hK'.out
      · rfl
      apply Reg.RP rfl rfl (by rw [hops]; rfl) 28 rfl rfl
      ·
       intro D v W hc hj hf K' hK'
       go_step
       exact hK'.out
      · rfl
      apply Reg.RP rfl rfl (by rw [hops]; rfl) 29 rfl rfl
      ·
       intro D v W hc hj hf K' hK'
       go_step
       exact hK'.out
      · rfl
      apply Reg.RP rfl rfl (by rw [hops]; rfl) 30 rfl rfl
      ·
       intro D v W hc hj hf K' hK'
       go_step
       exact hK'.out
      · rfl
      apply Reg.RP rfl rfl (by rw [hops]; rfl) 31 rfl rfl
      ·
       intro D v W hc hj hf K' hK'
       obtain ⟨j0, _⟩ := hj
       have c0 : W.cell? ⟨g, k, none⟩ = some (.int .i64 z) := (j0.cell (p := ⟨g, _, none⟩) gq).trans ck
       go_step
       exact hK'.out
      · rfl
      apply Reg.RP rfl rfl (by rw [hops]; rfl) 32 rfl rfl
      ·
       intro D v W hc hj hf K' hK'
       go_step
       exact hK'.out
      · rfl
      apply Reg.RP rfl rfl rfl 33 rfl rfl
      ·
       intro D v W hc hj hf K' hK'
       go_step
       exact hK'.out
      · rfl
      refine Reg.RC_end (fun D v w9 hd hj hf => ?_)
      obtain ⟨j0, _⟩ := hj
      have st9 := j0
      clear hd hf j0
      refine hQ _ _ ?_
      clear hQ hops Q' ops'
      have B9 := below_steps Bq (Nat.le_refl _) st9
      have hr9 := HR2.out.steps st9
      have ck9 : w9.cell? ⟨g, k, none⟩ = some (.int .i64 z) := (st9.cell (p := ⟨g, _, none⟩) gq).trans ck
      have cv9 : w9.cell? ⟨g, r, none⟩ = some (.int .i64 y) := (st9.cell (p := ⟨g, _, none⟩) gq).trans cv
      have fk := hr9.s.fr k
      have fv := hr9.s.fr r
      have gq9 := hr9.s.lt
      have HR9 := Hid.mk_ hr9
      clear hr9 ck cv gq st9
      go_upto_region 9 with fail
      go_region
      have e1 : k - 1 = r := HXY.out.2.2
      have lt2 : f2 k < f2 (k - 1) := by rw [e1, HXY.out.1, HXY.out.2.1]; exact lt
      have r2 : RowO ((w9.setCell ⟨g, r, none⟩ (.int .i64 z)).setCell ⟨g, k, none⟩ (.int .i64 y)).drew w.heap.size g n cap (swp f2 k (k - 1)) := by
       have := (HR9.out.swap (i := r) (j := k) vn kn).drew
       rw [HXY.out.1, HXY.out.2.1] at this
       rw [e1, swp_comm]
       exact this
      have b2 : Below w.heap.size w ((w9.setCell ⟨g, r, none⟩ (.int .i64 z)).setCell ⟨g, k, none⟩ (.int .i64 y)).drew := (Below.setCell (p := ⟨g, k, none⟩) (Below.setCell (p := ⟨g, r, none⟩) B9 wg _) wg _).drew
      have HZ := Hid.mk_ (And.intro r2 b2)
      have HI := Hid.mk_ (Ins.step HS2.out.2 k0 kt lt2)
      have HP := Hid.mk_ (HS2.out.1.swap (i := k) (j := k - 1) (by omega) kn (by omega) (by omega))
      rw [e1] at HI HP HZ
      generalize ((w9.setCell ⟨g, r, none⟩ (.int .i64 z)).setCell ⟨g, k, none⟩ (.int .i64 y)).drew = w10 at *
      clear r2 b2 lt2 e1 ck9 cv9 fk fv gq9 HR9 HXY B9
      repeat' (first | go_values | go_skip | go_guarded | go_step | go_upon)
      go_roundw
      case rel => exact ⟨r, swp f2 k r, by omega, by go_num, HZ.out.1, HP.out, HI.out, HZ.out.2⟩
      case measure => simp [intOf]; omega
     ·
      have dlt : decide (z < y) = false := decide_eq_false lt
      have e1 : k - 1 = r := HXY.out.2.2
      have dn := Hid.mk_ (Ins.done HS2.out.2 kt (.inr (by rw [e1, HXY.out.1, HXY.out.2.1]; exact lt)) (Nat.zero_le _))
      clear e1
      repeat' (first | go_values | go_skip | go_guarded | go_step | go_upon)
      refine Reg.wp_chain (fun D v W => Below wq.heap.size wq W ∧ True) (Reg.inl []) (Reg.gv []) Reg.None_ (fun _ => Reg.Any) (fun _ _ => False) (Reg.pl []) (Reg.pl [])
       (by kernel_rfl) (by kernel_rfl) (by kernel_rfl) (Reg.gv_some _ (by intro p hp; cases hp)) (fun _ => ⟨belowB, trivial⟩) (fun _ _ _ _ _ h => h) (fun _ _ _ _ _ _ _ _ _ _ _ _ _ => Reg.none_) (fun _ _ _ _ h => h.elim) (fun ops' Q' hops hQ => ?_)
      apply Reg.RP rfl rfl rfl 20 rfl rfl
      ·
       intro D v W hc hj hf K' hK'
       go_step
       exact hK'.out
      · rfl
      apply Reg.RP rfl rfl rfl 21 rfl rfl
      ·
       intro D v W hc hj hf K' hK'
       go_step
       exact hK'.out
      · rfl
      apply Reg.RP rfl rfl rfl 22 rfl rfl
      ·
       intro D v W hc hj hf K' hK'
       go_step
       exact hK'.out
      · rfl
      apply Reg.RP rfl rfl (by rw [hops]; rfl) 23 rfl rfl
      ·
       intro D v W hc hj hf K' hK'
       go_step
       exact hK'.out
      · rfl
      apply Reg.RP rfl rfl (by rw [hops]; rfl) 24 rfl rfl
      ·
       intro D v W hc hj hf K' hK'
       go_step
       exact hK'.out
      · rfl
      apply Reg.RP rfl rfl (by rw [hops]; rfl) 25 rfl rfl
      ·
       intro D v W hc hj hf K' hK'
       go_step
       exact hK'.out
      · rfl
      apply Reg.RP rfl rfl (by rw [hops]; rfl) 26 rfl rfl
      ·
       intro D v W hc hj hf K' hK'
       go_step
       exact hK'.out
      · rfl
      apply Reg.RP rfl rfl (by rw [hops]; rfl) 27 rfl rfl
      ·
       intro D v W hc hj hf K' hK'
       obtain ⟨j0, _⟩ := hj
       have c0 : W.cell? ⟨g, r, none⟩ = some (.int .i64 y) := (j0.cell (p := ⟨g, _, none⟩) gq).trans cv
       go_step
       exact hK'.out
      · rfl
      apply Reg.RP rfl rfl (by rw [hops]; rfl) 28 rfl rfl
      ·
       intro D v W hc hj hf K' hK'
       go_step
       exact hK'.out
      · rfl
      apply Reg.RP rfl rfl (by rw [hops]; rfl) 29 rfl rfl
      ·
       intro D v W hc hj hf K' hK'
       go_step
       exact hK'.out
      · rfl
      apply Reg.RP rfl rfl (by rw [hops]; rfl) 30 rfl rfl
      ·
       intro D v W hc hj hf K' hK'
       go_step
       exact hK'.out
      · rfl
      apply Reg.RP rfl rfl (by rw [hops]; rfl) 31 rfl rfl
      ·
       intro D v W hc hj hf K' hK'
       obtain ⟨j0, _⟩ := hj
       have c0 : W.cell? ⟨g, k, none⟩ = some (.int .i64 z) := (j0.cell (p := ⟨g, _, none⟩) gq).trans ck
       go_step
       exact hK'.out
      · rfl
      apply Reg.RP rfl rfl (by rw [hops]; rfl) 32 rfl rfl
      ·
       intro D v W hc hj hf K' hK'
       go_step
       exact hK'.out
      · rfl
      apply Reg.RP rfl rfl rfl 33 rfl rfl
      ·
       intro D v W hc hj hf K' hK'
       go_step
       exact hK'.out
      · rfl
      refine Reg.RC_end (fun D v w9 hd hj hf => ?_)
      obtain ⟨j0, _⟩ := hj
      have st9 := j0
      clear hd hf j0
      refine hQ _ _ ?_
      clear hQ hops Q' ops'
      have B9 := below_steps Bq (Nat.le_refl _) st9
      have hr9 := Hid.mk_ (HR2.out.steps st9)
      clear st9 HR2
      repeat' (first | go_values | go_skip | go_guarded | go_step | go_upon)
      go_roundw
      case rel => exact ⟨t + 1, _, rfl, by omega, by go_num, by have h1 := hr9.out.toU; have h2 := HF.out; have h3 := HS2.out.1; rw [← h2, ← HX.out] at h3; rw [sorted_step (by have := HN.out; omega) HN1.out h3 (by rw [← HN1.out]; exact dn.out)] at h1; rw [HN1.out] at h1 ⊢; exact h1, B9⟩
      case measure => simp [intOf]; omega
    ·
     obtain rfl : k = 0 := by omega
     have hgt : decide ((0 : Int) < ((0 : Nat) : Int)) = false := rfl
     have dn := Hid.mk_ (Ins.done HS2.out.2 kt (.inl rfl) (Nat.zero_le _))
     repeat' (first | go_values | go_skip | go_guarded | go_step | go_upon)
     refine Reg.wp_chain (fun D v W => Below wq.heap.size wq W ∧ True) (Reg.inl []) (Reg.gv []) Reg.None_ (fun _ => Reg.Any) (fun _ _ => False) (Reg.pl []) (Reg.pl [])
      (by kernel_rfl) (by kernel_rfl) (by kernel_rfl) (Reg.gv_some _ (by intro p hp; cases hp)) (fun _ => ⟨belowB, trivial⟩) (fun _ _ _ _ _ h => h) (fun _ _ _ _ _ _ _ _ _ _ _ _ _ => Reg.none_) (fun _ _ _ _ h => h.elim) (fun ops' Q' hops hQ => ?_)
     apply Reg.RP rfl rfl rfl 20 rfl rfl
     ·
      intro D v W hc hj hf K' hK'
      go_step
      exact hK'.out
     · rfl
     apply Reg.RP rfl rfl rfl 21 rfl rfl
     ·
      intro D v W hc hj hf K' hK'
      go_step
      exact hK'.out
     · rfl
     apply Reg.RP rfl rfl rfl 22 rfl rfl
     ·
      intro D v W hc hj hf K' hK'
      go_step
      exact hK'.out
     · rfl
     refine Reg.RC_skip rfl (by rw [hops]; rfl) (Reg.RC_at (b := ⟨#[_,_,_,_,_,_,_,_,_,_,_,_,_,_,_,_,_,_,_,_,_,_,_,_,_,_,_,_,_,_,_,_,_,_,_,_,_,_,_,_,_,_,_,_,_,_,_,_,_,_,_,_,_], _⟩) rfl ?_)
     refine Reg.RC_skip rfl (by rw [hops]; rfl) (Reg.RC_at (b := ⟨#[_,_,_,_,_,_,_,_,_,_,_,_,_,_,_,_,_,_,_,_,_,_,_,_,_,_,_,_,_,_,_,_,_,_,_,_,_,_,_,_,_,_,_,_,_,_,_,_,_,_,_,_,_], _⟩) rfl ?_)
     refine Reg.RC_skip rfl (by rw [hops]; rfl) (Reg.RC_at (b := ⟨#[_,_,_,_,_,_,_,_,_,_,_,_,_,_,_,_,_,_,_,_,_,_,_,_,_,_,_,_,_,_,_,_,_,_,_,_,_,_,_,_,_,_,_,_,_,_,_,_,_,_,_,_,_], _⟩) rfl ?_)
     refine Reg.RC_skip rfl (by rw [hops]; rfl) (Reg.RC_at (b := ⟨#[_,_,_,_,_,_,_,_,_,_,_,_,_,_,_,_,_,_,_,_,_,_,_,_,_,_,_,_,_,_,_,_,_,_,_,_,_,_,_,_,_,_,_,_,_,_,_,_,_,_,_,_,_], _⟩) rfl ?_)
     refine Reg.RC_skip rfl (by rw [hops]; rfl) (Reg.RC_at (b := ⟨#[_,_,_,_,_,_,_,_,_,_,_,_,_,_,_,_,_,_,_,_,_,_,_,_,_,_,_,_,_,_,_,_,_,_,_,_,_,_,_,_,_,_,_,_,_,_,_,_,_,_,_,_,_], _⟩) rfl ?_)
     refine Reg.RC_skip rfl (by rw [hops]; rfl) (Reg.RC_at (b := ⟨#[_,_,_,_,_,_,_,_,_,_,_,_,_,_,_,_,_,_,_,_,_,_,_,_,_,_,_,_,_,_,_,_,_,_,_,_,_,_,_,_,_,_,_,_,_,_,_,_,_,_,_,_,_], _⟩) rfl ?_)
     refine Reg.RC_skip rfl (by rw [hops]; rfl) (Reg.RC_at (b := ⟨#[_,_,_,_,_,_,_,_,_,_,_,_,_,_,_,_,_,_,_,_,_,_,_,_,_,_,_,_,_,_,_,_,_,_,_,_,_,_,_,_,_,_,_,_,_,_,_,_,_,_,_,_,_], _⟩) rfl ?_)
     refine Reg.RC_skip rfl (by rw [hops]; rfl) (Reg.RC_at (b := ⟨#[_,_,_,_,_,_,_,_,_,_,_,_,_,_,_,_,_,_,_,_,_,_,_,_,_,_,_,_,_,_,_,_,_,_,_,_,_,_,_,_,_,_,_,_,_,_,_,_,_,_,_,_,_], _⟩) rfl ?_)
     refine Reg.RC_skip rfl (by rw [hops]; rfl) (Reg.RC_at (b := ⟨#[_,_,_,_,_,_,_,_,_,_,_,_,_,_,_,_,_,_,_,_,_,_,_,_,_,_,_,_,_,_,_,_,_,_,_,_,_,_,_,_,_,_,_,_,_,_,_,_,_,_,_,_,_], _⟩) rfl ?_)
     refine Reg.RC_skip rfl (by rw [hops]; rfl) (Reg.RC_at (b := ⟨#[_,_,_,_,_,_,_,_,_,_,_,_,_,_,_,_,_,_,_,_,_,_,_,_,_,_,_,_,_,_,_,_,_,_,_,_,_,_,_,_,_,_,_,_,_,_,_,_,_,_,_,_,_], _⟩) rfl ?_)
     apply Reg.RP rfl rfl rfl 33 rfl rfl
     ·
      intro D v W hc hj hf K' hK'
      go_step
      exact hK'.out
     · rfl
     refine Reg.RC_end (fun D v w9 hd hj hf => ?_)
     obtain ⟨j0, _⟩ := hj
     have st9 := j0
     clear hd hf j0
     refine hQ _ _ ?_
     clear hQ hops Q' ops'
     have B9 := below_steps Bq (Nat.le_refl _) st9
     have hr9 := Hid.mk_ (HR2.out.steps st9)
     clear st9 HR2
     repeat' (first | go_values | go_skip | go_guarded | go_step | go_upon)
     go_roundw
     case rel => exact ⟨t + 1, _, rfl, by omega, by go_num, by have h1 := hr9.out.toU; have h2 := HF.out; have h3 := HS2.out.1; rw [← h2, ← HX.out] at h3; rw [sorted_step (by have := HN.out; omega) HN1.out h3 (by rw [← HN1.out]; exact dn.out)] at h1; rw [HN1.out] at h1 ⊢; exact h1, B9⟩
     case measure => simp [intOf]; omega
  ·
   obtain rfl : t = N := by omega
   have hlt : decide ((t : Int) < (t : Int)) = false := decide_eq_false (by omega)
   go_wp2_with fail
   go_returns
   exact ⟨_, rfl, by have := HR.out; rw [show l.take t = l by rw [← HN.out, List.take_length]] at this; have h2 := this.ints_len (by rw [srt_len]; exact HN.out); exact h2, B⟩
theorem prtwice {vl : Value} {l : List Int} (w : World) (hl : IntsR w vl l) (h0 : l ≠ []) (hv : midL l) :
  Calls Try.prog 19 #[vl] w fun e w' => e = .returned (.int .i64 (twI l)) ∧ Steps w w' := by
 have hp := List.length_pos_iff.2 h0
 have OR := fun w' (s : Steps w w') => prsorted w' (hl.steps s) hv.1
 have r1 := hv.srt (i := (l.length - 1) / 2) (by omega)
 have r2 := hv.srt (i := l.length / 2) (by omega)
 have sl : (srt l).length = l.length := srt_len l
 have hn := hv.1
 unfold twI
 obtain ⟨s, hs⟩ : ∃ s, srt l = s := ⟨_, rfl⟩
 rw [hs] at OR r1 r2 sl ⊢
 obtain ⟨n, hN⟩ : ∃ n, l.length = n := ⟨_, rfl⟩
 rw [hN] at hp r1 r2 sl hn ⊢
 obtain ⟨la, lc, rfl⟩ := hl.shape
 rw [hN] at OR ⊢
 obtain ⟨x, hx⟩ : ∃ x, s.getD ((n - 1) / 2) 0 = x := ⟨_, rfl⟩
 obtain ⟨y, hy⟩ : ∃ y, s.getD (n / 2) 0 = y := ⟨_, rfl⟩
 rw [hx] at r1 ⊢
 rw [hy] at r2 ⊢
 have HX := Hid.mk_ (And.intro hx hy)
 clear hl h0 hv hs hN hx hy
 go_enter Try.func19, Try.ntmps19
 go_wp2_with fail
 refine (OR _ belowB).mono ?_
 rintro e w1 ⟨v, rfl, hv, hs1⟩
 obtain ⟨va, vc, rfl⟩ := hv.shape
 obtain ⟨b, o, rfl, hb, hx0⟩ := hv.at' (t := (n - 1) / 2) (by omega)
 obtain ⟨b', o', e2, hb', hy0⟩ := hv.at' (t := n / 2) (by omega)
 cases e2
 rw [sl]
 rw [HX.out.1] at hx0
 rw [HX.out.2] at hy0
 have B1 : Below w.heap.size w w1 := belowA hs1
 have q1 : ((n : Int) - 1).tdiv 2 = (((n - 1) / 2 : Nat) : Int) := by rw [show (n : Int) - 1 = ((n - 1 : Nat) : Int) by omega]; rfl
 have q2 : (n : Int).tdiv 2 = ((n / 2 : Nat) : Int) := rfl
 have i1 : (n - 1) / 2 < n := by omega
 have i2 : n / 2 < n := by omega
 obtain ⟨i, hi⟩ : ∃ i, (n - 1) / 2 = i := ⟨_, rfl⟩
 obtain ⟨k, hk⟩ : ∃ k, n / 2 = k := ⟨_, rfl⟩
 rw [hi] at hx0 q1 i1
 rw [hk] at hy0 q2 i2
 clear hv hs1 OR HX hi hk sl
 dsimp only
 repeat' (first | go_values | go_skip | go_guarded | go_step | go_upon)
 refine Reg.wp_chain (fun D v W => Below w1.heap.size w1 W ∧ True) (Reg.inl []) (Reg.gv []) Reg.None_ (fun _ => Reg.Any) (fun _ _ => False) (Reg.pl []) (Reg.pl [])
  (by kernel_rfl) (by kernel_rfl) (by kernel_rfl) (Reg.gv_some _ (by intro p hp; cases hp)) (fun _ => ⟨belowB, trivial⟩) (fun _ _ _ _ _ h => h) (fun _ _ _ _ _ _ _ _ _ _ _ _ _ => Reg.none_) (fun _ _ _ _ h => h.elim) (fun ops' Q' hops hQ => ?_)
 apply Reg.RP rfl rfl rfl 9 rfl rfl
 ·
  intro D v W hc hj hf K' hK'
  go_step
  exact hK'.out
 · rfl
 apply Reg.RP rfl rfl rfl 10 rfl rfl
 ·
  intro D v W hc hj hf K' hK'
  go_step
  exact hK'.out
 · rfl
 apply Reg.RP rfl rfl rfl 11 rfl rfl
 ·
  intro D v W hc hj hf K' hK'
  go_step
  exact hK'.out
 · rfl
 apply Reg.RP rfl rfl rfl 12 rfl rfl
 ·
  intro D v W hc hj hf K' hK'
  go_step
  exact hK'.out
 · rfl
 apply Reg.RP rfl rfl rfl 13 rfl rfl
 ·
  intro D v W hc hj hf K' hK'
  go_step
  exact hK'.out
 · rfl
 apply Reg.RP rfl rfl rfl 14 rfl rfl
 ·
  intro D v W hc hj hf K' hK'
  obtain ⟨j0, _⟩ := hj
  have c0 : W.cell? ⟨b, o + i, none⟩ = some (.int .i64 x) := (j0.cell (p := ⟨b, _, none⟩) hb).trans hx0
  go_step
  exact hK'.out
 · rfl
 apply Reg.RP rfl rfl rfl 15 rfl rfl
 ·
  intro D v W hc hj hf K' hK'
  go_step
  exact hK'.out
 · rfl
 apply Reg.RP rfl rfl rfl 16 rfl rfl
 ·
  intro D v W hc hj hf K' hK'
  go_step
  exact hK'.out
 · rfl
 apply Reg.RP rfl rfl rfl 17 rfl rfl
 ·
  intro D v W hc hj hf K' hK'
  go_step
  exact hK'.out
 · rfl
 apply Reg.RP rfl rfl rfl 18 rfl rfl
 ·
  intro D v W hc hj hf K' hK'
  go_step
  exact hK'.out
 · rfl
 apply Reg.RP rfl rfl rfl 19 rfl rfl
 ·
  intro D v W hc hj hf K' hK'
  obtain ⟨j0, _⟩ := hj
  have c0 : W.cell? ⟨b, o + k, none⟩ = some (.int .i64 y) := (j0.cell (p := ⟨b, _, none⟩) hb).trans hy0
  go_step
  exact hK'.out
 · rfl
 apply Reg.RP rfl rfl rfl 20 rfl rfl
 ·
  intro D v W hc hj hf K' hK'
  go_step
  exact hK'.out
 · rfl
 apply Reg.RP rfl rfl rfl 2 rfl rfl
 ·
  intro D v W hc hj hf K' hK'
  go_step
  exact hK'.out
 · rfl
 refine Reg.RC_end (fun D v w9 hd hj hf => ?_)
 obtain ⟨j0, _⟩ := hj
 have B := j0
 clear hd hf j0
 refine hQ _ _ ?_
 clear hQ hops Q' ops'
 repeat' (first | go_values | go_skip | go_guarded | go_step | go_upon)
 go_returns
 exact ⟨rfl, below_steps B1 (Nat.le_refl _) B⟩
theorem prMedian {vl : Value} {l : List Int} (w : World) (hl : IntsR w vl l) (hn : l.length ≤ 100000) (h20 : askV l = 0 → l.length ≤ 24) :
  Calls Try.prog 6 #[vl] w fun e w' => ∃ v, e = .returned (.tuple #[v, .int .i64 (askV l)]) ∧ FE w' v (askV l) (medQ l) ∧ Steps w w' := by
 have CS : ∀ w', Steps w w' → Calls Try.prog 17 #[vl] w' fun e w2 => e = .returned (.int .i64 (askV l)) ∧ Steps w' w2 := fun w' s => pvasked w' (hl.steps s) hn
 by_cases hk : askV l = 0
 ·
  rw [hk] at CS ⊢
  obtain ⟨hv, h0⟩ := askV_val hk
  have md := hv.mid (h20 hk)
  have TW : ∀ w', Steps w w' → Calls Try.prog 19 #[vl] w' fun e w2 => e = .returned (.int .i64 (twI l)) ∧ Steps w' w2 := fun w' s => prtwice w' (hl.steps s) h0 md
  have tr := tw_range h0 md
  have OF : ∀ w', Calls Try.prog 18 #[.int .i64 (twI l), .int .i64 2] w' fun e w2 => ∃ v, e = .returned (.tuple #[v, .int .i64 0]) ∧ FR w2 v (medQ l) ∧ Steps w' w2 := fun w' => by
   unfold medQ
   exact rofF (twI l) 2 w' (by omega) (by omega) (by decide) (by decide) (by decide)
  obtain ⟨la, lc, rfl⟩ := hl.shape
  generalize medQ l = mq at *
  generalize twI l = tw at *
  clear hl hn hk hv h0 md h20 tr
  go_enter Try.func6, Try.ntmps6
  go_wp2_with fail
  refine (CS _ belowB).mono ?_
  rintro e w1 ⟨rfl, hb1⟩
  have st : Steps _ w1 := hb1
  have B : Below w.heap.size w w1 := belowA st
  have or : Blk w1 (w.heap.size) 28 #[.bool false, .slice none 0 0, .bool false, .slice none 0 0] := Blk.stepsK st
  clear st
  go_wp2_with fail
  refine (TW _ belowB).mono ?_
  rintro e w2 ⟨rfl, hb2⟩
  have st : Steps _ w2 := hb2
  have sk : Below w1.heap.size w1 w2 := belowA st
  replace B := below_steps B (Nat.le_refl _) sk
  replace or := or.steps sk
  clear st sk
  go_wp2_with fail
  refine (OF _).mono ?_
  rintro e w3 ⟨vq, rfl, hvq, hb3⟩
  have st : Steps _ w3 := hb3
  have sk : Below w2.heap.size w2 w3 := belowA st
  replace B := below_steps B (Nat.le_refl _) sk
  replace or := or.steps sk
  clear st sk
  obtain ⟨cr0, cr1, cr2, cr3, fr, lr⟩ := or.s3
  obtain ⟨q1, q2, q3, q4, q5, q6, q7, q8, rfl⟩ := hvq.shape
  have Fq := Hid.mk_ hvq
  clear hvq
  have zr_3 : w.heap.size < w3.heap.size := or.lt
  have zz3 := B.size
  go_wp2_with fail
  refine bodyPost_ret (by simp [results, Try.results6, go_sem, cr0, cr1, cr2, cr3, fr, lr]; rfl) rfl ?_
  exact ⟨_, rfl, FE.ok (Fq.out.keeps keepsB), belowB⟩
 ·
  obtain ⟨la, lc, rfl⟩ := hl.shape
  generalize medQ l = mq at *
  generalize askV l = c at *
  have h3 : (c == 0) = false := by simpa using hk
  have h4 : (c != 0) = true := by simpa using hk
  have HK := Hid.mk_ hk
  clear hl hn hk h20
  go_enter Try.func6, Try.ntmps6
  go_wp2_with fail
  refine (CS _ belowB).mono ?_
  rintro e w1 ⟨rfl, hb1⟩
  have st : Steps _ w1 := hb1
  have B : Below w.heap.size w w1 := belowA st
  have or : Blk w1 (w.heap.size) 28 #[.bool false, .slice none 0 0, .bool false, .slice none 0 0] := Blk.stepsK st
  clear st
  obtain ⟨cr0, cr1, cr2, cr3, fr, lr⟩ := or.s3
  go_wp2_with fail
  refine bodyPost_ret (by simp [results, Try.results6, go_sem, cr0, cr1, cr2, cr3, fr, lr]; rfl) rfl ?_
  exact ⟨_, rfl, FE.bad HK.out, belowB⟩
theorem prDeviation {vl : Value} {l : List Int} (w : World) (hl : IntsR w vl l) (hn : l.length ≤ 100000) (h20 : askV l = 0 → l.length ≤ 24) :
  Calls Try.prog 8 #[vl] w fun e w' => ∃ v, e = .returned (.tuple #[v, .int .i64 (askV l)]) ∧ FE w' v (askV l) (dvnQ l) ∧ Steps w w' := by
 have CS : ∀ w', Steps w w' → Calls Try.prog 17 #[vl] w' fun e w2 => e = .returned (.int .i64 (askV l)) ∧ Steps w' w2 := fun w' s => pvasked w' (hl.steps s) hn
 by_cases hk : askV l = 0
 ·
  rw [hk] at CS ⊢
  obtain ⟨hv, h0⟩ := askV_val hk
  have md := hv.mid (h20 hk)
  have TW : ∀ w', Steps w w' → Calls Try.prog 19 #[vl] w' fun e w2 => e = .returned (.int .i64 (twI l)) ∧ Steps w' w2 := fun w' s => prtwice w' (hl.steps s) h0 md
  have mr := tw_val h0 hv
  have am := awI_mid hv (h20 hk) mr
  have a0 : awI (twI l) l ≠ [] := fun e => h0 (List.eq_nil_of_length_eq_zero (by have := congrArg List.length e; rwa [awI_len] at this))
  have TA : ∀ w' v, IntsR w' v (awI (twI l) l) → Calls Try.prog 19 #[v] w' fun e w2 => e = .returned (.int .i64 (twI (awI (twI l) l))) ∧ Steps w' w2 := fun w' v h => prtwice w' h a0 am
  have tr := tw_range a0 am
  have OF : ∀ w', Calls Try.prog 18 #[.int .i64 (twI (awI (twI l) l)), .int .i64 4] w' fun e w2 => ∃ v, e = .returned (.tuple #[v, .int .i64 0]) ∧ FR w2 v (dvnQ l) ∧ Steps w' w2 := fun w' => by
   unfold dvnQ
   exact rofF (twI (awI (twI l) l)) 4 w' (by omega) (by omega) (by decide) (by decide) (by decide)
  have AS_ := fun i (h : i < l.length) => show (awI (twI l) l).take (i + 1) = (awI (twI l) l).take i ++ [max (2 * l.getD i 0 - twI l) (twI l - 2 * l.getD i 0)] from by rw [take_step (by rw [awI_len]; exact h), awI_get h]
  have AL : ∀ i, i ≤ l.length → ((awI (twI l) l).take i).length = i := fun i h => by rw [List.length_take, awI_len]; omega
  have AE : (awI (twI l) l).take l.length = awI (twI l) l := by rw [show l.length = (awI (twI l) l).length from (awI_len _ _).symm, List.take_length]
  have VR := fun i (h : i < l.length) => hv.get h
  obtain ⟨ta, hta⟩ : ∃ t, twI (awI (twI l) l) = t := ⟨_, rfl⟩
  rw [hta] at TA OF tr
  obtain ⟨PP, hPP⟩ : ∃ f : Nat → List Int, ∀ t, (awI (twI l) l).take t = f t := ⟨_, fun _ => rfl⟩
  have P0 : PP 0 = [] := by rw [← hPP]; rfl
  simp only [hPP] at AS_ AL AE
  obtain ⟨aw, haw⟩ : ∃ t, awI (twI l) l = t := ⟨_, rfl⟩
  rw [haw] at TA AE
  generalize dvnQ l = mq at *
  generalize twI l = tw at *
  obtain ⟨N, hN⟩ : ∃ n, l.length = n := ⟨_, rfl⟩
  have HN := Hid.mk_ hN
  have hn20 := h20 hk
  obtain ⟨la, lc, rfl⟩ := hl.shape
  rw [hN] at CS TW AS_ AL AE VR hn20 ⊢
  have HL := Hid.mk_ hl
  rw [hN] at HL
  have HAS := Hid.mk_ AS_
  have HAL := Hid.mk_ AL
  have HAE := Hid.mk_ AE
  have HVR := Hid.mk_ VR
  have HP0 := Hid.mk_ P0
  clear hl hn hk hv h0 md h20 am a0 hta haw AS_ AL AE VR hN hPP P0 tr
  go_enter Try.func8, Try.ntmps8
  go_wp2_with fail
  refine (CS _ belowB).mono ?_
  rintro e w1 ⟨rfl, hs1⟩
  have or1 : Blk w1 w.heap.size 28 #[.bool false, .slice none 0 0, .bool false, .slice none 0 0] := Blk.stepsK hs1
  have B1 : Below w.heap.size w w1 := belowA hs1
  clear hs1 CS
  dsimp only
  go_wp2_with fail
  refine (TW _ B1).mono ?_
  rintro e w2 ⟨rfl, hs2⟩
  have or2 : Blk w2 w.heap.size 28 #[.bool false, .slice none 0 0, .bool false, .slice none 0 0] := or1.steps hs2
  have B2 : Below w.heap.size w w2 := below_steps B1 (Nat.le_refl _) hs2
  have zw : w.heap.size < w2.heap.size := or2.lt
  clear hs2 TW or1 B1
  dsimp only
  go_wp2_with fail
  go_loopw [7, 6] (fun kk oo wr => ∃ (t : Nat) (ow : Value), ow = oo ∧ t ≤ N ∧ kk = .int .i64 t ∧ RowU wr w2.heap.size 2 1 ow t (ints (PP t)) ∧ Below w2.heap.size w2 wr) (fun kk _ _ => N - (intOf kk).toNat)
  case atStart => exact ⟨0, _, rfl, Nat.zero_le _, rfl, by rw [HP0.out]; exact RowU.nil _ _ _ _, Below.refl _ _⟩
  case round =>
   obtain ⟨t, ow, rfl, ht, rfl, hr, B⟩ := hrel
   obtain ⟨oa, ocap, rfl⟩ := hr.len
   have HR := Hid.mk_ hr
   clear hr
   rcases Nat.lt_or_ge t N with tn | tn
   ·
    have hlt : decide ((t : Int) < (N : Int)) = true := decide_eq_true (by omega)
    obtain ⟨b, of, rfl, hbl, hx0⟩ := HL.out.at' (t := t) (by have := HN.out; omega)
    have xr := HVR.out t tn
    have hps := Hid.mk_ (HAS.out t tn)
    have hpl := HAL.out t ht
    obtain ⟨x, hxx⟩ : ∃ x, l.getD t 0 = x := ⟨_, rfl⟩
    rw [hxx] at hx0 hps xr
    have c1 : wr.cell? ⟨b, of + t, none⟩ = some (.int .i64 x) := ((below_steps B2 (Nat.le_refl _) B).cell (p := ⟨b, _, none⟩) hbl).trans hx0
    have zz := B.size
    obtain ⟨yy, hyy⟩ : ∃ z, max (2 * x - tw) (tw - 2 * x) = z := ⟨_, rfl⟩
    have hmx : (if 2 * x - tw < tw - 2 * x then tw - 2 * x else 2 * x - tw) = yy := by rw [← hyy]; split <;> omega
    rw [hyy] at hps
    have hw1 : IntKind.i64.wrap (2 * x) = 2 * x := by rw [IntKind.wrap_i64]; omega
    have hw2 : IntKind.i64.wrap (2 * x - tw) = 2 * x - tw := by rw [IntKind.wrap_i64]; omega
    have hw3 : IntKind.i64.wrap (tw - 2 * x) = tw - 2 * x := by rw [IntKind.wrap_i64]; omega
    clear hx0 hxx hyy
    go_upto_region 9 with fail
    have HA : ∀ o, RowU ((wr.alloc o).drew) w2.heap.size 2 1 (.slice oa t ocap) t (ints (PP t)) := fun o => (HR.out.alloc o).drew
    have HBn : Blk ((wr.alloc (.cells #[.int .i64 yy] 2)).drew) wr.heap.size 2 #[.int .i64 yy] := (Blk.new _ _ _).drew
    have HSn : w2.heap.size ≤ ((wr.alloc (.cells #[.int .i64 yy] 2)).drew).heap.size := by rw [World.size_drew, World.size_alloc]; omega
    have ht5 : t ≤ 100000 := by omega
    have HBA : Below w2.heap.size w2 ((wr.alloc (.cells #[.int .i64 yy] 2)).drew) := ((B.alloc B.size _).drew)
    go_region_law (refine step_app_i64 rfl (.tmp 24) (.tmp 40) rfl w2.heap.size t (.slice oa t ocap) (PP t) rfl (HA _) wr.heap.size yy rfl HBn ht5 HSn ?_; intro v' w7 hr7 hg7)
    all_goals (
     have B7 := (HA _).below hg7 HBA (Nat.le_refl _)
     obtain ⟨oa', ocap', rfl⟩ := hr7.len
     have HR7 := Hid.mk_ hr7
     clear hg7 hr7 HA HBn HSn HBA
     clear HR B
     repeat' (first | go_values | go_skip | go_guarded | go_step | go_upon)
     go_roundw
     case rel => exact ⟨t + 1, _, rfl, by omega, by go_num, by rw [hps.out]; exact HR7.out, B7⟩
     case measure => simp [intOf]; omega)
   ·
    obtain rfl : t = N := by omega
    have hlt : decide ((t : Int) < (t : Int)) = false := decide_eq_false (by omega)
    have ia : IntsR wr (.slice oa t ocap) aw := by
     have h1 := HR.out
     rw [HAE.out] at h1
     have h2 := HAL.out t (Nat.le_refl _)
     rw [HAE.out] at h2
     exact h1.ints_len h2
    have IA := Hid.mk_ ia
    have or3 := or2.steps B
    have B3 : Below w.heap.size w wr := below_steps B2 (Nat.le_refl _) B
    clear ia or2 B2 B HR
    go_wp2_with fail
    refine (TA _ _ IA.out).mono ?_
    rintro e w4 ⟨rfl, hs4⟩
    have or4 : Blk w4 w.heap.size 28 #[.bool false, .slice none 0 0, .bool false, .slice none 0 0] := or3.steps hs4
    have B4 : Below w.heap.size w w4 := below_steps B3 (Nat.le_refl _) hs4
    clear hs4 or3 B3 TA IA
    dsimp only
    go_wp2_with fail
    refine (OF _).mono ?_
    rintro e w5 ⟨v, rfl, hv5, hs5⟩
    have or5 : Blk w5 w.heap.size 28 #[.bool false, .slice none 0 0, .bool false, .slice none 0 0] := or4.steps hs5
    have B5 : Below w.heap.size w w5 := below_steps B4 (Nat.le_refl _) hs5
    obtain ⟨q1, q2, q3, q4, q5, q6, q7, q8, rfl⟩ := hv5.shape
    have Fq := Hid.mk_ hv5
    have cr0 := or5.c 0 rfl
    have cr1 := or5.c 1 rfl
    have cr2 := or5.c 2 rfl
    have cr3 := or5.c 3 rfl
    have fr := or5.fr
    have lr := or5.lt
    clear hs5 or4 B4 OF hv5
    dsimp only
    go_wp2_with fail
    refine bodyPost_ret (by simp [results, Try.results8, go_sem, cr0, cr1, cr2, cr3, fr, lr]; rfl) rfl ?_
    exact ⟨_, rfl, FE.ok (Fq.out.keeps keepsB), belowB⟩
 ·
  obtain ⟨la, lc, rfl⟩ := hl.shape
  generalize dvnQ l = mq at *
  generalize askV l = c at *
  have h3 : (c == 0) = false := by simpa using hk
  have h4 : (c != 0) = true := by simpa using hk
  have HK := Hid.mk_ hk
  clear hl hn hk h20
  go_enter Try.func8, Try.ntmps8
  go_wp2_with fail
  refine (CS _ belowB).mono ?_
  rintro e w1 ⟨rfl, hb1⟩
  have st : Steps _ w1 := hb1
  have B : Below w.heap.size w w1 := belowA st
  have or : Blk w1 (w.heap.size) 28 #[.bool false, .slice none 0 0, .bool false, .slice none 0 0] := Blk.stepsK st
  clear st
  obtain ⟨cr0, cr1, cr2, cr3, fr, lr⟩ := or.s3
  go_wp2_with fail
  refine bodyPost_ret (by simp [results, Try.results8, go_sem, cr0, cr1, cr2, cr3, fr, lr]; rfl) rfl ?_
  exact ⟨_, rfl, FE.bad HK.out, belowB⟩
theorem prPercentile {vl : Value} {l : List Int} (num den : Int) (w : World) (hl : IntsR w vl l) (hn : l.length ≤ 100000) (h20 : askV l = 0 → l.length ≤ 24) (hnum : -9223372036854775808 ≤ num ∧ num ≤ 9223372036854775807) (hden : -9223372036854775808 ≤ den ∧ den ≤ 9223372036854775807) :
  Calls Try.prog 10 #[vl, .int .i64 num, .int .i64 den] w fun e w' => e = .returned (.tuple #[.int .i64 (pctS l num den).1, .int .i64 (pctS l num den).2]) ∧ Steps w w' := by
 have CS : ∀ w', Steps w w' → Calls Try.prog 17 #[vl] w' fun e w2 => e = .returned (.int .i64 (askV l)) ∧ Steps w' w2 := fun w' s => pvasked w' (hl.steps s) hn
 unfold pctS
 by_cases hk : askV l = 0
 ·
  rw [if_pos hk]
  rw [hk] at CS
  obtain ⟨hv, h0⟩ := askV_val hk
  have md := hv.mid (h20 hk)
  by_cases hb : den < 1 ∨ 1000 < den ∨ num < 0 ∨ den < num
  ·
   rw [if_pos hb]
   obtain ⟨la, lc, rfl⟩ := hl.shape
   clear hl hn hk hv h0 md h20
   rcases (show den < 1 ∨ (¬ den < 1 ∧ 1000 < den) ∨ (¬ den < 1 ∧ ¬ 1000 < den ∧ num < 0) ∨ (¬ den < 1 ∧ ¬ 1000 < den ∧ ¬ num < 0 ∧ den < num) by omega) with g | ⟨g, g2⟩ | ⟨g, g2, g3⟩ | ⟨g, g2, g3, g4⟩
   ·
    clear hb
    go_enter Try.func10, Try.ntmps10
    go_wp2_with fail
    refine (CS _ belowB).mono ?_
    rintro e w1 ⟨rfl, hs⟩
    have B := hs
    clear hs CS
    dsimp only
    go_wp2_with fail
    go_returns
    exact ⟨rfl, B⟩
   ·
    clear hb
    go_enter Try.func10, Try.ntmps10
    go_wp2_with fail
    refine (CS _ belowB).mono ?_
    rintro e w1 ⟨rfl, hs⟩
    have B := hs
    clear hs CS
    dsimp only
    go_wp2_with fail
    go_returns
    exact ⟨rfl, B⟩
   ·
    clear hb
    go_enter Try.func10, Try.ntmps10
    go_wp2_with fail
    refine (CS _ belowB).mono ?_
    rintro e w1 ⟨rfl, hs⟩
    have B := hs
    clear hs CS
    dsimp only
    go_wp2_with fail
    go_returns
    exact ⟨rfl, B⟩
   ·
    clear hb
    go_enter Try.func10, Try.ntmps10
    go_wp2_with fail
    refine (CS _ belowB).mono ?_
    rintro e w1 ⟨rfl, hs⟩
    have B := hs
    clear hs CS
    dsimp only
    go_wp2_with fail
    go_returns
    exact ⟨rfl, B⟩
  ·
   rw [if_neg hb]
   have hp := List.length_pos_iff.2 h0
   have d1 : ¬ den < 1 := by omega
   have d2 : ¬ 1000 < den := by omega
   have d3 : ¬ num < 0 := by omega
   have d4 : ¬ den < num := by omega
   have OR := fun w' (s : Steps w w') => prsorted w' (hl.steps s) md.1
   have il := pct_lt (n := l.length) (num := num) (den := den) hp (by omega) (by omega) (by omega)
   have sl : (srt l).length = l.length := srt_len l
   have hn20 := md.1
   have mb : num * (l.length : Int) ≤ 1000 * 24 := Int.mul_le_mul (by omega) (by omega) (by omega) (by omega)
   have m0 : 0 ≤ num * (l.length : Int) := Int.mul_nonneg (by omega) (by omega)
   have PI := fun (i : Nat) h1 h2 => pct_is (n := l.length) (num := num) (den := den) (i := i) (by omega) (by omega) h1 h2
   have PM : ∀ i : Nat, i < l.length → ((i : Int) + 1) * den < num * (l.length : Int) → i + 1 < l.length := fun i hi h1 => by
    refine Nat.lt_of_not_le fun h2 => ?_
    have e : (i : Int) + 1 = (l.length : Int) := by omega
    rw [e] at h1
    have := Int.mul_le_mul_of_nonneg_right (show num ≤ den by omega) (show (0 : Int) ≤ (l.length : Int) by omega)
    rw [Int.mul_comm den] at this
    omega
   obtain ⟨s, hs⟩ : ∃ s, srt l = s := ⟨_, rfl⟩
   rw [hs] at OR sl ⊢
   obtain ⟨n, hN⟩ : ∃ n, l.length = n := ⟨_, rfl⟩
   rw [hN] at hp sl il hn20 mb m0 PI PM ⊢
   obtain ⟨la, lc, rfl⟩ := hl.shape
   rw [hN] at OR CS ⊢
   obtain ⟨m, hm⟩ : ∃ m, num * (n : Int) = m := ⟨_, rfl⟩
   rw [hm] at mb m0 PI PM
   obtain ⟨x, hx⟩ : ∃ x, s.getD (pctI n num den) 0 = x := ⟨_, rfl⟩
   rw [hx]
   have HX := Hid.mk_ hx
   have HPI := Hid.mk_ PI
   have HPM := Hid.mk_ PM
   clear hl hn hk hv h0 md h20 hs hN hb PI PM il hx
   go_enter Try.func10, Try.ntmps10
   go_wp2_with fail
   refine (CS _ belowB).mono ?_
   rintro e w1 ⟨rfl, hs1⟩
   have B1 : Below w.heap.size w w1 := hs1
   clear hs1 CS
   dsimp only
   go_wp2_with fail
   refine (OR _ B1).mono ?_
   rintro e w2 ⟨v, rfl, hv, hs2⟩
   obtain ⟨va, vc, rfl⟩ := hv.shape
   have HV := Hid.mk_ hv
   have HSL := Hid.mk_ sl
   rw [sl] at HV ⊢
   have B2 : Below w.heap.size w w2 := below_steps B1 (Nat.le_refl _) hs2
   clear hs2 hv OR sl B1
   dsimp only
   go_wp2_with fail
   go_loopw [10] (fun kk wr => ∃ i : Nat, i < n ∧ kk = .int .i64 i ∧ (∀ j : Nat, j < i → ((j : Int) + 1) * den < m) ∧ wr = w2) (fun kk _ => n - (intOf kk).toNat)
   case atStart => exact ⟨0, hp, rfl, fun j hj => absurd hj (Nat.not_lt_zero _), rfl⟩
   case round =>
    obtain ⟨i, hi, rfl, hl1, rfl⟩ := hrel
    have HL1 := Hid.mk_ hl1
    clear hl1
    obtain ⟨q, hq⟩ : ∃ q, ((i : Int) + 1) * den = q := ⟨_, rfl⟩
    have q0 : 0 ≤ q := by rw [← hq]; exact Int.mul_nonneg (by omega) (by omega)
    have q1 : q ≤ 24 * 1000 := by rw [← hq]; exact Int.mul_le_mul (by omega) (by omega) (by omega) (by omega)
    by_cases hlt : q < m
    ·
     have dlt : decide (q < m) = true := decide_eq_true hlt
     have HQ := Hid.mk_ (HPM.out i hi (by rw [hq]; exact hlt))
     have HL2 := Hid.mk_ (show ∀ j : Nat, j < i + 1 → ((j : Int) + 1) * den < m from fun j hj => by
      rcases Nat.lt_or_ge j i with h1 | h1
      · exact HL1.out j h1
      ·
       obtain rfl : j = i := by omega
       rw [hq]; exact hlt)
     clear hlt
     go_wp2_with fail
     go_roundw
     case rel => exact ⟨i + 1, HQ.out, by go_num, HL2.out, by first | rfl | trivial⟩
     case measure => simp [intOf]; omega
    ·
     have dlt : decide (q < m) = false := decide_eq_false hlt
     have ep := HPI.out i HL1.out (by rw [hq]; first | exact hlt | omega)
     have hx := HX.out
     rw [ep] at hx
     obtain ⟨b, o, rfl, hb, hx0⟩ := HV.out.at' (t := i) (by have := HSL.out; omega)
     rw [hx] at hx0
     clear hx ep hlt
     go_wp2_with fail
     go_returns
     exact ⟨rfl, B2⟩
 ·
  rw [if_neg hk]
  obtain ⟨la, lc, rfl⟩ := hl.shape
  generalize askV l = c at *
  have h3 : (c == 0) = false := by simpa using hk
  have h4 : (c != 0) = true := by simpa using hk
  clear hl hn hk h20
  go_enter Try.func10, Try.ntmps10
  go_wp2_with fail
  refine (CS _ belowB).mono ?_
  rintro e w1 ⟨rfl, hs⟩
  have B := hs
  clear hs CS
  dsimp only
  go_wp2_with fail
  go_returns
  exact ⟨rfl, B⟩
theorem middles_great {vl : Value} {l : List Int} (num den : Int) (w : World) (hl : IntsR w vl l) (h : grB l.length = true) :
  Calls Try.prog 3 #[vl, .int .i64 num, .int .i64 den] w fun e w' => e = .returned (.bool true) ∧ Steps w w' := by
 have GR : ∀ w', Steps w w' → Calls Try.prog 4 #[vl] w' fun e w2 => e = .returned (.bool true) ∧ Steps w' w2 := fun w' s => by have := pvgreat w' (hl.steps s); rwa [h] at this
 obtain ⟨la, lc, rfl⟩ := hl.shape
 clear hl h
 go_enter Try.func3, Try.ntmps3
 go_wp2_with fail
 refine (GR _ belowB).mono ?_
 rintro e w1 ⟨rfl, hs1⟩
 have B : Below w.heap.size w w1 := hs1
 clear hs1 GR
 dsimp only
 go_wp2_with fail
 go_returns
 exact ⟨rfl, belowB⟩
theorem middles_ok {vl : Value} {l : List Int} (num den : Int) (w : World) (hl : IntsR w vl l) (hnum : -9223372036854775808 ≤ num ∧ num ≤ 9223372036854775807) (hden : -9223372036854775808 ≤ den ∧ den ≤ 9223372036854775807) (h : grB l.length = false) :
  Calls Try.prog 3 #[vl, .int .i64 num, .int .i64 den] w fun e w' => e = .returned (.bool true) ∧ Steps w w' := by
 have GR : ∀ w', Steps w w' → Calls Try.prog 4 #[vl] w' fun e w2 => e = .returned (.bool false) ∧ Steps w' w2 := fun w' s => by have := pvgreat w' (hl.steps s); rwa [h] at this
 have hN0 : l.length ≤ 24 ∨ (1000 < l.length ∧ l.length ≤ 1010) := by
  unfold grB at h
  simp only [Bool.or_eq_false_iff, decide_eq_false_iff_not, Bool.and_eq_false_iff] at h
  omega
 have h24 : askV l = 0 → l.length ≤ 24 := fun e => by have := (askV_val e).1.1; omega
 have MA : ∀ w' v, IntsR w' v l → Calls Try.prog 5 #[v] w' fun e w2 => ∃ u, e = .returned (.tuple #[u, .int .i64 (askV l)]) ∧ FE w2 u (askV l) (medQ l) ∧ Steps w' w2 := fun w' v h => vMedian w' h (by omega) h24
 have MB : ∀ w' v, IntsR w' v l → Calls Try.prog 6 #[v] w' fun e w2 => ∃ u, e = .returned (.tuple #[u, .int .i64 (askV l)]) ∧ FE w2 u (askV l) (medQ l) ∧ Steps w' w2 := fun w' v h => prMedian w' h (by omega) h24
 have DA : ∀ w' v, IntsR w' v l → Calls Try.prog 7 #[v] w' fun e w2 => ∃ u, e = .returned (.tuple #[u, .int .i64 (askV l)]) ∧ FE w2 u (askV l) (dvnQ l) ∧ Steps w' w2 := fun w' v h => vDeviation w' h (by omega) h24
 have DB : ∀ w' v, IntsR w' v l → Calls Try.prog 8 #[v] w' fun e w2 => ∃ u, e = .returned (.tuple #[u, .int .i64 (askV l)]) ∧ FE w2 u (askV l) (dvnQ l) ∧ Steps w' w2 := fun w' v h => prDeviation w' h (by omega) h24
 have PA : ∀ w' v, IntsR w' v l → Calls Try.prog 9 #[v, .int .i64 num, .int .i64 den] w' fun e w2 => e = .returned (.tuple #[.int .i64 (pctS l num den).1, .int .i64 (pctS l num den).2]) ∧ Steps w' w2 := fun w' v h => vPercentile num den w' h (by omega) h24 hnum hden
 have PB : ∀ w' v, IntsR w' v l → Calls Try.prog 10 #[v, .int .i64 num, .int .i64 den] w' fun e w2 => e = .returned (.tuple #[.int .i64 (pctS l num den).1, .int .i64 (pctS l num den).2]) ∧ Steps w' w2 := fun w' v h => prPercentile num den w' h (by omega) h24 hnum hden
 have KA : ∀ w' v, IntsR w' v l → Calls Try.prog 11 #[v] w' fun e w2 => e = .returned (.int .i64 (chkV l)) ∧ Steps w' w2 := fun w' v h => vcheck w' h (by omega)
 have KB : ∀ w' v, IntsR w' v l → Calls Try.prog 12 #[v] w' fun e w2 => e = .returned (.int .i64 (chkV l)) ∧ Steps w' w2 := fun w' v h => prvcheck w' h (by omega)
 generalize medQ l = dq at *
 generalize dvnQ l = vq at *
 generalize (pctS l num den).1 = pa at *
 generalize (pctS l num den).2 = pe at *
 generalize chkV l = ck at *
 generalize askV l = ak at *
 obtain ⟨la, lc, rfl⟩ := hl.shape
 have HL := Hid.mk_ hl
 obtain ⟨N, hN⟩ : ∃ n, l.length = n := ⟨_, rfl⟩
 rw [hN] at GR HL ⊢
 have dck : (ck == ck) = true := by simp
 have dak : (ak == ak) = true := by simp
 have dpa : (pa == pa) = true := by simp
 have dpe : (pe == pe) = true := by simp
 clear hl h hN0 h24 hN hnum hden
 have HL0 := Hid.mk_ HL.out
 go_enter Try.func3, Try.ntmps3
 go_wp2_with fail
 refine (GR _ belowB).mono ?_
 rintro e w1 ⟨rfl, hb1⟩
 have st : Steps _ w1 := hb1
 have B : Below w.heap.size w w1 := belowA st
 have kp : Keeps w w1 := Keeps.then_ keepsB st
 replace HL := Hid.mk_ (HL0.out.steps B)
 clear kp
 clear st
 go_wp2_with fail
 refine (MA _ _ (HL.out.steps belowB)).mono ?_
 rintro e w2 ⟨va_, rfl, hva_, hb2⟩
 have st : Steps _ w2 := hb2
 have sk : Below w1.heap.size w1 w2 := belowA st
 replace B := below_steps B (Nat.le_refl _) sk
 replace HL := Hid.mk_ (HL.out.steps sk)
 clear st sk
 obtain ⟨a_1, a_2, a_3, a_4, a_5, a_6, a_7, a_8, rfl⟩ := hva_.shape
 have Fa_ := Hid.mk_ hva_
 clear hva_
 have zz2 := B.size
 go_wp2_with fail
 refine (MB _ _ (HL.out.steps belowB)).mono ?_
 rintro e w3 ⟨vb_, rfl, hvb_, hb3⟩
 have st : Steps _ w3 := hb3
 have sk : Below w2.heap.size w2 w3 := belowA st
 replace B := below_steps B (Nat.le_refl _) sk
 have ova : Blk w3 (w2.heap.size) 28 #[.bool a_1, .slice a_2 a_3 a_4, .bool a_5, .slice a_6 a_7 a_8] := Blk.stepsK st
 replace HL := Hid.mk_ (HL.out.steps sk)
 replace Fa_ := Hid.mk_ (Fa_.out.steps sk)
 clear st sk
 obtain ⟨b_1, b_2, b_3, b_4, b_5, b_6, b_7, b_8, rfl⟩ := hvb_.shape
 have Fb_ := Hid.mk_ hvb_
 clear hvb_
 have zva_3 : w2.heap.size < w3.heap.size := ova.lt
 have zz3 := B.size
 go_wp2_with fail
 refine (DA _ _ (HL.out.steps belowB)).mono ?_
 rintro e w4 ⟨vc_, rfl, hvc_, hb4⟩
 have st : Steps _ w4 := hb4
 have sk : Below w3.heap.size w3 w4 := belowA st
 replace B := below_steps B (Nat.le_refl _) sk
 have ovb : Blk w4 (w3.heap.size) 28 #[.bool b_1, .slice b_2 b_3 b_4, .bool b_5, .slice b_6 b_7 b_8] := Blk.stepsK st
 replace ova := ova.steps sk
 replace HL := Hid.mk_ (HL.out.steps sk)
 replace Fa_ := Hid.mk_ (Fa_.out.steps sk)
 replace Fb_ := Hid.mk_ (Fb_.out.steps sk)
 clear st sk
 obtain ⟨c_1, c_2, c_3, c_4, c_5, c_6, c_7, c_8, rfl⟩ := hvc_.shape
 have Fc_ := Hid.mk_ hvc_
 clear hvc_
 have zvb_4 : w3.heap.size < w4.heap.size := ovb.lt
 have zz4 := B.size
 go_wp2_with fail
 refine (DB _ _ (HL.out.steps belowB)).mono ?_
 rintro e w5 ⟨vd_, rfl, hvd_, hb5⟩
 have st : Steps _ w5 := hb5
 have sk : Below w4.heap.size w4 w5 := belowA st
 replace B := below_steps B (Nat.le_refl _) sk
 have ovc : Blk w5 (w4.heap.size) 28 #[.bool c_1, .slice c_2 c_3 c_4, .bool c_5, .slice c_6 c_7 c_8] := Blk.stepsK st
 replace ova := ova.steps sk
 replace ovb := ovb.steps sk
 replace HL := Hid.mk_ (HL.out.steps sk)
 replace Fa_ := Hid.mk_ (Fa_.out.steps sk)
 replace Fb_ := Hid.mk_ (Fb_.out.steps sk)
 replace Fc_ := Hid.mk_ (Fc_.out.steps sk)
 clear st sk
 obtain ⟨d_1, d_2, d_3, d_4, d_5, d_6, d_7, d_8, rfl⟩ := hvd_.shape
 have Fd_ := Hid.mk_ hvd_
 clear hvd_
 have zvc_5 : w4.heap.size < w5.heap.size := ovc.lt
 have zz5 := B.size
 go_wp2_with fail
 refine (PA _ _ (HL.out.steps belowB)).mono ?_
 rintro e w6 ⟨rfl, hb6⟩
 have st : Steps _ w6 := hb6
 have sk : Below w5.heap.size w5 w6 := belowA st
 replace B := below_steps B (Nat.le_refl _) sk
 have ovd : Blk w6 (w5.heap.size) 28 #[.bool d_1, .slice d_2 d_3 d_4, .bool d_5, .slice d_6 d_7 d_8] := Blk.stepsK st
 replace ova := ova.steps sk
 replace ovb := ovb.steps sk
 replace ovc := ovc.steps sk
 replace HL := Hid.mk_ (HL.out.steps sk)
 replace Fa_ := Hid.mk_ (Fa_.out.steps sk)
 replace Fb_ := Hid.mk_ (Fb_.out.steps sk)
 replace Fc_ := Hid.mk_ (Fc_.out.steps sk)
 replace Fd_ := Hid.mk_ (Fd_.out.steps sk)
 clear st sk
 go_wp2_with fail
 refine (PB _ _ (HL.out.steps belowB)).mono ?_
 rintro e w7 ⟨rfl, hb7⟩
 have st : Steps _ w7 := hb7
 have sk : Below w6.heap.size w6 w7 := belowA st
 replace B := below_steps B (Nat.le_refl _) sk
 replace ova := ova.steps sk
 replace ovb := ovb.steps sk
 replace ovc := ovc.steps sk
 replace ovd := ovd.steps sk
 replace HL := Hid.mk_ (HL.out.steps sk)
 replace Fa_ := Hid.mk_ (Fa_.out.steps sk)
 replace Fb_ := Hid.mk_ (Fb_.out.steps sk)
 replace Fc_ := Hid.mk_ (Fc_.out.steps sk)
 replace Fd_ := Hid.mk_ (Fd_.out.steps sk)
 clear st sk
 go_wp2_with fail
 refine (KA _ _ (HL.out.steps belowB)).mono ?_
 rintro e w8 ⟨rfl, hb8⟩
 have st : Steps _ w8 := hb8
 have sk : Below w7.heap.size w7 w8 := belowA st
 replace B := below_steps B (Nat.le_refl _) sk
 replace ova := ova.steps sk
 replace ovb := ovb.steps sk
 replace ovc := ovc.steps sk
 replace ovd := ovd.steps sk
 replace HL := Hid.mk_ (HL.out.steps sk)
 replace Fa_ := Hid.mk_ (Fa_.out.steps sk)
 replace Fb_ := Hid.mk_ (Fb_.out.steps sk)
 replace Fc_ := Hid.mk_ (Fc_.out.steps sk)
 replace Fd_ := Hid.mk_ (Fd_.out.steps sk)
 clear st sk
 go_wp2_with fail
 refine (KB _ _ (HL.out.steps belowB)).mono ?_
 rintro e w9 ⟨rfl, hb9⟩
 have st : Steps _ w9 := hb9
 have sk : Below w8.heap.size w8 w9 := belowA st
 replace B := below_steps B (Nat.le_refl _) sk
 replace ova := ova.steps sk
 replace ovb := ovb.steps sk
 replace ovc := ovc.steps sk
 replace ovd := ovd.steps sk
 replace HL := Hid.mk_ (HL.out.steps sk)
 replace Fa_ := Hid.mk_ (Fa_.out.steps sk)
 replace Fb_ := Hid.mk_ (Fb_.out.steps sk)
 replace Fc_ := Hid.mk_ (Fc_.out.steps sk)
 replace Fd_ := Hid.mk_ (Fd_.out.steps sk)
 clear st sk
 obtain ⟨cva0, cva1, cva2, cva3⟩ := ova.r3
 have lva := ova.lt
 obtain ⟨cvb0, cvb1, cvb2, cvb3⟩ := ovb.r3
 have lvb := ovb.lt
 go_wp2_with fail
 refine (psame (c := ak) (r := dq) _ (Fa_.out.keeps keepsB) (Fb_.out.keeps keepsB)).mono ?_
 rintro e w10 ⟨rfl, hb10⟩
 have st : Steps _ w10 := hb10
 have sk : Below w9.heap.size w9 w10 := belowA st
 replace B := below_steps B (Nat.le_refl _) sk
 replace ova := ova.steps sk
 replace ovb := ovb.steps sk
 replace ovc := ovc.steps sk
 replace ovd := ovd.steps sk
 replace HL := Hid.mk_ (HL.out.steps sk)
 replace Fa_ := Hid.mk_ (Fa_.out.steps sk)
 replace Fb_ := Hid.mk_ (Fb_.out.steps sk)
 replace Fc_ := Hid.mk_ (Fc_.out.steps sk)
 replace Fd_ := Hid.mk_ (Fd_.out.steps sk)
 clear st sk cva0 cva1 cva2 cva3 lva cvb0 cvb1 cvb2 cvb3 lvb
 obtain ⟨cvc0, cvc1, cvc2, cvc3⟩ := ovc.r3
 have lvc := ovc.lt
 obtain ⟨cvd0, cvd1, cvd2, cvd3⟩ := ovd.r3
 have lvd := ovd.lt
 go_wp2_with fail
 refine (psame (c := ak) (r := vq) _ (Fc_.out.keeps keepsB) (Fd_.out.keeps keepsB)).mono ?_
 rintro e w11 ⟨rfl, hb11⟩
 have st : Steps _ w11 := hb11
 have sk : Below w10.heap.size w10 w11 := belowA st
 replace B := below_steps B (Nat.le_refl _) sk
 replace ova := ova.steps sk
 replace ovb := ovb.steps sk
 replace ovc := ovc.steps sk
 replace ovd := ovd.steps sk
 replace HL := Hid.mk_ (HL.out.steps sk)
 replace Fa_ := Hid.mk_ (Fa_.out.steps sk)
 replace Fb_ := Hid.mk_ (Fb_.out.steps sk)
 replace Fc_ := Hid.mk_ (Fc_.out.steps sk)
 replace Fd_ := Hid.mk_ (Fd_.out.steps sk)
 clear st sk cvc0 cvc1 cvc2 cvc3 lvc cvd0 cvd1 cvd2 cvd3 lvd
 go_wp2_with fail
 go_returns
 exact ⟨rfl, belowB⟩
theorem middles_law {vl : Value} {l : List Int} (num den : Int) (w : World) (hl : IntsR w vl l) (hnum : -9223372036854775808 ≤ num ∧ num ≤ 9223372036854775807) (hden : -9223372036854775808 ≤ den ∧ den ≤ 9223372036854775807) :
  Calls Try.prog 3 #[vl, .int .i64 num, .int .i64 den] w fun e w' => e = .returned (.bool true) ∧ Steps w w' := by
 cases h : grB l.length with
 | true => exact middles_great num den w hl h
 | false => exact middles_ok num den w hl hnum hden h
end Go.Proofs.Ytmpambmpknaldaa
