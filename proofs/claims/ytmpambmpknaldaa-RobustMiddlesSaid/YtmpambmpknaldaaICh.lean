import Derived.Test.YtmpambmpknaldaaICe
import Derived.Test.YtmpambmpknaldaaICs
import Derived.ArgAppend
import Derived.Test.YtmpambmpknaldaaITf
import Derived.Test.YtmpambmpknaldaaIVa
import Derived.Test.YtmpambmpknaldaaICc
set_option linter.unusedVariables false
set_option linter.unusedSimpArgs false
set_option maxHeartbeats 6400000
set_option maxRecDepth 1000000
namespace Go.Proofs.Ytmpambmpknaldaa
open Go.RowKit
def inI (ix : List Nat) : List Int := ix.map (fun (i : Nat) => (i : Int))
section
variable {ops : Array Oper} {rest : List Oper} {o : Oper} {a : Act} {w : World} {Q : Exit → Act → World → Prop}
theorem noU_ints (l : List Int) : noU32 (ints l).toArray = true := noU32_mem.2 (fun u hu => by
 unfold ints at hu
 obtain ⟨p, -, rfl⟩ := List.mem_map.1 hu
 rfl)
theorem app_copyU (hgd : o.guard = none) (s x : Operand) (ho : o.op = .call { callee := .builtin .append, args := #[s, x], argTypes := #[22, 22] })
  (g : Nat) (hs : a.eval s = .slice (some ⟨g, 0, none⟩) 0 0) (hb : Blk w g 2 #[]) (v : Value) (l : List Int) (hx : a.eval x = v) (hv : IntsR w v l) (h0 : 0 < l.length) (hl : l.length ≤ 100000)
  (h : ∀ v' w', RowU w' g 2 1 v' l.length (ints l) → w.grownBy w' (some g) → wpList Try.prog ops Q rest (a.put o.dst v') w') : wpList Try.prog ops Q (o :: rest) a w := by
 obtain ⟨ie, z, h1, h2, h3, h4, h5⟩ := infoJ
 refine wpList_plain hgd fun K hK => ?_
 obtain ⟨ao, cap, rfl⟩ := hv.shape
 obtain ⟨b, of, rfl, hbl, -⟩ := hv.at' h0
 have hlen : (ints l).length = l.length := by unfold ints; rw [List.length_map]
 have hr0 : RowU w g 2 1 (.slice (some ⟨g, 0, none⟩) 0 0) 0 [] := ⟨⟨rfl, .inr ⟨g, 0, #[], rfl, Nat.le_refl _, hb, Nat.le_refl _, by unfold maxLen; omega, rfl, rfl⟩⟩, fun g' cur e1 e2 => by
  have e3 : some g = some g' := e1
  rw [Option.some.injEq] at e3
  subst e3
  have hb' : w.heap[g]? = some (.cells #[] 2 (0, 0)) := hb
  have e4 := hb'.symm.trans e2
  simp only [Option.some.injEq, Obj.cells.injEq] at e4
  rw [← e4.1]; rfl⟩
 refine wp_append_U w s x 22 ho g 2 ie z 1 8 Try.underlying22 h1 h4 h2 h3 (by rw [h5]; rfl) (by rw [h5]; rfl) (by omega) (.slice (some ⟨g, 0, none⟩) 0 0) 0 [] hs hr0 ⟨b, of, none⟩ l.length cap (ints l) hx h0 (by rw [hlen]; omega) (fun j u hj => ?_) (fun u hu => ?_) (noU_ints l) (by unfold maxLen; omega) (by omega) (Nat.le_of_lt hb.lt) (fun v' w' hr hg => hK _ _ (h v' w' ?_ hg))
 ·
  have hjl : j < l.length := by
   rcases Nat.lt_or_ge j (ints l).length with g | g
   · rwa [hlen] at g
   · rw [List.getElem?_eq_none g] at hj; cases hj
  rw [show (⟨b, of, none⟩ : Addr).add j = ⟨b, of + j, none⟩ from Addr.add_lit ..]
  obtain ⟨b', of', e, -, hc⟩ := hv.at' hjl
  cases e
  rw [hc]
  unfold ints at hj
  rw [List.getElem?_map, List.getElem?_eq_getElem hjl] at hj
  rw [← hj, List.getD_eq_getElem?_getD, List.getElem?_eq_getElem hjl]
  rfl
 ·
  unfold ints at hu
  obtain ⟨p, -, rfl⟩ := List.mem_map.1 hu
  rfl
 ·
  rw [Nat.zero_add, List.nil_append] at hr
  exact hr
end
theorem rowS_of {w : World} {base n : Nat} {v : Value} {l : List Int} (h : RowU w base 2 1 v n (ints l)) (hl : l.length = n) (h0 : 0 < n) : ∃ g cap, v = .slice (some ⟨g, 0, none⟩) n cap ∧ base ≤ g ∧ n ≤ cap ∧ RowS w g n (fun i => l.getD i 0) := by
 rcases h.own.2 with ⟨rfl, e⟩ | ⟨g, cap, cur, rfl, h1, h2, h3, h4, h5, h6⟩
 · omega
 ·
  rw [Nat.mul_one] at h6 h5
  exact ⟨g, cap, rfl, h1, h3, RowS.of_ints h2 hl (h.noU g cur rfl h2) h6 (by omega)⟩
theorem vclone {vl : Value} {l : List Int} (w : World) (hl : IntsR w vl l) (h0 : l ≠ []) (hn : l.length ≤ 100000) :
  Calls Try.prog 31 #[vl] w fun e w' => ∃ v, e = .returned v ∧ RowU w' w.heap.size 2 1 v l.length (ints l) ∧ Steps w w' := by
 have hp := List.length_pos_iff.2 h0
 obtain ⟨la, lc, rfl⟩ := hl.shape
 obtain ⟨b, of, rfl, hbl, -⟩ := hl.at' hp
 have HA := Hid.mk_ (hl.steps ((Below.refl _ _).alloc (Nat.le_refl _) (.cells #[] 2)))
 obtain ⟨n, hN⟩ : ∃ n, l.length = n := ⟨_, rfl⟩
 have HN := Hid.mk_ hN
 rw [hN] at HA hp hn ⊢
 clear hl h0 hN
 have heq : ∀ w', (binOp .eql 22 (.slice (some ⟨b, of, none⟩) n lc) (.slice none 0 0)).run Try.prog w' = .ok (.bool false) w' := fun w' => run_eql_slice_nil w' _ _ _ _ _ Try.underlying22
 go_enter Try.func31, Try.ntmps31
 repeat' (first | ((with_reducible show wpList _ _ _ (⟨some 7, _, _, _, _, _⟩ :: _) _ _); refine app_copyU rfl (.tmp 5) (.tmp 6) rfl w.heap.size rfl (Blk.new _ _ _) (.slice (some ⟨b, of, none⟩) n lc) l rfl HA.out (by have := HN.out; omega) (by have := HN.out; omega) (fun v7 w7 hr7 gr => ?_)) | go_values | go_skip | go_guarded | go_step | go_upon)
 have B := ((Below.refl w.heap.size w).alloc (Nat.le_refl _) (.cells #[] 2)).grown gr (by rw [World.size_alloc]; omega) (fun k hk => by injection hk with hk; have e : w.heap.size = k := hk; omega)
 go_returns
 exact ⟨_, rfl, by rw [← HN.out]; exact hr7, B⟩
theorem key_tw (x : Int) (w : World) : Calls Try.prog 28 #[.int .i64 x] w fun e w' => e = .returned (.int .i64 x) ∧ Steps w w' := by
 go_enter Try.func28, Try.ntmps28
 go_wp2
 go_returns
 exact ⟨rfl, belowB⟩
theorem key_pc (x : Int) (w : World) : Calls Try.prog 21 #[.int .i64 x] w fun e w' => e = .returned (.int .i64 x) ∧ Steps w w' := by
 go_enter Try.func21, Try.ntmps21
 go_wp2
 go_returns
 exact ⟨rfl, belowB⟩
def IdKey (f : Nat) : Prop := ∀ x w, Calls Try.prog f #[.int .i64 x] w fun e w' => e = .returned (.int .i64 x) ∧ Steps w w'
theorem vless {p : Nat} {f : Nat} (x y : Int) (w : World) (hk : IdKey f) (he : ∀ args w, (callFunc f args).run Try.prog w = .ok (.enter f args) w) (hb : Blk w p 46 #[.func (.func f) #[] #[]]) :
  Calls Try.prog 33 #[.int .i64 x, .int .i64 y, .pointer (some ⟨p, 0, none⟩)] w fun e w' => e = .returned (.int .i64 (cmpI x y)) ∧ Steps w w' := by
 have CC := fun w' => ccmp64 x y w'
 generalize cmpI x y = c at *
 go_enter Try.func33, Try.ntmps33
 repeat' (first | go_values | go_skip | go_guarded | go_step | go_upon)
 refine Reg.wp_chain (fun D v W => Below w.heap.size w W ∧ True) (Reg.inl [2, 5, 6]) (Reg.gv [(2, fun z_ => z_ = .int .i64 x), (5, fun z_ => z_ = .int .i64 y), (6, fun z_ => z_ = .int .i64 c)]) Reg.None_ (fun _ => Reg.Any) (fun _ _ => False) (Reg.pl []) (Reg.pl [])
  (by kernel_rfl) (by kernel_rfl) (by kernel_rfl) (Reg.gv_some _ (by intro p hp; simp only [List.mem_cons, List.not_mem_nil, or_false] at hp; rcases hp with rfl | rfl | rfl <;> first | exact ⟨_, rfl⟩ | exact ⟨_, none, 0, 0, rfl⟩ | exact ⟨_, false, none, 0, 0, rfl⟩ | exact ⟨_, false, none, 0, 0, false, none, 0, 0, rfl⟩)) (fun _ => ⟨belowB, trivial⟩) (fun _ _ _ _ _ h => h) (fun _ _ _ _ _ _ _ _ _ _ _ _ _ => Reg.none_) (fun _ _ _ _ h => h.elim) (fun ops' Q' hops hQ => ?_)
 apply Reg.RP rfl rfl rfl 6 rfl rfl
 ·
  intro D v W hc hj hf K' hK'
  obtain ⟨j0, _⟩ := hj
  have c0 := (hb.steps j0).c 0 rfl
  go_step
  exact hK'.out
 · rfl
 apply Reg.RP rfl rfl rfl 7 rfl rfl
 ·
  intro D v W hc hj hf K' hK'
  go_step
  exact hK'.out
 · rfl
 refine Reg.RC_call rfl (tlt rfl) rfl (fun D v W hc hj hf K' hK' => ?_) ?_
 ·
  obtain ⟨j0, _⟩ := hj
  go_step
  refine (hk x _).mono ?_
  rintro e W2 ⟨rfl, hs⟩
  exact hK'.out _ W2 Reg.any ⟨jst j0 hs, trivial⟩ trivial rfl
 rintro _ rfl
 refine Reg.RC_at (b := ⟨#[_,_,_,_,_,_,_,_,_,_,_,_,_], _⟩) rfl ?_
 apply Reg.RP rfl rfl rfl 9 rfl rfl
 ·
  intro D v W hc hj hf K' hK'
  obtain ⟨j0, _⟩ := hj
  have c0 := (hb.steps j0).c 0 rfl
  go_step
  exact hK'.out
 · rfl
 apply Reg.RP rfl rfl rfl 10 rfl rfl
 ·
  intro D v W hc hj hf K' hK'
  go_step
  exact hK'.out
 · rfl
 refine Reg.RC_call rfl (tlt rfl) rfl (fun D v W hc hj hf K' hK' => ?_) ?_
 ·
  obtain ⟨j0, _⟩ := hj
  go_step
  refine (hk y _).mono ?_
  rintro e W2 ⟨rfl, hs⟩
  exact hK'.out _ W2 Reg.any ⟨jst j0 hs, trivial⟩ trivial rfl
 rintro _ rfl
 refine Reg.RC_at (b := ⟨#[_,_,_,_,_,_,_,_,_,_,_,_,_], _⟩) rfl ?_
 refine Reg.RC_call rfl (tlt rfl) rfl (fun D v W hc hj hf K' hK' => ?_) ?_
 ·
  obtain ⟨j0, _⟩ := hj
  go_step
  refine (CC _).mono ?_
  rintro e W2 ⟨rfl, hs⟩
  exact hK'.out _ W2 Reg.any ⟨jst j0 hs, trivial⟩ trivial rfl
 rintro _ rfl
 refine Reg.RC_at (b := ⟨#[_,_,_,_,_,_,_,_,_,_,_,_,_], _⟩) rfl ?_
 apply Reg.RP rfl rfl rfl 5 rfl rfl
 ·
  intro D v W hc hj hf K' hK'
  go_step
  exact hK'.out
 · rfl
 refine Reg.RC_end (fun D v w9 hd hj hf => ?_)
 obtain ⟨j0, _⟩ := hj
 have B := j0
 clear hd hf j0
 refine hQ _ _ ?_
 clear hQ hops Q' ops'
 repeat' (first | go_values | go_skip | go_guarded | go_step | go_upon)
 go_returns
 exact ⟨rfl, B⟩
theorem RowS.drew {w : World} {g n : Nat} {f : Nat → Int} (h : RowS w g n f) : RowS w.drew g n f := by
 obtain ⟨cs, hb, r⟩ := h
 exact ⟨cs, hb.drew, r⟩
theorem RowS.fr {w : World} {g n : Nat} {f : Nat → Int} (h : RowS w g n f) (i : Nat) : w.frozen? ⟨g, i, none⟩ = false := by
 obtain ⟨cs, hb, _⟩ := h
 exact hb.fr i
theorem vinsert {g n cap p : Nat} {f : Nat → Int} (w : World) (a b : Nat) (hr : RowS w g n f) (hab : a < b) (hb : b ≤ n) (hn : n ≤ 1000) (CM : ∀ W x y, Below g w W → Calls Try.prog 33 #[.int .i64 x, .int .i64 y, .pointer (some ⟨p, 0, none⟩)] W fun e w2 => e = .returned (.int .i64 (cmpI x y)) ∧ Steps W w2) :
  Calls Try.prog 58 #[.slice (some ⟨g, 0, none⟩) n cap, .int .i64 a, .int .i64 b, .func (.func 33) #[] #[.pointer (some ⟨p, 0, none⟩)]] w fun e w' => e = .returned (.tuple #[]) ∧ (∃ f', RowS w' g n f' ∧ SP a b f f' ∧ Up f' a b) ∧ Below g w w' := by
 have gl := hr.lt
 have HR := Hid.mk_ hr
 clear hr
 go_enter Try.func58, Try.ntmps58
 go_wp2_with fail
 go_loopw [8] (fun kk wr => ∃ (i : Nat) (f' : Nat → Int), a + 1 ≤ i ∧ i ≤ b ∧ kk = .int .i64 i ∧ RowS wr g n f' ∧ SP a b f f' ∧ Up f' a i ∧ Below g w wr) (fun kk _ => b - (intOf kk).toNat)
 case atStart => exact ⟨a + 1, f, by omega, by omega, by go_num, HR.out, SP.refl f, Up.none (by omega), Below.refl g w⟩
 case round =>
  obtain ⟨i, f1, hai, hib, rfl, hr1, sp1, up1, B⟩ := hrel
  have HS1 := Hid.mk_ (And.intro sp1 up1)
  have HR1 := Hid.mk_ hr1
  clear sp1 up1 hr1 HR
  rcases Nat.lt_or_ge i b with ib | ib
  ·
   have hlt : decide ((i : Int) < (b : Int)) = true := decide_eq_true (by omega)
   go_wp2_with fail
   go_loopw [9] (fun kk wq => ∃ (j : Nat) (f' : Nat → Int), a ≤ j ∧ j ≤ i ∧ kk = .int .i64 j ∧ RowS wq g n f' ∧ SP a b f f' ∧ Ins f' a j i ∧ Below g w wq) (fun kk _ => (intOf kk).toNat)
   case atStart => exact ⟨i, f1, by omega, by omega, rfl, HR1.out, HS1.out.1, Ins.start HS1.out.2, B⟩
   case round =>
    rename World => wq
    clear B HR1 HS1
    obtain ⟨j, f2, haj, hji, rfl, hr2, sp2, in2, Bq⟩ := hrel
    have gq := hr2.lt
    have HR2 := Hid.mk_ hr2
    have HS2 := Hid.mk_ (And.intro sp2 in2)
    clear hr2 sp2 in2
    rcases Nat.lt_or_ge a j with ja | ja
    ·
     have hgt : decide ((a : Int) < (j : Int)) = true := decide_eq_true (by omega)
     have cj := HR2.out.c (i := j) (by omega)
     have cj1 := HR2.out.c (i := j - 1) (by omega)
     have ej : ((j : Int) - 1) = ((j - 1 : Nat) : Int) := by omega
     obtain ⟨x, hx⟩ : ∃ x, f2 j = x := ⟨_, rfl⟩
     obtain ⟨y, hy⟩ : ∃ y, f2 (j - 1) = y := ⟨_, rfl⟩
     rw [hx] at cj
     rw [hy] at cj1
     have CMx := fun W h => CM W x y h
     obtain ⟨c, hc⟩ : ∃ c, cmpI x y = c := ⟨_, rfl⟩
     have HXY := Hid.mk_ (And.intro hx hy)
     by_cases lt : x < y
     ·
      have c0 : c < 0 := by rw [← hc]; exact cmpI_neg.2 lt
      have CMc := fun W h => CMx W h
      simp only [hc] at CMc
      clear CMx hx hy hc
      repeat' (first | go_values | go_skip | go_guarded | go_step | go_upon)
      refine Reg.wp_chain (fun D v W => Below wq.heap.size wq W ∧ True) (Reg.inl [14]) (Reg.gv [(14, fun z_ => z_ = .int .i64 c)]) Reg.None_ (fun _ => Reg.Any) (fun _ _ => False) (Reg.pl []) (Reg.pl [])
       (by kernel_rfl) (by kernel_rfl) (by kernel_rfl) (Reg.gv_some _ (by intro p hp; simp only [List.mem_cons, List.not_mem_nil, or_false] at hp; rcases hp with rfl <;> first | exact ⟨_, rfl⟩ | exact ⟨_, none, 0, 0, rfl⟩ | exact ⟨_, false, none, 0, 0, rfl⟩ | exact ⟨_, false, none, 0, 0, false, none, 0, 0, rfl⟩)) (fun _ => ⟨belowB, trivial⟩) (fun _ _ _ _ _ h => h) (fun _ _ _ _ _ _ _ _ _ _ _ _ _ => Reg.none_) (fun _ _ _ _ h => h.elim) (fun ops' Q' hops hQ => ?_)
      apply Reg.RP rfl rfl rfl 18 rfl rfl
      ·
       intro D v W hc hj hf K' hK'
       go_step
       exact hK'.out
      · rfl
      apply Reg.RP rfl rfl rfl 19 rfl rfl
      ·
       intro D v W hc hj hf K' hK'
       go_step
       exact hK'.out
      · rfl
      apply Reg.RP rfl rfl rfl 20 rfl rfl
      ·
       intro D v W hc hj hf K' hK'
       go_step
       exact hK'.out
      · rfl
      apply Reg.RP rfl rfl rfl 21 rfl rfl
      ·
       intro D v W hc hj hf K' hK'
       go_step
       exact hK'.out
      · rfl
      apply Reg.RP rfl rfl (by rw [hops]; rfl) 22 rfl rfl
      ·
       intro D v W hc hj hf K' hK'
       go_step
       exact hK'.out
      · rfl
      apply Reg.RP rfl rfl (by rw [hops]; rfl) 23 rfl rfl
      ·
       intro D v W hc hj hf K' hK'
       go_step
       exact hK'.out
      · rfl
      apply Reg.RP rfl rfl (by rw [hops]; rfl) 24 rfl rfl
      ·
       intro D v W hc hj hf K' hK'
       go_step
       exact hK'.out
      · rfl
      apply Reg.RP rfl rfl (by rw [hops]; rfl) 25 rfl rfl
      ·
       intro D v W hc hj hf K' hK'
       go_step
       exact hK'.out
      · rfl
      apply Reg.RP rfl rfl (by rw [hops]; rfl) 26 rfl rfl
      ·
       intro D v W hc hj hf K' hK'
       obtain ⟨j0, _⟩ := hj
       have c0 : W.cell? ⟨g, j, none⟩ = some (.int .i64 x) := (j0.cell (p := ⟨g, _, none⟩) gq).trans cj
       go_step
       exact hK'.out
      · rfl
      apply Reg.RP rfl rfl (by rw [hops]; rfl) 27 rfl rfl
      ·
       intro D v W hc hj hf K' hK'
       go_step
       exact hK'.out
      · rfl
      apply Reg.RP rfl rfl (by rw [hops]; rfl) 28 rfl rfl
      ·
       intro D v W hc hj hf K' hK'
       go_step
       exact hK'.out
      · rfl
      apply Reg.RP rfl rfl (by rw [hops]; rfl) 29 rfl rfl
      ·
       intro D v W hc hj hf K' hK'
       go_step
       exact hK'.out
      · rfl
      apply Reg.RP rfl rfl (by rw [hops]; rfl) 30 rfl rfl
      ·
       intro D v W hc hj hf K' hK'
       go_step
       exact hK'.out
      · rfl
      apply Reg.RP rfl rfl (by rw [hops]; rfl) 31 rfl rfl
      ·
       intro D v W hc hj hf K' hK'
       obtain ⟨j0, _⟩ := hj
       have c0 : W.cell? ⟨g, j - 1, none⟩ = some (.int .i64 y) := (j0.cell (p := ⟨g, _, none⟩) gq).trans cj1
       go_step
       exact hK'.out
      · rfl
      refine Reg.RC_call rfl (tlt rfl) (by rw [hops]; rfl) (fun D v W hc hj hf K' hK' => ?_) ?_
      ·
       obtain ⟨j0, _⟩ := hj
       go_step
       refine (CMc _ (below_steps Bq (Nat.le_of_lt gl) j0)).mono ?_
       rintro e W2 ⟨rfl, hs⟩
       exact hK'.out _ W2 Reg.any ⟨jst j0 hs, trivial⟩ trivial rfl
      rintro _ rfl
      refine Reg.RC_at (b := ⟨#[_,_,_,_,_,_,_,_,_,_,_,_,_,_,_,_,_,_,_,_,_,_,_,_,_,_,_,_,_,_,_,_,_,_,_,_,_,_,_,_,_,_,_,_,_,_,_,_,_,_,_,_,_], _⟩) rfl ?_
      apply Reg.RP rfl rfl (by rw [hops]; rfl) 33 rfl rfl
      ·
       intro D v W hc hj hf K' hK'
       go_step
       exact hK'.out
      · rfl
      apply Reg.RP rfl rfl rfl 34 rfl rfl
      ·
       intro D v W hc hj hf K' hK'
       go_step
       exact hK'.out
      · rfl
      refine Reg.RC_end (fun D v w9 hd hj hf => ?_)
      obtain ⟨j0, _⟩ := hj
      have st9 := j0
      clear hd hf j0
      refine hQ _ _ ?_
      clear hQ hops Q' ops'
      have B9 := below_steps Bq (Nat.le_of_lt gl) st9
      have hr9 := HR2.out.steps st9
      obtain ⟨hx, hy⟩ := HXY.out
      have cj9 : w9.cell? ⟨g, j, none⟩ = some (.int .i64 x) := (st9.cell (p := ⟨g, _, none⟩) gq).trans cj
      have cj19 : w9.cell? ⟨g, j - 1, none⟩ = some (.int .i64 y) := (st9.cell (p := ⟨g, _, none⟩) gq).trans cj1
      have fj9 := hr9.fr j
      have fj19 := hr9.fr (j - 1)
      have gq9 := hr9.lt
      have HR9 := Hid.mk_ hr9
      have HXY2 := Hid.mk_ (And.intro hx hy)
      clear hx hy hr9 HXY cj cj1 gq st9
      go_upto_region 6 with fail
      go_region
      have lt2 : f2 j < f2 (j - 1) := by have := HXY2.out; omega
      have r2 : RowS ((w9.setCell ⟨g, j, none⟩ (.int .i64 y)).setCell ⟨g, j - 1, none⟩ (.int .i64 x)).drew g n (swp f2 j (j - 1)) := by
       have := (HR9.out.swap (i := j) (j := j - 1) (by omega) (by omega)).drew
       rw [HXY2.out.1, HXY2.out.2] at this
       exact this
      have b2 : Below g w ((w9.setCell ⟨g, j, none⟩ (.int .i64 y)).setCell ⟨g, j - 1, none⟩ (.int .i64 x)).drew := (Below.setCell (p := ⟨g, j - 1, none⟩) (Below.setCell (p := ⟨g, j, none⟩) B9 (Nat.le_refl _) _) (Nat.le_refl _) _).drew
      have HZ := Hid.mk_ (And.intro r2 b2)
      have HI := Hid.mk_ (Ins.step HS2.out.2 ja hji lt2)
      have HP := Hid.mk_ (HS2.out.1.swap (i := j) (j := j - 1) (by omega) (by omega) (by omega) (by omega))
      generalize ((w9.setCell ⟨g, j, none⟩ (.int .i64 y)).setCell ⟨g, j - 1, none⟩ (.int .i64 x)).drew = w10 at *
      clear r2 b2 lt2 cj9 cj19 fj9 fj19 gq9 HR9 HXY2 B9
      repeat' (first | go_values | go_skip | go_guarded | go_step | go_upon)
      go_roundw
      case rel => exact ⟨j - 1, swp f2 j (j - 1), by omega, by omega, by go_num, HZ.out.1, HP.out, HI.out, HZ.out.2⟩
      case measure => simp [intOf]; omega
     ·
      have c0 : ¬ c < 0 := fun h => lt (cmpI_neg.1 (by rw [hc]; exact h))
      have dn := Hid.mk_ (Ins.done HS2.out.2 hji (.inr (by rw [hx, hy]; exact lt)) haj)
      have CMc := fun W h => CMx W h
      simp only [hc] at CMc
      clear CMx hx hy hc
      repeat' (first | go_values | go_skip | go_guarded | go_step | go_upon)
      refine Reg.wp_chain (fun D v W => Below wq.heap.size wq W ∧ True) (Reg.inl [14]) (Reg.gv [(14, fun z_ => z_ = .int .i64 c)]) Reg.None_ (fun _ => Reg.Any) (fun _ _ => False) (Reg.pl []) (Reg.pl [])
       (by kernel_rfl) (by kernel_rfl) (by kernel_rfl) (Reg.gv_some _ (by intro p hp; simp only [List.mem_cons, List.not_mem_nil, or_false] at hp; rcases hp with rfl <;> first | exact ⟨_, rfl⟩ | exact ⟨_, none, 0, 0, rfl⟩ | exact ⟨_, false, none, 0, 0, rfl⟩ | exact ⟨_, false, none, 0, 0, false, none, 0, 0, rfl⟩)) (fun _ => ⟨belowB, trivial⟩) (fun _ _ _ _ _ h => h) (fun _ _ _ _ _ _ _ _ _ _ _ _ _ => Reg.none_) (fun _ _ _ _ h => h.elim) (fun ops' Q' hops hQ => ?_)
      apply Reg.RP rfl rfl rfl 18 rfl rfl
      ·
       intro D v W hc hj hf K' hK'
       go_step
       exact hK'.out
      · rfl
      apply Reg.RP rfl rfl rfl 19 rfl rfl
      ·
       intro D v W hc hj hf K' hK'
       go_step
       exact hK'.out
      · rfl
      apply Reg.RP rfl rfl rfl 20 rfl rfl
      ·
       intro D v W hc hj hf K' hK'
       go_step
       exact hK'.out
      · rfl
      apply Reg.RP rfl rfl rfl 21 rfl rfl
      ·
       intro D v W hc hj hf K' hK'
       go_step
       exact hK'.out
      · rfl
      apply Reg.RP rfl rfl (by rw [hops]; rfl) 22 rfl rfl
      ·
       intro D v W hc hj hf K' hK'
       go_step
       exact hK'.out
      · rfl
      apply Reg.RP rfl rfl (by rw [hops]; rfl) 23 rfl rfl
      ·
       intro D v W hc hj hf K' hK'
       go_step
       exact hK'.out
      · rfl
      apply Reg.RP rfl rfl (by rw [hops]; rfl) 24 rfl rfl
      ·
       intro D v W hc hj hf K' hK'
       go_step
       exact hK'.out
      · rfl
      apply Reg.RP rfl rfl (by rw [hops]; rfl) 25 rfl rfl
      ·
       intro D v W hc hj hf K' hK'
       go_step
       exact hK'.out
      · rfl
      apply Reg.RP rfl rfl (by rw [hops]; rfl) 26 rfl rfl
      ·
       intro D v W hc hj hf K' hK'
       obtain ⟨j0, _⟩ := hj
       have c0 : W.cell? ⟨g, j, none⟩ = some (.int .i64 x) := (j0.cell (p := ⟨g, _, none⟩) gq).trans cj
       go_step
       exact hK'.out
      · rfl
      apply Reg.RP rfl rfl (by rw [hops]; rfl) 27 rfl rfl
      ·
       intro D v W hc hj hf K' hK'
       go_step
       exact hK'.out
      · rfl
      apply Reg.RP rfl rfl (by rw [hops]; rfl) 28 rfl rfl
      ·
       intro D v W hc hj hf K' hK'
       go_step
       exact hK'.out
      · rfl
      apply Reg.RP rfl rfl (by rw [hops]; rfl) 29 rfl rfl
      ·
       intro D v W hc hj hf K' hK'
       go_step
       exact hK'.out
      · rfl
      apply Reg.RP rfl rfl (by rw [hops]; rfl) 30 rfl rfl
      ·
       intro D v W hc hj hf K' hK'
       go_step
       exact hK'.out
      · rfl
      apply Reg.RP rfl rfl (by rw [hops]; rfl) 31 rfl rfl
      ·
       intro D v W hc hj hf K' hK'
       obtain ⟨j0, _⟩ := hj
       have c0 : W.cell? ⟨g, j - 1, none⟩ = some (.int .i64 y) := (j0.cell (p := ⟨g, _, none⟩) gq).trans cj1
       go_step
       exact hK'.out
      · rfl
      refine Reg.RC_call rfl (tlt rfl) (by rw [hops]; rfl) (fun D v W hc hj hf K' hK' => ?_) ?_
      ·
       obtain ⟨j0, _⟩ := hj
       go_step
       refine (CMc _ (below_steps Bq (Nat.le_of_lt gl) j0)).mono ?_
       rintro e W2 ⟨rfl, hs⟩
       exact hK'.out _ W2 Reg.any ⟨jst j0 hs, trivial⟩ trivial rfl
      rintro _ rfl
      refine Reg.RC_at (b := ⟨#[_,_,_,_,_,_,_,_,_,_,_,_,_,_,_,_,_,_,_,_,_,_,_,_,_,_,_,_,_,_,_,_,_,_,_,_,_,_,_,_,_,_,_,_,_,_,_,_,_,_,_,_,_], _⟩) rfl ?_
      apply Reg.RP rfl rfl (by rw [hops]; rfl) 33 rfl rfl
      ·
       intro D v W hc hj hf K' hK'
       go_step
       exact hK'.out
      · rfl
      apply Reg.RP rfl rfl rfl 34 rfl rfl
      ·
       intro D v W hc hj hf K' hK'
       go_step
       exact hK'.out
      · rfl
      refine Reg.RC_end (fun D v w9 hd hj hf => ?_)
      obtain ⟨j0, _⟩ := hj
      have st9 := j0
      clear hd hf j0
      refine hQ _ _ ?_
      clear hQ hops Q' ops'
      have B9 := below_steps Bq (Nat.le_of_lt gl) st9
      have hr9 := Hid.mk_ (HR2.out.steps st9)
      clear st9 HR2
      repeat' (first | go_values | go_skip | go_guarded | go_step | go_upon)
      go_roundw
      case rel => exact ⟨i + 1, f2, by omega, by omega, by go_num, hr9.out, HS2.out.1, dn.out, B9⟩
      case measure => simp [intOf]; omega
    ·
     obtain rfl : j = a := by omega
     have hgt : decide ((j : Int) < (j : Int)) = false := decide_eq_false (by omega)
     have dn := Hid.mk_ (Ins.done HS2.out.2 hji (.inl rfl) haj)
     repeat' (first | go_values | go_skip | go_guarded | go_step | go_upon)
     refine Reg.wp_chain (fun D v W => Below wq.heap.size wq W ∧ True) (Reg.inl []) (Reg.gv []) Reg.None_ (fun _ => Reg.Any) (fun _ _ => False) (Reg.pl []) (Reg.pl [])
      (by kernel_rfl) (by kernel_rfl) (by kernel_rfl) (Reg.gv_some _ (by intro p hp; cases hp)) (fun _ => ⟨belowB, trivial⟩) (fun _ _ _ _ _ h => h) (fun _ _ _ _ _ _ _ _ _ _ _ _ _ => Reg.none_) (fun _ _ _ _ h => h.elim) (fun ops' Q' hops hQ => ?_)
     apply Reg.RP rfl rfl rfl 18 rfl rfl
     ·
      intro D v W hc hj hf K' hK'
      go_step
      exact hK'.out
     · rfl
     apply Reg.RP rfl rfl rfl 19 rfl rfl
     ·
      intro D v W hc hj hf K' hK'
      go_step
      exact hK'.out
     · rfl
     apply Reg.RP rfl rfl rfl 20 rfl rfl
     ·
      intro D v W hc hj hf K' hK'
      go_step
      exact hK'.out
     · rfl
     apply Reg.RP rfl rfl rfl 21 rfl rfl
     ·
      intro D v W hc hj hf K' hK'
      go_step
      exact hK'.out
     · rfl
     refine Reg.RC_skip rfl (by rw [hops]; rfl) (Reg.RC_at (b := ⟨#[_,_,_,_,_,_,_,_,_,_,_,_,_,_,_,_,_,_,_,_,_,_,_,_,_,_,_,_,_,_,_,_,_,_,_,_,_,_,_,_,_,_,_,_,_,_,_,_,_,_,_,_,_], _⟩) rfl ?_)
     refine Reg.RC_skip rfl (by rw [hops]; rfl) (Reg.RC_at (b := ⟨#[_,_,_,_,_,_,_,_,_,_,_,_,_,_,_,_,_,_,_,_,_,_,_,_,_,_,_,_,_,_,_,_,_,_,_,_,_,_,_,_,_,_,_,_,_,_,_,_,_,_,_,_,_], _⟩) rfl ?_)
     refine Reg.RC_skip rfl (by rw [hops]; rfl) (Reg.RC_at (b := ⟨#[_,_,_,_,_,_,_,_,_,_,_,_,_,_,_,_,_,_,_,_,_,_,_,_,_,_,_,_,_,_,_,_,_,_,_,_,_,_,_,_,_,_,_,_,_,_,_,_,_,_,_,_,_], _⟩) rfl ?_)
     refine Reg.RC_skip rfl (by rw [hops]; rfl) (Reg.RC_at (b := ⟨#[_,_,_,_,_,_,_,_,_,_,_,_,_,_,_,_,_,_,_,_,_,_,_,_,_,_,_,_,_,_,_,_,_,_,_,_,_,_,_,_,_,_,_,_,_,_,_,_,_,_,_,_,_], _⟩) rfl ?_)
     refine Reg.RC_skip rfl (by rw [hops]; rfl) (Reg.RC_at (b := ⟨#[_,_,_,_,_,_,_,_,_,_,_,_,_,_,_,_,_,_,_,_,_,_,_,_,_,_,_,_,_,_,_,_,_,_,_,_,_,_,_,_,_,_,_,_,_,_,_,_,_,_,_,_,_], _⟩) rfl ?_)
     refine Reg.RC_skip rfl (by rw [hops]; rfl) (Reg.RC_at (b := ⟨#[_,_,_,_,_,_,_,_,_,_,_,_,_,_,_,_,_,_,_,_,_,_,_,_,_,_,_,_,_,_,_,_,_,_,_,_,_,_,_,_,_,_,_,_,_,_,_,_,_,_,_,_,_], _⟩) rfl ?_)
     refine Reg.RC_skip rfl (by rw [hops]; rfl) (Reg.RC_at (b := ⟨#[_,_,_,_,_,_,_,_,_,_,_,_,_,_,_,_,_,_,_,_,_,_,_,_,_,_,_,_,_,_,_,_,_,_,_,_,_,_,_,_,_,_,_,_,_,_,_,_,_,_,_,_,_], _⟩) rfl ?_)
     refine Reg.RC_skip rfl (by rw [hops]; rfl) (Reg.RC_at (b := ⟨#[_,_,_,_,_,_,_,_,_,_,_,_,_,_,_,_,_,_,_,_,_,_,_,_,_,_,_,_,_,_,_,_,_,_,_,_,_,_,_,_,_,_,_,_,_,_,_,_,_,_,_,_,_], _⟩) rfl ?_)
     refine Reg.RC_skip rfl (by rw [hops]; rfl) (Reg.RC_at (b := ⟨#[_,_,_,_,_,_,_,_,_,_,_,_,_,_,_,_,_,_,_,_,_,_,_,_,_,_,_,_,_,_,_,_,_,_,_,_,_,_,_,_,_,_,_,_,_,_,_,_,_,_,_,_,_], _⟩) rfl ?_)
     refine Reg.RC_skip rfl (by rw [hops]; rfl) (Reg.RC_at (b := ⟨#[_,_,_,_,_,_,_,_,_,_,_,_,_,_,_,_,_,_,_,_,_,_,_,_,_,_,_,_,_,_,_,_,_,_,_,_,_,_,_,_,_,_,_,_,_,_,_,_,_,_,_,_,_], _⟩) rfl ?_)
     refine Reg.RC_skip rfl (by rw [hops]; rfl) (Reg.RC_at (b := ⟨#[_,_,_,_,_,_,_,_,_,_,_,_,_,_,_,_,_,_,_,_,_,_,_,_,_,_,_,_,_,_,_,_,_,_,_,_,_,_,_,_,_,_,_,_,_,_,_,_,_,_,_,_,_], _⟩) rfl ?_)
     refine Reg.RC_skip rfl (by rw [hops]; rfl) (Reg.RC_at (b := ⟨#[_,_,_,_,_,_,_,_,_,_,_,_,_,_,_,_,_,_,_,_,_,_,_,_,_,_,_,_,_,_,_,_,_,_,_,_,_,_,_,_,_,_,_,_,_,_,_,_,_,_,_,_,_], _⟩) rfl ?_)
     apply Reg.RP rfl rfl rfl 34 rfl rfl
     ·
      intro D v W hc hj hf K' hK'
      go_step
      exact hK'.out
     · rfl
     refine Reg.RC_end (fun D v w9 hd hj hf => ?_)
     obtain ⟨j0, _⟩ := hj
     have st9 := j0
     clear hd hf j0
     refine hQ _ _ ?_
     clear hQ hops Q' ops'
     have B9 := below_steps Bq (Nat.le_of_lt gl) st9
     have hr9 := Hid.mk_ (HR2.out.steps st9)
     clear st9 HR2
     repeat' (first | go_values | go_skip | go_guarded | go_step | go_upon)
     go_roundw
     case rel => exact ⟨i + 1, f2, by omega, by omega, by go_num, hr9.out, HS2.out.1, dn.out, B9⟩
     case measure => simp [intOf]; omega
  ·
   obtain rfl : i = b := by omega
   have hlt : decide ((i : Int) < (i : Int)) = false := decide_eq_false (by omega)
   go_wp2_with fail
   go_returns
   exact ⟨rfl, ⟨f1, HR1.out, HS1.out.1, HS1.out.2⟩, B⟩
theorem vswapR {g n cap p : Nat} {f : Nat → Int} (w : World) (a b m : Nat) (hr : RowS w g n f) (ha : a + m ≤ n) (hb : b + m ≤ n) (hab : a ≠ b) (hn : n ≤ 1000) :
  Calls Try.prog 81 #[.slice (some ⟨g, 0, none⟩) n cap, .int .i64 a, .int .i64 b, .int .i64 m, .func (.func 33) #[] #[.pointer (some ⟨p, 0, none⟩)]] w fun e w' => e = .returned (.tuple #[]) ∧ RowS w' g n (swR f a b m) ∧ Below g w w' := by
 have gl := hr.lt
 have HR := Hid.mk_ hr
 clear hr
 go_enter Try.func81, Try.ntmps81
 go_wp2_with fail
 go_loopw [10] (fun kk wr => ∃ (i : Nat), i ≤ m ∧ kk = .int .i64 i ∧ RowS wr g n (swR f a b i) ∧ Below g w wr) (fun kk _ => m - (intOf kk).toNat)
 case atStart => exact ⟨0, by omega, rfl, HR.out, Below.refl g w⟩
 case round =>
  obtain ⟨i, hi, rfl, hr, B⟩ := hrel
  clear HR
  have gq := hr.lt
  have HR := Hid.mk_ hr
  clear hr
  rcases Nat.lt_or_ge i m with im | im
  ·
   have hlt : decide ((i : Int) < (m : Int)) = true := decide_eq_true (by omega)
   have ea : ((a : Int) + (i : Int)) = ((a + i : Nat) : Int) := by omega
   have eb : ((b : Int) + (i : Int)) = ((b + i : Nat) : Int) := by omega
   have ca := HR.out.c (i := a + i) (by omega)
   have cb := HR.out.c (i := b + i) (by omega)
   have fa := HR.out.fr (a + i)
   have fb := HR.out.fr (b + i)
   obtain ⟨x, hx⟩ : ∃ x, swR f a b i (a + i) = x := ⟨_, rfl⟩
   obtain ⟨y, hy⟩ : ∃ y, swR f a b i (b + i) = y := ⟨_, rfl⟩
   rw [hx] at ca
   rw [hy] at cb
   have HXY := Hid.mk_ (And.intro hx hy)
   obtain ⟨u, hu⟩ : ∃ u, a + i = u := ⟨_, rfl⟩
   obtain ⟨v, hv⟩ : ∃ v, b + i = v := ⟨_, rfl⟩
   rw [hu] at ea ca fa
   rw [hv] at eb cb fb
   have un : u < n := by omega
   have huv : u ≠ v := by omega
   have hvu : v ≠ u := by omega
   have vn : v < n := by omega
   have HUV := Hid.mk_ (And.intro hu hv)
   clear hx hy hu hv
   go_upto_region 3 with fail
   go_region
   have r2 : RowS ((wr.setCell ⟨g, u, none⟩ (.int .i64 y)).setCell ⟨g, v, none⟩ (.int .i64 x)).drew g n (swR f a b (i + 1)) := by
    have := (HR.out.swap (i := a + i) (j := b + i) (by omega) (by omega)).drew
    rw [HXY.out.1, HXY.out.2, HUV.out.1, HUV.out.2] at this
    rw [show swR f a b (i + 1) = swp (swR f a b i) u v by rw [← HUV.out.1, ← HUV.out.2]; rfl]
    exact this
   have b2 : Below g w ((wr.setCell ⟨g, u, none⟩ (.int .i64 y)).setCell ⟨g, v, none⟩ (.int .i64 x)).drew := (Below.setCell (p := ⟨g, v, none⟩) (Below.setCell (p := ⟨g, u, none⟩) B (Nat.le_refl _) _) (Nat.le_refl _) _).drew
   have HZ := Hid.mk_ (And.intro r2 b2)
   generalize ((wr.setCell ⟨g, u, none⟩ (.int .i64 y)).setCell ⟨g, v, none⟩ (.int .i64 x)).drew = w10 at *
   clear r2 b2 ca cb fa fb HR HXY HUV B
   repeat' (first | go_values | go_skip | go_guarded | go_step | go_upon)
   go_roundw
   case rel => exact ⟨i + 1, by omega, by go_num, HZ.out.1, HZ.out.2⟩
   case measure => simp [intOf]; omega
  ·
   obtain rfl : i = m := by omega
   have hlt : decide ((i : Int) < (i : Int)) = false := decide_eq_false (by omega)
   go_wp2_with fail
   go_returns
   exact ⟨rfl, HR.out, B⟩
theorem vrotate {g n cap p : Nat} {f : Nat → Int} (w : World) (a m b : Nat) (hr : RowS w g n f) (ha : a < m) (hm : m < b) (hb : b ≤ n) (hn : n ≤ 1000) :
  Calls Try.prog 67 #[.slice (some ⟨g, 0, none⟩) n cap, .int .i64 a, .int .i64 m, .int .i64 b, .func (.func 33) #[] #[.pointer (some ⟨p, 0, none⟩)]] w fun e w' => e = .returned (.tuple #[]) ∧ RowS w' g n (rotF a m b f) ∧ Below g w w' := by
 have gl := hr.lt
 have HR := Hid.mk_ hr
 clear hr
 have e1 : ((m : Int) - (a : Int)) = ((m - a : Nat) : Int) := by omega
 have e2 : ((b : Int) - (m : Int)) = ((b - m : Nat) : Int) := by omega
 go_enter Try.func67, Try.ntmps67
 go_wp2_with fail
 go_loopw [10, 11] (fun ki kj wr => ∃ (i j : Nat) (f' : Nat → Int), 0 < i ∧ 0 < j ∧ i ≤ m ∧ m + j ≤ n ∧ ki = .int .i64 i ∧ kj = .int .i64 j ∧ RowS wr g n f' ∧ rotF (m - i) m (m + j) f' = rotF a m b f ∧ Below g w wr) (fun ki kj _ => (intOf ki).toNat + (intOf kj).toNat)
 case atStart => exact ⟨m - a, b - m, f, by omega, by omega, by omega, by omega, by go_num, by go_num, HR.out, by rw [show m - (m - a) = a by omega, show m + (b - m) = b by omega], Below.refl g w⟩
 case round =>
  clear HR e1 e2
  obtain ⟨i, j, f1, i0, j0, im, jn, rfl, rfl, hr, hrot, B⟩ := hrel
  have HR := Hid.mk_ (And.intro hr hrot)
  have gq := hr.lt
  clear hr hrot
  have emi : ((m : Int) - (i : Int)) = ((m - i : Nat) : Int) := by omega
  rcases (show i = j ∨ j < i ∨ i < j by omega) with rfl | ji | ij
  ·
   have hne : ((i : Int) != (i : Int)) = false := by simp
   have SW := vswapR (cap := cap) (p := p) wr (m - i) m i HR.out.1 (by omega) (by omega) (by omega) hn
   go_wp2_with fail
   refine SW.mono ?_
   rintro e w2 ⟨rfl, h1, h2⟩
   have B2 : Below g w w2 := B.trans h2
   go_wp2_with fail
   go_returns
   exact ⟨rfl, by rw [← HR.out.2, rot_same f1 im]; exact h1, B2⟩
  ·
   have hne : ((i : Int) != (j : Int)) = true := by rw [bne_iff_ne]; omega
   have hgt : decide ((j : Int) < (i : Int)) = true := decide_eq_true (by omega)
   have SW := vswapR (cap := cap) (p := p) wr (m - i) m j HR.out.1 (by omega) (by omega) (by omega) hn
   have eij : ((i : Int) - (j : Int)) = ((i - j : Nat) : Int) := by omega
   go_wp2_with fail
   refine SW.mono ?_
   rintro e w2 ⟨rfl, h1, h2⟩
   have B2 : Below g w w2 := B.trans h2
   have H1 := Hid.mk_ h1
   clear h1 h2 SW
   dsimp only
   go_wp2_with fail
   go_roundw
   case rel => exact ⟨i - j, j, _, by omega, by omega, by omega, by omega, by go_num, by go_num, H1.out, by rw [← HR.out.2, rot_more f1 im ji, show m - (i - j) = m - i + j by omega], B2⟩
   case measure => simp [intOf]; omega
  ·
   have hne : ((i : Int) != (j : Int)) = true := by rw [bne_iff_ne]; omega
   have hgt : decide ((j : Int) < (i : Int)) = false := decide_eq_false (by omega)
   have SW := vswapR (cap := cap) (p := p) wr (m - i) (m + j - i) i HR.out.1 (by omega) (by omega) (by omega) hn
   have eij : ((j : Int) - (i : Int)) = ((j - i : Nat) : Int) := by omega
   have emj : ((m : Int) + (j : Int) - (i : Int)) = ((m + j - i : Nat) : Int) := by omega
   go_wp2_with fail
   refine SW.mono ?_
   rintro e w2 ⟨rfl, h1, h2⟩
   have B2 : Below g w w2 := B.trans h2
   have H1 := Hid.mk_ h1
   clear h1 h2 SW
   dsimp only
   go_wp2_with fail
   go_roundw
   case rel => exact ⟨i, j - i, _, by omega, by omega, by omega, by omega, by go_num, by go_num, H1.out, by rw [← HR.out.2, rot_less f1 im ij], B2⟩
   case measure => simp [intOf]; omega
theorem vsymA {g n cap p : Nat} {f : Nat → Int} (w : World) (a m b : Nat) (hr : RowS w g n f) (ha : m = a + 1) (hm : m < b) (hb : b ≤ n) (hn : n ≤ 1000) (u : Up f m b) (CM : ∀ W x y, Below g w W → Calls Try.prog 33 #[.int .i64 x, .int .i64 y, .pointer (some ⟨p, 0, none⟩)] W fun e w2 => e = .returned (.int .i64 (cmpI x y)) ∧ Steps W w2) :
  Calls Try.prog 59 #[.slice (some ⟨g, 0, none⟩) n cap, .int .i64 a, .int .i64 m, .int .i64 b, .func (.func 33) #[] #[.pointer (some ⟨p, 0, none⟩)]] w fun e w' => e = .returned (.tuple #[]) ∧ (∃ f', RowS w' g n f' ∧ SP a b f f' ∧ Up f' a b) ∧ Below g w w' := by
 have gl := hr.lt
 have HR := Hid.mk_ hr
 clear hr
 have e1 : ((m : Int) - (a : Int)) = 1 := by omega
 have am : a < n := by omega
 have am1 : a < m := by omega
 have HA := Hid.mk_ ha
 clear ha
 go_enter Try.func59, Try.ntmps59
 go_wp2_with fail
 go_loopw [10, 11] (fun ki kj wr => ∃ (i j : Nat), Sc1 f (f a) m b i j ∧ ki = .int .i64 i ∧ kj = .int .i64 j ∧ RowS wr g n f ∧ Below g w wr) (fun ki kj _ => (intOf kj).toNat - (intOf ki).toNat)
 case atStart => exact ⟨m, b, Sc1.start (by omega), rfl, rfl, HR.out, Below.refl g w⟩
 case round =>
  clear HR
  obtain ⟨i, j, sc, rfl, rfl, hr, B⟩ := hrel
  have gq := hr.lt
  have HR := Hid.mk_ hr
  have s1 := sc.1
  have s2 := sc.2.1
  have s3 := sc.2.2.1
  have SC := Hid.mk_ sc
  clear hr sc e1
  rcases Nat.lt_or_ge i j with ij | ij
  ·
   have hlt : decide ((i : Int) < (j : Int)) = true := decide_eq_true (by omega)
   obtain ⟨s, hs⟩ : ∃ s, i + j = s := ⟨_, rfl⟩
   obtain ⟨h, hh⟩ : ∃ h, s / 2 = h := ⟨_, rfl⟩
   have es : ((i : Int) + (j : Int)) = (s : Int) := by omega
   have es2 : (s : Int) / 2 = (h : Int) := by omega
   have hi1 : i ≤ h := by omega
   have hj1 : h < j := by omega
   have hn1 : h < n := by omega
   have hx2 : (s : Int) < 2000 := by omega
   have cx := HR.out.c (i := h) hn1
   have cy := HR.out.c (i := a) am
   obtain ⟨x, hx⟩ : ∃ x, f h = x := ⟨_, rfl⟩
   obtain ⟨y, hy⟩ : ∃ y, f a = y := ⟨_, rfl⟩
   rw [hx] at cx
   rw [hy] at cy
   have CMc := fun W q => CM W x y q
   obtain ⟨c, hc⟩ : ∃ c, cmpI x y = c := ⟨_, rfl⟩
   simp only [hc] at CMc
   have HXY := Hid.mk_ (And.intro hx hy)
   clear hx hy
   have HS := Hid.mk_ (And.intro hs hh)
   clear hs hh
   by_cases lt : x < y
   ·
    have c0 : c < 0 := by rw [← hc]; exact cmpI_neg.2 lt
    clear hc
    repeat' (first | go_values | go_skip | go_guarded | go_step | go_upon)
    refine Reg.wp_chain (fun D v W => Below wr.heap.size wr W ∧ True) (Reg.inl [9]) (Reg.gv [(9, fun z_ => z_ = .int .i64 c)]) Reg.None_ (fun _ => Reg.Any) (fun _ _ => False) (Reg.pl []) (Reg.pl [])
     (by kernel_rfl) (by kernel_rfl) (by kernel_rfl) (Reg.gv_some _ (by intro p hp; simp only [List.mem_cons, List.not_mem_nil, or_false] at hp; rcases hp with rfl <;> first | exact ⟨_, rfl⟩ | exact ⟨_, none, 0, 0, rfl⟩ | exact ⟨_, false, none, 0, 0, rfl⟩ | exact ⟨_, false, none, 0, 0, false, none, 0, 0, rfl⟩)) (fun _ => ⟨belowB, trivial⟩) (fun _ _ _ _ _ h => h) (fun _ _ _ _ _ _ _ _ _ _ _ _ _ => Reg.none_) (fun _ _ _ _ h => h.elim) (fun ops' Q' hops hQ => ?_)
    apply Reg.RP rfl rfl rfl 40 rfl rfl
    ·
     intro D v W hc hj hf K' hK'
     go_step
     exact hK'.out
    · rfl
    apply Reg.RP rfl rfl rfl 41 rfl rfl
    ·
     intro D v W hc hj hf K' hK'
     go_step
     exact hK'.out
    · rfl
    apply Reg.RP rfl rfl rfl 42 rfl rfl
    ·
     intro D v W hc hj hf K' hK'
     go_step
     exact hK'.out
    · rfl
    apply Reg.RP rfl rfl rfl 43 rfl rfl
    ·
     intro D v W hc hj hf K' hK'
     go_step
     exact hK'.out
    · rfl
    apply Reg.RP rfl rfl rfl 44 rfl rfl
    ·
     intro D v W hc hj hf K' hK'
     obtain ⟨j0, _⟩ := hj
     have c0 : W.cell? ⟨g, h, none⟩ = some (.int .i64 x) := (j0.cell (p := ⟨g, _, none⟩) gq).trans cx
     go_step
     exact hK'.out
    · rfl
    apply Reg.RP rfl rfl rfl 45 rfl rfl
    ·
     intro D v W hc hj hf K' hK'
     go_step
     exact hK'.out
    · rfl
    apply Reg.RP rfl rfl rfl 46 rfl rfl
    ·
     intro D v W hc hj hf K' hK'
     go_step
     exact hK'.out
    · rfl
    apply Reg.RP rfl rfl rfl 47 rfl rfl
    ·
     intro D v W hc hj hf K' hK'
     go_step
     exact hK'.out
    · rfl
    apply Reg.RP rfl rfl rfl 48 rfl rfl
    ·
     intro D v W hc hj hf K' hK'
     obtain ⟨j0, _⟩ := hj
     have c0 : W.cell? ⟨g, a, none⟩ = some (.int .i64 y) := (j0.cell (p := ⟨g, _, none⟩) gq).trans cy
     go_step
     exact hK'.out
    · rfl
    refine Reg.RC_call rfl (tlt rfl) rfl (fun D v W hc hj hf K' hK' => ?_) ?_
    ·
     obtain ⟨j0, _⟩ := hj
     go_step
     refine (CMc _ (below_steps B (Nat.le_of_lt gl) j0)).mono ?_
     rintro e W2 ⟨rfl, hs⟩
     exact hK'.out _ W2 Reg.any ⟨jst j0 hs, trivial⟩ trivial rfl
    rintro _ rfl
    refine Reg.at220 rfl ?_
    apply Reg.RP rfl rfl rfl 50 rfl rfl
    ·
     intro D v W hc hj hf K' hK'
     go_step
     exact hK'.out
    · rfl
    refine Reg.RC_end (fun D v w9 hd hj hf => ?_)
    obtain ⟨j0, _⟩ := hj
    have st9 := j0
    clear hd hf j0
    refine hQ _ _ ?_
    clear hQ hops Q' ops'
    have B9 := below_steps B (Nat.le_of_lt gl) st9
    have hr9 := Hid.mk_ (HR.out.steps st9)
    clear st9 HR cx cy
    repeat' (first | go_values | go_skip | go_guarded | go_step | go_upon)
    go_roundw
    case rel => exact ⟨h + 1, j, SC.out.up u hi1 hj1 (by rw [HXY.out.1, HXY.out.2]; exact lt), by go_num, by go_num, hr9.out, B9⟩
    case measure => simp [intOf]; omega
   ·
    have c0 : ¬ c < 0 := fun h => lt (cmpI_neg.1 (by rw [hc]; exact h))
    clear hc
    repeat' (first | go_values | go_skip | go_guarded | go_step | go_upon)
    refine Reg.wp_chain (fun D v W => Below wr.heap.size wr W ∧ True) (Reg.inl [9]) (Reg.gv [(9, fun z_ => z_ = .int .i64 c)]) Reg.None_ (fun _ => Reg.Any) (fun _ _ => False) (Reg.pl []) (Reg.pl [])
     (by kernel_rfl) (by kernel_rfl) (by kernel_rfl) (Reg.gv_some _ (by intro p hp; simp only [List.mem_cons, List.not_mem_nil, or_false] at hp; rcases hp with rfl <;> first | exact ⟨_, rfl⟩ | exact ⟨_, none, 0, 0, rfl⟩ | exact ⟨_, false, none, 0, 0, rfl⟩ | exact ⟨_, false, none, 0, 0, false, none, 0, 0, rfl⟩)) (fun _ => ⟨belowB, trivial⟩) (fun _ _ _ _ _ h => h) (fun _ _ _ _ _ _ _ _ _ _ _ _ _ => Reg.none_) (fun _ _ _ _ h => h.elim) (fun ops' Q' hops hQ => ?_)
    apply Reg.RP rfl rfl rfl 40 rfl rfl
    ·
     intro D v W hc hj hf K' hK'
     go_step
     exact hK'.out
    · rfl
    apply Reg.RP rfl rfl rfl 41 rfl rfl
    ·
     intro D v W hc hj hf K' hK'
     go_step
     exact hK'.out
    · rfl
    apply Reg.RP rfl rfl rfl 42 rfl rfl
    ·
     intro D v W hc hj hf K' hK'
     go_step
     exact hK'.out
    · rfl
    apply Reg.RP rfl rfl rfl 43 rfl rfl
    ·
     intro D v W hc hj hf K' hK'
     go_step
     exact hK'.out
    · rfl
    apply Reg.RP rfl rfl rfl 44 rfl rfl
    ·
     intro D v W hc hj hf K' hK'
     obtain ⟨j0, _⟩ := hj
     have c0 : W.cell? ⟨g, h, none⟩ = some (.int .i64 x) := (j0.cell (p := ⟨g, _, none⟩) gq).trans cx
     go_step
     exact hK'.out
    · rfl
    apply Reg.RP rfl rfl rfl 45 rfl rfl
    ·
     intro D v W hc hj hf K' hK'
     go_step
     exact hK'.out
    · rfl
    apply Reg.RP rfl rfl rfl 46 rfl rfl
    ·
     intro D v W hc hj hf K' hK'
     go_step
     exact hK'.out
    · rfl
    apply Reg.RP rfl rfl rfl 47 rfl rfl
    ·
     intro D v W hc hj hf K' hK'
     go_step
     exact hK'.out
    · rfl
    apply Reg.RP rfl rfl rfl 48 rfl rfl
    ·
     intro D v W hc hj hf K' hK'
     obtain ⟨j0, _⟩ := hj
     have c0 : W.cell? ⟨g, a, none⟩ = some (.int .i64 y) := (j0.cell (p := ⟨g, _, none⟩) gq).trans cy
     go_step
     exact hK'.out
    · rfl
    refine Reg.RC_call rfl (tlt rfl) rfl (fun D v W hc hj hf K' hK' => ?_) ?_
    ·
     obtain ⟨j0, _⟩ := hj
     go_step
     refine (CMc _ (below_steps B (Nat.le_of_lt gl) j0)).mono ?_
     rintro e W2 ⟨rfl, hs⟩
     exact hK'.out _ W2 Reg.any ⟨jst j0 hs, trivial⟩ trivial rfl
    rintro _ rfl
    refine Reg.at220 rfl ?_
    apply Reg.RP rfl rfl rfl 50 rfl rfl
    ·
     intro D v W hc hj hf K' hK'
     go_step
     exact hK'.out
    · rfl
    refine Reg.RC_end (fun D v w9 hd hj hf => ?_)
    obtain ⟨j0, _⟩ := hj
    have st9 := j0
    clear hd hf j0
    refine hQ _ _ ?_
    clear hQ hops Q' ops'
    have B9 := below_steps B (Nat.le_of_lt gl) st9
    have hr9 := Hid.mk_ (HR.out.steps st9)
    clear st9 HR cx cy
    repeat' (first | go_values | go_skip | go_guarded | go_step | go_upon)
    go_roundw
    case rel => exact ⟨i, h, SC.out.down u hi1 hj1 (by rw [HXY.out.1, HXY.out.2]; exact lt), by go_num, by go_num, hr9.out, B9⟩
    case measure => simp [intOf]; omega
  ·
   obtain rfl : i = j := by omega
   have hlt : decide ((i : Int) < (i : Int)) = false := decide_eq_false (by omega)
   obtain ⟨q, hq⟩ : ∃ q, i - 1 = q := ⟨_, rfl⟩
   have eq1 : (i : Int) - 1 = (q : Int) := by omega
   have qa : a ≤ q := by omega
   have qn : q < n := by omega
   have HQ := Hid.mk_ hq
   clear hq
   go_wp2_with fail
   go_loopw [13] (fun kk wr => ∃ (t k : Nat), a + t = k ∧ k ≤ q ∧ kk = .int .i64 k ∧ RowS wr g n (upR f a t) ∧ Below g w wr) (fun kk _ => q - (intOf kk).toNat)
   case atStart => exact ⟨0, a, by omega, qa, rfl, HR.out, B⟩
   case round =>
    rename World => wq
    clear B HR
    obtain ⟨t, k, hk, kq, rfl, hr, B⟩ := hrel
    have gq2 := hr.lt
    have HR := Hid.mk_ hr
    have HK := Hid.mk_ hk
    clear hr
    rcases Nat.lt_or_ge k q with kl | kl
    ·
     have hk2 : decide ((k : Int) < (q : Int)) = true := decide_eq_true (by omega)
     obtain ⟨v, hv⟩ : ∃ v, k + 1 = v := ⟨_, rfl⟩
     have ev : (k : Int) + 1 = (v : Int) := by omega
     have vn : v < n := by omega
     have un : k < n := by omega
     have huv : k ≠ v := by omega
     have hvu : v ≠ k := by omega
     have HV := Hid.mk_ hv
     have HVQ := Hid.mk_ (show v ≤ q ∧ k < v by omega)
     clear hv hk
     have c1 := HR.out.c (i := k) (by omega)
     have c2 := HR.out.c (i := v) (by omega)
     have fa := HR.out.fr k
     have fb := HR.out.fr v
     obtain ⟨x, hx⟩ : ∃ x, upR f a t k = x := ⟨_, rfl⟩
     obtain ⟨y, hy⟩ : ∃ y, upR f a t v = y := ⟨_, rfl⟩
     rw [hx] at c1
     rw [hy] at c2
     have HXY := Hid.mk_ (And.intro hx hy)
     clear hx hy
     go_upto_region 11 with fail
     go_region
     have r2 : RowS ((wq.setCell ⟨g, k, none⟩ (.int .i64 y)).setCell ⟨g, v, none⟩ (.int .i64 x)).drew g n (upR f a (t + 1)) := by
      have := (HR.out.swap (i := k) (j := v) (by omega) (by omega)).drew
      rw [HXY.out.1, HXY.out.2] at this
      rw [show upR f a (t + 1) = swp (upR f a t) k v by rw [← HV.out, ← HK.out]; rfl]
      exact this
     have b2 : Below g w ((wq.setCell ⟨g, k, none⟩ (.int .i64 y)).setCell ⟨g, v, none⟩ (.int .i64 x)).drew := (Below.setCell (p := ⟨g, v, none⟩) (Below.setCell (p := ⟨g, k, none⟩) B (Nat.le_refl _) _) (Nat.le_refl _) _).drew
     have HZ := Hid.mk_ (And.intro r2 b2)
     generalize ((wq.setCell ⟨g, k, none⟩ (.int .i64 y)).setCell ⟨g, v, none⟩ (.int .i64 x)).drew = w10 at *
     clear r2 b2 c1 c2 fa fb HR HXY B
     repeat' (first | go_values | go_skip | go_guarded | go_step | go_upon)
     go_roundw
     case rel => exact ⟨t + 1, v, by have := HV.out; have := HK.out; omega, HVQ.out.1, by go_num, HZ.out.1, HZ.out.2⟩
     case measure =>
      have := HVQ.out
      show q - v < q - k
      omega
    ·
     obtain rfl : q = k := by omega
     have hk2 : decide ((q : Int) < (q : Int)) = false := decide_eq_false (by omega)
     clear hk
     go_wp2_with fail
     go_returns
     refine ⟨rfl, ⟨upR f a t, HR.out, upR_sp f (Nat.le_refl _) t (by have := HK.out; omega), ?_⟩, B⟩
     have et : t = i - 1 - a := by have := HK.out; have := HQ.out; omega
     have sc := SC.out
     rw [et]
     have ha := HA.out
     subst ha
     exact up_first u sc.1 sc.2.2.1 sc.2.2.2.1 sc.2.2.2.2
theorem vsymB {g n cap p : Nat} {f : Nat → Int} (w : World) (a m b : Nat) (hr : RowS w g n f) (ha : a + 1 < m) (hm : b = m + 1) (hb : b ≤ n) (hn : n ≤ 1000) (u : Up f a m) (CM : ∀ W x y, Below g w W → Calls Try.prog 33 #[.int .i64 x, .int .i64 y, .pointer (some ⟨p, 0, none⟩)] W fun e w2 => e = .returned (.int .i64 (cmpI x y)) ∧ Steps W w2) :
  Calls Try.prog 59 #[.slice (some ⟨g, 0, none⟩) n cap, .int .i64 a, .int .i64 m, .int .i64 b, .func (.func 33) #[] #[.pointer (some ⟨p, 0, none⟩)]] w fun e w' => e = .returned (.tuple #[]) ∧ (∃ f', RowS w' g n f' ∧ SP a b f f' ∧ Up f' a b) ∧ Below g w w' := by
 have gl := hr.lt
 have HR := Hid.mk_ hr
 clear hr
 obtain ⟨d, hd⟩ : ∃ d, m - a = d := ⟨_, rfl⟩
 have e1 : ((m : Int) - (a : Int)) = (d : Int) := by omega
 have e2 : ((d : Int) == 1) = false := by simp; omega
 have e3 : ((b : Int) - (m : Int)) = 1 := by omega
 have am : m < n := by omega
 have HB := Hid.mk_ hm
 clear hd hm
 go_enter Try.func59, Try.ntmps59
 go_wp2_with fail
 go_loopw [14, 15] (fun ki kj wr => ∃ (i j : Nat), Sc2 f (f m) a m i j ∧ ki = .int .i64 i ∧ kj = .int .i64 j ∧ RowS wr g n f ∧ Below g w wr) (fun ki kj _ => (intOf kj).toNat - (intOf ki).toNat)
 case atStart => exact ⟨a, m, Sc2.start (by omega), rfl, rfl, HR.out, Below.refl g w⟩
 case round =>
  clear HR e1 e2 e3
  obtain ⟨i, j, sc, rfl, rfl, hr, B⟩ := hrel
  have gq := hr.lt
  have HR := Hid.mk_ hr
  have s1 := sc.1
  have s2 := sc.2.1
  have s3 := sc.2.2.1
  have SC := Hid.mk_ sc
  clear hr sc
  rcases Nat.lt_or_ge i j with ij | ij
  ·
   have hlt : decide ((i : Int) < (j : Int)) = true := decide_eq_true (by omega)
   obtain ⟨s, hs⟩ : ∃ s, i + j = s := ⟨_, rfl⟩
   obtain ⟨h, hh⟩ : ∃ h, s / 2 = h := ⟨_, rfl⟩
   have es : ((i : Int) + (j : Int)) = (s : Int) := by omega
   have es2 : (s : Int) / 2 = (h : Int) := by omega
   have hi1 : i ≤ h := by omega
   have hj1 : h < j := by omega
   have hn1 : h < n := by omega
   have hx2 : (s : Int) < 2000 := by omega
   have cx := HR.out.c (i := m) am
   have cy := HR.out.c (i := h) hn1
   obtain ⟨x, hx⟩ : ∃ x, f m = x := ⟨_, rfl⟩
   obtain ⟨y, hy⟩ : ∃ y, f h = y := ⟨_, rfl⟩
   rw [hx] at cx
   rw [hy] at cy
   have CMc := fun W q => CM W x y q
   obtain ⟨c, hc⟩ : ∃ c, cmpI x y = c := ⟨_, rfl⟩
   simp only [hc] at CMc
   have HXY := Hid.mk_ (And.intro hx hy)
   clear hx hy
   have HS := Hid.mk_ (And.intro hs hh)
   clear hs hh
   by_cases lt : x < y
   ·
    have c0 : c < 0 := by rw [← hc]; exact cmpI_neg.2 lt
    clear hc
    repeat' (first | go_values | go_skip | go_guarded | go_step | go_upon)
    refine Reg.wp_chain (fun D v W => Below wr.heap.size wr W ∧ True) (Reg.inl [9]) (Reg.gv [(9, fun z_ => z_ = .int .i64 c)]) Reg.None_ (fun _ => Reg.Any) (fun _ _ => False) (Reg.pl []) (Reg.pl [])
     (by kernel_rfl) (by kernel_rfl) (by kernel_rfl) (Reg.gv_some _ (by intro p hp; simp only [List.mem_cons, List.not_mem_nil, or_false] at hp; rcases hp with rfl <;> first | exact ⟨_, rfl⟩ | exact ⟨_, none, 0, 0, rfl⟩ | exact ⟨_, false, none, 0, 0, rfl⟩ | exact ⟨_, false, none, 0, 0, false, none, 0, 0, rfl⟩)) (fun _ => ⟨belowB, trivial⟩) (fun _ _ _ _ _ h => h) (fun _ _ _ _ _ _ _ _ _ _ _ _ _ => Reg.none_) (fun _ _ _ _ h => h.elim) (fun ops' Q' hops hQ => ?_)
    apply Reg.RP rfl rfl rfl 92 rfl rfl
    ·
     intro D v W hc hj hf K' hK'
     go_step
     exact hK'.out
    · rfl
    apply Reg.RP rfl rfl rfl 93 rfl rfl
    ·
     intro D v W hc hj hf K' hK'
     go_step
     exact hK'.out
    · rfl
    apply Reg.RP rfl rfl rfl 94 rfl rfl
    ·
     intro D v W hc hj hf K' hK'
     go_step
     exact hK'.out
    · rfl
    apply Reg.RP rfl rfl rfl 95 rfl rfl
    ·
     intro D v W hc hj hf K' hK'
     go_step
     exact hK'.out
    · rfl
    apply Reg.RP rfl rfl rfl 96 rfl rfl
    ·
     intro D v W hc hj hf K' hK'
     obtain ⟨j0, _⟩ := hj
     have c0 : W.cell? ⟨g, m, none⟩ = some (.int .i64 x) := (j0.cell (p := ⟨g, _, none⟩) gq).trans cx
     go_step
     exact hK'.out
    · rfl
    apply Reg.RP rfl rfl rfl 97 rfl rfl
    ·
     intro D v W hc hj hf K' hK'
     go_step
     exact hK'.out
    · rfl
    apply Reg.RP rfl rfl rfl 98 rfl rfl
    ·
     intro D v W hc hj hf K' hK'
     go_step
     exact hK'.out
    · rfl
    apply Reg.RP rfl rfl rfl 99 rfl rfl
    ·
     intro D v W hc hj hf K' hK'
     go_step
     exact hK'.out
    · rfl
    apply Reg.RP rfl rfl rfl 100 rfl rfl
    ·
     intro D v W hc hj hf K' hK'
     obtain ⟨j0, _⟩ := hj
     have c0 : W.cell? ⟨g, h, none⟩ = some (.int .i64 y) := (j0.cell (p := ⟨g, _, none⟩) gq).trans cy
     go_step
     exact hK'.out
    · rfl
    refine Reg.RC_call rfl (tlt rfl) rfl (fun D v W hc hj hf K' hK' => ?_) ?_
    ·
     obtain ⟨j0, _⟩ := hj
     go_step
     refine (CMc _ (below_steps B (Nat.le_of_lt gl) j0)).mono ?_
     rintro e W2 ⟨rfl, hs⟩
     exact hK'.out _ W2 Reg.any ⟨jst j0 hs, trivial⟩ trivial rfl
    rintro _ rfl
    refine Reg.at220 rfl ?_
    apply Reg.RP rfl rfl rfl 102 rfl rfl
    ·
     intro D v W hc hj hf K' hK'
     go_step
     exact hK'.out
    · rfl
    apply Reg.RP rfl rfl rfl 103 rfl rfl
    ·
     intro D v W hc hj hf K' hK'
     go_step
     exact hK'.out
    · rfl
    refine Reg.RC_end (fun D v w9 hd hj hf => ?_)
    obtain ⟨j0, _⟩ := hj
    have st9 := j0
    clear hd hf j0
    refine hQ _ _ ?_
    clear hQ hops Q' ops'
    have B9 := below_steps B (Nat.le_of_lt gl) st9
    have hr9 := Hid.mk_ (HR.out.steps st9)
    clear st9 HR cx cy
    repeat' (first | go_values | go_skip | go_guarded | go_step | go_upon)
    go_roundw
    case rel => exact ⟨i, h, SC.out.down u hi1 hj1 (by rw [HXY.out.1, HXY.out.2]; exact lt), by go_num, by go_num, hr9.out, B9⟩
    case measure => simp [intOf]; omega
   ·
    have c0 : ¬ c < 0 := fun h => lt (cmpI_neg.1 (by rw [hc]; exact h))
    clear hc
    repeat' (first | go_values | go_skip | go_guarded | go_step | go_upon)
    refine Reg.wp_chain (fun D v W => Below wr.heap.size wr W ∧ True) (Reg.inl [9]) (Reg.gv [(9, fun z_ => z_ = .int .i64 c)]) Reg.None_ (fun _ => Reg.Any) (fun _ _ => False) (Reg.pl []) (Reg.pl [])
     (by kernel_rfl) (by kernel_rfl) (by kernel_rfl) (Reg.gv_some _ (by intro p hp; simp only [List.mem_cons, List.not_mem_nil, or_false] at hp; rcases hp with rfl <;> first | exact ⟨_, rfl⟩ | exact ⟨_, none, 0, 0, rfl⟩ | exact ⟨_, false, none, 0, 0, rfl⟩ | exact ⟨_, false, none, 0, 0, false, none, 0, 0, rfl⟩)) (fun _ => ⟨belowB, trivial⟩) (fun _ _ _ _ _ h => h) (fun _ _ _ _ _ _ _ _ _ _ _ _ _ => Reg.none_) (fun _ _ _ _ h => h.elim) (fun ops' Q' hops hQ => ?_)
    apply Reg.RP rfl rfl rfl 92 rfl rfl
    ·
     intro D v W hc hj hf K' hK'
     go_step
     exact hK'.out
    · rfl
    apply Reg.RP rfl rfl rfl 93 rfl rfl
    ·
     intro D v W hc hj hf K' hK'
     go_step
     exact hK'.out
    · rfl
    apply Reg.RP rfl rfl rfl 94 rfl rfl
    ·
     intro D v W hc hj hf K' hK'
     go_step
     exact hK'.out
    · rfl
    apply Reg.RP rfl rfl rfl 95 rfl rfl
    ·
     intro D v W hc hj hf K' hK'
     go_step
     exact hK'.out
    · rfl
    apply Reg.RP rfl rfl rfl 96 rfl rfl
    ·
     intro D v W hc hj hf K' hK'
     obtain ⟨j0, _⟩ := hj
     have c0 : W.cell? ⟨g, m, none⟩ = some (.int .i64 x) := (j0.cell (p := ⟨g, _, none⟩) gq).trans cx
     go_step
     exact hK'.out
    · rfl
    apply Reg.RP rfl rfl rfl 97 rfl rfl
    ·
     intro D v W hc hj hf K' hK'
     go_step
     exact hK'.out
    · rfl
    apply Reg.RP rfl rfl rfl 98 rfl rfl
    ·
     intro D v W hc hj hf K' hK'
     go_step
     exact hK'.out
    · rfl
    apply Reg.RP rfl rfl rfl 99 rfl rfl
    ·
     intro D v W hc hj hf K' hK'
     go_step
     exact hK'.out
    · rfl
    apply Reg.RP rfl rfl rfl 100 rfl rfl
    ·
     intro D v W hc hj hf K' hK'
     obtain ⟨j0, _⟩ := hj
     have c0 : W.cell? ⟨g, h, none⟩ = some (.int .i64 y) := (j0.cell (p := ⟨g, _, none⟩) gq).trans cy
     go_step
     exact hK'.out
    · rfl
    refine Reg.RC_call rfl (tlt rfl) rfl (fun D v W hc hj hf K' hK' => ?_) ?_
    ·
     obtain ⟨j0, _⟩ := hj
     go_step
     refine (CMc _ (below_steps B (Nat.le_of_lt gl) j0)).mono ?_
     rintro e W2 ⟨rfl, hs⟩
     exact hK'.out _ W2 Reg.any ⟨jst j0 hs, trivial⟩ trivial rfl
    rintro _ rfl
    refine Reg.at220 rfl ?_
    apply Reg.RP rfl rfl rfl 102 rfl rfl
    ·
     intro D v W hc hj hf K' hK'
     go_step
     exact hK'.out
    · rfl
    apply Reg.RP rfl rfl rfl 103 rfl rfl
    ·
     intro D v W hc hj hf K' hK'
     go_step
     exact hK'.out
    · rfl
    refine Reg.RC_end (fun D v w9 hd hj hf => ?_)
    obtain ⟨j0, _⟩ := hj
    have st9 := j0
    clear hd hf j0
    refine hQ _ _ ?_
    clear hQ hops Q' ops'
    have B9 := below_steps B (Nat.le_of_lt gl) st9
    have hr9 := Hid.mk_ (HR.out.steps st9)
    clear st9 HR cx cy
    repeat' (first | go_values | go_skip | go_guarded | go_step | go_upon)
    go_roundw
    case rel => exact ⟨h + 1, j, SC.out.up u hi1 hj1 (by rw [HXY.out.1, HXY.out.2]; exact lt), by go_num, by go_num, hr9.out, B9⟩
    case measure => simp [intOf]; omega
  ·
   obtain rfl : i = j := by omega
   have hlt : decide ((i : Int) < (i : Int)) = false := decide_eq_false (by omega)
   go_wp2_with fail
   go_loopw [17] (fun kk wr => ∃ (t k : Nat), k + t = m ∧ i ≤ k ∧ kk = .int .i64 k ∧ RowS wr g n (dnR f m t) ∧ Below g w wr) (fun kk _ => (intOf kk).toNat)
   case atStart => exact ⟨0, m, by omega, s3, rfl, HR.out, B⟩
   case round =>
    rename World => wq
    clear B HR
    obtain ⟨t, k, hk, kq, rfl, hr, B⟩ := hrel
    have gq2 := hr.lt
    have HR := Hid.mk_ hr
    have HK := Hid.mk_ hk
    have km : k ≤ m := by omega
    clear hr
    rcases Nat.lt_or_ge i k with kl | kl
    ·
     have hk2 : decide ((i : Int) < (k : Int)) = true := decide_eq_true (by omega)
     obtain ⟨v, hv⟩ : ∃ v, k - 1 = v := ⟨_, rfl⟩
     have ev : (k : Int) - 1 = (v : Int) := by omega
     have vn : v < n := by omega
     have un : k < n := by omega
     have huv : k ≠ v := by omega
     have hvu : v ≠ k := by omega
     have iv : i ≤ v := by omega
     have vk : v < k := by omega
     have HV := Hid.mk_ hv
     clear hv hk kl
     have c1 := HR.out.c (i := k) (by omega)
     have c2 := HR.out.c (i := v) (by omega)
     have fa := HR.out.fr k
     have fb := HR.out.fr v
     obtain ⟨x, hx⟩ : ∃ x, dnR f m t k = x := ⟨_, rfl⟩
     obtain ⟨y, hy⟩ : ∃ y, dnR f m t v = y := ⟨_, rfl⟩
     rw [hx] at c1
     rw [hy] at c2
     have HXY := Hid.mk_ (And.intro hx hy)
     clear hx hy
     go_upto_region 23 with fail
     go_region
     have r2 : RowS ((wq.setCell ⟨g, k, none⟩ (.int .i64 y)).setCell ⟨g, v, none⟩ (.int .i64 x)).drew g n (dnR f m (t + 1)) := by
      have := (HR.out.swap (i := k) (j := v) (by omega) (by omega)).drew
      rw [HXY.out.1, HXY.out.2] at this
      rw [show dnR f m (t + 1) = swp (dnR f m t) k v by (have e1 : m - t = k := by (have := HK.out; omega)); show _ = swp (dnR f m t) k v; rw [← HV.out, ← e1]; rfl]
      exact this
     have b2 : Below g w ((wq.setCell ⟨g, k, none⟩ (.int .i64 y)).setCell ⟨g, v, none⟩ (.int .i64 x)).drew := (Below.setCell (p := ⟨g, v, none⟩) (Below.setCell (p := ⟨g, k, none⟩) B (Nat.le_refl _) _) (Nat.le_refl _) _).drew
     have HZ := Hid.mk_ (And.intro r2 b2)
     generalize ((wq.setCell ⟨g, k, none⟩ (.int .i64 y)).setCell ⟨g, v, none⟩ (.int .i64 x)).drew = w10 at *
     clear r2 b2 c1 c2 fa fb HR HXY B
     repeat' (first | go_values | go_skip | go_guarded | go_step | go_upon)
     go_roundw
     case rel => exact ⟨t + 1, v, by have := HV.out; have := HK.out; omega, by omega, by go_num, HZ.out.1, HZ.out.2⟩
     case measure => simp [intOf]; omega
    ·
     obtain rfl : i = k := by omega
     have hk2 : decide ((i : Int) < (i : Int)) = false := decide_eq_false (by omega)
     clear hk
     go_wp2_with fail
     go_returns
     refine ⟨rfl, ⟨dnR f m t, HR.out, dnR_sp f (by have := HB.out; omega) t (by have := HK.out; omega), ?_⟩, B⟩
     have et : t = m - i := by have := HK.out; omega
     have sc := SC.out
     rw [et]
     have hm := HB.out
     subst hm
     exact up_last u sc.1 (by omega) sc.2.2.2.1 sc.2.2.2.2
theorem vsymC1 {g n cap p : Nat} {f : Nat → Int} (w : World) (a m b : Nat) (hr : RowS w g n f) (ha : a + 1 < m) (hm : m + 1 < b) (hb : b ≤ n) (hn : n ≤ 1000) (u1 : Up f a m) (u2 : Up f m b) (hw : (a + b) / 2 < m) (CM : ∀ W x y, Below g w W → Calls Try.prog 33 #[.int .i64 x, .int .i64 y, .pointer (some ⟨p, 0, none⟩)] W fun e w2 => e = .returned (.int .i64 (cmpI x y)) ∧ Steps W w2) (IH : ∀ (a' m' b' : Nat) (f' : Nat → Int) (w' : World), b' - a' < b - a → RowS w' g n f' → a' < m' → m' < b' → b' ≤ n → Up f' a' m' → Up f' m' b' → Below g w w' → Calls Try.prog 59 #[.slice (some ⟨g, 0, none⟩) n cap, .int .i64 a', .int .i64 m', .int .i64 b', .func (.func 33) #[] #[.pointer (some ⟨p, 0, none⟩)]] w' fun e w2 => e = .returned (.tuple #[]) ∧ (∃ f2, RowS w2 g n f2 ∧ SP a' b' f' f2 ∧ Up f2 a' b') ∧ Below g w' w2) :
  Calls Try.prog 59 #[.slice (some ⟨g, 0, none⟩) n cap, .int .i64 a, .int .i64 m, .int .i64 b, .func (.func 33) #[] #[.pointer (some ⟨p, 0, none⟩)]] w fun e w' => e = .returned (.tuple #[]) ∧ (∃ f', RowS w' g n f' ∧ SP a b f f' ∧ Up f' a b) ∧ Below g w w' := by
 have gl := hr.lt
 have HR := Hid.mk_ hr
 clear hr
 obtain ⟨d, hd⟩ : ∃ d, m - a = d := ⟨_, rfl⟩
 have e1 : ((m : Int) - (a : Int)) = (d : Int) := by omega
 have e2 : ((d : Int) == 1) = false := by simp; omega
 obtain ⟨d', hd'⟩ : ∃ d, b - m = d := ⟨_, rfl⟩
 have e3 : ((b : Int) - (m : Int)) = (d' : Int) := by omega
 have e4 : ((d' : Int) == 1) = false := by simp; omega
 obtain ⟨s0, hs0⟩ : ∃ s, a + b = s := ⟨_, rfl⟩
 obtain ⟨mid, hmid⟩ : ∃ s, s0 / 2 = s := ⟨_, rfl⟩
 have es0 : ((a : Int) + (b : Int)) = (s0 : Int) := by omega
 have es1 : (s0 : Int) / 2 = (mid : Int) := by omega
 have hx0 : (s0 : Int) < 2000 := by omega
 rw [hs0, hmid] at hw
 obtain ⟨q, hq⟩ : ∃ q, mid + m = q := ⟨_, rfl⟩
 have eq1 : ((mid : Int) + (m : Int)) = (q : Int) := by omega
 obtain ⟨pp, hpp⟩ : ∃ p, q - 1 = p := ⟨_, rfl⟩
 have epp : (q : Int) - 1 = (pp : Int) := by omega
 have m1 : a < mid := by omega
 have m2 : mid < b := by omega
 have m3 : 2 * mid ≤ a + b := by omega
 have m4 : a + b ≤ 2 * mid + 1 := by omega
 obtain ⟨lo, hlo⟩ : ∃ l, q - b = l := ⟨_, rfl⟩
 have elo : ((q : Int) - (b : Int)) = (lo : Int) := by omega
 have hgt : decide ((mid : Int) < (m : Int)) = true := decide_eq_true (by omega)
 have hgtN : decide (mid < m) = true := decide_eq_true (by omega)
 have bq : b ≤ q := by omega
 have HP := Hid.mk_ (show pp = mid + m - 1 ∧ lo = mid + m - b ∧ q = mid + m ∧ a ≤ lo by omega)
 have loa : a ≤ lo := by omega
 have lob : lo ≤ mid := by omega
 have pb : pp < lo + b := by omega
 clear hlo
 have ph : m + mid ≤ pp + 1 := by omega
 have MONO := Hid.mk_ (sch_mono (p := pp) (lo := lo) (hi := mid) u1 u2 (by omega) (by omega) ph pb)
 have UU := Hid.mk_ (And.intro u1 u2)
 clear hd hd' hs0 hmid hpp u1 u2 hq
 go_enter Try.func59, Try.ntmps59
 repeat' (first | go_values | go_skip | go_guarded | go_step | go_upon)
 go_loopw [20, 21] (fun ks kr wr => ∃ (st r : Nat), Sch f pp lo mid st r ∧ ks = .int .i64 st ∧ kr = .int .i64 r ∧ RowS wr g n f ∧ Below g w wr) (fun ks kr _ => (intOf kr).toNat - (intOf ks).toNat)
 case atStart => exact ⟨lo, mid, Sch.start (by omega), by go_num, by go_num, HR.out, Below.refl g w⟩
 case round =>
  clear HR e1 e2 e3 e4 es0 es1 eq1 epp hx0 hgt hgtN elo
  obtain ⟨st, r, sc, rfl, rfl, hr, B⟩ := hrel
  have gq := hr.lt
  have HR := Hid.mk_ hr
  have s1 := sc.1
  have s2 := sc.2.1
  have s3 := sc.2.2.1
  have SC := Hid.mk_ sc
  clear hr sc
  rcases Nat.lt_or_ge st r with ij | ij
  ·
   have hlt : decide ((st : Int) < (r : Int)) = true := decide_eq_true (by omega)
   obtain ⟨s, hs⟩ : ∃ s, st + r = s := ⟨_, rfl⟩
   obtain ⟨h, hh⟩ : ∃ h, s / 2 = h := ⟨_, rfl⟩
   have es : ((st : Int) + (r : Int)) = (s : Int) := by omega
   have es2 : (s : Int) / 2 = (h : Int) := by omega
   have hi1 : st ≤ h := by omega
   have hj1 : h < r := by omega
   have hn1 : h < n := by omega
   have hx2 : (s : Int) < 2000 := by omega
   obtain ⟨k, hk⟩ : ∃ k, pp - h = k := ⟨_, rfl⟩
   have ek : (pp : Int) - (h : Int) = (k : Int) := by omega
   have kn : k < n := by omega
   have HK := Hid.mk_ hk
   have cx := HR.out.c (i := k) kn
   have cy := HR.out.c (i := h) hn1
   obtain ⟨x, hx⟩ : ∃ x, f k = x := ⟨_, rfl⟩
   obtain ⟨y, hy⟩ : ∃ y, f h = y := ⟨_, rfl⟩
   rw [hx] at cx
   rw [hy] at cy
   have CMc := fun W q => CM W x y q
   obtain ⟨c, hc⟩ : ∃ c, cmpI x y = c := ⟨_, rfl⟩
   simp only [hc] at CMc
   have HXY := Hid.mk_ (And.intro hx hy)
   clear hx hy
   have HS := Hid.mk_ (And.intro hs hh)
   clear hs hh hk
   by_cases lt : x < y
   ·
    have c0 : c < 0 := by rw [← hc]; exact cmpI_neg.2 lt
    clear hc
    repeat' (first | go_values | go_skip | go_guarded | go_step | go_upon)
    refine Reg.wp_chain (fun D v W => Below wr.heap.size wr W ∧ True) (Reg.inl [11]) (Reg.gv [(11, fun z_ => z_ = .int .i64 c)]) Reg.None_ (fun _ => Reg.Any) (fun _ _ => False) (Reg.pl []) (Reg.pl [])
     (by kernel_rfl) (by kernel_rfl) (by kernel_rfl) (Reg.gv_some _ (by intro p hp; simp only [List.mem_cons, List.not_mem_nil, or_false] at hp; rcases hp with rfl <;> first | exact ⟨_, rfl⟩ | exact ⟨_, none, 0, 0, rfl⟩ | exact ⟨_, false, none, 0, 0, rfl⟩ | exact ⟨_, false, none, 0, 0, false, none, 0, 0, rfl⟩)) (fun _ => ⟨belowB, trivial⟩) (fun _ _ _ _ _ h => h) (fun _ _ _ _ _ _ _ _ _ _ _ _ _ => Reg.none_) (fun _ _ _ _ h => h.elim) (fun ops' Q' hops hQ => ?_)
    apply Reg.RP rfl rfl rfl 158 rfl rfl
    ·
     intro D v W hc hj hf K' hK'
     go_step
     exact hK'.out
    · rfl
    apply Reg.RP rfl rfl rfl 159 rfl rfl
    ·
     intro D v W hc hj hf K' hK'
     go_step
     exact hK'.out
    · rfl
    apply Reg.RP rfl rfl rfl 160 rfl rfl
    ·
     intro D v W hc hj hf K' hK'
     go_step
     exact hK'.out
    · rfl
    apply Reg.RP rfl rfl rfl 161 rfl rfl
    ·
     intro D v W hc hj hf K' hK'
     go_step
     exact hK'.out
    · rfl
    apply Reg.RP rfl rfl rfl 162 rfl rfl
    ·
     intro D v W hc hj hf K' hK'
     go_step
     exact hK'.out
    · rfl
    apply Reg.RP rfl rfl rfl 163 rfl rfl
    ·
     intro D v W hc hj hf K' hK'
     go_step
     exact hK'.out
    · rfl
    apply Reg.RP rfl rfl rfl 164 rfl rfl
    ·
     intro D v W hc hj hf K' hK'
     obtain ⟨j0, _⟩ := hj
     have c0 : W.cell? ⟨g, k, none⟩ = some (.int .i64 x) := (j0.cell (p := ⟨g, _, none⟩) gq).trans cx
     go_step
     exact hK'.out
    · rfl
    apply Reg.RP rfl rfl rfl 165 rfl rfl
    ·
     intro D v W hc hj hf K' hK'
     go_step
     exact hK'.out
    · rfl
    apply Reg.RP rfl rfl rfl 166 rfl rfl
    ·
     intro D v W hc hj hf K' hK'
     go_step
     exact hK'.out
    · rfl
    apply Reg.RP rfl rfl rfl 167 rfl rfl
    ·
     intro D v W hc hj hf K' hK'
     go_step
     exact hK'.out
    · rfl
    apply Reg.RP rfl rfl rfl 168 rfl rfl
    ·
     intro D v W hc hj hf K' hK'
     obtain ⟨j0, _⟩ := hj
     have c0 : W.cell? ⟨g, h, none⟩ = some (.int .i64 y) := (j0.cell (p := ⟨g, _, none⟩) gq).trans cy
     go_step
     exact hK'.out
    · rfl
    refine Reg.RC_call rfl (tlt rfl) rfl (fun D v W hc hj hf K' hK' => ?_) ?_
    ·
     obtain ⟨j0, _⟩ := hj
     go_step
     refine (CMc _ (below_steps B (Nat.le_of_lt gl) j0)).mono ?_
     rintro e W2 ⟨rfl, hs⟩
     exact hK'.out _ W2 Reg.any ⟨jst j0 hs, trivial⟩ trivial rfl
    rintro _ rfl
    refine Reg.at220 rfl ?_
    apply Reg.RP rfl rfl rfl 170 rfl rfl
    ·
     intro D v W hc hj hf K' hK'
     go_step
     exact hK'.out
    · rfl
    apply Reg.RP rfl rfl rfl 171 rfl rfl
    ·
     intro D v W hc hj hf K' hK'
     go_step
     exact hK'.out
    · rfl
    refine Reg.RC_end (fun D v w9 hd hj hf => ?_)
    obtain ⟨j0, _⟩ := hj
    have st9 := j0
    clear hd hf j0
    refine hQ _ _ ?_
    clear hQ hops Q' ops'
    have B9 := below_steps B (Nat.le_of_lt gl) st9
    have hr9 := Hid.mk_ (HR.out.steps st9)
    clear st9 HR cx cy
    repeat' (first | go_values | go_skip | go_guarded | go_step | go_upon)
    go_roundw
    case rel => exact ⟨st, h, SC.out.down hi1 hj1 MONO.out (by rw [HK.out, HXY.out.1, HXY.out.2]; exact lt), by go_num, by go_num, hr9.out, B9⟩
    case measure => simp [intOf]; omega
   ·
    have c0 : ¬ c < 0 := fun h => lt (cmpI_neg.1 (by rw [hc]; exact h))
    clear hc
    repeat' (first | go_values | go_skip | go_guarded | go_step | go_upon)
    refine Reg.wp_chain (fun D v W => Below wr.heap.size wr W ∧ True) (Reg.inl [11]) (Reg.gv [(11, fun z_ => z_ = .int .i64 c)]) Reg.None_ (fun _ => Reg.Any) (fun _ _ => False) (Reg.pl []) (Reg.pl [])
     (by kernel_rfl) (by kernel_rfl) (by kernel_rfl) (Reg.gv_some _ (by intro p hp; simp only [List.mem_cons, List.not_mem_nil, or_false] at hp; rcases hp with rfl <;> first | exact ⟨_, rfl⟩ | exact ⟨_, none, 0, 0, rfl⟩ | exact ⟨_, false, none, 0, 0, rfl⟩ | exact ⟨_, false, none, 0, 0, false, none, 0, 0, rfl⟩)) (fun _ => ⟨belowB, trivial⟩) (fun _ _ _ _ _ h => h) (fun _ _ _ _ _ _ _ _ _ _ _ _ _ => Reg.none_) (fun _ _ _ _ h => h.elim) (fun ops' Q' hops hQ => ?_)
    apply Reg.RP rfl rfl rfl 158 rfl rfl
    ·
     intro D v W hc hj hf K' hK'
     go_step
     exact hK'.out
    · rfl
    apply Reg.RP rfl rfl rfl 159 rfl rfl
    ·
     intro D v W hc hj hf K' hK'
     go_step
     exact hK'.out
    · rfl
    apply Reg.RP rfl rfl rfl 160 rfl rfl
    ·
     intro D v W hc hj hf K' hK'
     go_step
     exact hK'.out
    · rfl
    apply Reg.RP rfl rfl rfl 161 rfl rfl
    ·
     intro D v W hc hj hf K' hK'
     go_step
     exact hK'.out
    · rfl
    apply Reg.RP rfl rfl rfl 162 rfl rfl
    ·
     intro D v W hc hj hf K' hK'
     go_step
     exact hK'.out
    · rfl
    apply Reg.RP rfl rfl rfl 163 rfl rfl
    ·
     intro D v W hc hj hf K' hK'
     go_step
     exact hK'.out
    · rfl
    apply Reg.RP rfl rfl rfl 164 rfl rfl
    ·
     intro D v W hc hj hf K' hK'
     obtain ⟨j0, _⟩ := hj
     have c0 : W.cell? ⟨g, k, none⟩ = some (.int .i64 x) := (j0.cell (p := ⟨g, _, none⟩) gq).trans cx
     go_step
     exact hK'.out
    · rfl
    apply Reg.RP rfl rfl rfl 165 rfl rfl
    ·
     intro D v W hc hj hf K' hK'
     go_step
     exact hK'.out
    · rfl
    apply Reg.RP rfl rfl rfl 166 rfl rfl
    ·
     intro D v W hc hj hf K' hK'
     go_step
     exact hK'.out
    · rfl
    apply Reg.RP rfl rfl rfl 167 rfl rfl
    ·
     intro D v W hc hj hf K' hK'
     go_step
     exact hK'.out
    · rfl
    apply Reg.RP rfl rfl rfl 168 rfl rfl
    ·
     intro D v W hc hj hf K' hK'
     obtain ⟨j0, _⟩ := hj
     have c0 : W.cell? ⟨g, h, none⟩ = some (.int .i64 y) := (j0.cell (p := ⟨g, _, none⟩) gq).trans cy
     go_step
     exact hK'.out
    · rfl
    refine Reg.RC_call rfl (tlt rfl) rfl (fun D v W hc hj hf K' hK' => ?_) ?_
    ·
     obtain ⟨j0, _⟩ := hj
     go_step
     refine (CMc _ (below_steps B (Nat.le_of_lt gl) j0)).mono ?_
     rintro e W2 ⟨rfl, hs⟩
     exact hK'.out _ W2 Reg.any ⟨jst j0 hs, trivial⟩ trivial rfl
    rintro _ rfl
    refine Reg.at220 rfl ?_
    apply Reg.RP rfl rfl rfl 170 rfl rfl
    ·
     intro D v W hc hj hf K' hK'
     go_step
     exact hK'.out
    · rfl
    apply Reg.RP rfl rfl rfl 171 rfl rfl
    ·
     intro D v W hc hj hf K' hK'
     go_step
     exact hK'.out
    · rfl
    refine Reg.RC_end (fun D v w9 hd hj hf => ?_)
    obtain ⟨j0, _⟩ := hj
    have st9 := j0
    clear hd hf j0
    refine hQ _ _ ?_
    clear hQ hops Q' ops'
    have B9 := below_steps B (Nat.le_of_lt gl) st9
    have hr9 := Hid.mk_ (HR.out.steps st9)
    clear st9 HR cx cy
    repeat' (first | go_values | go_skip | go_guarded | go_step | go_upon)
    go_roundw
    case rel => exact ⟨h + 1, r, SC.out.up hi1 hj1 MONO.out (by rw [HK.out, HXY.out.1, HXY.out.2]; exact lt), by go_num, by go_num, hr9.out, B9⟩
    case measure => simp [intOf]; omega
  ·
   obtain rfl : st = r := by omega
   have hlt : decide ((st : Int) < (st : Int)) = false := decide_eq_false (by omega)
   obtain ⟨en, hen⟩ : ∃ e, q - st = e := ⟨_, rfl⟩
   have een : (q : Int) - (st : Int) = (en : Int) := by have := HP.out; omega
   have sm : st ≤ m := by omega
   have sq : st ≤ mid := by have := HP.out; omega
   have as_ : a ≤ st := by omega
   have me : m ≤ en := by have := HP.out; omega
   have de : mid ≤ en := by have := HP.out; omega
   have eb : en ≤ b := by have := HP.out; omega
   have HE := Hid.mk_ (show en = mid + m - st ∧ (st = m → en = mid) ∧ (m = en → st = mid) by have := HP.out; omega)
   have ends := sch_ends (f := f) (a := a) (m := m) (b := b) (mid := mid) (s := st) (lo := lo) (hi := mid) (by have h1 := SC.out; rw [HP.out.1] at h1; exact h1) (by omega) (by first | exact .inl ⟨rfl, rfl⟩ | exact .inr ⟨HP.out.2.1, rfl, by have := HP.out; omega⟩)
   have MH := merge_halves (f := f) mid UU.out.1 UU.out.2 as_ sm sq (by omega) (by omega) (by omega) (by have := HE.out; omega) (by have := HE.out; omega) ends.1 ends.2
   rw [← HE.out.1] at MH
   have MH' := Hid.mk_ MH
   clear MH ends hen SC
   rcases (show (st < m ∧ m < en) ∨ ¬ st < m ∨ (st < m ∧ ¬ m < en) by omega) with ⟨g5, g6⟩ | g5 | ⟨g5, g6⟩
   ·
    have d1 : decide ((st : Int) < (m : Int)) = true := decide_eq_true (by omega)
    have d2 : decide ((m : Int) < (en : Int)) = true := decide_eq_true (by omega)
    have RO := vrotate (cap := cap) (p := p) wr st m en HR.out g5 g6 (by omega) hn
    repeat' (first | go_values | go_skip | go_guarded | go_step | go_upon)
    refine RO.mono ?_
    rintro e w6 ⟨rfl, h1, h2⟩
    have B6 : Below g w w6 := B.trans h2
    obtain ⟨g1, hg1⟩ : ∃ z, rotF st m en f = z := ⟨_, rfl⟩
    have G := Hid.mk_ (show RowS w6 g n g1 ∧ SP a b f g1 ∧ Up g1 a st ∧ Up g1 st mid ∧ Up g1 mid en ∧ Up g1 en b ∧ (∀ x y, a ≤ x → x < mid → mid ≤ y → y < b → g1 x ≤ g1 y) from by
     rw [← hg1]; exact ⟨h1, rotF_sp' f as_ g5 g6 eb, MH'.out⟩)
    clear h1 h2 hg1 RO MH' HR B
    dsimp only
    rcases (show (a < st ∧ st < mid) ∨ ¬ a < st ∨ (a < st ∧ ¬ st < mid) by omega) with ⟨g3, g4⟩ | g3 | ⟨g3, g4⟩
    ·
     have d3 : decide ((a : Int) < (st : Int)) = true := decide_eq_true (by omega)
     have d4 : decide ((st : Int) < (mid : Int)) = true := decide_eq_true (by omega)
     have RC := IH a st mid g1 w6 (by omega) G.out.1 g3 g4 (by omega) G.out.2.2.1 G.out.2.2.2.1 B6
     repeat' (first | go_values | go_skip | go_guarded | go_step | go_upon)
     refine RC.mono ?_
     rintro e w7 ⟨rfl, ⟨f7, h1, h2, h3⟩, h4⟩
     have B7 : Below g w w7 := B6.trans h4
     have H7 := Hid.mk_ (show RowS w7 g n f7 ∧ SP a b f f7 ∧ Up f7 mid en ∧ Up f7 en b ∧ SP a mid g1 f7 ∧ Up f7 a mid ∧ (∀ x y, a ≤ x → x < mid → mid ≤ y → y < b → g1 x ≤ g1 y) from ⟨h1, G.out.2.1.trans (h2.mono (Nat.le_refl _) (by omega)), G.out.2.2.2.2.1.congr (fun k k1 _ => h2.out (.inr k1)), G.out.2.2.2.2.2.1.congr (fun k k1 _ => h2.out (.inr (by omega))), h2, h3, G.out.2.2.2.2.2.2⟩)
     clear h1 h2 h3 h4 RC G
     dsimp only
     rcases (show (mid < en ∧ en < b) ∨ ¬ mid < en ∨ (mid < en ∧ ¬ en < b) by omega) with ⟨q1, q2⟩ | q1 | ⟨q1, q2⟩
     ·
      have d5 : decide ((mid : Int) < (en : Int)) = true := decide_eq_true (by omega)
      have d6 : decide ((en : Int) < (b : Int)) = true := decide_eq_true (by omega)
      have RC := IH mid en b f7 w7 (by omega) H7.out.1 q1 q2 hb (H7.out.2.2.1) (H7.out.2.2.2.1) B7
      repeat' (first | go_values | go_skip | go_guarded | go_step | go_upon)
      refine RC.mono ?_
      rintro e w8 ⟨rfl, ⟨f8, h1, h2, h3⟩, h4⟩
      have H8 := Hid.mk_ (And.intro h1 (And.intro h2 h3))
      have B8 : Below g w w8 := B7.trans h4
      clear h1 h2 h3 h4 RC
      dsimp only
      repeat' (first | go_values | go_skip | go_guarded | go_step | go_upon)
      go_returns
      exact ⟨rfl, ⟨f8, H8.out.1, H7.out.2.1.trans (H8.out.2.1.mono (by omega) (Nat.le_refl _)), merge_join (by omega) (by omega) H7.out.2.2.2.2.1 H8.out.2.1 H7.out.2.2.2.2.2.1 H8.out.2.2 H7.out.2.2.2.2.2.2⟩, B8⟩
     ·
      have d5 : decide ((mid : Int) < (en : Int)) = false := decide_eq_false (by omega)
      repeat' (first | go_values | go_skip | go_guarded | go_step | go_upon)
      go_returns
      exact ⟨rfl, ⟨f7, H7.out.1, H7.out.2.1, merge_join (by omega) (by omega) H7.out.2.2.2.2.1 (SP.refl _) H7.out.2.2.2.2.2.1 (by rw [show mid = en by omega]; exact H7.out.2.2.2.1) H7.out.2.2.2.2.2.2⟩, B7⟩
     ·
      have d5 : decide ((mid : Int) < (en : Int)) = true := decide_eq_true (by omega)
      have d6 : decide ((en : Int) < (b : Int)) = false := decide_eq_false (by omega)
      repeat' (first | go_values | go_skip | go_guarded | go_step | go_upon)
      go_returns
      exact ⟨rfl, ⟨f7, H7.out.1, H7.out.2.1, merge_join (by omega) (by omega) H7.out.2.2.2.2.1 (SP.refl _) H7.out.2.2.2.2.2.1 (by have := H7.out.2.2.1; rw [show en = b by omega] at this; exact this) H7.out.2.2.2.2.2.2⟩, B7⟩
    ·
     have d3 : decide ((a : Int) < (st : Int)) = false := decide_eq_false (by omega)
     have H7 := Hid.mk_ (show RowS w6 g n g1 ∧ SP a b f g1 ∧ Up g1 mid en ∧ Up g1 en b ∧ SP a mid g1 g1 ∧ Up g1 a mid ∧ (∀ x y, a ≤ x → x < mid → mid ≤ y → y < b → g1 x ≤ g1 y) from ⟨G.out.1, G.out.2.1, G.out.2.2.2.2.1, G.out.2.2.2.2.2.1, SP.refl _, (by rw [show a = st by omega]; exact G.out.2.2.2.1), G.out.2.2.2.2.2.2⟩)
     clear G
     rcases (show (mid < en ∧ en < b) ∨ ¬ mid < en ∨ (mid < en ∧ ¬ en < b) by omega) with ⟨q1, q2⟩ | q1 | ⟨q1, q2⟩
     ·
      have d5 : decide ((mid : Int) < (en : Int)) = true := decide_eq_true (by omega)
      have d6 : decide ((en : Int) < (b : Int)) = true := decide_eq_true (by omega)
      have RC := IH mid en b g1 w6 (by omega) H7.out.1 q1 q2 hb (H7.out.2.2.1) (H7.out.2.2.2.1) B6
      repeat' (first | go_values | go_skip | go_guarded | go_step | go_upon)
      refine RC.mono ?_
      rintro e w8 ⟨rfl, ⟨f8, h1, h2, h3⟩, h4⟩
      have H8 := Hid.mk_ (And.intro h1 (And.intro h2 h3))
      have B8 : Below g w w8 := B6.trans h4
      clear h1 h2 h3 h4 RC
      dsimp only
      repeat' (first | go_values | go_skip | go_guarded | go_step | go_upon)
      go_returns
      exact ⟨rfl, ⟨f8, H8.out.1, H7.out.2.1.trans (H8.out.2.1.mono (by omega) (Nat.le_refl _)), merge_join (by omega) (by omega) H7.out.2.2.2.2.1 H8.out.2.1 H7.out.2.2.2.2.2.1 H8.out.2.2 H7.out.2.2.2.2.2.2⟩, B8⟩
     ·
      have d5 : decide ((mid : Int) < (en : Int)) = false := decide_eq_false (by omega)
      repeat' (first | go_values | go_skip | go_guarded | go_step | go_upon)
      go_returns
      exact ⟨rfl, ⟨g1, H7.out.1, H7.out.2.1, merge_join (by omega) (by omega) H7.out.2.2.2.2.1 (SP.refl _) H7.out.2.2.2.2.2.1 (by rw [show mid = en by omega]; exact H7.out.2.2.2.1) H7.out.2.2.2.2.2.2⟩, B6⟩
     ·
      have d5 : decide ((mid : Int) < (en : Int)) = true := decide_eq_true (by omega)
      have d6 : decide ((en : Int) < (b : Int)) = false := decide_eq_false (by omega)
      repeat' (first | go_values | go_skip | go_guarded | go_step | go_upon)
      go_returns
      exact ⟨rfl, ⟨g1, H7.out.1, H7.out.2.1, merge_join (by omega) (by omega) H7.out.2.2.2.2.1 (SP.refl _) H7.out.2.2.2.2.2.1 (by have := H7.out.2.2.1; rw [show en = b by omega] at this; exact this) H7.out.2.2.2.2.2.2⟩, B6⟩
    ·
     have d3 : decide ((a : Int) < (st : Int)) = true := decide_eq_true (by omega)
     have d4 : decide ((st : Int) < (mid : Int)) = false := decide_eq_false (by omega)
     have H7 := Hid.mk_ (show RowS w6 g n g1 ∧ SP a b f g1 ∧ Up g1 mid en ∧ Up g1 en b ∧ SP a mid g1 g1 ∧ Up g1 a mid ∧ (∀ x y, a ≤ x → x < mid → mid ≤ y → y < b → g1 x ≤ g1 y) from ⟨G.out.1, G.out.2.1, G.out.2.2.2.2.1, G.out.2.2.2.2.2.1, SP.refl _, (by have := G.out.2.2.1; rw [show st = mid by omega] at this; exact this), G.out.2.2.2.2.2.2⟩)
     clear G
     rcases (show (mid < en ∧ en < b) ∨ ¬ mid < en ∨ (mid < en ∧ ¬ en < b) by omega) with ⟨q1, q2⟩ | q1 | ⟨q1, q2⟩
     ·
      have d5 : decide ((mid : Int) < (en : Int)) = true := decide_eq_true (by omega)
      have d6 : decide ((en : Int) < (b : Int)) = true := decide_eq_true (by omega)
      have RC := IH mid en b g1 w6 (by omega) H7.out.1 q1 q2 hb (H7.out.2.2.1) (H7.out.2.2.2.1) B6
      repeat' (first | go_values | go_skip | go_guarded | go_step | go_upon)
      refine RC.mono ?_
      rintro e w8 ⟨rfl, ⟨f8, h1, h2, h3⟩, h4⟩
      have H8 := Hid.mk_ (And.intro h1 (And.intro h2 h3))
      have B8 : Below g w w8 := B6.trans h4
      clear h1 h2 h3 h4 RC
      dsimp only
      repeat' (first | go_values | go_skip | go_guarded | go_step | go_upon)
      go_returns
      exact ⟨rfl, ⟨f8, H8.out.1, H7.out.2.1.trans (H8.out.2.1.mono (by omega) (Nat.le_refl _)), merge_join (by omega) (by omega) H7.out.2.2.2.2.1 H8.out.2.1 H7.out.2.2.2.2.2.1 H8.out.2.2 H7.out.2.2.2.2.2.2⟩, B8⟩
     ·
      have d5 : decide ((mid : Int) < (en : Int)) = false := decide_eq_false (by omega)
      repeat' (first | go_values | go_skip | go_guarded | go_step | go_upon)
      go_returns
      exact ⟨rfl, ⟨g1, H7.out.1, H7.out.2.1, merge_join (by omega) (by omega) H7.out.2.2.2.2.1 (SP.refl _) H7.out.2.2.2.2.2.1 (by rw [show mid = en by omega]; exact H7.out.2.2.2.1) H7.out.2.2.2.2.2.2⟩, B6⟩
     ·
      have d5 : decide ((mid : Int) < (en : Int)) = true := decide_eq_true (by omega)
      have d6 : decide ((en : Int) < (b : Int)) = false := decide_eq_false (by omega)
      repeat' (first | go_values | go_skip | go_guarded | go_step | go_upon)
      go_returns
      exact ⟨rfl, ⟨g1, H7.out.1, H7.out.2.1, merge_join (by omega) (by omega) H7.out.2.2.2.2.1 (SP.refl _) H7.out.2.2.2.2.2.1 (by have := H7.out.2.2.1; rw [show en = b by omega] at this; exact this) H7.out.2.2.2.2.2.2⟩, B6⟩
   ·
    have d1 : decide ((st : Int) < (m : Int)) = false := decide_eq_false (by omega)
    have G := Hid.mk_ (show RowS wr g n f ∧ SP a b f f ∧ Up f a st ∧ Up f st mid ∧ Up f mid en ∧ Up f en b ∧ (∀ x y, a ≤ x → x < mid → mid ≤ y → y < b → f x ≤ f y) from ⟨HR.out, SP.refl f, by
     have := MH'.out
     rw [rotF_id f sm me (by omega)] at this
     exact this⟩)
    have g1e : ∃ g1, g1 = f := ⟨f, rfl⟩
    obtain ⟨g1, hg1⟩ := g1e
    have G : Hid (RowS wr g n g1 ∧ SP a b f g1 ∧ Up g1 a st ∧ Up g1 st mid ∧ Up g1 mid en ∧ Up g1 en b ∧ (∀ x y, a ≤ x → x < mid → mid ≤ y → y < b → g1 x ≤ g1 y)) := by rw [hg1]; exact G
    clear hg1 MH' HR
    rcases (show (a < st ∧ st < mid) ∨ ¬ a < st ∨ (a < st ∧ ¬ st < mid) by omega) with ⟨g3, g4⟩ | g3 | ⟨g3, g4⟩
    ·
     have d3 : decide ((a : Int) < (st : Int)) = true := decide_eq_true (by omega)
     have d4 : decide ((st : Int) < (mid : Int)) = true := decide_eq_true (by omega)
     have RC := IH a st mid g1 wr (by omega) G.out.1 g3 g4 (by omega) G.out.2.2.1 G.out.2.2.2.1 B
     repeat' (first | go_values | go_skip | go_guarded | go_step | go_upon)
     refine RC.mono ?_
     rintro e w7 ⟨rfl, ⟨f7, h1, h2, h3⟩, h4⟩
     have B7 : Below g w w7 := B.trans h4
     have H7 := Hid.mk_ (show RowS w7 g n f7 ∧ SP a b f f7 ∧ Up f7 mid en ∧ Up f7 en b ∧ SP a mid g1 f7 ∧ Up f7 a mid ∧ (∀ x y, a ≤ x → x < mid → mid ≤ y → y < b → g1 x ≤ g1 y) from ⟨h1, G.out.2.1.trans (h2.mono (Nat.le_refl _) (by omega)), G.out.2.2.2.2.1.congr (fun k k1 _ => h2.out (.inr k1)), G.out.2.2.2.2.2.1.congr (fun k k1 _ => h2.out (.inr (by omega))), h2, h3, G.out.2.2.2.2.2.2⟩)
     clear h1 h2 h3 h4 RC G
     dsimp only
     rcases (show (mid < en ∧ en < b) ∨ ¬ mid < en ∨ (mid < en ∧ ¬ en < b) by omega) with ⟨q1, q2⟩ | q1 | ⟨q1, q2⟩
     ·
      have d5 : decide ((mid : Int) < (en : Int)) = true := decide_eq_true (by omega)
      have d6 : decide ((en : Int) < (b : Int)) = true := decide_eq_true (by omega)
      have RC := IH mid en b f7 w7 (by omega) H7.out.1 q1 q2 hb (H7.out.2.2.1) (H7.out.2.2.2.1) B7
      repeat' (first | go_values | go_skip | go_guarded | go_step | go_upon)
      refine RC.mono ?_
      rintro e w8 ⟨rfl, ⟨f8, h1, h2, h3⟩, h4⟩
      have H8 := Hid.mk_ (And.intro h1 (And.intro h2 h3))
      have B8 : Below g w w8 := B7.trans h4
      clear h1 h2 h3 h4 RC
      dsimp only
      repeat' (first | go_values | go_skip | go_guarded | go_step | go_upon)
      go_returns
      exact ⟨rfl, ⟨f8, H8.out.1, H7.out.2.1.trans (H8.out.2.1.mono (by omega) (Nat.le_refl _)), merge_join (by omega) (by omega) H7.out.2.2.2.2.1 H8.out.2.1 H7.out.2.2.2.2.2.1 H8.out.2.2 H7.out.2.2.2.2.2.2⟩, B8⟩
     ·
      have d5 : decide ((mid : Int) < (en : Int)) = false := decide_eq_false (by omega)
      repeat' (first | go_values | go_skip | go_guarded | go_step | go_upon)
      go_returns
      exact ⟨rfl, ⟨f7, H7.out.1, H7.out.2.1, merge_join (by omega) (by omega) H7.out.2.2.2.2.1 (SP.refl _) H7.out.2.2.2.2.2.1 (by rw [show mid = en by omega]; exact H7.out.2.2.2.1) H7.out.2.2.2.2.2.2⟩, B7⟩
     ·
      have d5 : decide ((mid : Int) < (en : Int)) = true := decide_eq_true (by omega)
      have d6 : decide ((en : Int) < (b : Int)) = false := decide_eq_false (by omega)
      repeat' (first | go_values | go_skip | go_guarded | go_step | go_upon)
      go_returns
      exact ⟨rfl, ⟨f7, H7.out.1, H7.out.2.1, merge_join (by omega) (by omega) H7.out.2.2.2.2.1 (SP.refl _) H7.out.2.2.2.2.2.1 (by have := H7.out.2.2.1; rw [show en = b by omega] at this; exact this) H7.out.2.2.2.2.2.2⟩, B7⟩
    ·
     have d3 : decide ((a : Int) < (st : Int)) = false := decide_eq_false (by omega)
     have H7 := Hid.mk_ (show RowS wr g n g1 ∧ SP a b f g1 ∧ Up g1 mid en ∧ Up g1 en b ∧ SP a mid g1 g1 ∧ Up g1 a mid ∧ (∀ x y, a ≤ x → x < mid → mid ≤ y → y < b → g1 x ≤ g1 y) from ⟨G.out.1, G.out.2.1, G.out.2.2.2.2.1, G.out.2.2.2.2.2.1, SP.refl _, (by rw [show a = st by omega]; exact G.out.2.2.2.1), G.out.2.2.2.2.2.2⟩)
     clear G
     rcases (show (mid < en ∧ en < b) ∨ ¬ mid < en ∨ (mid < en ∧ ¬ en < b) by omega) with ⟨q1, q2⟩ | q1 | ⟨q1, q2⟩
     ·
      have d5 : decide ((mid : Int) < (en : Int)) = true := decide_eq_true (by omega)
      have d6 : decide ((en : Int) < (b : Int)) = true := decide_eq_true (by omega)
      have RC := IH mid en b g1 wr (by omega) H7.out.1 q1 q2 hb (H7.out.2.2.1) (H7.out.2.2.2.1) B
      repeat' (first | go_values | go_skip | go_guarded | go_step | go_upon)
      refine RC.mono ?_
      rintro e w8 ⟨rfl, ⟨f8, h1, h2, h3⟩, h4⟩
      have H8 := Hid.mk_ (And.intro h1 (And.intro h2 h3))
      have B8 : Below g w w8 := B.trans h4
      clear h1 h2 h3 h4 RC
      dsimp only
      repeat' (first | go_values | go_skip | go_guarded | go_step | go_upon)
      go_returns
      exact ⟨rfl, ⟨f8, H8.out.1, H7.out.2.1.trans (H8.out.2.1.mono (by omega) (Nat.le_refl _)), merge_join (by omega) (by omega) H7.out.2.2.2.2.1 H8.out.2.1 H7.out.2.2.2.2.2.1 H8.out.2.2 H7.out.2.2.2.2.2.2⟩, B8⟩
     ·
      have d5 : decide ((mid : Int) < (en : Int)) = false := decide_eq_false (by omega)
      repeat' (first | go_values | go_skip | go_guarded | go_step | go_upon)
      go_returns
      exact ⟨rfl, ⟨g1, H7.out.1, H7.out.2.1, merge_join (by omega) (by omega) H7.out.2.2.2.2.1 (SP.refl _) H7.out.2.2.2.2.2.1 (by rw [show mid = en by omega]; exact H7.out.2.2.2.1) H7.out.2.2.2.2.2.2⟩, B⟩
     ·
      have d5 : decide ((mid : Int) < (en : Int)) = true := decide_eq_true (by omega)
      have d6 : decide ((en : Int) < (b : Int)) = false := decide_eq_false (by omega)
      repeat' (first | go_values | go_skip | go_guarded | go_step | go_upon)
      go_returns
      exact ⟨rfl, ⟨g1, H7.out.1, H7.out.2.1, merge_join (by omega) (by omega) H7.out.2.2.2.2.1 (SP.refl _) H7.out.2.2.2.2.2.1 (by have := H7.out.2.2.1; rw [show en = b by omega] at this; exact this) H7.out.2.2.2.2.2.2⟩, B⟩
    ·
     have d3 : decide ((a : Int) < (st : Int)) = true := decide_eq_true (by omega)
     have d4 : decide ((st : Int) < (mid : Int)) = false := decide_eq_false (by omega)
     have H7 := Hid.mk_ (show RowS wr g n g1 ∧ SP a b f g1 ∧ Up g1 mid en ∧ Up g1 en b ∧ SP a mid g1 g1 ∧ Up g1 a mid ∧ (∀ x y, a ≤ x → x < mid → mid ≤ y → y < b → g1 x ≤ g1 y) from ⟨G.out.1, G.out.2.1, G.out.2.2.2.2.1, G.out.2.2.2.2.2.1, SP.refl _, (by have := G.out.2.2.1; rw [show st = mid by omega] at this; exact this), G.out.2.2.2.2.2.2⟩)
     clear G
     rcases (show (mid < en ∧ en < b) ∨ ¬ mid < en ∨ (mid < en ∧ ¬ en < b) by omega) with ⟨q1, q2⟩ | q1 | ⟨q1, q2⟩
     ·
      have d5 : decide ((mid : Int) < (en : Int)) = true := decide_eq_true (by omega)
      have d6 : decide ((en : Int) < (b : Int)) = true := decide_eq_true (by omega)
      have RC := IH mid en b g1 wr (by omega) H7.out.1 q1 q2 hb (H7.out.2.2.1) (H7.out.2.2.2.1) B
      repeat' (first | go_values | go_skip | go_guarded | go_step | go_upon)
      refine RC.mono ?_
      rintro e w8 ⟨rfl, ⟨f8, h1, h2, h3⟩, h4⟩
      have H8 := Hid.mk_ (And.intro h1 (And.intro h2 h3))
      have B8 : Below g w w8 := B.trans h4
      clear h1 h2 h3 h4 RC
      dsimp only
      repeat' (first | go_values | go_skip | go_guarded | go_step | go_upon)
      go_returns
      exact ⟨rfl, ⟨f8, H8.out.1, H7.out.2.1.trans (H8.out.2.1.mono (by omega) (Nat.le_refl _)), merge_join (by omega) (by omega) H7.out.2.2.2.2.1 H8.out.2.1 H7.out.2.2.2.2.2.1 H8.out.2.2 H7.out.2.2.2.2.2.2⟩, B8⟩
     ·
      have d5 : decide ((mid : Int) < (en : Int)) = false := decide_eq_false (by omega)
      repeat' (first | go_values | go_skip | go_guarded | go_step | go_upon)
      go_returns
      exact ⟨rfl, ⟨g1, H7.out.1, H7.out.2.1, merge_join (by omega) (by omega) H7.out.2.2.2.2.1 (SP.refl _) H7.out.2.2.2.2.2.1 (by rw [show mid = en by omega]; exact H7.out.2.2.2.1) H7.out.2.2.2.2.2.2⟩, B⟩
     ·
      have d5 : decide ((mid : Int) < (en : Int)) = true := decide_eq_true (by omega)
      have d6 : decide ((en : Int) < (b : Int)) = false := decide_eq_false (by omega)
      repeat' (first | go_values | go_skip | go_guarded | go_step | go_upon)
      go_returns
      exact ⟨rfl, ⟨g1, H7.out.1, H7.out.2.1, merge_join (by omega) (by omega) H7.out.2.2.2.2.1 (SP.refl _) H7.out.2.2.2.2.2.1 (by have := H7.out.2.2.1; rw [show en = b by omega] at this; exact this) H7.out.2.2.2.2.2.2⟩, B⟩
   ·
    have d1 : decide ((st : Int) < (m : Int)) = true := decide_eq_true (by omega)
    have d2 : decide ((m : Int) < (en : Int)) = false := decide_eq_false (by omega)
    have G := Hid.mk_ (show RowS wr g n f ∧ SP a b f f ∧ Up f a st ∧ Up f st mid ∧ Up f mid en ∧ Up f en b ∧ (∀ x y, a ≤ x → x < mid → mid ≤ y → y < b → f x ≤ f y) from ⟨HR.out, SP.refl f, by
     have := MH'.out
     rw [rotF_id f sm me (by omega)] at this
     exact this⟩)
    have g1e : ∃ g1, g1 = f := ⟨f, rfl⟩
    obtain ⟨g1, hg1⟩ := g1e
    have G : Hid (RowS wr g n g1 ∧ SP a b f g1 ∧ Up g1 a st ∧ Up g1 st mid ∧ Up g1 mid en ∧ Up g1 en b ∧ (∀ x y, a ≤ x → x < mid → mid ≤ y → y < b → g1 x ≤ g1 y)) := by rw [hg1]; exact G
    clear hg1 MH' HR
    rcases (show (a < st ∧ st < mid) ∨ ¬ a < st ∨ (a < st ∧ ¬ st < mid) by omega) with ⟨g3, g4⟩ | g3 | ⟨g3, g4⟩
    ·
     have d3 : decide ((a : Int) < (st : Int)) = true := decide_eq_true (by omega)
     have d4 : decide ((st : Int) < (mid : Int)) = true := decide_eq_true (by omega)
     have RC := IH a st mid g1 wr (by omega) G.out.1 g3 g4 (by omega) G.out.2.2.1 G.out.2.2.2.1 B
     repeat' (first | go_values | go_skip | go_guarded | go_step | go_upon)
     refine RC.mono ?_
     rintro e w7 ⟨rfl, ⟨f7, h1, h2, h3⟩, h4⟩
     have B7 : Below g w w7 := B.trans h4
     have H7 := Hid.mk_ (show RowS w7 g n f7 ∧ SP a b f f7 ∧ Up f7 mid en ∧ Up f7 en b ∧ SP a mid g1 f7 ∧ Up f7 a mid ∧ (∀ x y, a ≤ x → x < mid → mid ≤ y → y < b → g1 x ≤ g1 y) from ⟨h1, G.out.2.1.trans (h2.mono (Nat.le_refl _) (by omega)), G.out.2.2.2.2.1.congr (fun k k1 _ => h2.out (.inr k1)), G.out.2.2.2.2.2.1.congr (fun k k1 _ => h2.out (.inr (by omega))), h2, h3, G.out.2.2.2.2.2.2⟩)
     clear h1 h2 h3 h4 RC G
     dsimp only
     rcases (show (mid < en ∧ en < b) ∨ ¬ mid < en ∨ (mid < en ∧ ¬ en < b) by omega) with ⟨q1, q2⟩ | q1 | ⟨q1, q2⟩
     ·
      have d5 : decide ((mid : Int) < (en : Int)) = true := decide_eq_true (by omega)
      have d6 : decide ((en : Int) < (b : Int)) = true := decide_eq_true (by omega)
      have RC := IH mid en b f7 w7 (by omega) H7.out.1 q1 q2 hb (H7.out.2.2.1) (H7.out.2.2.2.1) B7
      repeat' (first | go_values | go_skip | go_guarded | go_step | go_upon)
      refine RC.mono ?_
      rintro e w8 ⟨rfl, ⟨f8, h1, h2, h3⟩, h4⟩
      have H8 := Hid.mk_ (And.intro h1 (And.intro h2 h3))
      have B8 : Below g w w8 := B7.trans h4
      clear h1 h2 h3 h4 RC
      dsimp only
      repeat' (first | go_values | go_skip | go_guarded | go_step | go_upon)
      go_returns
      exact ⟨rfl, ⟨f8, H8.out.1, H7.out.2.1.trans (H8.out.2.1.mono (by omega) (Nat.le_refl _)), merge_join (by omega) (by omega) H7.out.2.2.2.2.1 H8.out.2.1 H7.out.2.2.2.2.2.1 H8.out.2.2 H7.out.2.2.2.2.2.2⟩, B8⟩
     ·
      have d5 : decide ((mid : Int) < (en : Int)) = false := decide_eq_false (by omega)
      repeat' (first | go_values | go_skip | go_guarded | go_step | go_upon)
      go_returns
      exact ⟨rfl, ⟨f7, H7.out.1, H7.out.2.1, merge_join (by omega) (by omega) H7.out.2.2.2.2.1 (SP.refl _) H7.out.2.2.2.2.2.1 (by rw [show mid = en by omega]; exact H7.out.2.2.2.1) H7.out.2.2.2.2.2.2⟩, B7⟩
     ·
      have d5 : decide ((mid : Int) < (en : Int)) = true := decide_eq_true (by omega)
      have d6 : decide ((en : Int) < (b : Int)) = false := decide_eq_false (by omega)
      repeat' (first | go_values | go_skip | go_guarded | go_step | go_upon)
      go_returns
      exact ⟨rfl, ⟨f7, H7.out.1, H7.out.2.1, merge_join (by omega) (by omega) H7.out.2.2.2.2.1 (SP.refl _) H7.out.2.2.2.2.2.1 (by have := H7.out.2.2.1; rw [show en = b by omega] at this; exact this) H7.out.2.2.2.2.2.2⟩, B7⟩
    ·
     have d3 : decide ((a : Int) < (st : Int)) = false := decide_eq_false (by omega)
     have H7 := Hid.mk_ (show RowS wr g n g1 ∧ SP a b f g1 ∧ Up g1 mid en ∧ Up g1 en b ∧ SP a mid g1 g1 ∧ Up g1 a mid ∧ (∀ x y, a ≤ x → x < mid → mid ≤ y → y < b → g1 x ≤ g1 y) from ⟨G.out.1, G.out.2.1, G.out.2.2.2.2.1, G.out.2.2.2.2.2.1, SP.refl _, (by rw [show a = st by omega]; exact G.out.2.2.2.1), G.out.2.2.2.2.2.2⟩)
     clear G
     rcases (show (mid < en ∧ en < b) ∨ ¬ mid < en ∨ (mid < en ∧ ¬ en < b) by omega) with ⟨q1, q2⟩ | q1 | ⟨q1, q2⟩
     ·
      have d5 : decide ((mid : Int) < (en : Int)) = true := decide_eq_true (by omega)
      have d6 : decide ((en : Int) < (b : Int)) = true := decide_eq_true (by omega)
      have RC := IH mid en b g1 wr (by omega) H7.out.1 q1 q2 hb (H7.out.2.2.1) (H7.out.2.2.2.1) B
      repeat' (first | go_values | go_skip | go_guarded | go_step | go_upon)
      refine RC.mono ?_
      rintro e w8 ⟨rfl, ⟨f8, h1, h2, h3⟩, h4⟩
      have H8 := Hid.mk_ (And.intro h1 (And.intro h2 h3))
      have B8 : Below g w w8 := B.trans h4
      clear h1 h2 h3 h4 RC
      dsimp only
      repeat' (first | go_values | go_skip | go_guarded | go_step | go_upon)
      go_returns
      exact ⟨rfl, ⟨f8, H8.out.1, H7.out.2.1.trans (H8.out.2.1.mono (by omega) (Nat.le_refl _)), merge_join (by omega) (by omega) H7.out.2.2.2.2.1 H8.out.2.1 H7.out.2.2.2.2.2.1 H8.out.2.2 H7.out.2.2.2.2.2.2⟩, B8⟩
     ·
      have d5 : decide ((mid : Int) < (en : Int)) = false := decide_eq_false (by omega)
      repeat' (first | go_values | go_skip | go_guarded | go_step | go_upon)
      go_returns
      exact ⟨rfl, ⟨g1, H7.out.1, H7.out.2.1, merge_join (by omega) (by omega) H7.out.2.2.2.2.1 (SP.refl _) H7.out.2.2.2.2.2.1 (by rw [show mid = en by omega]; exact H7.out.2.2.2.1) H7.out.2.2.2.2.2.2⟩, B⟩
     ·
      have d5 : decide ((mid : Int) < (en : Int)) = true := decide_eq_true (by omega)
      have d6 : decide ((en : Int) < (b : Int)) = false := decide_eq_false (by omega)
      repeat' (first | go_values | go_skip | go_guarded | go_step | go_upon)
      go_returns
      exact ⟨rfl, ⟨g1, H7.out.1, H7.out.2.1, merge_join (by omega) (by omega) H7.out.2.2.2.2.1 (SP.refl _) H7.out.2.2.2.2.2.1 (by have := H7.out.2.2.1; rw [show en = b by omega] at this; exact this) H7.out.2.2.2.2.2.2⟩, B⟩
    ·
     have d3 : decide ((a : Int) < (st : Int)) = true := decide_eq_true (by omega)
     have d4 : decide ((st : Int) < (mid : Int)) = false := decide_eq_false (by omega)
     have H7 := Hid.mk_ (show RowS wr g n g1 ∧ SP a b f g1 ∧ Up g1 mid en ∧ Up g1 en b ∧ SP a mid g1 g1 ∧ Up g1 a mid ∧ (∀ x y, a ≤ x → x < mid → mid ≤ y → y < b → g1 x ≤ g1 y) from ⟨G.out.1, G.out.2.1, G.out.2.2.2.2.1, G.out.2.2.2.2.2.1, SP.refl _, (by have := G.out.2.2.1; rw [show st = mid by omega] at this; exact this), G.out.2.2.2.2.2.2⟩)
     clear G
     rcases (show (mid < en ∧ en < b) ∨ ¬ mid < en ∨ (mid < en ∧ ¬ en < b) by omega) with ⟨q1, q2⟩ | q1 | ⟨q1, q2⟩
     ·
      have d5 : decide ((mid : Int) < (en : Int)) = true := decide_eq_true (by omega)
      have d6 : decide ((en : Int) < (b : Int)) = true := decide_eq_true (by omega)
      have RC := IH mid en b g1 wr (by omega) H7.out.1 q1 q2 hb (H7.out.2.2.1) (H7.out.2.2.2.1) B
      repeat' (first | go_values | go_skip | go_guarded | go_step | go_upon)
      refine RC.mono ?_
      rintro e w8 ⟨rfl, ⟨f8, h1, h2, h3⟩, h4⟩
      have H8 := Hid.mk_ (And.intro h1 (And.intro h2 h3))
      have B8 : Below g w w8 := B.trans h4
      clear h1 h2 h3 h4 RC
      dsimp only
      repeat' (first | go_values | go_skip | go_guarded | go_step | go_upon)
      go_returns
      exact ⟨rfl, ⟨f8, H8.out.1, H7.out.2.1.trans (H8.out.2.1.mono (by omega) (Nat.le_refl _)), merge_join (by omega) (by omega) H7.out.2.2.2.2.1 H8.out.2.1 H7.out.2.2.2.2.2.1 H8.out.2.2 H7.out.2.2.2.2.2.2⟩, B8⟩
     ·
      have d5 : decide ((mid : Int) < (en : Int)) = false := decide_eq_false (by omega)
      repeat' (first | go_values | go_skip | go_guarded | go_step | go_upon)
      go_returns
      exact ⟨rfl, ⟨g1, H7.out.1, H7.out.2.1, merge_join (by omega) (by omega) H7.out.2.2.2.2.1 (SP.refl _) H7.out.2.2.2.2.2.1 (by rw [show mid = en by omega]; exact H7.out.2.2.2.1) H7.out.2.2.2.2.2.2⟩, B⟩
     ·
      have d5 : decide ((mid : Int) < (en : Int)) = true := decide_eq_true (by omega)
      have d6 : decide ((en : Int) < (b : Int)) = false := decide_eq_false (by omega)
      repeat' (first | go_values | go_skip | go_guarded | go_step | go_upon)
      go_returns
      exact ⟨rfl, ⟨g1, H7.out.1, H7.out.2.1, merge_join (by omega) (by omega) H7.out.2.2.2.2.1 (SP.refl _) H7.out.2.2.2.2.2.1 (by have := H7.out.2.2.1; rw [show en = b by omega] at this; exact this) H7.out.2.2.2.2.2.2⟩, B⟩
theorem vsymC2 {g n cap p : Nat} {f : Nat → Int} (w : World) (a m b : Nat) (hr : RowS w g n f) (ha : a + 1 < m) (hm : m + 1 < b) (hb : b ≤ n) (hn : n ≤ 1000) (u1 : Up f a m) (u2 : Up f m b) (hw : m ≤ (a + b) / 2) (CM : ∀ W x y, Below g w W → Calls Try.prog 33 #[.int .i64 x, .int .i64 y, .pointer (some ⟨p, 0, none⟩)] W fun e w2 => e = .returned (.int .i64 (cmpI x y)) ∧ Steps W w2) (IH : ∀ (a' m' b' : Nat) (f' : Nat → Int) (w' : World), b' - a' < b - a → RowS w' g n f' → a' < m' → m' < b' → b' ≤ n → Up f' a' m' → Up f' m' b' → Below g w w' → Calls Try.prog 59 #[.slice (some ⟨g, 0, none⟩) n cap, .int .i64 a', .int .i64 m', .int .i64 b', .func (.func 33) #[] #[.pointer (some ⟨p, 0, none⟩)]] w' fun e w2 => e = .returned (.tuple #[]) ∧ (∃ f2, RowS w2 g n f2 ∧ SP a' b' f' f2 ∧ Up f2 a' b') ∧ Below g w' w2) :
  Calls Try.prog 59 #[.slice (some ⟨g, 0, none⟩) n cap, .int .i64 a, .int .i64 m, .int .i64 b, .func (.func 33) #[] #[.pointer (some ⟨p, 0, none⟩)]] w fun e w' => e = .returned (.tuple #[]) ∧ (∃ f', RowS w' g n f' ∧ SP a b f f' ∧ Up f' a b) ∧ Below g w w' := by
 have gl := hr.lt
 have HR := Hid.mk_ hr
 clear hr
 obtain ⟨d, hd⟩ : ∃ d, m - a = d := ⟨_, rfl⟩
 have e1 : ((m : Int) - (a : Int)) = (d : Int) := by omega
 have e2 : ((d : Int) == 1) = false := by simp; omega
 obtain ⟨d', hd'⟩ : ∃ d, b - m = d := ⟨_, rfl⟩
 have e3 : ((b : Int) - (m : Int)) = (d' : Int) := by omega
 have e4 : ((d' : Int) == 1) = false := by simp; omega
 obtain ⟨s0, hs0⟩ : ∃ s, a + b = s := ⟨_, rfl⟩
 obtain ⟨mid, hmid⟩ : ∃ s, s0 / 2 = s := ⟨_, rfl⟩
 have es0 : ((a : Int) + (b : Int)) = (s0 : Int) := by omega
 have es1 : (s0 : Int) / 2 = (mid : Int) := by omega
 have hx0 : (s0 : Int) < 2000 := by omega
 rw [hs0, hmid] at hw
 obtain ⟨q, hq⟩ : ∃ q, mid + m = q := ⟨_, rfl⟩
 have eq1 : ((mid : Int) + (m : Int)) = (q : Int) := by omega
 obtain ⟨pp, hpp⟩ : ∃ p, q - 1 = p := ⟨_, rfl⟩
 have epp : (q : Int) - 1 = (pp : Int) := by omega
 have m1 : a < mid := by omega
 have m2 : mid < b := by omega
 have m3 : 2 * mid ≤ a + b := by omega
 have m4 : a + b ≤ 2 * mid + 1 := by omega
 have hgt : decide ((mid : Int) < (m : Int)) = false := decide_eq_false (by omega)
 have hgtN : decide (mid < m) = false := decide_eq_false (by omega)
 have HP := Hid.mk_ (show pp = mid + m - 1 ∧ a = a ∧ q = mid + m ∧ a ≤ a by omega)
 have pb : pp < a + b := by omega
 have ph : m + m ≤ pp + 1 := by omega
 have MONO := Hid.mk_ (sch_mono (p := pp) (lo := a) (hi := m) u1 u2 (by omega) (by omega) ph pb)
 have UU := Hid.mk_ (And.intro u1 u2)
 clear hd hd' hs0 hmid hpp u1 u2 hq
 go_enter Try.func59, Try.ntmps59
 repeat' (first | go_values | go_skip | go_guarded | go_step | go_upon)
 go_loopw [20, 21] (fun ks kr wr => ∃ (st r : Nat), Sch f pp a m st r ∧ ks = .int .i64 st ∧ kr = .int .i64 r ∧ RowS wr g n f ∧ Below g w wr) (fun ks kr _ => (intOf kr).toNat - (intOf ks).toNat)
 case atStart => exact ⟨a, m, Sch.start (by omega), by go_num, by go_num, HR.out, Below.refl g w⟩
 case round =>
  clear HR e1 e2 e3 e4 es0 es1 eq1 epp hx0 hgt hgtN
  obtain ⟨st, r, sc, rfl, rfl, hr, B⟩ := hrel
  have gq := hr.lt
  have HR := Hid.mk_ hr
  have s1 := sc.1
  have s2 := sc.2.1
  have s3 := sc.2.2.1
  have SC := Hid.mk_ sc
  clear hr sc
  rcases Nat.lt_or_ge st r with ij | ij
  ·
   have hlt : decide ((st : Int) < (r : Int)) = true := decide_eq_true (by omega)
   obtain ⟨s, hs⟩ : ∃ s, st + r = s := ⟨_, rfl⟩
   obtain ⟨h, hh⟩ : ∃ h, s / 2 = h := ⟨_, rfl⟩
   have es : ((st : Int) + (r : Int)) = (s : Int) := by omega
   have es2 : (s : Int) / 2 = (h : Int) := by omega
   have hi1 : st ≤ h := by omega
   have hj1 : h < r := by omega
   have hn1 : h < n := by omega
   have hx2 : (s : Int) < 2000 := by omega
   obtain ⟨k, hk⟩ : ∃ k, pp - h = k := ⟨_, rfl⟩
   have ek : (pp : Int) - (h : Int) = (k : Int) := by omega
   have kn : k < n := by omega
   have HK := Hid.mk_ hk
   have cx := HR.out.c (i := k) kn
   have cy := HR.out.c (i := h) hn1
   obtain ⟨x, hx⟩ : ∃ x, f k = x := ⟨_, rfl⟩
   obtain ⟨y, hy⟩ : ∃ y, f h = y := ⟨_, rfl⟩
   rw [hx] at cx
   rw [hy] at cy
   have CMc := fun W q => CM W x y q
   obtain ⟨c, hc⟩ : ∃ c, cmpI x y = c := ⟨_, rfl⟩
   simp only [hc] at CMc
   have HXY := Hid.mk_ (And.intro hx hy)
   clear hx hy
   have HS := Hid.mk_ (And.intro hs hh)
   clear hs hh hk
   by_cases lt : x < y
   ·
    have c0 : c < 0 := by rw [← hc]; exact cmpI_neg.2 lt
    clear hc
    repeat' (first | go_values | go_skip | go_guarded | go_step | go_upon)
    refine Reg.wp_chain (fun D v W => Below wr.heap.size wr W ∧ True) (Reg.inl [11]) (Reg.gv [(11, fun z_ => z_ = .int .i64 c)]) Reg.None_ (fun _ => Reg.Any) (fun _ _ => False) (Reg.pl []) (Reg.pl [])
     (by kernel_rfl) (by kernel_rfl) (by kernel_rfl) (Reg.gv_some _ (by intro p hp; simp only [List.mem_cons, List.not_mem_nil, or_false] at hp; rcases hp with rfl <;> first | exact ⟨_, rfl⟩ | exact ⟨_, none, 0, 0, rfl⟩ | exact ⟨_, false, none, 0, 0, rfl⟩ | exact ⟨_, false, none, 0, 0, false, none, 0, 0, rfl⟩)) (fun _ => ⟨belowB, trivial⟩) (fun _ _ _ _ _ h => h) (fun _ _ _ _ _ _ _ _ _ _ _ _ _ => Reg.none_) (fun _ _ _ _ h => h.elim) (fun ops' Q' hops hQ => ?_)
    apply Reg.RP rfl rfl rfl 158 rfl rfl
    ·
     intro D v W hc hj hf K' hK'
     go_step
     exact hK'.out
    · rfl
    apply Reg.RP rfl rfl rfl 159 rfl rfl
    ·
     intro D v W hc hj hf K' hK'
     go_step
     exact hK'.out
    · rfl
    apply Reg.RP rfl rfl rfl 160 rfl rfl
    ·
     intro D v W hc hj hf K' hK'
     go_step
     exact hK'.out
    · rfl
    apply Reg.RP rfl rfl rfl 161 rfl rfl
    ·
     intro D v W hc hj hf K' hK'
     go_step
     exact hK'.out
    · rfl
    apply Reg.RP rfl rfl rfl 162 rfl rfl
    ·
     intro D v W hc hj hf K' hK'
     go_step
     exact hK'.out
    · rfl
    apply Reg.RP rfl rfl rfl 163 rfl rfl
    ·
     intro D v W hc hj hf K' hK'
     go_step
     exact hK'.out
    · rfl
    apply Reg.RP rfl rfl rfl 164 rfl rfl
    ·
     intro D v W hc hj hf K' hK'
     obtain ⟨j0, _⟩ := hj
     have c0 : W.cell? ⟨g, k, none⟩ = some (.int .i64 x) := (j0.cell (p := ⟨g, _, none⟩) gq).trans cx
     go_step
     exact hK'.out
    · rfl
    apply Reg.RP rfl rfl rfl 165 rfl rfl
    ·
     intro D v W hc hj hf K' hK'
     go_step
     exact hK'.out
    · rfl
    apply Reg.RP rfl rfl rfl 166 rfl rfl
    ·
     intro D v W hc hj hf K' hK'
     go_step
     exact hK'.out
    · rfl
    apply Reg.RP rfl rfl rfl 167 rfl rfl
    ·
     intro D v W hc hj hf K' hK'
     go_step
     exact hK'.out
    · rfl
    apply Reg.RP rfl rfl rfl 168 rfl rfl
    ·
     intro D v W hc hj hf K' hK'
     obtain ⟨j0, _⟩ := hj
     have c0 : W.cell? ⟨g, h, none⟩ = some (.int .i64 y) := (j0.cell (p := ⟨g, _, none⟩) gq).trans cy
     go_step
     exact hK'.out
    · rfl
    refine Reg.RC_call rfl (tlt rfl) rfl (fun D v W hc hj hf K' hK' => ?_) ?_
    ·
     obtain ⟨j0, _⟩ := hj
     go_step
     refine (CMc _ (below_steps B (Nat.le_of_lt gl) j0)).mono ?_
     rintro e W2 ⟨rfl, hs⟩
     exact hK'.out _ W2 Reg.any ⟨jst j0 hs, trivial⟩ trivial rfl
    rintro _ rfl
    refine Reg.at220 rfl ?_
    apply Reg.RP rfl rfl rfl 170 rfl rfl
    ·
     intro D v W hc hj hf K' hK'
     go_step
     exact hK'.out
    · rfl
    apply Reg.RP rfl rfl rfl 171 rfl rfl
    ·
     intro D v W hc hj hf K' hK'
     go_step
     exact hK'.out
    · rfl
    refine Reg.RC_end (fun D v w9 hd hj hf => ?_)
    obtain ⟨j0, _⟩ := hj
    have st9 := j0
    clear hd hf j0
    refine hQ _ _ ?_
    clear hQ hops Q' ops'
    have B9 := below_steps B (Nat.le_of_lt gl) st9
    have hr9 := Hid.mk_ (HR.out.steps st9)
    clear st9 HR cx cy
    repeat' (first | go_values | go_skip | go_guarded | go_step | go_upon)
    go_roundw
    case rel => exact ⟨st, h, SC.out.down hi1 hj1 MONO.out (by rw [HK.out, HXY.out.1, HXY.out.2]; exact lt), by go_num, by go_num, hr9.out, B9⟩
    case measure => simp [intOf]; omega
   ·
    have c0 : ¬ c < 0 := fun h => lt (cmpI_neg.1 (by rw [hc]; exact h))
    clear hc
    repeat' (first | go_values | go_skip | go_guarded | go_step | go_upon)
    refine Reg.wp_chain (fun D v W => Below wr.heap.size wr W ∧ True) (Reg.inl [11]) (Reg.gv [(11, fun z_ => z_ = .int .i64 c)]) Reg.None_ (fun _ => Reg.Any) (fun _ _ => False) (Reg.pl []) (Reg.pl [])
     (by kernel_rfl) (by kernel_rfl) (by kernel_rfl) (Reg.gv_some _ (by intro p hp; simp only [List.mem_cons, List.not_mem_nil, or_false] at hp; rcases hp with rfl <;> first | exact ⟨_, rfl⟩ | exact ⟨_, none, 0, 0, rfl⟩ | exact ⟨_, false, none, 0, 0, rfl⟩ | exact ⟨_, false, none, 0, 0, false, none, 0, 0, rfl⟩)) (fun _ => ⟨belowB, trivial⟩) (fun _ _ _ _ _ h => h) (fun _ _ _ _ _ _ _ _ _ _ _ _ _ => Reg.none_) (fun _ _ _ _ h => h.elim) (fun ops' Q' hops hQ => ?_)
    apply Reg.RP rfl rfl rfl 158 rfl rfl
    ·
     intro D v W hc hj hf K' hK'
     go_step
     exact hK'.out
    · rfl
    apply Reg.RP rfl rfl rfl 159 rfl rfl
    ·
     intro D v W hc hj hf K' hK'
     go_step
     exact hK'.out
    · rfl
    apply Reg.RP rfl rfl rfl 160 rfl rfl
    ·
     intro D v W hc hj hf K' hK'
     go_step
     exact hK'.out
    · rfl
    apply Reg.RP rfl rfl rfl 161 rfl rfl
    ·
     intro D v W hc hj hf K' hK'
     go_step
     exact hK'.out
    · rfl
    apply Reg.RP rfl rfl rfl 162 rfl rfl
    ·
     intro D v W hc hj hf K' hK'
     go_step
     exact hK'.out
    · rfl
    apply Reg.RP rfl rfl rfl 163 rfl rfl
    ·
     intro D v W hc hj hf K' hK'
     go_step
     exact hK'.out
    · rfl
    apply Reg.RP rfl rfl rfl 164 rfl rfl
    ·
     intro D v W hc hj hf K' hK'
     obtain ⟨j0, _⟩ := hj
     have c0 : W.cell? ⟨g, k, none⟩ = some (.int .i64 x) := (j0.cell (p := ⟨g, _, none⟩) gq).trans cx
     go_step
     exact hK'.out
    · rfl
    apply Reg.RP rfl rfl rfl 165 rfl rfl
    ·
     intro D v W hc hj hf K' hK'
     go_step
     exact hK'.out
    · rfl
    apply Reg.RP rfl rfl rfl 166 rfl rfl
    ·
     intro D v W hc hj hf K' hK'
     go_step
     exact hK'.out
    · rfl
    apply Reg.RP rfl rfl rfl 167 rfl rfl
    ·
     intro D v W hc hj hf K' hK'
     go_step
     exact hK'.out
    · rfl
    apply Reg.RP rfl rfl rfl 168 rfl rfl
    ·
     intro D v W hc hj hf K' hK'
     obtain ⟨j0, _⟩ := hj
     have c0 : W.cell? ⟨g, h, none⟩ = some (.int .i64 y) := (j0.cell (p := ⟨g, _, none⟩) gq).trans cy
     go_step
     exact hK'.out
    · rfl
    refine Reg.RC_call rfl (tlt rfl) rfl (fun D v W hc hj hf K' hK' => ?_) ?_
    ·
     obtain ⟨j0, _⟩ := hj
     go_step
     refine (CMc _ (below_steps B (Nat.le_of_lt gl) j0)).mono ?_
     rintro e W2 ⟨rfl, hs⟩
     exact hK'.out _ W2 Reg.any ⟨jst j0 hs, trivial⟩ trivial rfl
    rintro _ rfl
    refine Reg.at220 rfl ?_
    apply Reg.RP rfl rfl rfl 170 rfl rfl
    ·
     intro D v W hc hj hf K' hK'
     go_step
     exact hK'.out
    · rfl
    apply Reg.RP rfl rfl rfl 171 rfl rfl
    ·
     intro D v W hc hj hf K' hK'
     go_step
     exact hK'.out
    · rfl
    refine Reg.RC_end (fun D v w9 hd hj hf => ?_)
    obtain ⟨j0, _⟩ := hj
    have st9 := j0
    clear hd hf j0
    refine hQ _ _ ?_
    clear hQ hops Q' ops'
    have B9 := below_steps B (Nat.le_of_lt gl) st9
    have hr9 := Hid.mk_ (HR.out.steps st9)
    clear st9 HR cx cy
    repeat' (first | go_values | go_skip | go_guarded | go_step | go_upon)
    go_roundw
    case rel => exact ⟨h + 1, r, SC.out.up hi1 hj1 MONO.out (by rw [HK.out, HXY.out.1, HXY.out.2]; exact lt), by go_num, by go_num, hr9.out, B9⟩
    case measure => simp [intOf]; omega
  ·
   obtain rfl : st = r := by omega
   have hlt : decide ((st : Int) < (st : Int)) = false := decide_eq_false (by omega)
   obtain ⟨en, hen⟩ : ∃ e, q - st = e := ⟨_, rfl⟩
   have een : (q : Int) - (st : Int) = (en : Int) := by have := HP.out; omega
   have sm : st ≤ m := by omega
   have sq : st ≤ mid := by have := HP.out; omega
   have as_ : a ≤ st := by omega
   have me : m ≤ en := by have := HP.out; omega
   have de : mid ≤ en := by have := HP.out; omega
   have eb : en ≤ b := by have := HP.out; omega
   have HE := Hid.mk_ (show en = mid + m - st ∧ (st = m → en = mid) ∧ (m = en → st = mid) by have := HP.out; omega)
   have ends := sch_ends (f := f) (a := a) (m := m) (b := b) (mid := mid) (s := st) (lo := a) (hi := m) (by have h1 := SC.out; rw [HP.out.1] at h1; exact h1) (by omega) (by first | exact .inl ⟨rfl, rfl⟩ | exact .inr ⟨HP.out.2.1, rfl, by have := HP.out; omega⟩)
   have MH := merge_halves (f := f) mid UU.out.1 UU.out.2 as_ sm sq (by omega) (by omega) (by omega) (by have := HE.out; omega) (by have := HE.out; omega) ends.1 ends.2
   rw [← HE.out.1] at MH
   have MH' := Hid.mk_ MH
   clear MH ends hen SC
   rcases (show (st < m ∧ m < en) ∨ ¬ st < m ∨ (st < m ∧ ¬ m < en) by omega) with ⟨g5, g6⟩ | g5 | ⟨g5, g6⟩
   ·
    have d1 : decide ((st : Int) < (m : Int)) = true := decide_eq_true (by omega)
    have d2 : decide ((m : Int) < (en : Int)) = true := decide_eq_true (by omega)
    have RO := vrotate (cap := cap) (p := p) wr st m en HR.out g5 g6 (by omega) hn
    repeat' (first | go_values | go_skip | go_guarded | go_step | go_upon)
    refine RO.mono ?_
    rintro e w6 ⟨rfl, h1, h2⟩
    have B6 : Below g w w6 := B.trans h2
    obtain ⟨g1, hg1⟩ : ∃ z, rotF st m en f = z := ⟨_, rfl⟩
    have G := Hid.mk_ (show RowS w6 g n g1 ∧ SP a b f g1 ∧ Up g1 a st ∧ Up g1 st mid ∧ Up g1 mid en ∧ Up g1 en b ∧ (∀ x y, a ≤ x → x < mid → mid ≤ y → y < b → g1 x ≤ g1 y) from by
     rw [← hg1]; exact ⟨h1, rotF_sp' f as_ g5 g6 eb, MH'.out⟩)
    clear h1 h2 hg1 RO MH' HR B
    dsimp only
    rcases (show (a < st ∧ st < mid) ∨ ¬ a < st ∨ (a < st ∧ ¬ st < mid) by omega) with ⟨g3, g4⟩ | g3 | ⟨g3, g4⟩
    ·
     have d3 : decide ((a : Int) < (st : Int)) = true := decide_eq_true (by omega)
     have d4 : decide ((st : Int) < (mid : Int)) = true := decide_eq_true (by omega)
     have RC := IH a st mid g1 w6 (by omega) G.out.1 g3 g4 (by omega) G.out.2.2.1 G.out.2.2.2.1 B6
     repeat' (first | go_values | go_skip | go_guarded | go_step | go_upon)
     refine RC.mono ?_
     rintro e w7 ⟨rfl, ⟨f7, h1, h2, h3⟩, h4⟩
     have B7 : Below g w w7 := B6.trans h4
     have H7 := Hid.mk_ (show RowS w7 g n f7 ∧ SP a b f f7 ∧ Up f7 mid en ∧ Up f7 en b ∧ SP a mid g1 f7 ∧ Up f7 a mid ∧ (∀ x y, a ≤ x → x < mid → mid ≤ y → y < b → g1 x ≤ g1 y) from ⟨h1, G.out.2.1.trans (h2.mono (Nat.le_refl _) (by omega)), G.out.2.2.2.2.1.congr (fun k k1 _ => h2.out (.inr k1)), G.out.2.2.2.2.2.1.congr (fun k k1 _ => h2.out (.inr (by omega))), h2, h3, G.out.2.2.2.2.2.2⟩)
     clear h1 h2 h3 h4 RC G
     dsimp only
     rcases (show (mid < en ∧ en < b) ∨ ¬ mid < en ∨ (mid < en ∧ ¬ en < b) by omega) with ⟨q1, q2⟩ | q1 | ⟨q1, q2⟩
     ·
      have d5 : decide ((mid : Int) < (en : Int)) = true := decide_eq_true (by omega)
      have d6 : decide ((en : Int) < (b : Int)) = true := decide_eq_true (by omega)
      have RC := IH mid en b f7 w7 (by omega) H7.out.1 q1 q2 hb (H7.out.2.2.1) (H7.out.2.2.2.1) B7
      repeat' (first | go_values | go_skip | go_guarded | go_step | go_upon)
      refine RC.mono ?_
      rintro e w8 ⟨rfl, ⟨f8, h1, h2, h3⟩, h4⟩
      have H8 := Hid.mk_ (And.intro h1 (And.intro h2 h3))
      have B8 : Below g w w8 := B7.trans h4
      clear h1 h2 h3 h4 RC
      dsimp only
      repeat' (first | go_values | go_skip | go_guarded | go_step | go_upon)
      go_returns
      exact ⟨rfl, ⟨f8, H8.out.1, H7.out.2.1.trans (H8.out.2.1.mono (by omega) (Nat.le_refl _)), merge_join (by omega) (by omega) H7.out.2.2.2.2.1 H8.out.2.1 H7.out.2.2.2.2.2.1 H8.out.2.2 H7.out.2.2.2.2.2.2⟩, B8⟩
     ·
      have d5 : decide ((mid : Int) < (en : Int)) = false := decide_eq_false (by omega)
      repeat' (first | go_values | go_skip | go_guarded | go_step | go_upon)
      go_returns
      exact ⟨rfl, ⟨f7, H7.out.1, H7.out.2.1, merge_join (by omega) (by omega) H7.out.2.2.2.2.1 (SP.refl _) H7.out.2.2.2.2.2.1 (by rw [show mid = en by omega]; exact H7.out.2.2.2.1) H7.out.2.2.2.2.2.2⟩, B7⟩
     ·
      have d5 : decide ((mid : Int) < (en : Int)) = true := decide_eq_true (by omega)
      have d6 : decide ((en : Int) < (b : Int)) = false := decide_eq_false (by omega)
      repeat' (first | go_values | go_skip | go_guarded | go_step | go_upon)
      go_returns
      exact ⟨rfl, ⟨f7, H7.out.1, H7.out.2.1, merge_join (by omega) (by omega) H7.out.2.2.2.2.1 (SP.refl _) H7.out.2.2.2.2.2.1 (by have := H7.out.2.2.1; rw [show en = b by omega] at this; exact this) H7.out.2.2.2.2.2.2⟩, B7⟩
    ·
     have d3 : decide ((a : Int) < (st : Int)) = false := decide_eq_false (by omega)
     have H7 := Hid.mk_ (show RowS w6 g n g1 ∧ SP a b f g1 ∧ Up g1 mid en ∧ Up g1 en b ∧ SP a mid g1 g1 ∧ Up g1 a mid ∧ (∀ x y, a ≤ x → x < mid → mid ≤ y → y < b → g1 x ≤ g1 y) from ⟨G.out.1, G.out.2.1, G.out.2.2.2.2.1, G.out.2.2.2.2.2.1, SP.refl _, (by rw [show a = st by omega]; exact G.out.2.2.2.1), G.out.2.2.2.2.2.2⟩)
     clear G
     rcases (show (mid < en ∧ en < b) ∨ ¬ mid < en ∨ (mid < en ∧ ¬ en < b) by omega) with ⟨q1, q2⟩ | q1 | ⟨q1, q2⟩
     ·
      have d5 : decide ((mid : Int) < (en : Int)) = true := decide_eq_true (by omega)
      have d6 : decide ((en : Int) < (b : Int)) = true := decide_eq_true (by omega)
      have RC := IH mid en b g1 w6 (by omega) H7.out.1 q1 q2 hb (H7.out.2.2.1) (H7.out.2.2.2.1) B6
      repeat' (first | go_values | go_skip | go_guarded | go_step | go_upon)
      refine RC.mono ?_
      rintro e w8 ⟨rfl, ⟨f8, h1, h2, h3⟩, h4⟩
      have H8 := Hid.mk_ (And.intro h1 (And.intro h2 h3))
      have B8 : Below g w w8 := B6.trans h4
      clear h1 h2 h3 h4 RC
      dsimp only
      repeat' (first | go_values | go_skip | go_guarded | go_step | go_upon)
      go_returns
      exact ⟨rfl, ⟨f8, H8.out.1, H7.out.2.1.trans (H8.out.2.1.mono (by omega) (Nat.le_refl _)), merge_join (by omega) (by omega) H7.out.2.2.2.2.1 H8.out.2.1 H7.out.2.2.2.2.2.1 H8.out.2.2 H7.out.2.2.2.2.2.2⟩, B8⟩
     ·
      have d5 : decide ((mid : Int) < (en : Int)) = false := decide_eq_false (by omega)
      repeat' (first | go_values | go_skip | go_guarded | go_step | go_upon)
      go_returns
      exact ⟨rfl, ⟨g1, H7.out.1, H7.out.2.1, merge_join (by omega) (by omega) H7.out.2.2.2.2.1 (SP.refl _) H7.out.2.2.2.2.2.1 (by rw [show mid = en by omega]; exact H7.out.2.2.2.1) H7.out.2.2.2.2.2.2⟩, B6⟩
     ·
      have d5 : decide ((mid : Int) < (en : Int)) = true := decide_eq_true (by omega)
      have d6 : decide ((en : Int) < (b : Int)) = false := decide_eq_false (by omega)
      repeat' (first | go_values | go_skip | go_guarded | go_step | go_upon)
      go_returns
      exact ⟨rfl, ⟨g1, H7.out.1, H7.out.2.1, merge_join (by omega) (by omega) H7.out.2.2.2.2.1 (SP.refl _) H7.out.2.2.2.2.2.1 (by have := H7.out.2.2.1; rw [show en = b by omega] at this; exact this) H7.out.2.2.2.2.2.2⟩, B6⟩
    ·
     have d3 : decide ((a : Int) < (st : Int)) = true := decide_eq_true (by omega)
     have d4 : decide ((st : Int) < (mid : Int)) = false := decide_eq_false (by omega)
     have H7 := Hid.mk_ (show RowS w6 g n g1 ∧ SP a b f g1 ∧ Up g1 mid en ∧ Up g1 en b ∧ SP a mid g1 g1 ∧ Up g1 a mid ∧ (∀ x y, a ≤ x → x < mid → mid ≤ y → y < b → g1 x ≤ g1 y) from ⟨G.out.1, G.out.2.1, G.out.2.2.2.2.1, G.out.2.2.2.2.2.1, SP.refl _, (by have := G.out.2.2.1; rw [show st = mid by omega] at this; exact this), G.out.2.2.2.2.2.2⟩)
     clear G
     rcases (show (mid < en ∧ en < b) ∨ ¬ mid < en ∨ (mid < en ∧ ¬ en < b) by omega) with ⟨q1, q2⟩ | q1 | ⟨q1, q2⟩
     ·
      have d5 : decide ((mid : Int) < (en : Int)) = true := decide_eq_true (by omega)
      have d6 : decide ((en : Int) < (b : Int)) = true := decide_eq_true (by omega)
      have RC := IH mid en b g1 w6 (by omega) H7.out.1 q1 q2 hb (H7.out.2.2.1) (H7.out.2.2.2.1) B6
      repeat' (first | go_values | go_skip | go_guarded | go_step | go_upon)
      refine RC.mono ?_
      rintro e w8 ⟨rfl, ⟨f8, h1, h2, h3⟩, h4⟩
      have H8 := Hid.mk_ (And.intro h1 (And.intro h2 h3))
      have B8 : Below g w w8 := B6.trans h4
      clear h1 h2 h3 h4 RC
      dsimp only
      repeat' (first | go_values | go_skip | go_guarded | go_step | go_upon)
      go_returns
      exact ⟨rfl, ⟨f8, H8.out.1, H7.out.2.1.trans (H8.out.2.1.mono (by omega) (Nat.le_refl _)), merge_join (by omega) (by omega) H7.out.2.2.2.2.1 H8.out.2.1 H7.out.2.2.2.2.2.1 H8.out.2.2 H7.out.2.2.2.2.2.2⟩, B8⟩
     ·
      have d5 : decide ((mid : Int) < (en : Int)) = false := decide_eq_false (by omega)
      repeat' (first | go_values | go_skip | go_guarded | go_step | go_upon)
      go_returns
      exact ⟨rfl, ⟨g1, H7.out.1, H7.out.2.1, merge_join (by omega) (by omega) H7.out.2.2.2.2.1 (SP.refl _) H7.out.2.2.2.2.2.1 (by rw [show mid = en by omega]; exact H7.out.2.2.2.1) H7.out.2.2.2.2.2.2⟩, B6⟩
     ·
      have d5 : decide ((mid : Int) < (en : Int)) = true := decide_eq_true (by omega)
      have d6 : decide ((en : Int) < (b : Int)) = false := decide_eq_false (by omega)
      repeat' (first | go_values | go_skip | go_guarded | go_step | go_upon)
      go_returns
      exact ⟨rfl, ⟨g1, H7.out.1, H7.out.2.1, merge_join (by omega) (by omega) H7.out.2.2.2.2.1 (SP.refl _) H7.out.2.2.2.2.2.1 (by have := H7.out.2.2.1; rw [show en = b by omega] at this; exact this) H7.out.2.2.2.2.2.2⟩, B6⟩
   ·
    have d1 : decide ((st : Int) < (m : Int)) = false := decide_eq_false (by omega)
    have G := Hid.mk_ (show RowS wr g n f ∧ SP a b f f ∧ Up f a st ∧ Up f st mid ∧ Up f mid en ∧ Up f en b ∧ (∀ x y, a ≤ x → x < mid → mid ≤ y → y < b → f x ≤ f y) from ⟨HR.out, SP.refl f, by
     have := MH'.out
     rw [rotF_id f sm me (by omega)] at this
     exact this⟩)
    have g1e : ∃ g1, g1 = f := ⟨f, rfl⟩
    obtain ⟨g1, hg1⟩ := g1e
    have G : Hid (RowS wr g n g1 ∧ SP a b f g1 ∧ Up g1 a st ∧ Up g1 st mid ∧ Up g1 mid en ∧ Up g1 en b ∧ (∀ x y, a ≤ x → x < mid → mid ≤ y → y < b → g1 x ≤ g1 y)) := by rw [hg1]; exact G
    clear hg1 MH' HR
    rcases (show (a < st ∧ st < mid) ∨ ¬ a < st ∨ (a < st ∧ ¬ st < mid) by omega) with ⟨g3, g4⟩ | g3 | ⟨g3, g4⟩
    ·
     have d3 : decide ((a : Int) < (st : Int)) = true := decide_eq_true (by omega)
     have d4 : decide ((st : Int) < (mid : Int)) = true := decide_eq_true (by omega)
     have RC := IH a st mid g1 wr (by omega) G.out.1 g3 g4 (by omega) G.out.2.2.1 G.out.2.2.2.1 B
     repeat' (first | go_values | go_skip | go_guarded | go_step | go_upon)
     refine RC.mono ?_
     rintro e w7 ⟨rfl, ⟨f7, h1, h2, h3⟩, h4⟩
     have B7 : Below g w w7 := B.trans h4
     have H7 := Hid.mk_ (show RowS w7 g n f7 ∧ SP a b f f7 ∧ Up f7 mid en ∧ Up f7 en b ∧ SP a mid g1 f7 ∧ Up f7 a mid ∧ (∀ x y, a ≤ x → x < mid → mid ≤ y → y < b → g1 x ≤ g1 y) from ⟨h1, G.out.2.1.trans (h2.mono (Nat.le_refl _) (by omega)), G.out.2.2.2.2.1.congr (fun k k1 _ => h2.out (.inr k1)), G.out.2.2.2.2.2.1.congr (fun k k1 _ => h2.out (.inr (by omega))), h2, h3, G.out.2.2.2.2.2.2⟩)
     clear h1 h2 h3 h4 RC G
     dsimp only
     rcases (show (mid < en ∧ en < b) ∨ ¬ mid < en ∨ (mid < en ∧ ¬ en < b) by omega) with ⟨q1, q2⟩ | q1 | ⟨q1, q2⟩
     ·
      have d5 : decide ((mid : Int) < (en : Int)) = true := decide_eq_true (by omega)
      have d6 : decide ((en : Int) < (b : Int)) = true := decide_eq_true (by omega)
      have RC := IH mid en b f7 w7 (by omega) H7.out.1 q1 q2 hb (H7.out.2.2.1) (H7.out.2.2.2.1) B7
      repeat' (first | go_values | go_skip | go_guarded | go_step | go_upon)
      refine RC.mono ?_
      rintro e w8 ⟨rfl, ⟨f8, h1, h2, h3⟩, h4⟩
      have H8 := Hid.mk_ (And.intro h1 (And.intro h2 h3))
      have B8 : Below g w w8 := B7.trans h4
      clear h1 h2 h3 h4 RC
      dsimp only
      repeat' (first | go_values | go_skip | go_guarded | go_step | go_upon)
      go_returns
      exact ⟨rfl, ⟨f8, H8.out.1, H7.out.2.1.trans (H8.out.2.1.mono (by omega) (Nat.le_refl _)), merge_join (by omega) (by omega) H7.out.2.2.2.2.1 H8.out.2.1 H7.out.2.2.2.2.2.1 H8.out.2.2 H7.out.2.2.2.2.2.2⟩, B8⟩
     ·
      have d5 : decide ((mid : Int) < (en : Int)) = false := decide_eq_false (by omega)
      repeat' (first | go_values | go_skip | go_guarded | go_step | go_upon)
      go_returns
      exact ⟨rfl, ⟨f7, H7.out.1, H7.out.2.1, merge_join (by omega) (by omega) H7.out.2.2.2.2.1 (SP.refl _) H7.out.2.2.2.2.2.1 (by rw [show mid = en by omega]; exact H7.out.2.2.2.1) H7.out.2.2.2.2.2.2⟩, B7⟩
     ·
      have d5 : decide ((mid : Int) < (en : Int)) = true := decide_eq_true (by omega)
      have d6 : decide ((en : Int) < (b : Int)) = false := decide_eq_false (by omega)
      repeat' (first | go_values | go_skip | go_guarded | go_step | go_upon)
      go_returns
      exact ⟨rfl, ⟨f7, H7.out.1, H7.out.2.1, merge_join (by omega) (by omega) H7.out.2.2.2.2.1 (SP.refl _) H7.out.2.2.2.2.2.1 (by have := H7.out.2.2.1; rw [show en = b by omega] at this; exact this) H7.out.2.2.2.2.2.2⟩, B7⟩
    ·
     have d3 : decide ((a : Int) < (st : Int)) = false := decide_eq_false (by omega)
     have H7 := Hid.mk_ (show RowS wr g n g1 ∧ SP a b f g1 ∧ Up g1 mid en ∧ Up g1 en b ∧ SP a mid g1 g1 ∧ Up g1 a mid ∧ (∀ x y, a ≤ x → x < mid → mid ≤ y → y < b → g1 x ≤ g1 y) from ⟨G.out.1, G.out.2.1, G.out.2.2.2.2.1, G.out.2.2.2.2.2.1, SP.refl _, (by rw [show a = st by omega]; exact G.out.2.2.2.1), G.out.2.2.2.2.2.2⟩)
     clear G
     rcases (show (mid < en ∧ en < b) ∨ ¬ mid < en ∨ (mid < en ∧ ¬ en < b) by omega) with ⟨q1, q2⟩ | q1 | ⟨q1, q2⟩
     ·
      have d5 : decide ((mid : Int) < (en : Int)) = true := decide_eq_true (by omega)
      have d6 : decide ((en : Int) < (b : Int)) = true := decide_eq_true (by omega)
      have RC := IH mid en b g1 wr (by omega) H7.out.1 q1 q2 hb (H7.out.2.2.1) (H7.out.2.2.2.1) B
      repeat' (first | go_values | go_skip | go_guarded | go_step | go_upon)
      refine RC.mono ?_
      rintro e w8 ⟨rfl, ⟨f8, h1, h2, h3⟩, h4⟩
      have H8 := Hid.mk_ (And.intro h1 (And.intro h2 h3))
      have B8 : Below g w w8 := B.trans h4
      clear h1 h2 h3 h4 RC
      dsimp only
      repeat' (first | go_values | go_skip | go_guarded | go_step | go_upon)
      go_returns
      exact ⟨rfl, ⟨f8, H8.out.1, H7.out.2.1.trans (H8.out.2.1.mono (by omega) (Nat.le_refl _)), merge_join (by omega) (by omega) H7.out.2.2.2.2.1 H8.out.2.1 H7.out.2.2.2.2.2.1 H8.out.2.2 H7.out.2.2.2.2.2.2⟩, B8⟩
     ·
      have d5 : decide ((mid : Int) < (en : Int)) = false := decide_eq_false (by omega)
      repeat' (first | go_values | go_skip | go_guarded | go_step | go_upon)
      go_returns
      exact ⟨rfl, ⟨g1, H7.out.1, H7.out.2.1, merge_join (by omega) (by omega) H7.out.2.2.2.2.1 (SP.refl _) H7.out.2.2.2.2.2.1 (by rw [show mid = en by omega]; exact H7.out.2.2.2.1) H7.out.2.2.2.2.2.2⟩, B⟩
     ·
      have d5 : decide ((mid : Int) < (en : Int)) = true := decide_eq_true (by omega)
      have d6 : decide ((en : Int) < (b : Int)) = false := decide_eq_false (by omega)
      repeat' (first | go_values | go_skip | go_guarded | go_step | go_upon)
      go_returns
      exact ⟨rfl, ⟨g1, H7.out.1, H7.out.2.1, merge_join (by omega) (by omega) H7.out.2.2.2.2.1 (SP.refl _) H7.out.2.2.2.2.2.1 (by have := H7.out.2.2.1; rw [show en = b by omega] at this; exact this) H7.out.2.2.2.2.2.2⟩, B⟩
    ·
     have d3 : decide ((a : Int) < (st : Int)) = true := decide_eq_true (by omega)
     have d4 : decide ((st : Int) < (mid : Int)) = false := decide_eq_false (by omega)
     have H7 := Hid.mk_ (show RowS wr g n g1 ∧ SP a b f g1 ∧ Up g1 mid en ∧ Up g1 en b ∧ SP a mid g1 g1 ∧ Up g1 a mid ∧ (∀ x y, a ≤ x → x < mid → mid ≤ y → y < b → g1 x ≤ g1 y) from ⟨G.out.1, G.out.2.1, G.out.2.2.2.2.1, G.out.2.2.2.2.2.1, SP.refl _, (by have := G.out.2.2.1; rw [show st = mid by omega] at this; exact this), G.out.2.2.2.2.2.2⟩)
     clear G
     rcases (show (mid < en ∧ en < b) ∨ ¬ mid < en ∨ (mid < en ∧ ¬ en < b) by omega) with ⟨q1, q2⟩ | q1 | ⟨q1, q2⟩
     ·
      have d5 : decide ((mid : Int) < (en : Int)) = true := decide_eq_true (by omega)
      have d6 : decide ((en : Int) < (b : Int)) = true := decide_eq_true (by omega)
      have RC := IH mid en b g1 wr (by omega) H7.out.1 q1 q2 hb (H7.out.2.2.1) (H7.out.2.2.2.1) B
      repeat' (first | go_values | go_skip | go_guarded | go_step | go_upon)
      refine RC.mono ?_
      rintro e w8 ⟨rfl, ⟨f8, h1, h2, h3⟩, h4⟩
      have H8 := Hid.mk_ (And.intro h1 (And.intro h2 h3))
      have B8 : Below g w w8 := B.trans h4
      clear h1 h2 h3 h4 RC
      dsimp only
      repeat' (first | go_values | go_skip | go_guarded | go_step | go_upon)
      go_returns
      exact ⟨rfl, ⟨f8, H8.out.1, H7.out.2.1.trans (H8.out.2.1.mono (by omega) (Nat.le_refl _)), merge_join (by omega) (by omega) H7.out.2.2.2.2.1 H8.out.2.1 H7.out.2.2.2.2.2.1 H8.out.2.2 H7.out.2.2.2.2.2.2⟩, B8⟩
     ·
      have d5 : decide ((mid : Int) < (en : Int)) = false := decide_eq_false (by omega)
      repeat' (first | go_values | go_skip | go_guarded | go_step | go_upon)
      go_returns
      exact ⟨rfl, ⟨g1, H7.out.1, H7.out.2.1, merge_join (by omega) (by omega) H7.out.2.2.2.2.1 (SP.refl _) H7.out.2.2.2.2.2.1 (by rw [show mid = en by omega]; exact H7.out.2.2.2.1) H7.out.2.2.2.2.2.2⟩, B⟩
     ·
      have d5 : decide ((mid : Int) < (en : Int)) = true := decide_eq_true (by omega)
      have d6 : decide ((en : Int) < (b : Int)) = false := decide_eq_false (by omega)
      repeat' (first | go_values | go_skip | go_guarded | go_step | go_upon)
      go_returns
      exact ⟨rfl, ⟨g1, H7.out.1, H7.out.2.1, merge_join (by omega) (by omega) H7.out.2.2.2.2.1 (SP.refl _) H7.out.2.2.2.2.2.1 (by have := H7.out.2.2.1; rw [show en = b by omega] at this; exact this) H7.out.2.2.2.2.2.2⟩, B⟩
   ·
    have d1 : decide ((st : Int) < (m : Int)) = true := decide_eq_true (by omega)
    have d2 : decide ((m : Int) < (en : Int)) = false := decide_eq_false (by omega)
    have G := Hid.mk_ (show RowS wr g n f ∧ SP a b f f ∧ Up f a st ∧ Up f st mid ∧ Up f mid en ∧ Up f en b ∧ (∀ x y, a ≤ x → x < mid → mid ≤ y → y < b → f x ≤ f y) from ⟨HR.out, SP.refl f, by
     have := MH'.out
     rw [rotF_id f sm me (by omega)] at this
     exact this⟩)
    have g1e : ∃ g1, g1 = f := ⟨f, rfl⟩
    obtain ⟨g1, hg1⟩ := g1e
    have G : Hid (RowS wr g n g1 ∧ SP a b f g1 ∧ Up g1 a st ∧ Up g1 st mid ∧ Up g1 mid en ∧ Up g1 en b ∧ (∀ x y, a ≤ x → x < mid → mid ≤ y → y < b → g1 x ≤ g1 y)) := by rw [hg1]; exact G
    clear hg1 MH' HR
    rcases (show (a < st ∧ st < mid) ∨ ¬ a < st ∨ (a < st ∧ ¬ st < mid) by omega) with ⟨g3, g4⟩ | g3 | ⟨g3, g4⟩
    ·
     have d3 : decide ((a : Int) < (st : Int)) = true := decide_eq_true (by omega)
     have d4 : decide ((st : Int) < (mid : Int)) = true := decide_eq_true (by omega)
     have RC := IH a st mid g1 wr (by omega) G.out.1 g3 g4 (by omega) G.out.2.2.1 G.out.2.2.2.1 B
     repeat' (first | go_values | go_skip | go_guarded | go_step | go_upon)
     refine RC.mono ?_
     rintro e w7 ⟨rfl, ⟨f7, h1, h2, h3⟩, h4⟩
     have B7 : Below g w w7 := B.trans h4
     have H7 := Hid.mk_ (show RowS w7 g n f7 ∧ SP a b f f7 ∧ Up f7 mid en ∧ Up f7 en b ∧ SP a mid g1 f7 ∧ Up f7 a mid ∧ (∀ x y, a ≤ x → x < mid → mid ≤ y → y < b → g1 x ≤ g1 y) from ⟨h1, G.out.2.1.trans (h2.mono (Nat.le_refl _) (by omega)), G.out.2.2.2.2.1.congr (fun k k1 _ => h2.out (.inr k1)), G.out.2.2.2.2.2.1.congr (fun k k1 _ => h2.out (.inr (by omega))), h2, h3, G.out.2.2.2.2.2.2⟩)
     clear h1 h2 h3 h4 RC G
     dsimp only
     rcases (show (mid < en ∧ en < b) ∨ ¬ mid < en ∨ (mid < en ∧ ¬ en < b) by omega) with ⟨q1, q2⟩ | q1 | ⟨q1, q2⟩
     ·
      have d5 : decide ((mid : Int) < (en : Int)) = true := decide_eq_true (by omega)
      have d6 : decide ((en : Int) < (b : Int)) = true := decide_eq_true (by omega)
      have RC := IH mid en b f7 w7 (by omega) H7.out.1 q1 q2 hb (H7.out.2.2.1) (H7.out.2.2.2.1) B7
      repeat' (first | go_values | go_skip | go_guarded | go_step | go_upon)
      refine RC.mono ?_
      rintro e w8 ⟨rfl, ⟨f8, h1, h2, h3⟩, h4⟩
      have H8 := Hid.mk_ (And.intro h1 (And.intro h2 h3))
      have B8 : Below g w w8 := B7.trans h4
      clear h1 h2 h3 h4 RC
      dsimp only
      repeat' (first | go_values | go_skip | go_guarded | go_step | go_upon)
      go_returns
      exact ⟨rfl, ⟨f8, H8.out.1, H7.out.2.1.trans (H8.out.2.1.mono (by omega) (Nat.le_refl _)), merge_join (by omega) (by omega) H7.out.2.2.2.2.1 H8.out.2.1 H7.out.2.2.2.2.2.1 H8.out.2.2 H7.out.2.2.2.2.2.2⟩, B8⟩
     ·
      have d5 : decide ((mid : Int) < (en : Int)) = false := decide_eq_false (by omega)
      repeat' (first | go_values | go_skip | go_guarded | go_step | go_upon)
      go_returns
      exact ⟨rfl, ⟨f7, H7.out.1, H7.out.2.1, merge_join (by omega) (by omega) H7.out.2.2.2.2.1 (SP.refl _) H7.out.2.2.2.2.2.1 (by rw [show mid = en by omega]; exact H7.out.2.2.2.1) H7.out.2.2.2.2.2.2⟩, B7⟩
     ·
      have d5 : decide ((mid : Int) < (en : Int)) = true := decide_eq_true (by omega)
      have d6 : decide ((en : Int) < (b : Int)) = false := decide_eq_false (by omega)
      repeat' (first | go_values | go_skip | go_guarded | go_step | go_upon)
      go_returns
      exact ⟨rfl, ⟨f7, H7.out.1, H7.out.2.1, merge_join (by omega) (by omega) H7.out.2.2.2.2.1 (SP.refl _) H7.out.2.2.2.2.2.1 (by have := H7.out.2.2.1; rw [show en = b by omega] at this; exact this) H7.out.2.2.2.2.2.2⟩, B7⟩
    ·
     have d3 : decide ((a : Int) < (st : Int)) = false := decide_eq_false (by omega)
     have H7 := Hid.mk_ (show RowS wr g n g1 ∧ SP a b f g1 ∧ Up g1 mid en ∧ Up g1 en b ∧ SP a mid g1 g1 ∧ Up g1 a mid ∧ (∀ x y, a ≤ x → x < mid → mid ≤ y → y < b → g1 x ≤ g1 y) from ⟨G.out.1, G.out.2.1, G.out.2.2.2.2.1, G.out.2.2.2.2.2.1, SP.refl _, (by rw [show a = st by omega]; exact G.out.2.2.2.1), G.out.2.2.2.2.2.2⟩)
     clear G
     rcases (show (mid < en ∧ en < b) ∨ ¬ mid < en ∨ (mid < en ∧ ¬ en < b) by omega) with ⟨q1, q2⟩ | q1 | ⟨q1, q2⟩
     ·
      have d5 : decide ((mid : Int) < (en : Int)) = true := decide_eq_true (by omega)
      have d6 : decide ((en : Int) < (b : Int)) = true := decide_eq_true (by omega)
      have RC := IH mid en b g1 wr (by omega) H7.out.1 q1 q2 hb (H7.out.2.2.1) (H7.out.2.2.2.1) B
      repeat' (first | go_values | go_skip | go_guarded | go_step | go_upon)
      refine RC.mono ?_
      rintro e w8 ⟨rfl, ⟨f8, h1, h2, h3⟩, h4⟩
      have H8 := Hid.mk_ (And.intro h1 (And.intro h2 h3))
      have B8 : Below g w w8 := B.trans h4
      clear h1 h2 h3 h4 RC
      dsimp only
      repeat' (first | go_values | go_skip | go_guarded | go_step | go_upon)
      go_returns
      exact ⟨rfl, ⟨f8, H8.out.1, H7.out.2.1.trans (H8.out.2.1.mono (by omega) (Nat.le_refl _)), merge_join (by omega) (by omega) H7.out.2.2.2.2.1 H8.out.2.1 H7.out.2.2.2.2.2.1 H8.out.2.2 H7.out.2.2.2.2.2.2⟩, B8⟩
     ·
      have d5 : decide ((mid : Int) < (en : Int)) = false := decide_eq_false (by omega)
      repeat' (first | go_values | go_skip | go_guarded | go_step | go_upon)
      go_returns
      exact ⟨rfl, ⟨g1, H7.out.1, H7.out.2.1, merge_join (by omega) (by omega) H7.out.2.2.2.2.1 (SP.refl _) H7.out.2.2.2.2.2.1 (by rw [show mid = en by omega]; exact H7.out.2.2.2.1) H7.out.2.2.2.2.2.2⟩, B⟩
     ·
      have d5 : decide ((mid : Int) < (en : Int)) = true := decide_eq_true (by omega)
      have d6 : decide ((en : Int) < (b : Int)) = false := decide_eq_false (by omega)
      repeat' (first | go_values | go_skip | go_guarded | go_step | go_upon)
      go_returns
      exact ⟨rfl, ⟨g1, H7.out.1, H7.out.2.1, merge_join (by omega) (by omega) H7.out.2.2.2.2.1 (SP.refl _) H7.out.2.2.2.2.2.1 (by have := H7.out.2.2.1; rw [show en = b by omega] at this; exact this) H7.out.2.2.2.2.2.2⟩, B⟩
    ·
     have d3 : decide ((a : Int) < (st : Int)) = true := decide_eq_true (by omega)
     have d4 : decide ((st : Int) < (mid : Int)) = false := decide_eq_false (by omega)
     have H7 := Hid.mk_ (show RowS wr g n g1 ∧ SP a b f g1 ∧ Up g1 mid en ∧ Up g1 en b ∧ SP a mid g1 g1 ∧ Up g1 a mid ∧ (∀ x y, a ≤ x → x < mid → mid ≤ y → y < b → g1 x ≤ g1 y) from ⟨G.out.1, G.out.2.1, G.out.2.2.2.2.1, G.out.2.2.2.2.2.1, SP.refl _, (by have := G.out.2.2.1; rw [show st = mid by omega] at this; exact this), G.out.2.2.2.2.2.2⟩)
     clear G
     rcases (show (mid < en ∧ en < b) ∨ ¬ mid < en ∨ (mid < en ∧ ¬ en < b) by omega) with ⟨q1, q2⟩ | q1 | ⟨q1, q2⟩
     ·
      have d5 : decide ((mid : Int) < (en : Int)) = true := decide_eq_true (by omega)
      have d6 : decide ((en : Int) < (b : Int)) = true := decide_eq_true (by omega)
      have RC := IH mid en b g1 wr (by omega) H7.out.1 q1 q2 hb (H7.out.2.2.1) (H7.out.2.2.2.1) B
      repeat' (first | go_values | go_skip | go_guarded | go_step | go_upon)
      refine RC.mono ?_
      rintro e w8 ⟨rfl, ⟨f8, h1, h2, h3⟩, h4⟩
      have H8 := Hid.mk_ (And.intro h1 (And.intro h2 h3))
      have B8 : Below g w w8 := B.trans h4
      clear h1 h2 h3 h4 RC
      dsimp only
      repeat' (first | go_values | go_skip | go_guarded | go_step | go_upon)
      go_returns
      exact ⟨rfl, ⟨f8, H8.out.1, H7.out.2.1.trans (H8.out.2.1.mono (by omega) (Nat.le_refl _)), merge_join (by omega) (by omega) H7.out.2.2.2.2.1 H8.out.2.1 H7.out.2.2.2.2.2.1 H8.out.2.2 H7.out.2.2.2.2.2.2⟩, B8⟩
     ·
      have d5 : decide ((mid : Int) < (en : Int)) = false := decide_eq_false (by omega)
      repeat' (first | go_values | go_skip | go_guarded | go_step | go_upon)
      go_returns
      exact ⟨rfl, ⟨g1, H7.out.1, H7.out.2.1, merge_join (by omega) (by omega) H7.out.2.2.2.2.1 (SP.refl _) H7.out.2.2.2.2.2.1 (by rw [show mid = en by omega]; exact H7.out.2.2.2.1) H7.out.2.2.2.2.2.2⟩, B⟩
     ·
      have d5 : decide ((mid : Int) < (en : Int)) = true := decide_eq_true (by omega)
      have d6 : decide ((en : Int) < (b : Int)) = false := decide_eq_false (by omega)
      repeat' (first | go_values | go_skip | go_guarded | go_step | go_upon)
      go_returns
      exact ⟨rfl, ⟨g1, H7.out.1, H7.out.2.1, merge_join (by omega) (by omega) H7.out.2.2.2.2.1 (SP.refl _) H7.out.2.2.2.2.2.1 (by have := H7.out.2.2.1; rw [show en = b by omega] at this; exact this) H7.out.2.2.2.2.2.2⟩, B⟩
theorem vsym {g n cap p : Nat} (hn : n ≤ 1000) : ∀ (k : Nat) (a m b : Nat) (f : Nat → Int) (w : World), b - a ≤ k → RowS w g n f → a < m → m < b → b ≤ n → Up f a m → Up f m b → (∀ W x y, Below g w W → Calls Try.prog 33 #[.int .i64 x, .int .i64 y, .pointer (some ⟨p, 0, none⟩)] W fun e w2 => e = .returned (.int .i64 (cmpI x y)) ∧ Steps W w2) →
  Calls Try.prog 59 #[.slice (some ⟨g, 0, none⟩) n cap, .int .i64 a, .int .i64 m, .int .i64 b, .func (.func 33) #[] #[.pointer (some ⟨p, 0, none⟩)]] w fun e w' => e = .returned (.tuple #[]) ∧ (∃ f', RowS w' g n f' ∧ SP a b f f' ∧ Up f' a b) ∧ Below g w w'
 | 0, a, m, b, f, w, h, hr, h1, h2, h3, u1, u2, CM => by omega
 | k + 1, a, m, b, f, w, h, hr, h1, h2, h3, u1, u2, CM => by
  by_cases c1 : m = a + 1
  · exact vsymA w a m b hr c1 h2 h3 hn u2 CM
  ·
   by_cases c2 : b = m + 1
   · exact vsymB w a m b hr (by omega) c2 h3 hn u1 CM
   ·
    have IH := fun (a' m' b' : Nat) (f' : Nat → Int) (w' : World) (l : b' - a' < b - a) (hr' : RowS w' g n f') (h1' : a' < m') (h2' : m' < b') (h3' : b' ≤ n) (u1' : Up f' a' m') (u2' : Up f' m' b') (hb : Below g w w') => vsym (cap := cap) (p := p) hn k a' m' b' f' w' (by omega) hr' h1' h2' h3' u1' u2' (fun W x y hW => CM W x y (hb.trans hW))
    rcases Nat.lt_or_ge ((a + b) / 2) m with c | c
    · exact vsymC1 w a m b hr (by omega) (by omega) h3 hn u1 u2 c CM IH
    · exact vsymC2 w a m b hr (by omega) (by omega) h3 hn u1 u2 c CM IH
theorem Up.one {f : Nat → Int} {a : Nat} : Up f a a := Up.none (by omega)
theorem vinsert0 {g n cap p : Nat} (w : World) (a : Nat) (ha : a ≤ 1000) :
  Calls Try.prog 58 #[.slice (some ⟨g, 0, none⟩) n cap, .int .i64 a, .int .i64 a, .func (.func 33) #[] #[.pointer (some ⟨p, 0, none⟩)]] w fun e w' => e = .returned (.tuple #[]) ∧ w' = w := by
 have hlt : decide ((a : Int) + 1 < (a : Int)) = false := decide_eq_false (by omega)
 go_enter Try.func58, Try.ntmps58
 go_wp2_with fail
 go_loopw [8] (fun kk wr => kk = .int .i64 ((a : Int) + 1) ∧ wr = w) (fun kk _ => 0)
 case atStart => exact ⟨by go_num, rfl⟩
 case round =>
  obtain ⟨rfl, rfl⟩ := hrel
  go_wp2_with fail
  go_returns
  exact ⟨rfl, rfl⟩
theorem vstable {g n cap p : Nat} {f : Nat → Int} (w : World) (hr : RowS w g n f) (h0 : 0 < n) (hn : n ≤ 24) (CM : ∀ W x y, Below g w W → Calls Try.prog 33 #[.int .i64 x, .int .i64 y, .pointer (some ⟨p, 0, none⟩)] W fun e w2 => e = .returned (.int .i64 (cmpI x y)) ∧ Steps W w2) :
  Calls Try.prog 46 #[.slice (some ⟨g, 0, none⟩) n cap, .int .i64 n, .func (.func 33) #[] #[.pointer (some ⟨p, 0, none⟩)]] w fun e w' => e = .returned (.tuple #[]) ∧ (∃ f', RowS w' g n f' ∧ SP 0 n f f' ∧ Up f' 0 n) ∧ Below g w w' := by
 have gl := hr.lt
 have IN := vinsert (cap := cap) (p := p) w 0 n hr h0 (Nat.le_refl _) (by omega) CM
 have IL := fun (h : 20 < n) => vinsert (cap := cap) (p := p) w 0 20 hr (by omega) (by omega) (by omega) CM
 have IM := fun (h : 20 < n) f' w' (hr' : RowS w' g n f') (hb : Below g w w') => vinsert (cap := cap) (p := p) (f := f') w' 20 n hr' h (Nat.le_refl _) (by omega) (fun W x y hW => CM W x y (hb.trans hW))
 have IS := fun (h : 20 < n) f' w' (hr' : RowS w' g n f') (hb : Below g w w') u1 u2 => vsym (cap := cap) (p := p) (by omega) n 0 20 n f' w' (by omega) hr' (by omega) h (Nat.le_refl _) u1 u2 (fun W x y hW => CM W x y (hb.trans hW))
 have I0 := fun w' => vinsert0 (g := g) (n := n) (cap := cap) (p := p) w' 20 (by omega)
 clear hr CM
 rcases (show n < 20 ∨ n = 20 ∨ 20 < n by omega) with h | h | h
 ·
  have h1 : decide ((20 : Int) ≤ (n : Int)) = false := decide_eq_false (by omega)
  have h2 : decide ((20 : Int) < (n : Int)) = false := decide_eq_false (by omega)
  go_enter Try.func46, Try.ntmps46
  go_wp2_with fail
  go_loopw [7, 8] (fun ka kb wr => ka = .int .i64 0 ∧ kb = .int .i64 20 ∧ wr = w) (fun ka kb _ => 0)
  case atStart => exact ⟨rfl, rfl, rfl⟩
  case round =>
   obtain ⟨rfl, rfl, rfl⟩ := hrel
   go_wp2_with fail
   refine IN.mono ?_
   rintro e w2 ⟨rfl, h3, h4⟩
   have H3 := Hid.mk_ (And.intro h3 h4)
   clear h3 h4 IN I0
   dsimp only
   go_wp2_with fail
   go_loopw [6] (fun ka wr => ka = .int .i64 20 ∧ wr = w2) (fun ka _ => 0)
   case atStart => exact ⟨rfl, rfl⟩
   case round =>
    obtain ⟨rfl, rfl⟩ := hrel
    go_wp2_with fail
    go_returns
    exact ⟨rfl, H3.out.1, H3.out.2⟩
 ·
  obtain rfl : n = 20 := by omega
  go_enter Try.func46, Try.ntmps46
  go_wp2_with fail
  go_loopw [7, 8] (fun ka kb wr => (ka = .int .i64 0 ∧ kb = .int .i64 20 ∧ wr = w) ∨ (ka = .int .i64 20 ∧ kb = .int .i64 40 ∧ (∃ f', RowS wr g 20 f' ∧ SP 0 20 f f' ∧ Up f' 0 20) ∧ Below g w wr)) (fun ka kb _ => 40 - (intOf kb).toNat)
  case atStart => exact .inl ⟨rfl, rfl, rfl⟩
  case round =>
   rcases hrel with ⟨rfl, rfl, rfl⟩ | ⟨rfl, rfl, h3, h4⟩
   ·
    have h1 : decide ((20 : Int) ≤ 20) = true := by decide
    go_wp2_with fail
    refine IN.mono ?_
    rintro e w2 ⟨rfl, h3, h4⟩
    have H3 := Hid.mk_ (And.intro h3 h4)
    clear h3 h4 IN I0
    dsimp only
    go_wp2_with fail
    go_roundw
    case rel => exact .inr ⟨rfl, by go_num, H3.out.1, H3.out.2⟩
    case measure => simp [intOf]
   ·
    have h1 : decide ((40 : Int) ≤ 20) = false := by decide
    have H3 := Hid.mk_ (And.intro h3 h4)
    clear h3 h4 IN
    go_wp2_with fail
    refine (I0 _).mono ?_
    rintro e w2 ⟨rfl, rfl⟩
    clear I0
    dsimp only
    go_wp2_with fail
    go_loopw [6] (fun ka wr => ka = .int .i64 20 ∧ wr = w2) (fun ka _ => 0)
    case atStart => exact ⟨rfl, rfl⟩
    case round =>
     obtain ⟨rfl, rfl⟩ := hrel
     go_wp2_with fail
     go_returns
     exact ⟨rfl, H3.out.1, H3.out.2⟩
 ·
  have h20 : decide ((20 : Int) ≤ (n : Int)) = true := decide_eq_true (by omega)
  have h40 : decide ((40 : Int) ≤ (n : Int)) = false := decide_eq_false (by omega)
  have hl20 : decide ((20 : Int) < (n : Int)) = true := decide_eq_true (by omega)
  have hl40 : decide ((40 : Int) < (n : Int)) = false := decide_eq_false (by omega)
  replace IL := IL h
  replace IM := IM h
  replace IS := IS h
  have HN := Hid.mk_ (And.intro h hn)
  clear IN I0 h0 h hn
  go_enter Try.func46, Try.ntmps46
  go_wp2_with fail
  go_loopw [7, 8] (fun ka kb wr => (ka = .int .i64 0 ∧ kb = .int .i64 20 ∧ wr = w) ∨ (ka = .int .i64 20 ∧ kb = .int .i64 40 ∧ (∃ f', RowS wr g n f' ∧ SP 0 20 f f' ∧ Up f' 0 20) ∧ Below g w wr)) (fun ka kb _ => 40 - (intOf kb).toNat)
  case atStart => exact .inl ⟨rfl, rfl, rfl⟩
  case round =>
   rcases hrel with ⟨rfl, rfl, rfl⟩ | ⟨rfl, rfl, h3, h4⟩
   ·
    go_wp2_with fail
    refine IL.mono ?_
    rintro e w2 ⟨rfl, h3, h4⟩
    have H3 := Hid.mk_ (And.intro h3 h4)
    clear h3 h4 IL IM IS
    dsimp only
    go_wp2_with fail
    go_roundw
    case rel => exact .inr ⟨rfl, by go_num, H3.out.1, H3.out.2⟩
    case measure => simp [intOf]
   ·
    obtain ⟨f1, r1, s1, u1⟩ := h3
    have IM1 := IM f1 wr r1 h4
    have H1 := Hid.mk_ (And.intro s1 (And.intro u1 h4))
    clear r1 s1 u1 h4 IL IM
    go_wp2_with fail
    refine IM1.mono ?_
    rintro e w2 ⟨rfl, ⟨f2, r2, s2, u2⟩, b2⟩
    have B2 : Below g w w2 := H1.out.2.2.trans b2
    have IS2 := IS f2 w2 r2 B2 (H1.out.2.1.congr (fun k _ k2 => s2.out (.inl k2))) u2
    have H2 := Hid.mk_ ((H1.out.1.mono (Nat.le_refl _) (by have := HN.out; omega)).trans (s2.mono (by omega) (Nat.le_refl n)))
    clear r2 s2 u2 b2 IS IM1 H1
    dsimp only
    go_wp2_with fail
    go_loopw [6] (fun ka wr => (ka = .int .i64 20 ∧ wr = w2) ∨ (ka = .int .i64 40 ∧ (∃ f', RowS wr g n f' ∧ SP 0 n f f' ∧ Up f' 0 n) ∧ Below g w wr)) (fun ka _ => 40 - (intOf ka).toNat)
    case atStart => exact .inl ⟨rfl, rfl⟩
    case round =>
     rename World => wq
     rcases hrel with ⟨rfl, rfl⟩ | ⟨rfl, h5, h6⟩
     ·
      go_wp2_with fail
      go_loopw [7, 8] (fun ka kb wz => ka = .int .i64 0 ∧ kb = .int .i64 40 ∧ wz = wq) (fun ka kb _ => 0)
      case atStart => exact ⟨rfl, by go_num, rfl⟩
      case round =>
       rename World => wz
       obtain ⟨rfl, rfl, rfl⟩ := hrel
       go_wp2_with fail
       refine IS2.mono ?_
       rintro e w3 ⟨rfl, ⟨f3, r3, s3, u3⟩, b3⟩
       have H4 := Hid.mk_ (And.intro r3 (And.intro (H2.out.trans s3) u3))
       have B3 : Below g w w3 := B2.trans b3
       clear r3 s3 u3 b3 IS2 H2
       dsimp only
       go_wp2_with fail
       go_roundw
       case rel => exact .inr ⟨by go_num, ⟨f3, H4.out⟩, B3⟩
       case measure => simp [intOf]
     ·
      have H5 := Hid.mk_ (And.intro h5 h6)
      clear h5 h6 IS2 B2 H2
      go_wp2_with fail
      go_returns
      exact ⟨rfl, H5.out.1, H5.out.2⟩
theorem vsort {g n cap p : Nat} {f : Nat → Int} (w : World) (hr : RowS w g n f) (h0 : 0 < n) (hn : n ≤ 24) (CM : ∀ W x y, Below g w W → Calls Try.prog 33 #[.int .i64 x, .int .i64 y, .pointer (some ⟨p, 0, none⟩)] W fun e w2 => e = .returned (.int .i64 (cmpI x y)) ∧ Steps W w2) :
  Calls Try.prog 32 #[.slice (some ⟨g, 0, none⟩) n cap, .func (.func 33) #[] #[.pointer (some ⟨p, 0, none⟩)]] w fun e w' => e = .returned (.tuple #[]) ∧ (∃ f', RowS w' g n f' ∧ SP 0 n f f' ∧ Up f' 0 n) ∧ Below g w w' := by
 have ST_ := vstable (cap := cap) (p := p) w hr h0 hn CM
 clear hr CM
 go_enter Try.func32, Try.ntmps32
 go_wp2_with fail
 refine ST_.mono ?_
 rintro e w2 ⟨rfl, h3, h4⟩
 have H3 := Hid.mk_ (And.intro h3 h4)
 clear h3 h4 ST_
 dsimp only
 go_wp2_with fail
 go_returns
 exact ⟨rfl, H3.out.1, H3.out.2⟩
theorem vordered {vl : Value} {l : List Int} {f : Nat} (w : World) (hl : IntsR w vl l) (h0 : l ≠ []) (hn : l.length ≤ 24) (hk : IdKey f) (he : ∀ args w, (callFunc f args).run Try.prog w = .ok (.enter f args) w) :
  Calls Try.prog 20 #[vl, .func (.func f) #[] #[]] w fun e w' => ∃ v, e = .returned v ∧ IntsR w' v (srt l) ∧ Steps w w' := by
 have hp := List.length_pos_iff.2 h0
 have CL := fun w' (s : Steps w w') => vclone w' (hl.steps s) h0 (by omega)
 have VS := fun x y W hb => vless (p := w.heap.size) x y W hk he hb
 obtain ⟨n, hN⟩ : ∃ n, l.length = n := ⟨_, rfl⟩
 have HN := Hid.mk_ hN
 rw [hN] at CL hp hn
 obtain ⟨la, lc, rfl⟩ := hl.shape
 rw [hN] at CL ⊢
 clear hl h0 hk he hN
 go_enter Try.func20, Try.ntmps20
 go_wp2_with fail
 refine (CL _ belowB).mono ?_
 rintro e w1 ⟨v, rfl, hv, hs⟩
 have oc : Blk w1 w.heap.size 46 #[.func (.func f) #[] #[]] := Blk.stepsK hs
 have B : Below w.heap.size w w1 := belowA hs
 have hge : w.heap.size + 1 ≤ w1.heap.size := by have := oc.lt; omega
 obtain ⟨g, cap, rfl, hg, hc, hr⟩ := rowS_of hv HN.out hp
 have gw : w.heap.size + 1 ≤ g := by have := hg; (try simp only [World.size_alloc] at this); omega
 have CM : ∀ W x y, Below g w1 W → _ := fun W x y hb => VS x y W ((hb.block w.heap.size (by omega)).trans oc)
 have SO := vsort (cap := cap) w1 hr hp hn CM
 have HC := Hid.mk_ hc
 clear hs CL VS CM hv hr
 dsimp only
 go_wp2_with fail
 refine SO.mono ?_
 rintro e w2 ⟨rfl, ⟨f', h1, h2, h3⟩, h4⟩
 have B2 : Below w.heap.size w w2 := B.trans (h4.mono (by omega))
 have hs2 := up_srt h2 h3
 have hm : (List.range n).map (fun i => l.getD i 0) = l := by rw [← HN.out]; exact map_getD l
 rw [hm] at hs2
 have HI := Hid.mk_ (h1.il HC.out)
 have HS := Hid.mk_ hs2
 clear h1 h2 h3 h4 hm hs2 SO
 dsimp only
 go_wp2_with fail
 go_returns
 exact ⟨_, rfl, by rw [← HS.out]; exact HI.out, B2⟩
def midL (l : List Int) : Prop := l.length ≤ 24 ∧ ∀ x ∈ l, -1099511627776 ≤ x ∧ x ≤ 1099511627776
theorem midL.srt {l : List Int} (h : midL l) {i : Nat} (hi : i < l.length) : -1099511627776 ≤ (Go.Proofs.Ytmpambmpknaldaa.srt l).getD i 0 ∧ (Go.Proofs.Ytmpambmpknaldaa.srt l).getD i 0 ≤ 1099511627776 :=
 h.2 _ ((srt_perm l).mem_iff.1 (getD_mem (by rw [srt_len]; exact hi)))
theorem valL.mid {l : List Int} (h : valL l) (hn : l.length ≤ 24) : midL l := ⟨hn, fun x hx => by have := h.2 x hx; omega⟩
theorem noU_made64 (n : Nat) : noU32 (madeCells #[.int .i64 0] n) = true := noU_made n
theorem he_tw : ∀ args w, (callFunc 28 args).run Try.prog w = .ok (.enter 28 args) w := enters_of Try.func28 (by kernel_rfl) rfl
theorem he_pc : ∀ args w, (callFunc 21 args).run Try.prog w = .ok (.enter 21 args) w := enters_of Try.func21 (by kernel_rfl) rfl
theorem vtwice {vl : Value} {l : List Int} (w : World) (hl : IntsR w vl l) (h0 : l ≠ []) (hv : midL l) :
  Calls Try.prog 16 #[vl] w fun e w' => e = .returned (.int .i64 (twI l)) ∧ Steps w w' := by
 have hp := List.length_pos_iff.2 h0
 have OR := fun w' (s : Steps w w') => vordered w' (hl.steps s) h0 hv.1 key_tw he_tw
 have r1 := hv.srt (i := (l.length - 1) / 2) (by omega)
 have r2 := hv.srt (i := l.length / 2) (by omega)
 have sl : (srt l).length = l.length := srt_len l
 have hn := hv.1
 unfold twI
 obtain ⟨s, hs⟩ : ∃ s, srt l = s := ⟨_, rfl⟩
 rw [hs] at OR r1 r2 sl ⊢
 obtain ⟨n, hN⟩ : ∃ n, l.length = n := ⟨_, rfl⟩
 rw [hN] at hp r1 r2 sl hn ⊢
 obtain ⟨la, lc, rfl⟩ := hl.shape
 rw [hN] at OR ⊢
 obtain ⟨x, hx⟩ : ∃ x, s.getD ((n - 1) / 2) 0 = x := ⟨_, rfl⟩
 obtain ⟨y, hy⟩ : ∃ y, s.getD (n / 2) 0 = y := ⟨_, rfl⟩
 rw [hx] at r1 ⊢
 rw [hy] at r2 ⊢
 have HX := Hid.mk_ (And.intro hx hy)
 clear hl h0 hv hs hN hx hy
 go_enter Try.func16, Try.ntmps16
 go_wp2_with fail
 refine (OR _ belowB).mono ?_
 rintro e w1 ⟨v, rfl, hv, hs1⟩
 obtain ⟨va, vc, rfl⟩ := hv.shape
 obtain ⟨b, o, rfl, hb, hx0⟩ := hv.at' (t := (n - 1) / 2) (by omega)
 obtain ⟨b', o', e2, hb', hy0⟩ := hv.at' (t := n / 2) (by omega)
 cases e2
 rw [sl]
 rw [HX.out.1] at hx0
 rw [HX.out.2] at hy0
 have B1 : Below w.heap.size w w1 := belowA hs1
 have q1 : ((n : Int) - 1).tdiv 2 = (((n - 1) / 2 : Nat) : Int) := by rw [show (n : Int) - 1 = ((n - 1 : Nat) : Int) by omega]; rfl
 have q2 : (n : Int).tdiv 2 = ((n / 2 : Nat) : Int) := rfl
 have i1 : (n - 1) / 2 < n := by omega
 have i2 : n / 2 < n := by omega
 obtain ⟨i, hi⟩ : ∃ i, (n - 1) / 2 = i := ⟨_, rfl⟩
 obtain ⟨k, hk⟩ : ∃ k, n / 2 = k := ⟨_, rfl⟩
 rw [hi] at hx0 q1 i1
 rw [hk] at hy0 q2 i2
 clear hv hs1 OR HX hi hk sl
 dsimp only
 repeat' (first | go_values | go_skip | go_guarded | go_step | go_upon)
 refine Reg.wp_chain (fun D v W => Below w1.heap.size w1 W ∧ True) (Reg.inl []) (Reg.gv []) Reg.None_ (fun _ => Reg.Any) (fun _ _ => False) (Reg.pl []) (Reg.pl [])
  (by kernel_rfl) (by kernel_rfl) (by kernel_rfl) (Reg.gv_some _ (by intro p hp; cases hp)) (fun _ => ⟨belowB, trivial⟩) (fun _ _ _ _ _ h => h) (fun _ _ _ _ _ _ _ _ _ _ _ _ _ => Reg.none_) (fun _ _ _ _ h => h.elim) (fun ops' Q' hops hQ => ?_)
 apply Reg.RP rfl rfl rfl 6 rfl rfl
 ·
  intro D v W hc hj hf K' hK'
  go_step
  exact hK'.out
 · rfl
 apply Reg.RP rfl rfl rfl 7 rfl rfl
 ·
  intro D v W hc hj hf K' hK'
  go_step
  exact hK'.out
 · rfl
 apply Reg.RP rfl rfl rfl 8 rfl rfl
 ·
  intro D v W hc hj hf K' hK'
  go_step
  exact hK'.out
 · rfl
 apply Reg.RP rfl rfl rfl 9 rfl rfl
 ·
  intro D v W hc hj hf K' hK'
  go_step
  exact hK'.out
 · rfl
 apply Reg.RP rfl rfl rfl 10 rfl rfl
 ·
  intro D v W hc hj hf K' hK'
  go_step
  exact hK'.out
 · rfl
 apply Reg.RP rfl rfl rfl 11 rfl rfl
 ·
  intro D v W hc hj hf K' hK'
  go_step
  exact hK'.out
 · rfl
 apply Reg.RP rfl rfl rfl 12 rfl rfl
 ·
  intro D v W hc hj hf K' hK'
  obtain ⟨j0, _⟩ := hj
  have c0 : W.cell? ⟨b, o + i, none⟩ = some (.int .i64 x) := (j0.cell (p := ⟨b, _, none⟩) hb).trans hx0
  go_step
  exact hK'.out
 · rfl
 apply Reg.RP rfl rfl rfl 13 rfl rfl
 ·
  intro D v W hc hj hf K' hK'
  go_step
  exact hK'.out
 · rfl
 apply Reg.RP rfl rfl rfl 14 rfl rfl
 ·
  intro D v W hc hj hf K' hK'
  go_step
  exact hK'.out
 · rfl
 apply Reg.RP rfl rfl rfl 15 rfl rfl
 ·
  intro D v W hc hj hf K' hK'
  go_step
  exact hK'.out
 · rfl
 apply Reg.RP rfl rfl rfl 16 rfl rfl
 ·
  intro D v W hc hj hf K' hK'
  go_step
  exact hK'.out
 · rfl
 apply Reg.RP rfl rfl rfl 17 rfl rfl
 ·
  intro D v W hc hj hf K' hK'
  go_step
  exact hK'.out
 · rfl
 apply Reg.RP rfl rfl rfl 18 rfl rfl
 ·
  intro D v W hc hj hf K' hK'
  obtain ⟨j0, _⟩ := hj
  have c0 : W.cell? ⟨b, o + k, none⟩ = some (.int .i64 y) := (j0.cell (p := ⟨b, _, none⟩) hb).trans hy0
  go_step
  exact hK'.out
 · rfl
 apply Reg.RP rfl rfl rfl 19 rfl rfl
 ·
  intro D v W hc hj hf K' hK'
  go_step
  exact hK'.out
 · rfl
 apply Reg.RP rfl rfl rfl 2 rfl rfl
 ·
  intro D v W hc hj hf K' hK'
  go_step
  exact hK'.out
 · rfl
 refine Reg.RC_end (fun D v w9 hd hj hf => ?_)
 obtain ⟨j0, _⟩ := hj
 have B := j0
 clear hd hf j0
 refine hQ _ _ ?_
 clear hQ hops Q' ops'
 repeat' (first | go_values | go_skip | go_guarded | go_step | go_upon)
 go_returns
 exact ⟨rfl, below_steps B1 (Nat.le_refl _) B⟩
theorem tw_range {l : List Int} (h0 : l ≠ []) (hv : midL l) : -2199023255552 ≤ twI l ∧ twI l ≤ 2199023255552 := by
 have hp := List.length_pos_iff.2 h0
 have r1 := hv.srt (i := (l.length - 1) / 2) (by omega)
 have r2 := hv.srt (i := l.length / 2) (by omega)
 unfold twI
 omega
theorem vMedian {vl : Value} {l : List Int} (w : World) (hl : IntsR w vl l) (hn : l.length ≤ 100000) (h20 : askV l = 0 → l.length ≤ 24) :
  Calls Try.prog 5 #[vl] w fun e w' => ∃ v, e = .returned (.tuple #[v, .int .i64 (askV l)]) ∧ FE w' v (askV l) (medQ l) ∧ Steps w w' := by
 have CS : ∀ w', Steps w w' → Calls Try.prog 14 #[vl] w' fun e w2 => e = .returned (.int .i64 (askV l)) ∧ Steps w' w2 := fun w' s => vstart w' (hl.steps s) hn
 by_cases hk : askV l = 0
 ·
  rw [hk] at CS ⊢
  obtain ⟨hv, h0⟩ := askV_val hk
  have md := hv.mid (h20 hk)
  have TW : ∀ w', Steps w w' → Calls Try.prog 16 #[vl] w' fun e w2 => e = .returned (.int .i64 (twI l)) ∧ Steps w' w2 := fun w' s => vtwice w' (hl.steps s) h0 md
  have tr := tw_range h0 md
  have OF : ∀ w', Calls Try.prog 15 #[.int .i64 (twI l), .int .i64 2] w' fun e w2 => ∃ v, e = .returned (.tuple #[v, .int .i64 0]) ∧ FR w2 v (medQ l) ∧ Steps w' w2 := fun w' => by
   unfold medQ
   exact fofQ (twI l) 2 w' (by omega) (by omega) (by decide) (by decide) (by decide)
  obtain ⟨la, lc, rfl⟩ := hl.shape
  generalize medQ l = mq at *
  generalize twI l = tw at *
  clear hl hn hk hv h0 md h20 tr
  go_enter Try.func5, Try.ntmps5
  go_wp2_with fail
  refine (CS _ belowB).mono ?_
  rintro e w1 ⟨rfl, hb1⟩
  have st : Steps _ w1 := hb1
  have B : Below w.heap.size w w1 := belowA st
  have or : Blk w1 (w.heap.size) 28 #[.bool false, .slice none 0 0, .bool false, .slice none 0 0] := Blk.stepsK st
  clear st
  go_wp2_with fail
  refine (TW _ belowB).mono ?_
  rintro e w2 ⟨rfl, hb2⟩
  have st : Steps _ w2 := hb2
  have sk : Below w1.heap.size w1 w2 := belowA st
  replace B := below_steps B (Nat.le_refl _) sk
  replace or := or.steps sk
  clear st sk
  go_wp2_with fail
  refine (OF _).mono ?_
  rintro e w3 ⟨vq, rfl, hvq, hb3⟩
  have st : Steps _ w3 := hb3
  have sk : Below w2.heap.size w2 w3 := belowA st
  replace B := below_steps B (Nat.le_refl _) sk
  replace or := or.steps sk
  clear st sk
  obtain ⟨cr0, cr1, cr2, cr3, fr, lr⟩ := or.s3
  obtain ⟨q1, q2, q3, q4, q5, q6, q7, q8, rfl⟩ := hvq.shape
  have Fq := Hid.mk_ hvq
  clear hvq
  go_wp2_with fail
  refine bodyPost_ret (by simp [results, Try.results5, go_sem, cr0, cr1, cr2, cr3, fr, lr]; rfl) rfl ?_
  exact ⟨_, rfl, FE.ok (Fq.out.keeps keepsB), belowB⟩
 ·
  obtain ⟨la, lc, rfl⟩ := hl.shape
  generalize medQ l = mq at *
  generalize askV l = c at *
  have h3 : (c == 0) = false := by simpa using hk
  have h4 : (c != 0) = true := by simpa using hk
  have HK := Hid.mk_ hk
  clear hl hn hk h20
  go_enter Try.func5, Try.ntmps5
  go_wp2_with fail
  refine (CS _ belowB).mono ?_
  rintro e w1 ⟨rfl, hb1⟩
  have st : Steps _ w1 := hb1
  have B : Below w.heap.size w w1 := belowA st
  have or : Blk w1 (w.heap.size) 28 #[.bool false, .slice none 0 0, .bool false, .slice none 0 0] := Blk.stepsK st
  clear st
  obtain ⟨cr0, cr1, cr2, cr3, fr, lr⟩ := or.s3
  go_wp2_with fail
  refine bodyPost_ret (by simp [results, Try.results5, go_sem, cr0, cr1, cr2, cr3, fr, lr]; rfl) rfl ?_
  exact ⟨_, rfl, FE.bad HK.out, belowB⟩
theorem tw_val {l : List Int} (h0 : l ≠ []) (hv : valL l) : -8589934592 ≤ twI l ∧ twI l ≤ 8589934592 := by
 have hp := List.length_pos_iff.2 h0
 have r1 := hv.2 _ ((srt_perm l).mem_iff.1 (getD_mem (l := srt l) (i := (l.length - 1) / 2) (by rw [srt_len]; omega)))
 have r2 := hv.2 _ ((srt_perm l).mem_iff.1 (getD_mem (l := srt l) (i := l.length / 2) (by rw [srt_len]; omega)))
 unfold twI
 omega
theorem awI_len (m : Int) (l : List Int) : (awI m l).length = l.length := by simp [awI]
theorem awI_get {m : Int} {l : List Int} {i : Nat} (h : i < l.length) : (awI m l).getD i 0 = max (2 * l.getD i 0 - m) (m - 2 * l.getD i 0) := by simp [awI, List.getD, h]
theorem awI_mid {m : Int} {l : List Int} (hv : valL l) (hn : l.length ≤ 24) (hm : -8589934592 ≤ m ∧ m ≤ 8589934592) : midL (awI m l) := by
 refine ⟨by rw [awI_len]; exact hn, fun y hy => ?_⟩
 unfold awI at hy
 obtain ⟨x, hx, rfl⟩ := List.mem_map.1 hy
 have := hv.2 x hx
 omega
theorem vDeviation {vl : Value} {l : List Int} (w : World) (hl : IntsR w vl l) (hn : l.length ≤ 100000) (h20 : askV l = 0 → l.length ≤ 24) :
  Calls Try.prog 7 #[vl] w fun e w' => ∃ v, e = .returned (.tuple #[v, .int .i64 (askV l)]) ∧ FE w' v (askV l) (dvnQ l) ∧ Steps w w' := by
 have CS : ∀ w', Steps w w' → Calls Try.prog 14 #[vl] w' fun e w2 => e = .returned (.int .i64 (askV l)) ∧ Steps w' w2 := fun w' s => vstart w' (hl.steps s) hn
 by_cases hk : askV l = 0
 ·
  rw [hk] at CS ⊢
  obtain ⟨hv, h0⟩ := askV_val hk
  have md := hv.mid (h20 hk)
  have mr := tw_val h0 hv
  have TW : ∀ w', Steps w w' → Calls Try.prog 16 #[vl] w' fun e w2 => e = .returned (.int .i64 (twI l)) ∧ Steps w' w2 := fun w' s => vtwice w' (hl.steps s) h0 md
  have am := awI_mid hv (h20 hk) mr
  have a0 : awI (twI l) l ≠ [] := fun e => h0 (List.eq_nil_of_length_eq_zero (by have := congrArg List.length e; rwa [awI_len] at this))
  have TA : ∀ w' v, IntsR w' v (awI (twI l) l) → Calls Try.prog 16 #[v] w' fun e w2 => e = .returned (.int .i64 (twI (awI (twI l) l))) ∧ Steps w' w2 := fun w' v h => vtwice w' h a0 am
  have tr := tw_range a0 am
  have OF : ∀ w', Calls Try.prog 15 #[.int .i64 (twI (awI (twI l) l)), .int .i64 4] w' fun e w2 => ∃ v, e = .returned (.tuple #[v, .int .i64 0]) ∧ FR w2 v (dvnQ l) ∧ Steps w' w2 := fun w' => by
   unfold dvnQ
   exact fofQ (twI (awI (twI l) l)) 4 w' (by omega) (by omega) (by decide) (by decide) (by decide)
  have AG := fun i (h : i < l.length) => awI_get (m := twI l) h
  have AL := awI_len (twI l) l
  have VR := fun i (h : i < l.length) => hv.get h
  obtain ⟨ta, hta⟩ : ∃ t, twI (awI (twI l) l) = t := ⟨_, rfl⟩
  rw [hta] at TA OF tr
  obtain ⟨aw, haw⟩ : ∃ t, awI (twI l) l = t := ⟨_, rfl⟩
  rw [haw] at TA AL
  simp only [haw] at AG
  generalize dvnQ l = mq at *
  generalize twI l = tw at *
  obtain ⟨N, hN⟩ : ∃ n, l.length = n := ⟨_, rfl⟩
  have HN := Hid.mk_ hN
  have hn20 := h20 hk
  obtain ⟨la, lc, rfl⟩ := hl.shape
  rw [hN] at CS TW AG AL VR hn20 ⊢
  have HL := Hid.mk_ hl
  rw [hN] at HL
  have HAG := Hid.mk_ AG
  have HAL := Hid.mk_ AL
  have HVR := Hid.mk_ VR
  have hmk := make_i64s N (by omega)
  clear hl hn hk hv h0 md h20 am a0 hta haw AG AL VR hN
  go_enter Try.func7, Try.ntmps7
  go_wp2_with fail
  refine (CS _ belowB).mono ?_
  rintro e w1 ⟨rfl, hs1⟩
  have or1 : Blk w1 w.heap.size 28 #[.bool false, .slice none 0 0, .bool false, .slice none 0 0] := Blk.stepsK hs1
  have B1 : Below w.heap.size w w1 := belowA hs1
  clear hs1 CS
  dsimp only
  go_wp2_with fail
  refine (TW _ B1).mono ?_
  rintro e w2 ⟨rfl, hs2⟩
  have or2 : Blk w2 w.heap.size 28 #[.bool false, .slice none 0 0, .bool false, .slice none 0 0] := or1.steps hs2
  have B2 : Below w.heap.size w w2 := below_steps B1 (Nat.le_refl _) hs2
  clear hs2 TW or1 B1
  dsimp only
  go_wp2_with fail
  go_loopw [22] (fun kk wr => ∃ (i : Nat) (CO : Array Value), i ≤ N ∧ kk = .int .i64 i ∧ CO.size = N ∧ CO.toList.take i = ints (aw.take i) ∧ noU32 CO = true ∧ Blk wr w2.heap.size 2 CO ∧ Below w2.heap.size w2 wr) (fun kk _ => N - (intOf kk).toNat)
  case atStart => exact ⟨0, _, by omega, rfl, size_madeCells _ _, rfl, noU_made64 _, ownK, belowB⟩
  case round =>
   clear hmk
   obtain ⟨i, CO, hi, rfl, hs, ht, hu, oq, B⟩ := hrel
   rcases Nat.lt_or_ge i N with i4 | i4
   ·
    have hlt : decide ((i : Int) < (N : Int)) = true := decide_eq_true (by omega)
    obtain ⟨b, of, rfl, hb, hx0⟩ := HL.out.at' (t := i) (by have := HN.out; omega)
    have xr := HVR.out i i4
    have ag := HAG.out i i4
    obtain ⟨x, hx⟩ : ∃ x, l.getD i 0 = x := ⟨_, rfl⟩
    rw [hx] at hx0 xr ag
    have c0 : wr.cell? ⟨b, of + i, none⟩ = some (.int .i64 x) := ((below_steps B2 (Nat.le_refl _) B).cell (p := ⟨b, _, none⟩) hb).trans hx0
    have HA := Hid.mk_ ag
    have hcs := cur_next (x := max (2 * x - tw) (tw - 2 * x)) (xs := aw.take i) (by rw [hs]; exact i4) (by rw [List.length_take]; have := HAL.out; omega) ht
    have HC := Hid.mk_ hcs
    have HT := Hid.mk_ ht
    have HS := Hid.mk_ hs
    have lq := oq.lt
    have fq := oq.fr
    have cqi : wr.cell? ⟨w2.heap.size, i, none⟩ = some (CO[i]'(by omega)) := (oq.cell i).trans (Array.getElem?_eq_getElem (by omega))
    clear hx0 hx ag hcs ht
    go_wp2_with fail
    go_roundw
    case rel => exact ⟨i + 1, CO.setIfInBounds i (.int .i64 (max (2 * x - tw) (tw - 2 * x))), by omega, by go_num, by rw [Array.size_setIfInBounds]; exact HS.out, by rw [take_step (by have := HAL.out; omega), HA.out]; exact HC.out, noU_set hu i _, by rw [show (if 2 * x - tw < tw - 2 * x then tw - 2 * x else 2 * x - tw) = max (2 * x - tw) (tw - 2 * x) from by split <;> omega]; exact oq.set_ i _, Below.setCell (p := ⟨w2.heap.size, i, none⟩) B (Nat.le_refl _) _⟩
    case measure => simp [intOf]; omega
   ·
    obtain rfl : i = N := by omega
    have hlt : decide ((i : Int) < (i : Int)) = false := decide_eq_false (by omega)
    have ea : aw.take i = aw := by rw [show i = aw.length from HAL.out.symm, List.take_length]
    have ia := ints_of_cur (n := i) (cap := i) oq HAL.out (Nat.le_refl _) (by rw [ht, ea])
    have or3 := or2.steps B
    have B3 : Below w.heap.size w wr := below_steps B2 (Nat.le_refl _) B
    have IA := Hid.mk_ ia
    clear ia ea oq ht hs hu or2 B2 B
    go_wp2_with fail
    refine (TA _ _ IA.out).mono ?_
    rintro e w4 ⟨rfl, hs4⟩
    have or4 : Blk w4 w.heap.size 28 #[.bool false, .slice none 0 0, .bool false, .slice none 0 0] := or3.steps hs4
    have B4 : Below w.heap.size w w4 := below_steps B3 (Nat.le_refl _) hs4
    clear hs4 or3 B3 TA IA
    dsimp only
    go_wp2_with fail
    refine (OF _).mono ?_
    rintro e w5 ⟨v, rfl, hv5, hs5⟩
    have or5 : Blk w5 w.heap.size 28 #[.bool false, .slice none 0 0, .bool false, .slice none 0 0] := or4.steps hs5
    have B5 : Below w.heap.size w w5 := below_steps B4 (Nat.le_refl _) hs5
    obtain ⟨q1, q2, q3, q4, q5, q6, q7, q8, rfl⟩ := hv5.shape
    have Fq := Hid.mk_ hv5
    have cr0 := or5.c 0 rfl
    have cr1 := or5.c 1 rfl
    have cr2 := or5.c 2 rfl
    have cr3 := or5.c 3 rfl
    have fr := or5.fr
    have lr := or5.lt
    clear hs5 or4 B4 OF hv5
    dsimp only
    go_wp2_with fail
    refine bodyPost_ret (by simp [results, Try.results7, go_sem, cr0, cr1, cr2, cr3, fr, lr]; rfl) rfl ?_
    exact ⟨_, rfl, FE.ok (FR.keeps Fq.out (Keeps.only or5 rfl ((Only.refl _ _).set.set.set.set))), belowB⟩
 ·
  obtain ⟨la, lc, rfl⟩ := hl.shape
  generalize dvnQ l = mq at *
  generalize askV l = c at *
  have h3 : (c == 0) = false := by simpa using hk
  have h4 : (c != 0) = true := by simpa using hk
  have HK := Hid.mk_ hk
  clear hl hn hk h20
  go_enter Try.func7, Try.ntmps7
  go_wp2_with fail
  refine (CS _ belowB).mono ?_
  rintro e w1 ⟨rfl, hb1⟩
  have st : Steps _ w1 := hb1
  have B : Below w.heap.size w w1 := belowA st
  have or : Blk w1 (w.heap.size) 28 #[.bool false, .slice none 0 0, .bool false, .slice none 0 0] := Blk.stepsK st
  clear st
  obtain ⟨cr0, cr1, cr2, cr3, fr, lr⟩ := or.s3
  go_wp2_with fail
  refine bodyPost_ret (by simp [results, Try.results7, go_sem, cr0, cr1, cr2, cr3, fr, lr]; rfl) rfl ?_
  exact ⟨_, rfl, FE.bad HK.out, belowB⟩
def pctS (l : List Int) (num den : Int) : Int × Int :=
 if askV l = 0 then (if den < 1 ∨ 1000 < den ∨ num < 0 ∨ den < num then (0, 2) else ((srt l).getD (pctI l.length num den) 0, 0)) else (0, askV l)
theorem vPercentile {vl : Value} {l : List Int} (num den : Int) (w : World) (hl : IntsR w vl l) (hn : l.length ≤ 100000) (h20 : askV l = 0 → l.length ≤ 24) (hnum : -9223372036854775808 ≤ num ∧ num ≤ 9223372036854775807) (hden : -9223372036854775808 ≤ den ∧ den ≤ 9223372036854775807) :
  Calls Try.prog 9 #[vl, .int .i64 num, .int .i64 den] w fun e w' => e = .returned (.tuple #[.int .i64 (pctS l num den).1, .int .i64 (pctS l num den).2]) ∧ Steps w w' := by
 have CS : ∀ w', Steps w w' → Calls Try.prog 14 #[vl] w' fun e w2 => e = .returned (.int .i64 (askV l)) ∧ Steps w' w2 := fun w' s => vstart w' (hl.steps s) hn
 unfold pctS
 by_cases hk : askV l = 0
 ·
  rw [if_pos hk]
  rw [hk] at CS
  obtain ⟨hv, h0⟩ := askV_val hk
  have md := hv.mid (h20 hk)
  by_cases hb : den < 1 ∨ 1000 < den ∨ num < 0 ∨ den < num
  ·
   rw [if_pos hb]
   obtain ⟨la, lc, rfl⟩ := hl.shape
   clear hl hn hk hv h0 md h20
   rcases (show den < 1 ∨ (¬ den < 1 ∧ 1000 < den) ∨ (¬ den < 1 ∧ ¬ 1000 < den ∧ num < 0) ∨ (¬ den < 1 ∧ ¬ 1000 < den ∧ ¬ num < 0 ∧ den < num) by omega) with g | ⟨g, g2⟩ | ⟨g, g2, g3⟩ | ⟨g, g2, g3, g4⟩
   ·
    clear hb
    go_enter Try.func9, Try.ntmps9
    go_wp2_with fail
    refine (CS _ belowB).mono ?_
    rintro e w1 ⟨rfl, hs⟩
    have B := hs
    clear hs CS
    dsimp only
    go_wp2_with fail
    go_returns
    exact ⟨rfl, B⟩
   ·
    clear hb
    go_enter Try.func9, Try.ntmps9
    go_wp2_with fail
    refine (CS _ belowB).mono ?_
    rintro e w1 ⟨rfl, hs⟩
    have B := hs
    clear hs CS
    dsimp only
    go_wp2_with fail
    go_returns
    exact ⟨rfl, B⟩
   ·
    clear hb
    go_enter Try.func9, Try.ntmps9
    go_wp2_with fail
    refine (CS _ belowB).mono ?_
    rintro e w1 ⟨rfl, hs⟩
    have B := hs
    clear hs CS
    dsimp only
    go_wp2_with fail
    go_returns
    exact ⟨rfl, B⟩
   ·
    clear hb
    go_enter Try.func9, Try.ntmps9
    go_wp2_with fail
    refine (CS _ belowB).mono ?_
    rintro e w1 ⟨rfl, hs⟩
    have B := hs
    clear hs CS
    dsimp only
    go_wp2_with fail
    go_returns
    exact ⟨rfl, B⟩
  ·
   rw [if_neg hb]
   have hp := List.length_pos_iff.2 h0
   have d1 : ¬ den < 1 := by omega
   have d2 : ¬ 1000 < den := by omega
   have d3 : ¬ num < 0 := by omega
   have d4 : ¬ den < num := by omega
   have OR := fun w' (s : Steps w w') => vordered w' (hl.steps s) h0 md.1 key_pc he_pc
   have il := pct_lt (n := l.length) (num := num) (den := den) hp (by omega) (by omega) (by omega)
   have sl : (srt l).length = l.length := srt_len l
   have hn20 := md.1
   have ei : ((pctI l.length num den : Nat) : Int) = max 0 ((num * (l.length : Int) + den - 1).tdiv den - 1) := by
    unfold pctI
    have h1 : 0 ≤ num * (l.length : Int) := Int.mul_nonneg (by omega) (by omega)
    rw [Int.toNat_of_nonneg (by omega), Int.tdiv_eq_ediv_of_nonneg (by omega)]
   have mb : num * (l.length : Int) ≤ 1000 * 24 := Int.mul_le_mul (by omega) (by omega) (by omega) (by omega)
   have m0 : 0 ≤ num * (l.length : Int) := Int.mul_nonneg (by omega) (by omega)
   obtain ⟨s, hs⟩ : ∃ s, srt l = s := ⟨_, rfl⟩
   rw [hs] at OR sl ⊢
   obtain ⟨n, hN⟩ : ∃ n, l.length = n := ⟨_, rfl⟩
   rw [hN] at hp sl il hn20 ei mb m0 ⊢
   obtain ⟨la, lc, rfl⟩ := hl.shape
   rw [hN] at OR CS ⊢
   obtain ⟨i, hi⟩ : ∃ i, pctI n num den = i := ⟨_, rfl⟩
   rw [hi] at il ei ⊢
   obtain ⟨x, hx⟩ : ∃ x, s.getD i 0 = x := ⟨_, rfl⟩
   rw [hx]
   have HX := Hid.mk_ hx
   have q0 : 0 ≤ (num * (n : Int) + den - 1).tdiv den := Int.tdiv_nonneg (by omega) (by omega)
   have q1 : (num * (n : Int) + den - 1).tdiv den ≤ num * (n : Int) + den - 1 := by
    rw [Int.tdiv_eq_ediv_of_nonneg (by omega)]
    exact Int.ediv_le_self _ (by omega)
   have dne : den ≠ 0 := by omega
   clear hl hn hk hv h0 md h20 hs hN hi hx hb
   go_enter Try.func9, Try.ntmps9
   go_wp2_with fail
   refine (CS _ belowB).mono ?_
   rintro e w1 ⟨rfl, hs1⟩
   have B1 : Below w.heap.size w w1 := hs1
   clear hs1 CS
   dsimp only
   go_wp2_with fail
   refine (OR _ B1).mono ?_
   rintro e w2 ⟨v, rfl, hv, hs2⟩
   obtain ⟨va, vc, rfl⟩ := hv.shape
   obtain ⟨b, o, rfl, hb, hx0⟩ := hv.at' (t := i) (by omega)
   rw [sl]
   rw [HX.out] at hx0
   have B2 : Below w.heap.size w w2 := below_steps B1 (Nat.le_refl _) hs2
   clear hs2 hv OR HX sl
   dsimp only
   generalize hm : num * (n : Int) = m at *
   generalize hq : (m + den - 1).tdiv den = q at *
   by_cases hq1 : q - 1 ≤ 0
   ·
    have e0 : max 0 (q - 1) = 0 := by omega
    obtain rfl : i = 0 := by omega
    rw [Nat.add_zero] at hx0
    clear ei
    go_wp2_with fail
    go_returns
    exact ⟨rfl, B2⟩
   ·
    have e0 : max 0 (q - 1) = (i : Int) := ei.symm
    have e1 : q - 1 = (i : Int) := by omega
    clear ei
    go_wp2_with fail
    go_returns
    exact ⟨rfl, B2⟩
 ·
  rw [if_neg hk]
  obtain ⟨la, lc, rfl⟩ := hl.shape
  generalize askV l = c at *
  have h3 : (c == 0) = false := by simpa using hk
  have h4 : (c != 0) = true := by simpa using hk
  clear hl hn hk h20
  go_enter Try.func9, Try.ntmps9
  go_wp2_with fail
  refine (CS _ belowB).mono ?_
  rintro e w1 ⟨rfl, hs⟩
  have B := hs
  clear hs CS
  dsimp only
  go_wp2_with fail
  go_returns
  exact ⟨rfl, B⟩
def lenV : Value → Nat
 | .slice _ n _ => n
 | _ => 0
def Two (w : World) (base : Nat) (v u : Value) (l m : List Int) : Prop :=
 (l = [] ∧ m = [] ∧ ∃ b o b' o', v = .slice (some ⟨b, o, none⟩) 0 0 ∧ u = .slice (some ⟨b', o', none⟩) 0 0) ∨
 (∃ n, 0 < n ∧ l.length = n ∧ m.length = n ∧ RowU w base 3 1 v n (ints l) ∧ RowU w base 2 1 u n (ints m))
theorem Two.steps {w w' : World} {base : Nat} {v u : Value} {l m : List Int} (h : Two w base v u l m) (s : Steps w w') : Two w' base v u l m := by
 rcases h with h | ⟨n, h0, h1, h2, h4, h5⟩
 · exact .inl h
 · exact .inr ⟨n, h0, h1, h2, h4.keep (fun k hk => s.block k (h4.lt k hk).2), h5.keep (fun k hk => s.block k (h5.lt k hk).2)⟩
theorem Two.len {w : World} {base : Nat} {v u : Value} {l m : List Int} (h : Two w base v u l m) : m.length = l.length ∧ ∃ a c b d, v = .slice a l.length c ∧ u = .slice b m.length d := by
 rcases h with ⟨rfl, rfl, b, o, b', o', rfl, rfl⟩ | ⟨n, h0, rfl, h2, h4, h5⟩
 · exact ⟨rfl, _, _, _, _, rfl, rfl⟩
 ·
  obtain ⟨a, c, rfl⟩ := h4.len
  obtain ⟨b, d, rfl⟩ := h5.len
  exact ⟨h2, _, _, _, _, rfl, by rw [h2]⟩
def keepF (l : List Int) (k : Rat) (ix : List Nat) (i : Nat) : List Nat := (ix.take i).filter (fun i => keepB (pick l ix) k (l.getD i 0))
def clipS (l : List Int) (o : Option Rat) : List Nat × Nat × Int :=
 if askV l = 0 then (if facB o then ((clipR l (o.getD 0)).1, (clipR l (o.getD 0)).2, 0) else ([], 0, 2)) else ([], 0, askV l)
end Go.Proofs.Ytmpambmpknaldaa
