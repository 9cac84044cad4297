import Derived.Test.YtmpambmpknaldaaGreatLCe
import Derived.Test.YtmpambmpknaldaaGreatLCs
import Derived.ArgAppend
import Derived.Test.YtmpambmpknaldaaGreatLTf
import Derived.Test.YtmpambmpknaldaaGreatLVa
import Derived.Test.YtmpambmpknaldaaGreatLCc
set_option linter.unusedVariables false
set_option linter.unusedSimpArgs false
set_option maxHeartbeats 6400000
set_option maxRecDepth 1000000
namespace Go.Proofs.YtmpambmpknaldaaGreat
open Go.RowKit
def inI (ix : List Nat) : List Int := ix.map (fun (i : Nat) => (i : Int))
theorem inI_len (ix : List Nat) : (inI ix).length = ix.length := by simp [inI]
theorem inI_get (ix : List Nat) {t : Nat} (h : t < ix.length) : (inI ix).getD t 0 = ((ix.getD t 0 : Nat) : Int) := by simp [inI, List.getD, h]
theorem inI_snoc (ix : List Nat) (i : Nat) : inI (ix ++ [i]) = inI ix ++ [(i : Int)] := by simp [inI]
theorem pick_snoc (l : List Int) (ix : List Nat) (i : Nat) : pick l (ix ++ [i]) = pick l ix ++ [l.getD i 0] := by simp [pick]
theorem takeN_step {ix : List Nat} {t : Nat} (h : t < ix.length) : ix.take (t + 1) = ix.take t ++ [ix.getD t 0] := by
 rw [List.take_succ_eq_append_getElem h]
 simp [List.getD, h]
theorem getN_mem {ix : List Nat} {i : Nat} (h : i < ix.length) : ix.getD i 0 ∈ ix := by
 rw [List.getD, List.getElem?_eq_getElem h]
 exact List.getElem_mem h
theorem pick_val {l : List Int} (hv : valL l) {ix : List Nat} (h : ∀ i ∈ ix, i < l.length) (hl : ix.length ≤ 1000) : valL (pick l ix) := by
 refine ⟨by rw [pick_len]; exact hl, fun x hx => ?_⟩
 obtain ⟨i, hi, rfl⟩ := List.mem_map.1 hx
 exact hv.get (h i hi)
section
variable {ops : Array Oper} {rest : List Oper} {o : Oper} {a : Act} {w : World} {Q : Exit → Act → World → Prop}
theorem noU_ints (l : List Int) : noU32 (ints l).toArray = true := noU32_mem.2 (fun u hu => by
 unfold ints at hu
 obtain ⟨p, -, rfl⟩ := List.mem_map.1 hu
 rfl)
theorem app_copyU (hgd : o.guard = none) (s x : Operand) (ho : o.op = .call { callee := .builtin .append, args := #[s, x], argTypes := #[22, 22] })
  (g : Nat) (hs : a.eval s = .slice (some ⟨g, 0, none⟩) 0 0) (hb : Blk w g 2 #[]) (v : Value) (l : List Int) (hx : a.eval x = v) (hv : IntsR w v l) (h0 : 0 < l.length) (hl : l.length ≤ 100000)
  (h : ∀ v' w', RowU w' g 2 1 v' l.length (ints l) → w.grownBy w' (some g) → wpList Tryz.prog ops Q rest (a.put o.dst v') w') : wpList Tryz.prog ops Q (o :: rest) a w := by
 obtain ⟨ie, z, h1, h2, h3, h4, h5⟩ := infoJ
 refine wpList_plain hgd fun K hK => ?_
 obtain ⟨ao, cap, rfl⟩ := hv.shape
 obtain ⟨b, of, rfl, hbl, -⟩ := hv.at' h0
 have hlen : (ints l).length = l.length := by unfold ints; rw [List.length_map]
 have hr0 : RowU w g 2 1 (.slice (some ⟨g, 0, none⟩) 0 0) 0 [] := ⟨⟨rfl, .inr ⟨g, 0, #[], rfl, Nat.le_refl _, hb, Nat.le_refl _, by unfold maxLen; omega, rfl, rfl⟩⟩, fun g' cur e1 e2 => by
  have e3 : some g = some g' := e1
  rw [Option.some.injEq] at e3
  subst e3
  have hb' : w.heap[g]? = some (.cells #[] 2 (0, 0)) := hb
  have e4 := hb'.symm.trans e2
  simp only [Option.some.injEq, Obj.cells.injEq] at e4
  rw [← e4.1]; rfl⟩
 refine wp_append_U w s x 22 ho g 2 ie z 1 8 Tryz.underlying22 h1 h4 h2 h3 (by rw [h5]; rfl) (by rw [h5]; rfl) (by omega) (.slice (some ⟨g, 0, none⟩) 0 0) 0 [] hs hr0 ⟨b, of, none⟩ l.length cap (ints l) hx h0 (by rw [hlen]; omega) (fun j u hj => ?_) (fun u hu => ?_) (noU_ints l) (by unfold maxLen; omega) (by omega) (Nat.le_of_lt hb.lt) (fun v' w' hr hg => hK _ _ (h v' w' ?_ hg))
 ·
  have hjl : j < l.length := by
   rcases Nat.lt_or_ge j (ints l).length with g | g
   · rwa [hlen] at g
   · rw [List.getElem?_eq_none g] at hj; cases hj
  rw [show (⟨b, of, none⟩ : Addr).add j = ⟨b, of + j, none⟩ from Addr.add_lit ..]
  obtain ⟨b', of', e, -, hc⟩ := hv.at' hjl
  cases e
  rw [hc]
  unfold ints at hj
  rw [List.getElem?_map, List.getElem?_eq_getElem hjl] at hj
  rw [← hj, List.getD_eq_getElem?_getD, List.getElem?_eq_getElem hjl]
  rfl
 ·
  unfold ints at hu
  obtain ⟨p, -, rfl⟩ := List.mem_map.1 hu
  rfl
 ·
  rw [Nat.zero_add, List.nil_append] at hr
  exact hr
theorem app_firstX (hgd : o.guard = none) (s x : Operand) (ho : o.op = .call { callee := .builtin .append, args := #[s, x], argTypes := #[22, 22] })
  (b0 : Addr) (hs : a.eval s = .slice (some b0) 0 0) (g : Nat) (y : Int) (hx : a.eval x = .slice (some ⟨g, 0, none⟩) 1 1) (hb : Blk w g 2 #[.int .i64 y])
  (h : ∀ v' w', RowU w' w.heap.size 2 1 v' 1 (ints [y]) → w.grownBy w' none → wpList Tryz.prog ops Q rest (a.put o.dst v') w') : wpList Tryz.prog ops Q (o :: rest) a w := by
 obtain ⟨ie, z, h1, h2, h3, h4, h5⟩ := infoJ
 have hc0 : ∀ j u, ([.int .i64 y] : List Value)[j]? = some u → w.cell? ((⟨g, 0, none⟩ : Addr).add j) = some u := fun j u hj => by
  have hc := hb.cell j
  rw [show (⟨g, 0, none⟩ : Addr).add j = ⟨g, 0 + j, none⟩ from Addr.add_lit .., Nat.zero_add, hc]
  simpa using hj
 refine wpList_plain hgd fun K hK' => ?_
 have hr := run_append_grow (P := Tryz.prog) w 22 o.type 2 ie z Tryz.underlying22 h1 h4 b0 0 0 [] (by simp) (fun j u hj => by cases hj) ⟨g, 0, none⟩ 1 1 [.int .i64 y] (by rw [h2]; rfl) hc0 (by omega) (by omega) (growslice_fits (by omega) (by rw [h3]; omega))
 have hge := grownCap_ge w (0 + 1) 0 2
 have hcm : grownCap w (0 + 1) 0 2 ≤ maxLen := grownCap_le_maxLen w (0 + 1) 0 2 (by unfold maxLen; omega)
 unfold Oper.wp
 simp [execOp, ho, resolve, invoke, builtin, hs, hx, hr, Result.andThen]
 simp only [Nat.zero_add] at hge hcm hr
 refine hK' _ _ (h _ _ ⟨⟨rfl, .inr ⟨w.heap.size, _, _, rfl, Nat.le_refl _, heap_alloc_new w.drew _, hge, hcm, ?_, ?_⟩⟩, fun g' cur e1 e2 => ?_⟩ ⟨rfl, rfl, rfl, by simp, fun k hk _ => by first | exact heap_alloc_old w.drew _ hk | exact heap_alloc_old w.drew _ k hk⟩)
 ·
  simp only [Array.size_append, List.size_toArray, size_zeroCells, h5, Nat.mul_one]
  simp only [List.length_cons, List.length_nil]
  show _ + _ * 1 = _
  omega
 · simp [ints]
 ·
  have e3 : some w.heap.size = some g' := e1
  rw [Option.some.injEq] at e3
  subst e3
  have e4 := (heap_alloc_new w.drew _).symm.trans e2
  simp only [Option.some.injEq, Obj.cells.injEq] at e4
  rw [← e4.1]
  simp only [noU32_arr, noU32_zero (show noU32 z.cells = true by rw [h5]; rfl)]
  rfl
theorem app_firstI (hgd : o.guard = none) (s x : Operand) (ho : o.op = .call { callee := .builtin .append, args := #[s, x], argTypes := #[34, 34] })
  (b0 : Addr) (hs : a.eval s = .slice (some b0) 0 0) (g : Nat) (y : Int) (hx : a.eval x = .slice (some ⟨g, 0, none⟩) 1 1) (hb : Blk w g 3 #[.int .i64 y])
  (h : ∀ v' w', RowU w' w.heap.size 3 1 v' 1 (ints [y]) → w.grownBy w' none → wpList Tryz.prog ops Q rest (a.put o.dst v') w') : wpList Tryz.prog ops Q (o :: rest) a w := by
 obtain ⟨ie, z, h1, h2, h3, h4, h5⟩ := infoI
 have hc0 : ∀ j u, ([.int .i64 y] : List Value)[j]? = some u → w.cell? ((⟨g, 0, none⟩ : Addr).add j) = some u := fun j u hj => by
  have hc := hb.cell j
  rw [show (⟨g, 0, none⟩ : Addr).add j = ⟨g, 0 + j, none⟩ from Addr.add_lit .., Nat.zero_add, hc]
  simpa using hj
 refine wpList_plain hgd fun K hK' => ?_
 have hr := run_append_grow (P := Tryz.prog) w 34 o.type 3 ie z Tryz.underlying34 h1 h4 b0 0 0 [] (by simp) (fun j u hj => by cases hj) ⟨g, 0, none⟩ 1 1 [.int .i64 y] (by rw [h2]; rfl) hc0 (by omega) (by omega) (growslice_fits (by omega) (by rw [h3]; omega))
 have hge := grownCap_ge w (0 + 1) 0 3
 have hcm : grownCap w (0 + 1) 0 3 ≤ maxLen := grownCap_le_maxLen w (0 + 1) 0 3 (by unfold maxLen; omega)
 unfold Oper.wp
 simp [execOp, ho, resolve, invoke, builtin, hs, hx, hr, Result.andThen]
 simp only [Nat.zero_add] at hge hcm hr
 refine hK' _ _ (h _ _ ⟨⟨rfl, .inr ⟨w.heap.size, _, _, rfl, Nat.le_refl _, heap_alloc_new w.drew _, hge, hcm, ?_, ?_⟩⟩, fun g' cur e1 e2 => ?_⟩ ⟨rfl, rfl, rfl, by simp, fun k hk _ => by first | exact heap_alloc_old w.drew _ hk | exact heap_alloc_old w.drew _ k hk⟩)
 ·
  simp only [Array.size_append, List.size_toArray, size_zeroCells, h5, Nat.mul_one]
  simp only [List.length_cons, List.length_nil]
  show _ + _ * 1 = _
  omega
 · simp [ints]
 ·
  have e3 : some w.heap.size = some g' := e1
  rw [Option.some.injEq] at e3
  subst e3
  have e4 := (heap_alloc_new w.drew _).symm.trans e2
  simp only [Option.some.injEq, Obj.cells.injEq] at e4
  rw [← e4.1]
  simp only [noU32_arr, noU32_zero (show noU32 z.cells = true by rw [h5]; rfl)]
  rfl
end
theorem rowS_of {w : World} {base n : Nat} {v : Value} {l : List Int} (h : RowU w base 2 1 v n (ints l)) (hl : l.length = n) (h0 : 0 < n) : ∃ g cap, v = .slice (some ⟨g, 0, none⟩) n cap ∧ base ≤ g ∧ n ≤ cap ∧ RowS w g n (fun i => l.getD i 0) := by
 rcases h.own.2 with ⟨rfl, e⟩ | ⟨g, cap, cur, rfl, h1, h2, h3, h4, h5, h6⟩
 · omega
 ·
  rw [Nat.mul_one] at h6 h5
  exact ⟨g, cap, rfl, h1, h3, RowS.of_ints h2 hl (h.noU g cur rfl h2) h6 (by omega)⟩
theorem vclone {vl : Value} {l : List Int} (w : World) (hl : IntsR w vl l) (h0 : l ≠ []) (hn : l.length ≤ 100000) :
  Calls Tryz.prog 77 #[vl] w fun e w' => ∃ v, e = .returned v ∧ RowU w' w.heap.size 2 1 v l.length (ints l) ∧ Steps w w' := by
 have hp := List.length_pos_iff.2 h0
 obtain ⟨la, lc, rfl⟩ := hl.shape
 obtain ⟨b, of, rfl, hbl, -⟩ := hl.at' hp
 have HA := Hid.mk_ (hl.steps ((Below.refl _ _).alloc (Nat.le_refl _) (.cells #[] 2)))
 obtain ⟨n, hN⟩ : ∃ n, l.length = n := ⟨_, rfl⟩
 have HN := Hid.mk_ hN
 rw [hN] at HA hp hn ⊢
 clear hl h0 hN
 have heq : ∀ w', (binOp .eql 22 (.slice (some ⟨b, of, none⟩) n lc) (.slice none 0 0)).run Tryz.prog w' = .ok (.bool false) w' := fun w' => run_eql_slice_nil w' _ _ _ _ _ Tryz.underlying22
 go_enter Tryz.func77, Tryz.ntmps77
 repeat' (first | ((with_reducible show wpList _ _ _ (⟨some 7, _, _, _, _, _⟩ :: _) _ _); refine app_copyU rfl (.tmp 5) (.tmp 6) rfl w.heap.size rfl (Blk.new _ _ _) (.slice (some ⟨b, of, none⟩) n lc) l rfl HA.out (by have := HN.out; omega) (by have := HN.out; omega) (fun v7 w7 hr7 gr => ?_)) | go_values | go_skip | go_guarded | go_step | go_upon)
 have B := ((Below.refl w.heap.size w).alloc (Nat.le_refl _) (.cells #[] 2)).grown gr (by rw [World.size_alloc]; omega) (fun k hk => by injection hk with hk; have e : w.heap.size = k := hk; omega)
 go_returns
 exact ⟨_, rfl, by rw [← HN.out]; exact hr7, B⟩
theorem key_tw (x : Int) (w : World) : Calls Tryz.prog 87 #[.int .i64 x] w fun e w' => e = .returned (.int .i64 x) ∧ Steps w w' := by
 go_enter Tryz.func87, Tryz.ntmps87
 go_wp2
 go_returns
 exact ⟨rfl, belowB⟩
def IdKey (f : Nat) : Prop := ∀ x w, Calls Tryz.prog f #[.int .i64 x] w fun e w' => e = .returned (.int .i64 x) ∧ Steps w w'
theorem vless {p : Nat} {f : Nat} (x y : Int) (w : World) (hk : IdKey f) (he : ∀ args w, (callFunc f args).run Tryz.prog w = .ok (.enter f args) w) (hb : Blk w p 84 #[.func (.func f) #[] #[]]) :
  Calls Tryz.prog 89 #[.int .i64 x, .int .i64 y, .pointer (some ⟨p, 0, none⟩)] w fun e w' => e = .returned (.int .i64 (cmpI x y)) ∧ Steps w w' := by
 have CC := fun w' => ccmp64 x y w'
 generalize cmpI x y = c at *
 go_enter Tryz.func89, Tryz.ntmps89
 repeat' (first | go_values | go_skip | go_guarded | go_step | go_upon)
 refine Reg.wp_chain (fun D v W => Below w.heap.size w W ∧ True) (Reg.inl [2, 5, 6]) (Reg.gv [(2, fun z_ => z_ = .int .i64 x), (5, fun z_ => z_ = .int .i64 y), (6, fun z_ => z_ = .int .i64 c)]) Reg.None_ (fun _ => Reg.Any) (fun _ _ => False) (Reg.pl []) (Reg.pl [])
  (by kernel_rfl) (by kernel_rfl) (by kernel_rfl) (Reg.gv_some _ (by intro p hp; simp only [List.mem_cons, List.not_mem_nil, or_false] at hp; rcases hp with rfl | rfl | rfl <;> first | exact ⟨_, rfl⟩ | exact ⟨_, none, 0, 0, rfl⟩ | exact ⟨_, false, none, 0, 0, rfl⟩ | exact ⟨_, false, none, 0, 0, false, none, 0, 0, rfl⟩)) (fun _ => ⟨belowB, trivial⟩) (fun _ _ _ _ _ h => h) (fun _ _ _ _ _ _ _ _ _ _ _ _ _ => Reg.none_) (fun _ _ _ _ h => h.elim) (fun ops' Q' hops hQ => ?_)
 apply Reg.RP rfl rfl rfl 6 rfl rfl
 ·
  intro D v W hc hj hf K' hK'
  obtain ⟨j0, _⟩ := hj
  have c0 := (hb.steps j0).c 0 rfl
  go_step
  exact hK'.out
 · rfl
 apply Reg.RP rfl rfl rfl 7 rfl rfl
 ·
  intro D v W hc hj hf K' hK'
  go_step
  exact hK'.out
 · rfl
 refine Reg.RC_call rfl (tlt rfl) rfl (fun D v W hc hj hf K' hK' => ?_) ?_
 ·
  obtain ⟨j0, _⟩ := hj
  go_step
  refine (hk x _).mono ?_
  rintro e W2 ⟨rfl, hs⟩
  exact hK'.out _ W2 Reg.any ⟨jst j0 hs, trivial⟩ trivial rfl
 rintro _ rfl
 refine Reg.RC_at (b := ⟨#[_,_,_,_,_,_,_,_,_,_,_,_,_], _⟩) rfl ?_
 apply Reg.RP rfl rfl rfl 9 rfl rfl
 ·
  intro D v W hc hj hf K' hK'
  obtain ⟨j0, _⟩ := hj
  have c0 := (hb.steps j0).c 0 rfl
  go_step
  exact hK'.out
 · rfl
 apply Reg.RP rfl rfl rfl 10 rfl rfl
 ·
  intro D v W hc hj hf K' hK'
  go_step
  exact hK'.out
 · rfl
 refine Reg.RC_call rfl (tlt rfl) rfl (fun D v W hc hj hf K' hK' => ?_) ?_
 ·
  obtain ⟨j0, _⟩ := hj
  go_step
  refine (hk y _).mono ?_
  rintro e W2 ⟨rfl, hs⟩
  exact hK'.out _ W2 Reg.any ⟨jst j0 hs, trivial⟩ trivial rfl
 rintro _ rfl
 refine Reg.RC_at (b := ⟨#[_,_,_,_,_,_,_,_,_,_,_,_,_], _⟩) rfl ?_
 refine Reg.RC_call rfl (tlt rfl) rfl (fun D v W hc hj hf K' hK' => ?_) ?_
 ·
  obtain ⟨j0, _⟩ := hj
  go_step
  refine (CC _).mono ?_
  rintro e W2 ⟨rfl, hs⟩
  exact hK'.out _ W2 Reg.any ⟨jst j0 hs, trivial⟩ trivial rfl
 rintro _ rfl
 refine Reg.RC_at (b := ⟨#[_,_,_,_,_,_,_,_,_,_,_,_,_], _⟩) rfl ?_
 apply Reg.RP rfl rfl rfl 5 rfl rfl
 ·
  intro D v W hc hj hf K' hK'
  go_step
  exact hK'.out
 · rfl
 refine Reg.RC_end (fun D v w9 hd hj hf => ?_)
 obtain ⟨j0, _⟩ := hj
 have B := j0
 clear hd hf j0
 refine hQ _ _ ?_
 clear hQ hops Q' ops'
 repeat' (first | go_values | go_skip | go_guarded | go_step | go_upon)
 go_returns
 exact ⟨rfl, B⟩
theorem RowS.drew {w : World} {g n : Nat} {f : Nat → Int} (h : RowS w g n f) : RowS w.drew g n f := by
 obtain ⟨cs, hb, r⟩ := h
 exact ⟨cs, hb.drew, r⟩
theorem RowS.fr {w : World} {g n : Nat} {f : Nat → Int} (h : RowS w g n f) (i : Nat) : w.frozen? ⟨g, i, none⟩ = false := by
 obtain ⟨cs, hb, _⟩ := h
 exact hb.fr i
theorem vinsert {g n cap p : Nat} {f : Nat → Int} (w : World) (a b : Nat) (hr : RowS w g n f) (hab : a < b) (hb : b ≤ n) (hn : n ≤ 1000) (CM : ∀ W x y, Below g w W → Calls Tryz.prog 89 #[.int .i64 x, .int .i64 y, .pointer (some ⟨p, 0, none⟩)] W fun e w2 => e = .returned (.int .i64 (cmpI x y)) ∧ Steps W w2) :
  Calls Tryz.prog 128 #[.slice (some ⟨g, 0, none⟩) n cap, .int .i64 a, .int .i64 b, .func (.func 89) #[] #[.pointer (some ⟨p, 0, none⟩)]] w fun e w' => e = .returned (.tuple #[]) ∧ (∃ f', RowS w' g n f' ∧ SP a b f f' ∧ Up f' a b) ∧ Below g w w' := by
 have gl := hr.lt
 have HR := Hid.mk_ hr
 clear hr
 go_enter Tryz.func128, Tryz.ntmps128
 go_wp2_with fail
 go_loopw [8] (fun kk wr => ∃ (i : Nat) (f' : Nat → Int), a + 1 ≤ i ∧ i ≤ b ∧ kk = .int .i64 i ∧ RowS wr g n f' ∧ SP a b f f' ∧ Up f' a i ∧ Below g w wr) (fun kk _ => b - (intOf kk).toNat)
 case atStart => exact ⟨a + 1, f, by omega, by omega, by go_num, HR.out, SP.refl f, Up.none (by omega), Below.refl g w⟩
 case round =>
  obtain ⟨i, f1, hai, hib, rfl, hr1, sp1, up1, B⟩ := hrel
  have HS1 := Hid.mk_ (And.intro sp1 up1)
  have HR1 := Hid.mk_ hr1
  clear sp1 up1 hr1 HR
  rcases Nat.lt_or_ge i b with ib | ib
  ·
   have hlt : decide ((i : Int) < (b : Int)) = true := decide_eq_true (by omega)
   go_wp2_with fail
   go_loopw [9] (fun kk wq => ∃ (j : Nat) (f' : Nat → Int), a ≤ j ∧ j ≤ i ∧ kk = .int .i64 j ∧ RowS wq g n f' ∧ SP a b f f' ∧ Ins f' a j i ∧ Below g w wq) (fun kk _ => (intOf kk).toNat)
   case atStart => exact ⟨i, f1, by omega, by omega, rfl, HR1.out, HS1.out.1, Ins.start HS1.out.2, B⟩
   case round =>
    rename World => wq
    clear B HR1 HS1
    obtain ⟨j, f2, haj, hji, rfl, hr2, sp2, in2, Bq⟩ := hrel
    have gq := hr2.lt
    have HR2 := Hid.mk_ hr2
    have HS2 := Hid.mk_ (And.intro sp2 in2)
    clear hr2 sp2 in2
    rcases Nat.lt_or_ge a j with ja | ja
    ·
     have hgt : decide ((a : Int) < (j : Int)) = true := decide_eq_true (by omega)
     have cj := HR2.out.c (i := j) (by omega)
     have cj1 := HR2.out.c (i := j - 1) (by omega)
     have ej : ((j : Int) - 1) = ((j - 1 : Nat) : Int) := by omega
     obtain ⟨x, hx⟩ : ∃ x, f2 j = x := ⟨_, rfl⟩
     obtain ⟨y, hy⟩ : ∃ y, f2 (j - 1) = y := ⟨_, rfl⟩
     rw [hx] at cj
     rw [hy] at cj1
     have CMx := fun W h => CM W x y h
     obtain ⟨c, hc⟩ : ∃ c, cmpI x y = c := ⟨_, rfl⟩
     have HXY := Hid.mk_ (And.intro hx hy)
     by_cases lt : x < y
     ·
      have c0 : c < 0 := by rw [← hc]; exact cmpI_neg.2 lt
      have CMc := fun W h => CMx W h
      simp only [hc] at CMc
      clear CMx hx hy hc
      repeat' (first | go_values | go_skip | go_guarded | go_step | go_upon)
      refine Reg.wp_chain (fun D v W => Below wq.heap.size wq W ∧ True) (Reg.inl [14]) (Reg.gv [(14, fun z_ => z_ = .int .i64 c)]) Reg.None_ (fun _ => Reg.Any) (fun _ _ => False) (Reg.pl []) (Reg.pl [])
       (by kernel_rfl) (by kernel_rfl) (by kernel_rfl) (Reg.gv_some _ (by intro p hp; simp only [List.mem_cons, List.not_mem_nil, or_false] at hp; rcases hp with rfl <;> first | exact ⟨_, rfl⟩ | exact ⟨_, none, 0, 0, rfl⟩ | exact ⟨_, false, none, 0, 0, rfl⟩ | exact ⟨_, false, none, 0, 0, false, none, 0, 0, rfl⟩)) (fun _ => ⟨belowB, trivial⟩) (fun _ _ _ _ _ h => h) (fun _ _ _ _ _ _ _ _ _ _ _ _ _ => Reg.none_) (fun _ _ _ _ h => h.elim) (fun ops' Q' hops hQ => ?_)
      apply Reg.RP rfl rfl rfl 18 rfl rfl
      ·
       intro D v W hc hj hf K' hK'
       go_step
       exact hK'.out
      · rfl
      apply Reg.RP rfl rfl rfl 19 rfl rfl
      ·
       intro D v W hc hj hf K' hK'
       go_step
       exact hK'.out
      · rfl
      apply Reg.RP rfl rfl rfl 20 rfl rfl
      ·
       intro D v W hc hj hf K' hK'
       go_step
       exact hK'.out
      · rfl
      apply Reg.RP rfl rfl rfl 21 rfl rfl
      ·
       intro D v W hc hj hf K' hK'
       go_step
       exact hK'.out
      · rfl
      apply Reg.RP rfl rfl (by rw [hops]; rfl) 22 rfl rfl
      ·
       intro D v W hc hj hf K' hK'
       go_step
       exact hK'.out
      · rfl
      apply Reg.RP rfl rfl (by rw [hops]; rfl) 23 rfl rfl
      ·
       intro D v W hc hj hf K' hK'
       go_step
       exact hK'.out
      · rfl
      apply Reg.RP rfl rfl (by rw [hops]; rfl) 24 rfl rfl
      ·
       intro D v W hc hj hf K' hK'
       go_step
       exact hK'.out
      · rfl
      apply Reg.RP rfl rfl (by rw [hops]; rfl) 25 rfl rfl
      ·
       intro D v W hc hj hf K' hK'
       go_step
       exact hK'.out
      · rfl
      apply Reg.RP rfl rfl (by rw [hops]; rfl) 26 rfl rfl
      ·
       intro D v W hc hj hf K' hK'
       obtain ⟨j0, _⟩ := hj
       have c0 : W.cell? ⟨g, j, none⟩ = some (.int .i64 x) := (j0.cell (p := ⟨g, _, none⟩) gq).trans cj
       go_step
       exact hK'.out
      · rfl
      apply Reg.RP rfl rfl (by rw [hops]; rfl) 27 rfl rfl
      ·
       intro D v W hc hj hf K' hK'
       go_step
       exact hK'.out
      · rfl
      apply Reg.RP rfl rfl (by rw [hops]; rfl) 28 rfl rfl
      ·
       intro D v W hc hj hf K' hK'
       go_step
       exact hK'.out
      · rfl
      apply Reg.RP rfl rfl (by rw [hops]; rfl) 29 rfl rfl
      ·
       intro D v W hc hj hf K' hK'
       go_step
       exact hK'.out
      · rfl
      apply Reg.RP rfl rfl (by rw [hops]; rfl) 30 rfl rfl
      ·
       intro D v W hc hj hf K' hK'
       go_step
       exact hK'.out
      · rfl
      apply Reg.RP rfl rfl (by rw [hops]; rfl) 31 rfl rfl
      ·
       intro D v W hc hj hf K' hK'
       obtain ⟨j0, _⟩ := hj
       have c0 : W.cell? ⟨g, j - 1, none⟩ = some (.int .i64 y) := (j0.cell (p := ⟨g, _, none⟩) gq).trans cj1
       go_step
       exact hK'.out
      · rfl
      refine Reg.RC_call rfl (tlt rfl) (by rw [hops]; rfl) (fun D v W hc hj hf K' hK' => ?_) ?_
      ·
       obtain ⟨j0, _⟩ := hj
       go_step
       refine (CMc _ (below_steps Bq (Nat.le_of_lt gl) j0)).mono ?_
       rintro e W2 ⟨rfl, hs⟩
       exact hK'.out _ W2 Reg.any ⟨jst j0 hs, trivial⟩ trivial rfl
      rintro _ rfl
      refine Reg.RC_at (b := ⟨#[_,_,_,_,_,_,_,_,_,_,_,_,_,_,_,_,_,_,_,_,_,_,_,_,_,_,_,_,_,_,_,_,_,_,_,_,_,_,_,_,_,_,_,_,_,_,_,_,_,_,_,_,_], _⟩) rfl ?_
      apply Reg.RP rfl rfl (by rw [hops]; rfl) 33 rfl rfl
      ·
       intro D v W hc hj hf K' hK'
       go_step
       exact hK'.out
      · rfl
      apply Reg.RP rfl rfl rfl 34 rfl rfl
      ·
       intro D v W hc hj hf K' hK'
       go_step
       exact hK'.out
      · rfl
      refine Reg.RC_end (fun D v w9 hd hj hf => ?_)
      obtain ⟨j0, _⟩ := hj
      have st9 := j0
      clear hd hf j0
      refine hQ _ _ ?_
      clear hQ hops Q' ops'
      have B9 := below_steps Bq (Nat.le_of_lt gl) st9
      have hr9 := HR2.out.steps st9
      obtain ⟨hx, hy⟩ := HXY.out
      have cj9 : w9.cell? ⟨g, j, none⟩ = some (.int .i64 x) := (st9.cell (p := ⟨g, _, none⟩) gq).trans cj
      have cj19 : w9.cell? ⟨g, j - 1, none⟩ = some (.int .i64 y) := (st9.cell (p := ⟨g, _, none⟩) gq).trans cj1
      have fj9 := hr9.fr j
      have fj19 := hr9.fr (j - 1)
      have gq9 := hr9.lt
      have HR9 := Hid.mk_ hr9
      have HXY2 := Hid.mk_ (And.intro hx hy)
      clear hx hy hr9 HXY cj cj1 gq st9
      go_upto_region 6 with fail
      go_region
      have lt2 : f2 j < f2 (j - 1) := by have := HXY2.out; omega
      have r2 : RowS ((w9.setCell ⟨g, j, none⟩ (.int .i64 y)).setCell ⟨g, j - 1, none⟩ (.int .i64 x)).drew g n (swp f2 j (j - 1)) := by
       have := (HR9.out.swap (i := j) (j := j - 1) (by omega) (by omega)).drew
       rw [HXY2.out.1, HXY2.out.2] at this
       exact this
      have b2 : Below g w ((w9.setCell ⟨g, j, none⟩ (.int .i64 y)).setCell ⟨g, j - 1, none⟩ (.int .i64 x)).drew := (Below.setCell (p := ⟨g, j - 1, none⟩) (Below.setCell (p := ⟨g, j, none⟩) B9 (Nat.le_refl _) _) (Nat.le_refl _) _).drew
      have HZ := Hid.mk_ (And.intro r2 b2)
      have HI := Hid.mk_ (Ins.step HS2.out.2 ja hji lt2)
      have HP := Hid.mk_ (HS2.out.1.swap (i := j) (j := j - 1) (by omega) (by omega) (by omega) (by omega))
      generalize ((w9.setCell ⟨g, j, none⟩ (.int .i64 y)).setCell ⟨g, j - 1, none⟩ (.int .i64 x)).drew = w10 at *
      clear r2 b2 lt2 cj9 cj19 fj9 fj19 gq9 HR9 HXY2 B9
      repeat' (first | go_values | go_skip | go_guarded | go_step | go_upon)
      go_roundw
      case rel => exact ⟨j - 1, swp f2 j (j - 1), by omega, by omega, by go_num, HZ.out.1, HP.out, HI.out, HZ.out.2⟩
      case measure => simp [intOf]; omega
     ·
      have c0 : ¬ c < 0 := fun h => lt (cmpI_neg.1 (by rw [hc]; exact h))
      have dn := Hid.mk_ (Ins.done HS2.out.2 hji (.inr (by rw [hx, hy]; exact lt)) haj)
      have CMc := fun W h => CMx W h
      simp only [hc] at CMc
      clear CMx hx hy hc
      repeat' (first | go_values | go_skip | go_guarded | go_step | go_upon)
      refine Reg.wp_chain (fun D v W => Below wq.heap.size wq W ∧ True) (Reg.inl [14]) (Reg.gv [(14, fun z_ => z_ = .int .i64 c)]) Reg.None_ (fun _ => Reg.Any) (fun _ _ => False) (Reg.pl []) (Reg.pl [])
       (by kernel_rfl) (by kernel_rfl) (by kernel_rfl) (Reg.gv_some _ (by intro p hp; simp only [List.mem_cons, List.not_mem_nil, or_false] at hp; rcases hp with rfl <;> first | exact ⟨_, rfl⟩ | exact ⟨_, none, 0, 0, rfl⟩ | exact ⟨_, false, none, 0, 0, rfl⟩ | exact ⟨_, false, none, 0, 0, false, none, 0, 0, rfl⟩)) (fun _ => ⟨belowB, trivial⟩) (fun _ _ _ _ _ h => h) (fun _ _ _ _ _ _ _ _ _ _ _ _ _ => Reg.none_) (fun _ _ _ _ h => h.elim) (fun ops' Q' hops hQ => ?_)
      apply Reg.RP rfl rfl rfl 18 rfl rfl
      ·
       intro D v W hc hj hf K' hK'
       go_step
       exact hK'.out
      · rfl
      apply Reg.RP rfl rfl rfl 19 rfl rfl
      ·
       intro D v W hc hj hf K' hK'
       go_step
       exact hK'.out
      · rfl
      apply Reg.RP rfl rfl rfl 20 rfl rfl
      ·
       intro D v W hc hj hf K' hK'
       go_step
       exact hK'.out
      · rfl
      apply Reg.RP rfl rfl rfl 21 rfl rfl
      ·
       intro D v W hc hj hf K' hK'
       go_step
       exact hK'.out
      · rfl
      apply Reg.RP rfl rfl (by rw [hops]; rfl) 22 rfl rfl
      ·
       intro D v W hc hj hf K' hK'
       go_step
       exact hK'.out
      · rfl
      apply Reg.RP rfl rfl (by rw [hops]; rfl) 23 rfl rfl
      ·
       intro D v W hc hj hf K' hK'
       go_step
       exact hK'.out
      · rfl
      apply Reg.RP rfl rfl (by rw [hops]; rfl) 24 rfl rfl
      ·
       intro D v W hc hj hf K' hK'
       go_step
       exact hK'.out
      · rfl
      apply Reg.RP rfl rfl (by rw [hops]; rfl) 25 rfl rfl
      ·
       intro D v W hc hj hf K' hK'
       go_step
       exact hK'.out
      · rfl
      apply Reg.RP rfl rfl (by rw [hops]; rfl) 26 rfl rfl
      ·
       intro D v W hc hj hf K' hK'
       obtain ⟨j0, _⟩ := hj
       have c0 : W.cell? ⟨g, j, none⟩ = some (.int .i64 x) := (j0.cell (p := ⟨g, _, none⟩) gq).trans cj
       go_step
       exact hK'.out
      · rfl
      apply Reg.RP rfl rfl (by rw [hops]; rfl) 27 rfl rfl
      ·
       intro D v W hc hj hf K' hK'
       go_step
       exact hK'.out
      · rfl
      apply Reg.RP rfl rfl (by rw [hops]; rfl) 28 rfl rfl
      ·
       intro D v W hc hj hf K' hK'
       go_step
       exact hK'.out
      · rfl
      apply Reg.RP rfl rfl (by rw [hops]; rfl) 29 rfl rfl
      ·
       intro D v W hc hj hf K' hK'
       go_step
       exact hK'.out
      · rfl
      apply Reg.RP rfl rfl (by rw [hops]; rfl) 30 rfl rfl
      ·
       intro D v W hc hj hf K' hK'
       go_step
       exact hK'.out
      · rfl
      apply Reg.RP rfl rfl (by rw [hops]; rfl) 31 rfl rfl
      ·
       intro D v W hc hj hf K' hK'
       obtain ⟨j0, _⟩ := hj
       have c0 : W.cell? ⟨g, j - 1, none⟩ = some (.int .i64 y) := (j0.cell (p := ⟨g, _, none⟩) gq).trans cj1
       go_step
       exact hK'.out
      · rfl
      refine Reg.RC_call rfl (tlt rfl) (by rw [hops]; rfl) (fun D v W hc hj hf K' hK' => ?_) ?_
      ·
       obtain ⟨j0, _⟩ := hj
       go_step
       refine (CMc _ (below_steps Bq (Nat.le_of_lt gl) j0)).mono ?_
       rintro e W2 ⟨rfl, hs⟩
       exact hK'.out _ W2 Reg.any ⟨jst j0 hs, trivial⟩ trivial rfl
      rintro _ rfl
      refine Reg.RC_at (b := ⟨#[_,_,_,_,_,_,_,_,_,_,_,_,_,_,_,_,_,_,_,_,_,_,_,_,_,_,_,_,_,_,_,_,_,_,_,_,_,_,_,_,_,_,_,_,_,_,_,_,_,_,_,_,_], _⟩) rfl ?_
      apply Reg.RP rfl rfl (by rw [hops]; rfl) 33 rfl rfl
      ·
       intro D v W hc hj hf K' hK'
       go_step
       exact hK'.out
      · rfl
      apply Reg.RP rfl rfl rfl 34 rfl rfl
      ·
       intro D v W hc hj hf K' hK'
       go_step
       exact hK'.out
      · rfl
      refine Reg.RC_end (fun D v w9 hd hj hf => ?_)
      obtain ⟨j0, _⟩ := hj
      have st9 := j0
      clear hd hf j0
      refine hQ _ _ ?_
      clear hQ hops Q' ops'
      have B9 := below_steps Bq (Nat.le_of_lt gl) st9
      have hr9 := Hid.mk_ (HR2.out.steps st9)
      clear st9 HR2
      repeat' (first | go_values | go_skip | go_guarded | go_step | go_upon)
      go_roundw
      case rel => exact ⟨i + 1, f2, by omega, by omega, by go_num, hr9.out, HS2.out.1, dn.out, B9⟩
      case measure => simp [intOf]; omega
    ·
     obtain rfl : j = a := by omega
     have hgt : decide ((j : Int) < (j : Int)) = false := decide_eq_false (by omega)
     have dn := Hid.mk_ (Ins.done HS2.out.2 hji (.inl rfl) haj)
     repeat' (first | go_values | go_skip | go_guarded | go_step | go_upon)
     refine Reg.wp_chain (fun D v W => Below wq.heap.size wq W ∧ True) (Reg.inl []) (Reg.gv []) Reg.None_ (fun _ => Reg.Any) (fun _ _ => False) (Reg.pl []) (Reg.pl [])
      (by kernel_rfl) (by kernel_rfl) (by kernel_rfl) (Reg.gv_some _ (by intro p hp; cases hp)) (fun _ => ⟨belowB, trivial⟩) (fun _ _ _ _ _ h => h) (fun _ _ _ _ _ _ _ _ _ _ _ _ _ => Reg.none_) (fun _ _ _ _ h => h.elim) (fun ops' Q' hops hQ => ?_)
     apply Reg.RP rfl rfl rfl 18 rfl rfl
     ·
      intro D v W hc hj hf K' hK'
      go_step
      exact hK'.out
     · rfl
     apply Reg.RP rfl rfl rfl 19 rfl rfl
     ·
      intro D v W hc hj hf K' hK'
      go_step
      exact hK'.out
     · rfl
     apply Reg.RP rfl rfl rfl 20 rfl rfl
     ·
      intro D v W hc hj hf K' hK'
      go_step
      exact hK'.out
     · rfl
     apply Reg.RP rfl rfl rfl 21 rfl rfl
     ·
      intro D v W hc hj hf K' hK'
      go_step
      exact hK'.out
     · rfl
     refine Reg.RC_skip rfl (by rw [hops]; rfl) (Reg.RC_at (b := ⟨#[_,_,_,_,_,_,_,_,_,_,_,_,_,_,_,_,_,_,_,_,_,_,_,_,_,_,_,_,_,_,_,_,_,_,_,_,_,_,_,_,_,_,_,_,_,_,_,_,_,_,_,_,_], _⟩) rfl ?_)
     refine Reg.RC_skip rfl (by rw [hops]; rfl) (Reg.RC_at (b := ⟨#[_,_,_,_,_,_,_,_,_,_,_,_,_,_,_,_,_,_,_,_,_,_,_,_,_,_,_,_,_,_,_,_,_,_,_,_,_,_,_,_,_,_,_,_,_,_,_,_,_,_,_,_,_], _⟩) rfl ?_)
     refine Reg.RC_skip rfl (by rw [hops]; rfl) (Reg.RC_at (b := ⟨#[_,_,_,_,_,_,_,_,_,_,_,_,_,_,_,_,_,_,_,_,_,_,_,_,_,_,_,_,_,_,_,_,_,_,_,_,_,_,_,_,_,_,_,_,_,_,_,_,_,_,_,_,_], _⟩) rfl ?_)
     refine Reg.RC_skip rfl (by rw [hops]; rfl) (Reg.RC_at (b := ⟨#[_,_,_,_,_,_,_,_,_,_,_,_,_,_,_,_,_,_,_,_,_,_,_,_,_,_,_,_,_,_,_,_,_,_,_,_,_,_,_,_,_,_,_,_,_,_,_,_,_,_,_,_,_], _⟩) rfl ?_)
     refine Reg.RC_skip rfl (by rw [hops]; rfl) (Reg.RC_at (b := ⟨#[_,_,_,_,_,_,_,_,_,_,_,_,_,_,_,_,_,_,_,_,_,_,_,_,_,_,_,_,_,_,_,_,_,_,_,_,_,_,_,_,_,_,_,_,_,_,_,_,_,_,_,_,_], _⟩) rfl ?_)
     refine Reg.RC_skip rfl (by rw [hops]; rfl) (Reg.RC_at (b := ⟨#[_,_,_,_,_,_,_,_,_,_,_,_,_,_,_,_,_,_,_,_,_,_,_,_,_,_,_,_,_,_,_,_,_,_,_,_,_,_,_,_,_,_,_,_,_,_,_,_,_,_,_,_,_], _⟩) rfl ?_)
     refine Reg.RC_skip rfl (by rw [hops]; rfl) (Reg.RC_at (b := ⟨#[_,_,_,_,_,_,_,_,_,_,_,_,_,_,_,_,_,_,_,_,_,_,_,_,_,_,_,_,_,_,_,_,_,_,_,_,_,_,_,_,_,_,_,_,_,_,_,_,_,_,_,_,_], _⟩) rfl ?_)
     refine Reg.RC_skip rfl (by rw [hops]; rfl) (Reg.RC_at (b := ⟨#[_,_,_,_,_,_,_,_,_,_,_,_,_,_,_,_,_,_,_,_,_,_,_,_,_,_,_,_,_,_,_,_,_,_,_,_,_,_,_,_,_,_,_,_,_,_,_,_,_,_,_,_,_], _⟩) rfl ?_)
     refine Reg.RC_skip rfl (by rw [hops]; rfl) (Reg.RC_at (b := ⟨#[_,_,_,_,_,_,_,_,_,_,_,_,_,_,_,_,_,_,_,_,_,_,_,_,_,_,_,_,_,_,_,_,_,_,_,_,_,_,_,_,_,_,_,_,_,_,_,_,_,_,_,_,_], _⟩) rfl ?_)
     refine Reg.RC_skip rfl (by rw [hops]; rfl) (Reg.RC_at (b := ⟨#[_,_,_,_,_,_,_,_,_,_,_,_,_,_,_,_,_,_,_,_,_,_,_,_,_,_,_,_,_,_,_,_,_,_,_,_,_,_,_,_,_,_,_,_,_,_,_,_,_,_,_,_,_], _⟩) rfl ?_)
     refine Reg.RC_skip rfl (by rw [hops]; rfl) (Reg.RC_at (b := ⟨#[_,_,_,_,_,_,_,_,_,_,_,_,_,_,_,_,_,_,_,_,_,_,_,_,_,_,_,_,_,_,_,_,_,_,_,_,_,_,_,_,_,_,_,_,_,_,_,_,_,_,_,_,_], _⟩) rfl ?_)
     refine Reg.RC_skip rfl (by rw [hops]; rfl) (Reg.RC_at (b := ⟨#[_,_,_,_,_,_,_,_,_,_,_,_,_,_,_,_,_,_,_,_,_,_,_,_,_,_,_,_,_,_,_,_,_,_,_,_,_,_,_,_,_,_,_,_,_,_,_,_,_,_,_,_,_], _⟩) rfl ?_)
     apply Reg.RP rfl rfl rfl 34 rfl rfl
     ·
      intro D v W hc hj hf K' hK'
      go_step
      exact hK'.out
     · rfl
     refine Reg.RC_end (fun D v w9 hd hj hf => ?_)
     obtain ⟨j0, _⟩ := hj
     have st9 := j0
     clear hd hf j0
     refine hQ _ _ ?_
     clear hQ hops Q' ops'
     have B9 := below_steps Bq (Nat.le_of_lt gl) st9
     have hr9 := Hid.mk_ (HR2.out.steps st9)
     clear st9 HR2
     repeat' (first | go_values | go_skip | go_guarded | go_step | go_upon)
     go_roundw
     case rel => exact ⟨i + 1, f2, by omega, by omega, by go_num, hr9.out, HS2.out.1, dn.out, B9⟩
     case measure => simp [intOf]; omega
  ·
   obtain rfl : i = b := by omega
   have hlt : decide ((i : Int) < (i : Int)) = false := decide_eq_false (by omega)
   go_wp2_with fail
   go_returns
   exact ⟨rfl, ⟨f1, HR1.out, HS1.out.1, HS1.out.2⟩, B⟩
theorem vswapR {g n cap p : Nat} {f : Nat → Int} (w : World) (a b m : Nat) (hr : RowS w g n f) (ha : a + m ≤ n) (hb : b + m ≤ n) (hab : a ≠ b) (hn : n ≤ 1000) :
  Calls Tryz.prog 152 #[.slice (some ⟨g, 0, none⟩) n cap, .int .i64 a, .int .i64 b, .int .i64 m, .func (.func 89) #[] #[.pointer (some ⟨p, 0, none⟩)]] w fun e w' => e = .returned (.tuple #[]) ∧ RowS w' g n (swR f a b m) ∧ Below g w w' := by
 have gl := hr.lt
 have HR := Hid.mk_ hr
 clear hr
 go_enter Tryz.func152, Tryz.ntmps152
 go_wp2_with fail
 go_loopw [10] (fun kk wr => ∃ (i : Nat), i ≤ m ∧ kk = .int .i64 i ∧ RowS wr g n (swR f a b i) ∧ Below g w wr) (fun kk _ => m - (intOf kk).toNat)
 case atStart => exact ⟨0, by omega, rfl, HR.out, Below.refl g w⟩
 case round =>
  obtain ⟨i, hi, rfl, hr, B⟩ := hrel
  clear HR
  have gq := hr.lt
  have HR := Hid.mk_ hr
  clear hr
  rcases Nat.lt_or_ge i m with im | im
  ·
   have hlt : decide ((i : Int) < (m : Int)) = true := decide_eq_true (by omega)
   have ea : ((a : Int) + (i : Int)) = ((a + i : Nat) : Int) := by omega
   have eb : ((b : Int) + (i : Int)) = ((b + i : Nat) : Int) := by omega
   have ca := HR.out.c (i := a + i) (by omega)
   have cb := HR.out.c (i := b + i) (by omega)
   have fa := HR.out.fr (a + i)
   have fb := HR.out.fr (b + i)
   obtain ⟨x, hx⟩ : ∃ x, swR f a b i (a + i) = x := ⟨_, rfl⟩
   obtain ⟨y, hy⟩ : ∃ y, swR f a b i (b + i) = y := ⟨_, rfl⟩
   rw [hx] at ca
   rw [hy] at cb
   have HXY := Hid.mk_ (And.intro hx hy)
   obtain ⟨u, hu⟩ : ∃ u, a + i = u := ⟨_, rfl⟩
   obtain ⟨v, hv⟩ : ∃ v, b + i = v := ⟨_, rfl⟩
   rw [hu] at ea ca fa
   rw [hv] at eb cb fb
   have un : u < n := by omega
   have huv : u ≠ v := by omega
   have hvu : v ≠ u := by omega
   have vn : v < n := by omega
   have HUV := Hid.mk_ (And.intro hu hv)
   clear hx hy hu hv
   go_upto_region 3 with fail
   go_region
   have r2 : RowS ((wr.setCell ⟨g, u, none⟩ (.int .i64 y)).setCell ⟨g, v, none⟩ (.int .i64 x)).drew g n (swR f a b (i + 1)) := by
    have := (HR.out.swap (i := a + i) (j := b + i) (by omega) (by omega)).drew
    rw [HXY.out.1, HXY.out.2, HUV.out.1, HUV.out.2] at this
    rw [show swR f a b (i + 1) = swp (swR f a b i) u v by rw [← HUV.out.1, ← HUV.out.2]; rfl]
    exact this
   have b2 : Below g w ((wr.setCell ⟨g, u, none⟩ (.int .i64 y)).setCell ⟨g, v, none⟩ (.int .i64 x)).drew := (Below.setCell (p := ⟨g, v, none⟩) (Below.setCell (p := ⟨g, u, none⟩) B (Nat.le_refl _) _) (Nat.le_refl _) _).drew
   have HZ := Hid.mk_ (And.intro r2 b2)
   generalize ((wr.setCell ⟨g, u, none⟩ (.int .i64 y)).setCell ⟨g, v, none⟩ (.int .i64 x)).drew = w10 at *
   clear r2 b2 ca cb fa fb HR HXY HUV B
   repeat' (first | go_values | go_skip | go_guarded | go_step | go_upon)
   go_roundw
   case rel => exact ⟨i + 1, by omega, by go_num, HZ.out.1, HZ.out.2⟩
   case measure => simp [intOf]; omega
  ·
   obtain rfl : i = m := by omega
   have hlt : decide ((i : Int) < (i : Int)) = false := decide_eq_false (by omega)
   go_wp2_with fail
   go_returns
   exact ⟨rfl, HR.out, B⟩
theorem vrotate {g n cap p : Nat} {f : Nat → Int} (w : World) (a m b : Nat) (hr : RowS w g n f) (ha : a < m) (hm : m < b) (hb : b ≤ n) (hn : n ≤ 1000) :
  Calls Tryz.prog 140 #[.slice (some ⟨g, 0, none⟩) n cap, .int .i64 a, .int .i64 m, .int .i64 b, .func (.func 89) #[] #[.pointer (some ⟨p, 0, none⟩)]] w fun e w' => e = .returned (.tuple #[]) ∧ RowS w' g n (rotF a m b f) ∧ Below g w w' := by
 have gl := hr.lt
 have HR := Hid.mk_ hr
 clear hr
 have e1 : ((m : Int) - (a : Int)) = ((m - a : Nat) : Int) := by omega
 have e2 : ((b : Int) - (m : Int)) = ((b - m : Nat) : Int) := by omega
 go_enter Tryz.func140, Tryz.ntmps140
 go_wp2_with fail
 go_loopw [10, 11] (fun ki kj wr => ∃ (i j : Nat) (f' : Nat → Int), 0 < i ∧ 0 < j ∧ i ≤ m ∧ m + j ≤ n ∧ ki = .int .i64 i ∧ kj = .int .i64 j ∧ RowS wr g n f' ∧ rotF (m - i) m (m + j) f' = rotF a m b f ∧ Below g w wr) (fun ki kj _ => (intOf ki).toNat + (intOf kj).toNat)
 case atStart => exact ⟨m - a, b - m, f, by omega, by omega, by omega, by omega, by go_num, by go_num, HR.out, by rw [show m - (m - a) = a by omega, show m + (b - m) = b by omega], Below.refl g w⟩
 case round =>
  clear HR e1 e2
  obtain ⟨i, j, f1, i0, j0, im, jn, rfl, rfl, hr, hrot, B⟩ := hrel
  have HR := Hid.mk_ (And.intro hr hrot)
  have gq := hr.lt
  clear hr hrot
  have emi : ((m : Int) - (i : Int)) = ((m - i : Nat) : Int) := by omega
  rcases (show i = j ∨ j < i ∨ i < j by omega) with rfl | ji | ij
  ·
   have hne : ((i : Int) != (i : Int)) = false := by simp
   have SW := vswapR (cap := cap) (p := p) wr (m - i) m i HR.out.1 (by omega) (by omega) (by omega) hn
   go_wp2_with fail
   refine SW.mono ?_
   rintro e w2 ⟨rfl, h1, h2⟩
   have B2 : Below g w w2 := B.trans h2
   go_wp2_with fail
   go_returns
   exact ⟨rfl, by rw [← HR.out.2, rot_same f1 im]; exact h1, B2⟩
  ·
   have hne : ((i : Int) != (j : Int)) = true := by rw [bne_iff_ne]; omega
   have hgt : decide ((j : Int) < (i : Int)) = true := decide_eq_true (by omega)
   have SW := vswapR (cap := cap) (p := p) wr (m - i) m j HR.out.1 (by omega) (by omega) (by omega) hn
   have eij : ((i : Int) - (j : Int)) = ((i - j : Nat) : Int) := by omega
   go_wp2_with fail
   refine SW.mono ?_
   rintro e w2 ⟨rfl, h1, h2⟩
   have B2 : Below g w w2 := B.trans h2
   have H1 := Hid.mk_ h1
   clear h1 h2 SW
   dsimp only
   go_wp2_with fail
   go_roundw
   case rel => exact ⟨i - j, j, _, by omega, by omega, by omega, by omega, by go_num, by go_num, H1.out, by rw [← HR.out.2, rot_more f1 im ji, show m - (i - j) = m - i + j by omega], B2⟩
   case measure => simp [intOf]; omega
  ·
   have hne : ((i : Int) != (j : Int)) = true := by rw [bne_iff_ne]; omega
   have hgt : decide ((j : Int) < (i : Int)) = false := decide_eq_false (by omega)
   have SW := vswapR (cap := cap) (p := p) wr (m - i) (m + j - i) i HR.out.1 (by omega) (by omega) (by omega) hn
   have eij : ((j : Int) - (i : Int)) = ((j - i : Nat) : Int) := by omega
   have emj : ((m : Int) + (j : Int) - (i : Int)) = ((m + j - i : Nat) : Int) := by omega
   go_wp2_with fail
   refine SW.mono ?_
   rintro e w2 ⟨rfl, h1, h2⟩
   have B2 : Below g w w2 := B.trans h2
   have H1 := Hid.mk_ h1
   clear h1 h2 SW
   dsimp only
   go_wp2_with fail
   go_roundw
   case rel => exact ⟨i, j - i, _, by omega, by omega, by omega, by omega, by go_num, by go_num, H1.out, by rw [← HR.out.2, rot_less f1 im ij], B2⟩
   case measure => simp [intOf]; omega
theorem vsymA {g n cap p : Nat} {f : Nat → Int} (w : World) (a m b : Nat) (hr : RowS w g n f) (ha : m = a + 1) (hm : m < b) (hb : b ≤ n) (hn : n ≤ 1000) (u : Up f m b) (CM : ∀ W x y, Below g w W → Calls Tryz.prog 89 #[.int .i64 x, .int .i64 y, .pointer (some ⟨p, 0, none⟩)] W fun e w2 => e = .returned (.int .i64 (cmpI x y)) ∧ Steps W w2) :
  Calls Tryz.prog 129 #[.slice (some ⟨g, 0, none⟩) n cap, .int .i64 a, .int .i64 m, .int .i64 b, .func (.func 89) #[] #[.pointer (some ⟨p, 0, none⟩)]] w fun e w' => e = .returned (.tuple #[]) ∧ (∃ f', RowS w' g n f' ∧ SP a b f f' ∧ Up f' a b) ∧ Below g w w' := by
 have gl := hr.lt
 have HR := Hid.mk_ hr
 clear hr
 have e1 : ((m : Int) - (a : Int)) = 1 := by omega
 have am : a < n := by omega
 have am1 : a < m := by omega
 have HA := Hid.mk_ ha
 clear ha
 go_enter Tryz.func129, Tryz.ntmps129
 go_wp2_with fail
 go_loopw [10, 11] (fun ki kj wr => ∃ (i j : Nat), Sc1 f (f a) m b i j ∧ ki = .int .i64 i ∧ kj = .int .i64 j ∧ RowS wr g n f ∧ Below g w wr) (fun ki kj _ => (intOf kj).toNat - (intOf ki).toNat)
 case atStart => exact ⟨m, b, Sc1.start (by omega), rfl, rfl, HR.out, Below.refl g w⟩
 case round =>
  clear HR
  obtain ⟨i, j, sc, rfl, rfl, hr, B⟩ := hrel
  have gq := hr.lt
  have HR := Hid.mk_ hr
  have s1 := sc.1
  have s2 := sc.2.1
  have s3 := sc.2.2.1
  have SC := Hid.mk_ sc
  clear hr sc e1
  rcases Nat.lt_or_ge i j with ij | ij
  ·
   have hlt : decide ((i : Int) < (j : Int)) = true := decide_eq_true (by omega)
   obtain ⟨s, hs⟩ : ∃ s, i + j = s := ⟨_, rfl⟩
   obtain ⟨h, hh⟩ : ∃ h, s / 2 = h := ⟨_, rfl⟩
   have es : ((i : Int) + (j : Int)) = (s : Int) := by omega
   have es2 : (s : Int) / 2 = (h : Int) := by omega
   have hi1 : i ≤ h := by omega
   have hj1 : h < j := by omega
   have hn1 : h < n := by omega
   have hx2 : (s : Int) < 2000 := by omega
   have cx := HR.out.c (i := h) hn1
   have cy := HR.out.c (i := a) am
   obtain ⟨x, hx⟩ : ∃ x, f h = x := ⟨_, rfl⟩
   obtain ⟨y, hy⟩ : ∃ y, f a = y := ⟨_, rfl⟩
   rw [hx] at cx
   rw [hy] at cy
   have CMc := fun W q => CM W x y q
   obtain ⟨c, hc⟩ : ∃ c, cmpI x y = c := ⟨_, rfl⟩
   simp only [hc] at CMc
   have HXY := Hid.mk_ (And.intro hx hy)
   clear hx hy
   have HS := Hid.mk_ (And.intro hs hh)
   clear hs hh
   by_cases lt : x < y
   ·
    have c0 : c < 0 := by rw [← hc]; exact cmpI_neg.2 lt
    clear hc
    repeat' (first | go_values | go_skip | go_guarded | go_step | go_upon)
    refine Reg.wp_chain (fun D v W => Below wr.heap.size wr W ∧ True) (Reg.inl [9]) (Reg.gv [(9, fun z_ => z_ = .int .i64 c)]) Reg.None_ (fun _ => Reg.Any) (fun _ _ => False) (Reg.pl []) (Reg.pl [])
     (by kernel_rfl) (by kernel_rfl) (by kernel_rfl) (Reg.gv_some _ (by intro p hp; simp only [List.mem_cons, List.not_mem_nil, or_false] at hp; rcases hp with rfl <;> first | exact ⟨_, rfl⟩ | exact ⟨_, none, 0, 0, rfl⟩ | exact ⟨_, false, none, 0, 0, rfl⟩ | exact ⟨_, false, none, 0, 0, false, none, 0, 0, rfl⟩)) (fun _ => ⟨belowB, trivial⟩) (fun _ _ _ _ _ h => h) (fun _ _ _ _ _ _ _ _ _ _ _ _ _ => Reg.none_) (fun _ _ _ _ h => h.elim) (fun ops' Q' hops hQ => ?_)
    apply Reg.RP rfl rfl rfl 40 rfl rfl
    ·
     intro D v W hc hj hf K' hK'
     go_step
     exact hK'.out
    · rfl
    apply Reg.RP rfl rfl rfl 41 rfl rfl
    ·
     intro D v W hc hj hf K' hK'
     go_step
     exact hK'.out
    · rfl
    apply Reg.RP rfl rfl rfl 42 rfl rfl
    ·
     intro D v W hc hj hf K' hK'
     go_step
     exact hK'.out
    · rfl
    apply Reg.RP rfl rfl rfl 43 rfl rfl
    ·
     intro D v W hc hj hf K' hK'
     go_step
     exact hK'.out
    · rfl
    apply Reg.RP rfl rfl rfl 44 rfl rfl
    ·
     intro D v W hc hj hf K' hK'
     obtain ⟨j0, _⟩ := hj
     have c0 : W.cell? ⟨g, h, none⟩ = some (.int .i64 x) := (j0.cell (p := ⟨g, _, none⟩) gq).trans cx
     go_step
     exact hK'.out
    · rfl
    apply Reg.RP rfl rfl rfl 45 rfl rfl
    ·
     intro D v W hc hj hf K' hK'
     go_step
     exact hK'.out
    · rfl
    apply Reg.RP rfl rfl rfl 46 rfl rfl
    ·
     intro D v W hc hj hf K' hK'
     go_step
     exact hK'.out
    · rfl
    apply Reg.RP rfl rfl rfl 47 rfl rfl
    ·
     intro D v W hc hj hf K' hK'
     go_step
     exact hK'.out
    · rfl
    apply Reg.RP rfl rfl rfl 48 rfl rfl
    ·
     intro D v W hc hj hf K' hK'
     obtain ⟨j0, _⟩ := hj
     have c0 : W.cell? ⟨g, a, none⟩ = some (.int .i64 y) := (j0.cell (p := ⟨g, _, none⟩) gq).trans cy
     go_step
     exact hK'.out
    · rfl
    refine Reg.RC_call rfl (tlt rfl) rfl (fun D v W hc hj hf K' hK' => ?_) ?_
    ·
     obtain ⟨j0, _⟩ := hj
     go_step
     refine (CMc _ (below_steps B (Nat.le_of_lt gl) j0)).mono ?_
     rintro e W2 ⟨rfl, hs⟩
     exact hK'.out _ W2 Reg.any ⟨jst j0 hs, trivial⟩ trivial rfl
    rintro _ rfl
    refine Reg.at220 rfl ?_
    apply Reg.RP rfl rfl rfl 50 rfl rfl
    ·
     intro D v W hc hj hf K' hK'
     go_step
     exact hK'.out
    · rfl
    refine Reg.RC_end (fun D v w9 hd hj hf => ?_)
    obtain ⟨j0, _⟩ := hj
    have st9 := j0
    clear hd hf j0
    refine hQ _ _ ?_
    clear hQ hops Q' ops'
    have B9 := below_steps B (Nat.le_of_lt gl) st9
    have hr9 := Hid.mk_ (HR.out.steps st9)
    clear st9 HR cx cy
    repeat' (first | go_values | go_skip | go_guarded | go_step | go_upon)
    go_roundw
    case rel => exact ⟨h + 1, j, SC.out.up u hi1 hj1 (by rw [HXY.out.1, HXY.out.2]; exact lt), by go_num, by go_num, hr9.out, B9⟩
    case measure => simp [intOf]; omega
   ·
    have c0 : ¬ c < 0 := fun h => lt (cmpI_neg.1 (by rw [hc]; exact h))
    clear hc
    repeat' (first | go_values | go_skip | go_guarded | go_step | go_upon)
    refine Reg.wp_chain (fun D v W => Below wr.heap.size wr W ∧ True) (Reg.inl [9]) (Reg.gv [(9, fun z_ => z_ = .int .i64 c)]) Reg.None_ (fun _ => Reg.Any) (fun _ _ => False) (Reg.pl []) (Reg.pl [])
     (by kernel_rfl) (by kernel_rfl) (by kernel_rfl) (Reg.gv_some _ (by intro p hp; simp only [List.mem_cons, List.not_mem_nil, or_false] at hp; rcases hp with rfl <;> first | exact ⟨_, rfl⟩ | exact ⟨_, none, 0, 0, rfl⟩ | exact ⟨_, false, none, 0, 0, rfl⟩ | exact ⟨_, false, none, 0, 0, false, none, 0, 0, rfl⟩)) (fun _ => ⟨belowB, trivial⟩) (fun _ _ _ _ _ h => h) (fun _ _ _ _ _ _ _ _ _ _ _ _ _ => Reg.none_) (fun _ _ _ _ h => h.elim) (fun ops' Q' hops hQ => ?_)
    apply Reg.RP rfl rfl rfl 40 rfl rfl
    ·
     intro D v W hc hj hf K' hK'
     go_step
     exact hK'.out
    · rfl
    apply Reg.RP rfl rfl rfl 41 rfl rfl
    ·
     intro D v W hc hj hf K' hK'
     go_step
     exact hK'.out
    · rfl
    apply Reg.RP rfl rfl rfl 42 rfl rfl
    ·
     intro D v W hc hj hf K' hK'
     go_step
     exact hK'.out
    · rfl
    apply Reg.RP rfl rfl rfl 43 rfl rfl
    ·
     intro D v W hc hj hf K' hK'
     go_step
     exact hK'.out
    · rfl
    apply Reg.RP rfl rfl rfl 44 rfl rfl
    ·
     intro D v W hc hj hf K' hK'
     obtain ⟨j0, _⟩ := hj
     have c0 : W.cell? ⟨g, h, none⟩ = some (.int .i64 x) := (j0.cell (p := ⟨g, _, none⟩) gq).trans cx
     go_step
     exact hK'.out
    · rfl
    apply Reg.RP rfl rfl rfl 45 rfl rfl
    ·
     intro D v W hc hj hf K' hK'
     go_step
     exact hK'.out
    · rfl
    apply Reg.RP rfl rfl rfl 46 rfl rfl
    ·
     intro D v W hc hj hf K' hK'
     go_step
     exact hK'.out
    · rfl
    apply Reg.RP rfl rfl rfl 47 rfl rfl
    ·
     intro D v W hc hj hf K' hK'
     go_step
     exact hK'.out
    · rfl
    apply Reg.RP rfl rfl rfl 48 rfl rfl
    ·
     intro D v W hc hj hf K' hK'
     obtain ⟨j0, _⟩ := hj
     have c0 : W.cell? ⟨g, a, none⟩ = some (.int .i64 y) := (j0.cell (p := ⟨g, _, none⟩) gq).trans cy
     go_step
     exact hK'.out
    · rfl
    refine Reg.RC_call rfl (tlt rfl) rfl (fun D v W hc hj hf K' hK' => ?_) ?_
    ·
     obtain ⟨j0, _⟩ := hj
     go_step
     refine (CMc _ (below_steps B (Nat.le_of_lt gl) j0)).mono ?_
     rintro e W2 ⟨rfl, hs⟩
     exact hK'.out _ W2 Reg.any ⟨jst j0 hs, trivial⟩ trivial rfl
    rintro _ rfl
    refine Reg.at220 rfl ?_
    apply Reg.RP rfl rfl rfl 50 rfl rfl
    ·
     intro D v W hc hj hf K' hK'
     go_step
     exact hK'.out
    · rfl
    refine Reg.RC_end (fun D v w9 hd hj hf => ?_)
    obtain ⟨j0, _⟩ := hj
    have st9 := j0
    clear hd hf j0
    refine hQ _ _ ?_
    clear hQ hops Q' ops'
    have B9 := below_steps B (Nat.le_of_lt gl) st9
    have hr9 := Hid.mk_ (HR.out.steps st9)
    clear st9 HR cx cy
    repeat' (first | go_values | go_skip | go_guarded | go_step | go_upon)
    go_roundw
    case rel => exact ⟨i, h, SC.out.down u hi1 hj1 (by rw [HXY.out.1, HXY.out.2]; exact lt), by go_num, by go_num, hr9.out, B9⟩
    case measure => simp [intOf]; omega
  ·
   obtain rfl : i = j := by omega
   have hlt : decide ((i : Int) < (i : Int)) = false := decide_eq_false (by omega)
   obtain ⟨q, hq⟩ : ∃ q, i - 1 = q := ⟨_, rfl⟩
   have eq1 : (i : Int) - 1 = (q : Int) := by omega
   have qa : a ≤ q := by omega
   have qn : q < n := by omega
   have HQ := Hid.mk_ hq
   clear hq
   go_wp2_with fail
   go_loopw [13] (fun kk wr => ∃ (t k : Nat), a + t = k ∧ k ≤ q ∧ kk = .int .i64 k ∧ RowS wr g n (upR f a t) ∧ Below g w wr) (fun kk _ => q - (intOf kk).toNat)
   case atStart => exact ⟨0, a, by omega, qa, rfl, HR.out, B⟩
   case round =>
    rename World => wq
    clear B HR
    obtain ⟨t, k, hk, kq, rfl, hr, B⟩ := hrel
    have gq2 := hr.lt
    have HR := Hid.mk_ hr
    have HK := Hid.mk_ hk
    clear hr
    rcases Nat.lt_or_ge k q with kl | kl
    ·
     have hk2 : decide ((k : Int) < (q : Int)) = true := decide_eq_true (by omega)
     obtain ⟨v, hv⟩ : ∃ v, k + 1 = v := ⟨_, rfl⟩
     have ev : (k : Int) + 1 = (v : Int) := by omega
     have vn : v < n := by omega
     have un : k < n := by omega
     have huv : k ≠ v := by omega
     have hvu : v ≠ k := by omega
     have HV := Hid.mk_ hv
     have HVQ := Hid.mk_ (show v ≤ q ∧ k < v by omega)
     clear hv hk
     have c1 := HR.out.c (i := k) (by omega)
     have c2 := HR.out.c (i := v) (by omega)
     have fa := HR.out.fr k
     have fb := HR.out.fr v
     obtain ⟨x, hx⟩ : ∃ x, upR f a t k = x := ⟨_, rfl⟩
     obtain ⟨y, hy⟩ : ∃ y, upR f a t v = y := ⟨_, rfl⟩
     rw [hx] at c1
     rw [hy] at c2
     have HXY := Hid.mk_ (And.intro hx hy)
     clear hx hy
     go_upto_region 11 with fail
     go_region
     have r2 : RowS ((wq.setCell ⟨g, k, none⟩ (.int .i64 y)).setCell ⟨g, v, none⟩ (.int .i64 x)).drew g n (upR f a (t + 1)) := by
      have := (HR.out.swap (i := k) (j := v) (by omega) (by omega)).drew
      rw [HXY.out.1, HXY.out.2] at this
      rw [show upR f a (t + 1) = swp (upR f a t) k v by rw [← HV.out, ← HK.out]; rfl]
      exact this
     have b2 : Below g w ((wq.setCell ⟨g, k, none⟩ (.int .i64 y)).setCell ⟨g, v, none⟩ (.int .i64 x)).drew := (Below.setCell (p := ⟨g, v, none⟩) (Below.setCell (p := ⟨g, k, none⟩) B (Nat.le_refl _) _) (Nat.le_refl _) _).drew
     have HZ := Hid.mk_ (And.intro r2 b2)
     generalize ((wq.setCell ⟨g, k, none⟩ (.int .i64 y)).setCell ⟨g, v, none⟩ (.int .i64 x)).drew = w10 at *
     clear r2 b2 c1 c2 fa fb HR HXY B
     repeat' (first | go_values | go_skip | go_guarded | go_step | go_upon)
     go_roundw
     case rel => exact ⟨t + 1, v, by have := HV.out; have := HK.out; omega, HVQ.out.1, by go_num, HZ.out.1, HZ.out.2⟩
     case measure =>
      have := HVQ.out
      show q - v < q - k
      omega
    ·
     obtain rfl : q = k := by omega
     have hk2 : decide ((q : Int) < (q : Int)) = false := decide_eq_false (by omega)
     clear hk
     go_wp2_with fail
     go_returns
     refine ⟨rfl, ⟨upR f a t, HR.out, upR_sp f (Nat.le_refl _) t (by have := HK.out; omega), ?_⟩, B⟩
     have et : t = i - 1 - a := by have := HK.out; have := HQ.out; omega
     have sc := SC.out
     rw [et]
     have ha := HA.out
     subst ha
     exact up_first u sc.1 sc.2.2.1 sc.2.2.2.1 sc.2.2.2.2
theorem vsymB {g n cap p : Nat} {f : Nat → Int} (w : World) (a m b : Nat) (hr : RowS w g n f) (ha : a + 1 < m) (hm : b = m + 1) (hb : b ≤ n) (hn : n ≤ 1000) (u : Up f a m) (CM : ∀ W x y, Below g w W → Calls Tryz.prog 89 #[.int .i64 x, .int .i64 y, .pointer (some ⟨p, 0, none⟩)] W fun e w2 => e = .returned (.int .i64 (cmpI x y)) ∧ Steps W w2) :
  Calls Tryz.prog 129 #[.slice (some ⟨g, 0, none⟩) n cap, .int .i64 a, .int .i64 m, .int .i64 b, .func (.func 89) #[] #[.pointer (some ⟨p, 0, none⟩)]] w fun e w' => e = .returned (.tuple #[]) ∧ (∃ f', RowS w' g n f' ∧ SP a b f f' ∧ Up f' a b) ∧ Below g w w' := by
 have gl := hr.lt
 have HR := Hid.mk_ hr
 clear hr
 obtain ⟨d, hd⟩ : ∃ d, m - a = d := ⟨_, rfl⟩
 have e1 : ((m : Int) - (a : Int)) = (d : Int) := by omega
 have e2 : ((d : Int) == 1) = false := by simp; omega
 have e3 : ((b : Int) - (m : Int)) = 1 := by omega
 have am : m < n := by omega
 have HB := Hid.mk_ hm
 clear hd hm
 go_enter Tryz.func129, Tryz.ntmps129
 go_wp2_with fail
 go_loopw [14, 15] (fun ki kj wr => ∃ (i j : Nat), Sc2 f (f m) a m i j ∧ ki = .int .i64 i ∧ kj = .int .i64 j ∧ RowS wr g n f ∧ Below g w wr) (fun ki kj _ => (intOf kj).toNat - (intOf ki).toNat)
 case atStart => exact ⟨a, m, Sc2.start (by omega), rfl, rfl, HR.out, Below.refl g w⟩
 case round =>
  clear HR e1 e2 e3
  obtain ⟨i, j, sc, rfl, rfl, hr, B⟩ := hrel
  have gq := hr.lt
  have HR := Hid.mk_ hr
  have s1 := sc.1
  have s2 := sc.2.1
  have s3 := sc.2.2.1
  have SC := Hid.mk_ sc
  clear hr sc
  rcases Nat.lt_or_ge i j with ij | ij
  ·
   have hlt : decide ((i : Int) < (j : Int)) = true := decide_eq_true (by omega)
   obtain ⟨s, hs⟩ : ∃ s, i + j = s := ⟨_, rfl⟩
   obtain ⟨h, hh⟩ : ∃ h, s / 2 = h := ⟨_, rfl⟩
   have es : ((i : Int) + (j : Int)) = (s : Int) := by omega
   have es2 : (s : Int) / 2 = (h : Int) := by omega
   have hi1 : i ≤ h := by omega
   have hj1 : h < j := by omega
   have hn1 : h < n := by omega
   have hx2 : (s : Int) < 2000 := by omega
   have cx := HR.out.c (i := m) am
   have cy := HR.out.c (i := h) hn1
   obtain ⟨x, hx⟩ : ∃ x, f m = x := ⟨_, rfl⟩
   obtain ⟨y, hy⟩ : ∃ y, f h = y := ⟨_, rfl⟩
   rw [hx] at cx
   rw [hy] at cy
   have CMc := fun W q => CM W x y q
   obtain ⟨c, hc⟩ : ∃ c, cmpI x y = c := ⟨_, rfl⟩
   simp only [hc] at CMc
   have HXY := Hid.mk_ (And.intro hx hy)
   clear hx hy
   have HS := Hid.mk_ (And.intro hs hh)
   clear hs hh
   by_cases lt : x < y
   ·
    have c0 : c < 0 := by rw [← hc]; exact cmpI_neg.2 lt
    clear hc
    repeat' (first | go_values | go_skip | go_guarded | go_step | go_upon)
    refine Reg.wp_chain (fun D v W => Below wr.heap.size wr W ∧ True) (Reg.inl [9]) (Reg.gv [(9, fun z_ => z_ = .int .i64 c)]) Reg.None_ (fun _ => Reg.Any) (fun _ _ => False) (Reg.pl []) (Reg.pl [])
     (by kernel_rfl) (by kernel_rfl) (by kernel_rfl) (Reg.gv_some _ (by intro p hp; simp only [List.mem_cons, List.not_mem_nil, or_false] at hp; rcases hp with rfl <;> first | exact ⟨_, rfl⟩ | exact ⟨_, none, 0, 0, rfl⟩ | exact ⟨_, false, none, 0, 0, rfl⟩ | exact ⟨_, false, none, 0, 0, false, none, 0, 0, rfl⟩)) (fun _ => ⟨belowB, trivial⟩) (fun _ _ _ _ _ h => h) (fun _ _ _ _ _ _ _ _ _ _ _ _ _ => Reg.none_) (fun _ _ _ _ h => h.elim) (fun ops' Q' hops hQ => ?_)
    apply Reg.RP rfl rfl rfl 92 rfl rfl
    ·
     intro D v W hc hj hf K' hK'
     go_step
     exact hK'.out
    · rfl
    apply Reg.RP rfl rfl rfl 93 rfl rfl
    ·
     intro D v W hc hj hf K' hK'
     go_step
     exact hK'.out
    · rfl
    apply Reg.RP rfl rfl rfl 94 rfl rfl
    ·
     intro D v W hc hj hf K' hK'
     go_step
     exact hK'.out
    · rfl
    apply Reg.RP rfl rfl rfl 95 rfl rfl
    ·
     intro D v W hc hj hf K' hK'
     go_step
     exact hK'.out
    · rfl
    apply Reg.RP rfl rfl rfl 96 rfl rfl
    ·
     intro D v W hc hj hf K' hK'
     obtain ⟨j0, _⟩ := hj
     have c0 : W.cell? ⟨g, m, none⟩ = some (.int .i64 x) := (j0.cell (p := ⟨g, _, none⟩) gq).trans cx
     go_step
     exact hK'.out
    · rfl
    apply Reg.RP rfl rfl rfl 97 rfl rfl
    ·
     intro D v W hc hj hf K' hK'
     go_step
     exact hK'.out
    · rfl
    apply Reg.RP rfl rfl rfl 98 rfl rfl
    ·
     intro D v W hc hj hf K' hK'
     go_step
     exact hK'.out
    · rfl
    apply Reg.RP rfl rfl rfl 99 rfl rfl
    ·
     intro D v W hc hj hf K' hK'
     go_step
     exact hK'.out
    · rfl
    apply Reg.RP rfl rfl rfl 100 rfl rfl
    ·
     intro D v W hc hj hf K' hK'
     obtain ⟨j0, _⟩ := hj
     have c0 : W.cell? ⟨g, h, none⟩ = some (.int .i64 y) := (j0.cell (p := ⟨g, _, none⟩) gq).trans cy
     go_step
     exact hK'.out
    · rfl
    refine Reg.RC_call rfl (tlt rfl) rfl (fun D v W hc hj hf K' hK' => ?_) ?_
    ·
     obtain ⟨j0, _⟩ := hj
     go_step
     refine (CMc _ (below_steps B (Nat.le_of_lt gl) j0)).mono ?_
     rintro e W2 ⟨rfl, hs⟩
     exact hK'.out _ W2 Reg.any ⟨jst j0 hs, trivial⟩ trivial rfl
    rintro _ rfl
    refine Reg.at220 rfl ?_
    apply Reg.RP rfl rfl rfl 102 rfl rfl
    ·
     intro D v W hc hj hf K' hK'
     go_step
     exact hK'.out
    · rfl
    apply Reg.RP rfl rfl rfl 103 rfl rfl
    ·
     intro D v W hc hj hf K' hK'
     go_step
     exact hK'.out
    · rfl
    refine Reg.RC_end (fun D v w9 hd hj hf => ?_)
    obtain ⟨j0, _⟩ := hj
    have st9 := j0
    clear hd hf j0
    refine hQ _ _ ?_
    clear hQ hops Q' ops'
    have B9 := below_steps B (Nat.le_of_lt gl) st9
    have hr9 := Hid.mk_ (HR.out.steps st9)
    clear st9 HR cx cy
    repeat' (first | go_values | go_skip | go_guarded | go_step | go_upon)
    go_roundw
    case rel => exact ⟨i, h, SC.out.down u hi1 hj1 (by rw [HXY.out.1, HXY.out.2]; exact lt), by go_num, by go_num, hr9.out, B9⟩
    case measure => simp [intOf]; omega
   ·
    have c0 : ¬ c < 0 := fun h => lt (cmpI_neg.1 (by rw [hc]; exact h))
    clear hc
    repeat' (first | go_values | go_skip | go_guarded | go_step | go_upon)
    refine Reg.wp_chain (fun D v W => Below wr.heap.size wr W ∧ True) (Reg.inl [9]) (Reg.gv [(9, fun z_ => z_ = .int .i64 c)]) Reg.None_ (fun _ => Reg.Any) (fun _ _ => False) (Reg.pl []) (Reg.pl [])
     (by kernel_rfl) (by kernel_rfl) (by kernel_rfl) (Reg.gv_some _ (by intro p hp; simp only [List.mem_cons, List.not_mem_nil, or_false] at hp; rcases hp with rfl <;> first | exact ⟨_, rfl⟩ | exact ⟨_, none, 0, 0, rfl⟩ | exact ⟨_, false, none, 0, 0, rfl⟩ | exact ⟨_, false, none, 0, 0, false, none, 0, 0, rfl⟩)) (fun _ => ⟨belowB, trivial⟩) (fun _ _ _ _ _ h => h) (fun _ _ _ _ _ _ _ _ _ _ _ _ _ => Reg.none_) (fun _ _ _ _ h => h.elim) (fun ops' Q' hops hQ => ?_)
    apply Reg.RP rfl rfl rfl 92 rfl rfl
    ·
     intro D v W hc hj hf K' hK'
     go_step
     exact hK'.out
    · rfl
    apply Reg.RP rfl rfl rfl 93 rfl rfl
    ·
     intro D v W hc hj hf K' hK'
     go_step
     exact hK'.out
    · rfl
    apply Reg.RP rfl rfl rfl 94 rfl rfl
    ·
     intro D v W hc hj hf K' hK'
     go_step
     exact hK'.out
    · rfl
    apply Reg.RP rfl rfl rfl 95 rfl rfl
    ·
     intro D v W hc hj hf K' hK'
     go_step
     exact hK'.out
    · rfl
    apply Reg.RP rfl rfl rfl 96 rfl rfl
    ·
     intro D v W hc hj hf K' hK'
     obtain ⟨j0, _⟩ := hj
     have c0 : W.cell? ⟨g, m, none⟩ = some (.int .i64 x) := (j0.cell (p := ⟨g, _, none⟩) gq).trans cx
     go_step
     exact hK'.out
    · rfl
    apply Reg.RP rfl rfl rfl 97 rfl rfl
    ·
     intro D v W hc hj hf K' hK'
     go_step
     exact hK'.out
    · rfl
    apply Reg.RP rfl rfl rfl 98 rfl rfl
    ·
     intro D v W hc hj hf K' hK'
     go_step
     exact hK'.out
    · rfl
    apply Reg.RP rfl rfl rfl 99 rfl rfl
    ·
     intro D v W hc hj hf K' hK'
     go_step
     exact hK'.out
    · rfl
    apply Reg.RP rfl rfl rfl 100 rfl rfl
    ·
     intro D v W hc hj hf K' hK'
     obtain ⟨j0, _⟩ := hj
     have c0 : W.cell? ⟨g, h, none⟩ = some (.int .i64 y) := (j0.cell (p := ⟨g, _, none⟩) gq).trans cy
     go_step
     exact hK'.out
    · rfl
    refine Reg.RC_call rfl (tlt rfl) rfl (fun D v W hc hj hf K' hK' => ?_) ?_
    ·
     obtain ⟨j0, _⟩ := hj
     go_step
     refine (CMc _ (below_steps B (Nat.le_of_lt gl) j0)).mono ?_
     rintro e W2 ⟨rfl, hs⟩
     exact hK'.out _ W2 Reg.any ⟨jst j0 hs, trivial⟩ trivial rfl
    rintro _ rfl
    refine Reg.at220 rfl ?_
    apply Reg.RP rfl rfl rfl 102 rfl rfl
    ·
     intro D v W hc hj hf K' hK'
     go_step
     exact hK'.out
    · rfl
    apply Reg.RP rfl rfl rfl 103 rfl rfl
    ·
     intro D v W hc hj hf K' hK'
     go_step
     exact hK'.out
    · rfl
    refine Reg.RC_end (fun D v w9 hd hj hf => ?_)
    obtain ⟨j0, _⟩ := hj
    have st9 := j0
    clear hd hf j0
    refine hQ _ _ ?_
    clear hQ hops Q' ops'
    have B9 := below_steps B (Nat.le_of_lt gl) st9
    have hr9 := Hid.mk_ (HR.out.steps st9)
    clear st9 HR cx cy
    repeat' (first | go_values | go_skip | go_guarded | go_step | go_upon)
    go_roundw
    case rel => exact ⟨h + 1, j, SC.out.up u hi1 hj1 (by rw [HXY.out.1, HXY.out.2]; exact lt), by go_num, by go_num, hr9.out, B9⟩
    case measure => simp [intOf]; omega
  ·
   obtain rfl : i = j := by omega
   have hlt : decide ((i : Int) < (i : Int)) = false := decide_eq_false (by omega)
   go_wp2_with fail
   go_loopw [17] (fun kk wr => ∃ (t k : Nat), k + t = m ∧ i ≤ k ∧ kk = .int .i64 k ∧ RowS wr g n (dnR f m t) ∧ Below g w wr) (fun kk _ => (intOf kk).toNat)
   case atStart => exact ⟨0, m, by omega, s3, rfl, HR.out, B⟩
   case round =>
    rename World => wq
    clear B HR
    obtain ⟨t, k, hk, kq, rfl, hr, B⟩ := hrel
    have gq2 := hr.lt
    have HR := Hid.mk_ hr
    have HK := Hid.mk_ hk
    have km : k ≤ m := by omega
    clear hr
    rcases Nat.lt_or_ge i k with kl | kl
    ·
     have hk2 : decide ((i : Int) < (k : Int)) = true := decide_eq_true (by omega)
     obtain ⟨v, hv⟩ : ∃ v, k - 1 = v := ⟨_, rfl⟩
     have ev : (k : Int) - 1 = (v : Int) := by omega
     have vn : v < n := by omega
     have un : k < n := by omega
     have huv : k ≠ v := by omega
     have hvu : v ≠ k := by omega
     have iv : i ≤ v := by omega
     have vk : v < k := by omega
     have HV := Hid.mk_ hv
     clear hv hk kl
     have c1 := HR.out.c (i := k) (by omega)
     have c2 := HR.out.c (i := v) (by omega)
     have fa := HR.out.fr k
     have fb := HR.out.fr v
     obtain ⟨x, hx⟩ : ∃ x, dnR f m t k = x := ⟨_, rfl⟩
     obtain ⟨y, hy⟩ : ∃ y, dnR f m t v = y := ⟨_, rfl⟩
     rw [hx] at c1
     rw [hy] at c2
     have HXY := Hid.mk_ (And.intro hx hy)
     clear hx hy
     go_upto_region 23 with fail
     go_region
     have r2 : RowS ((wq.setCell ⟨g, k, none⟩ (.int .i64 y)).setCell ⟨g, v, none⟩ (.int .i64 x)).drew g n (dnR f m (t + 1)) := by
      have := (HR.out.swap (i := k) (j := v) (by omega) (by omega)).drew
      rw [HXY.out.1, HXY.out.2] at this
      rw [show dnR f m (t + 1) = swp (dnR f m t) k v by (have e1 : m - t = k := by (have := HK.out; omega)); show _ = swp (dnR f m t) k v; rw [← HV.out, ← e1]; rfl]
      exact this
     have b2 : Below g w ((wq.setCell ⟨g, k, none⟩ (.int .i64 y)).setCell ⟨g, v, none⟩ (.int .i64 x)).drew := (Below.setCell (p := ⟨g, v, none⟩) (Below.setCell (p := ⟨g, k, none⟩) B (Nat.le_refl _) _) (Nat.le_refl _) _).drew
     have HZ := Hid.mk_ (And.intro r2 b2)
     generalize ((wq.setCell ⟨g, k, none⟩ (.int .i64 y)).setCell ⟨g, v, none⟩ (.int .i64 x)).drew = w10 at *
     clear r2 b2 c1 c2 fa fb HR HXY B
     repeat' (first | go_values | go_skip | go_guarded | go_step | go_upon)
     go_roundw
     case rel => exact ⟨t + 1, v, by have := HV.out; have := HK.out; omega, by omega, by go_num, HZ.out.1, HZ.out.2⟩
     case measure => simp [intOf]; omega
    ·
     obtain rfl : i = k := by omega
     have hk2 : decide ((i : Int) < (i : Int)) = false := decide_eq_false (by omega)
     clear hk
     go_wp2_with fail
     go_returns
     refine ⟨rfl, ⟨dnR f m t, HR.out, dnR_sp f (by have := HB.out; omega) t (by have := HK.out; omega), ?_⟩, B⟩
     have et : t = m - i := by have := HK.out; omega
     have sc := SC.out
     rw [et]
     have hm := HB.out
     subst hm
     exact up_last u sc.1 (by omega) sc.2.2.2.1 sc.2.2.2.2
theorem vsymC1 {g n cap p : Nat} {f : Nat → Int} (w : World) (a m b : Nat) (hr : RowS w g n f) (ha : a + 1 < m) (hm : m + 1 < b) (hb : b ≤ n) (hn : n ≤ 1000) (u1 : Up f a m) (u2 : Up f m b) (hw : (a + b) / 2 < m) (CM : ∀ W x y, Below g w W → Calls Tryz.prog 89 #[.int .i64 x, .int .i64 y, .pointer (some ⟨p, 0, none⟩)] W fun e w2 => e = .returned (.int .i64 (cmpI x y)) ∧ Steps W w2) (IH : ∀ (a' m' b' : Nat) (f' : Nat → Int) (w' : World), b' - a' < b - a → RowS w' g n f' → a' < m' → m' < b' → b' ≤ n → Up f' a' m' → Up f' m' b' → Below g w w' → Calls Tryz.prog 129 #[.slice (some ⟨g, 0, none⟩) n cap, .int .i64 a', .int .i64 m', .int .i64 b', .func (.func 89) #[] #[.pointer (some ⟨p, 0, none⟩)]] w' fun e w2 => e = .returned (.tuple #[]) ∧ (∃ f2, RowS w2 g n f2 ∧ SP a' b' f' f2 ∧ Up f2 a' b') ∧ Below g w' w2) :
  Calls Tryz.prog 129 #[.slice (some ⟨g, 0, none⟩) n cap, .int .i64 a, .int .i64 m, .int .i64 b, .func (.func 89) #[] #[.pointer (some ⟨p, 0, none⟩)]] w fun e w' => e = .returned (.tuple #[]) ∧ (∃ f', RowS w' g n f' ∧ SP a b f f' ∧ Up f' a b) ∧ Below g w w' := by
 have gl := hr.lt
 have HR := Hid.mk_ hr
 clear hr
 obtain ⟨d, hd⟩ : ∃ d, m - a = d := ⟨_, rfl⟩
 have e1 : ((m : Int) - (a : Int)) = (d : Int) := by omega
 have e2 : ((d : Int) == 1) = false := by simp; omega
 obtain ⟨d', hd'⟩ : ∃ d, b - m = d := ⟨_, rfl⟩
 have e3 : ((b : Int) - (m : Int)) = (d' : Int) := by omega
 have e4 : ((d' : Int) == 1) = false := by simp; omega
 obtain ⟨s0, hs0⟩ : ∃ s, a + b = s := ⟨_, rfl⟩
 obtain ⟨mid, hmid⟩ : ∃ s, s0 / 2 = s := ⟨_, rfl⟩
 have es0 : ((a : Int) + (b : Int)) = (s0 : Int) := by omega
 have es1 : (s0 : Int) / 2 = (mid : Int) := by omega
 have hx0 : (s0 : Int) < 2000 := by omega
 rw [hs0, hmid] at hw
 obtain ⟨q, hq⟩ : ∃ q, mid + m = q := ⟨_, rfl⟩
 have eq1 : ((mid : Int) + (m : Int)) = (q : Int) := by omega
 obtain ⟨pp, hpp⟩ : ∃ p, q - 1 = p := ⟨_, rfl⟩
 have epp : (q : Int) - 1 = (pp : Int) := by omega
 have m1 : a < mid := by omega
 have m2 : mid < b := by omega
 have m3 : 2 * mid ≤ a + b := by omega
 have m4 : a + b ≤ 2 * mid + 1 := by omega
 obtain ⟨lo, hlo⟩ : ∃ l, q - b = l := ⟨_, rfl⟩
 have elo : ((q : Int) - (b : Int)) = (lo : Int) := by omega
 have hgt : decide ((mid : Int) < (m : Int)) = true := decide_eq_true (by omega)
 have hgtN : decide (mid < m) = true := decide_eq_true (by omega)
 have bq : b ≤ q := by omega
 have HP := Hid.mk_ (show pp = mid + m - 1 ∧ lo = mid + m - b ∧ q = mid + m ∧ a ≤ lo by omega)
 have loa : a ≤ lo := by omega
 have lob : lo ≤ mid := by omega
 have pb : pp < lo + b := by omega
 clear hlo
 have ph : m + mid ≤ pp + 1 := by omega
 have MONO := Hid.mk_ (sch_mono (p := pp) (lo := lo) (hi := mid) u1 u2 (by omega) (by omega) ph pb)
 have UU := Hid.mk_ (And.intro u1 u2)
 clear hd hd' hs0 hmid hpp u1 u2 hq
 go_enter Tryz.func129, Tryz.ntmps129
 repeat' (first | go_values | go_skip | go_guarded | go_step | go_upon)
 go_loopw [20, 21] (fun ks kr wr => ∃ (st r : Nat), Sch f pp lo mid st r ∧ ks = .int .i64 st ∧ kr = .int .i64 r ∧ RowS wr g n f ∧ Below g w wr) (fun ks kr _ => (intOf kr).toNat - (intOf ks).toNat)
 case atStart => exact ⟨lo, mid, Sch.start (by omega), by go_num, by go_num, HR.out, Below.refl g w⟩
 case round =>
  clear HR e1 e2 e3 e4 es0 es1 eq1 epp hx0 hgt hgtN elo
  obtain ⟨st, r, sc, rfl, rfl, hr, B⟩ := hrel
  have gq := hr.lt
  have HR := Hid.mk_ hr
  have s1 := sc.1
  have s2 := sc.2.1
  have s3 := sc.2.2.1
  have SC := Hid.mk_ sc
  clear hr sc
  rcases Nat.lt_or_ge st r with ij | ij
  ·
   have hlt : decide ((st : Int) < (r : Int)) = true := decide_eq_true (by omega)
   obtain ⟨s, hs⟩ : ∃ s, st + r = s := ⟨_, rfl⟩
   obtain ⟨h, hh⟩ : ∃ h, s / 2 = h := ⟨_, rfl⟩
   have es : ((st : Int) + (r : Int)) = (s : Int) := by omega
   have es2 : (s : Int) / 2 = (h : Int) := by omega
   have hi1 : st ≤ h := by omega
   have hj1 : h < r := by omega
   have hn1 : h < n := by omega
   have hx2 : (s : Int) < 2000 := by omega
   obtain ⟨k, hk⟩ : ∃ k, pp - h = k := ⟨_, rfl⟩
   have ek : (pp : Int) - (h : Int) = (k : Int) := by omega
   have kn : k < n := by omega
   have HK := Hid.mk_ hk
   have cx := HR.out.c (i := k) kn
   have cy := HR.out.c (i := h) hn1
   obtain ⟨x, hx⟩ : ∃ x, f k = x := ⟨_, rfl⟩
   obtain ⟨y, hy⟩ : ∃ y, f h = y := ⟨_, rfl⟩
   rw [hx] at cx
   rw [hy] at cy
   have CMc := fun W q => CM W x y q
   obtain ⟨c, hc⟩ : ∃ c, cmpI x y = c := ⟨_, rfl⟩
   simp only [hc] at CMc
   have HXY := Hid.mk_ (And.intro hx hy)
   clear hx hy
   have HS := Hid.mk_ (And.intro hs hh)
   clear hs hh hk
   by_cases lt : x < y
   ·
    have c0 : c < 0 := by rw [← hc]; exact cmpI_neg.2 lt
    clear hc
    repeat' (first | go_values | go_skip | go_guarded | go_step | go_upon)
    refine Reg.wp_chain (fun D v W => Below wr.heap.size wr W ∧ True) (Reg.inl [11]) (Reg.gv [(11, fun z_ => z_ = .int .i64 c)]) Reg.None_ (fun _ => Reg.Any) (fun _ _ => False) (Reg.pl []) (Reg.pl [])
     (by kernel_rfl) (by kernel_rfl) (by kernel_rfl) (Reg.gv_some _ (by intro p hp; simp only [List.mem_cons, List.not_mem_nil, or_false] at hp; rcases hp with rfl <;> first | exact ⟨_, rfl⟩ | exact ⟨_, none, 0, 0, rfl⟩ | exact ⟨_, false, none, 0, 0, rfl⟩ | exact ⟨_, false, none, 0, 0, false, none, 0, 0, rfl⟩)) (fun _ => ⟨belowB, trivial⟩) (fun _ _ _ _ _ h => h) (fun _ _ _ _ _ _ _ _ _ _ _ _ _ => Reg.none_) (fun _ _ _ _ h => h.elim) (fun ops' Q' hops hQ => ?_)
    apply Reg.RP rfl rfl rfl 158 rfl rfl
    ·
     intro D v W hc hj hf K' hK'
     go_step
     exact hK'.out
    · rfl
    apply Reg.RP rfl rfl rfl 159 rfl rfl
    ·
     intro D v W hc hj hf K' hK'
     go_step
     exact hK'.out
    · rfl
    apply Reg.RP rfl rfl rfl 160 rfl rfl
    ·
     intro D v W hc hj hf K' hK'
     go_step
     exact hK'.out
    · rfl
    apply Reg.RP rfl rfl rfl 161 rfl rfl
    ·
     intro D v W hc hj hf K' hK'
     go_step
     exact hK'.out
    · rfl
    apply Reg.RP rfl rfl rfl 162 rfl rfl
    ·
     intro D v W hc hj hf K' hK'
     go_step
     exact hK'.out
    · rfl
    apply Reg.RP rfl rfl rfl 163 rfl rfl
    ·
     intro D v W hc hj hf K' hK'
     go_step
     exact hK'.out
    · rfl
    apply Reg.RP rfl rfl rfl 164 rfl rfl
    ·
     intro D v W hc hj hf K' hK'
     obtain ⟨j0, _⟩ := hj
     have c0 : W.cell? ⟨g, k, none⟩ = some (.int .i64 x) := (j0.cell (p := ⟨g, _, none⟩) gq).trans cx
     go_step
     exact hK'.out
    · rfl
    apply Reg.RP rfl rfl rfl 165 rfl rfl
    ·
     intro D v W hc hj hf K' hK'
     go_step
     exact hK'.out
    · rfl
    apply Reg.RP rfl rfl rfl 166 rfl rfl
    ·
     intro D v W hc hj hf K' hK'
     go_step
     exact hK'.out
    · rfl
    apply Reg.RP rfl rfl rfl 167 rfl rfl
    ·
     intro D v W hc hj hf K' hK'
     go_step
     exact hK'.out
    · rfl
    apply Reg.RP rfl rfl rfl 168 rfl rfl
    ·
     intro D v W hc hj hf K' hK'
     obtain ⟨j0, _⟩ := hj
     have c0 : W.cell? ⟨g, h, none⟩ = some (.int .i64 y) := (j0.cell (p := ⟨g, _, none⟩) gq).trans cy
     go_step
     exact hK'.out
    · rfl
    refine Reg.RC_call rfl (tlt rfl) rfl (fun D v W hc hj hf K' hK' => ?_) ?_
    ·
     obtain ⟨j0, _⟩ := hj
     go_step
     refine (CMc _ (below_steps B (Nat.le_of_lt gl) j0)).mono ?_
     rintro e W2 ⟨rfl, hs⟩
     exact hK'.out _ W2 Reg.any ⟨jst j0 hs, trivial⟩ trivial rfl
    rintro _ rfl
    refine Reg.at220 rfl ?_
    apply Reg.RP rfl rfl rfl 170 rfl rfl
    ·
     intro D v W hc hj hf K' hK'
     go_step
     exact hK'.out
    · rfl
    apply Reg.RP rfl rfl rfl 171 rfl rfl
    ·
     intro D v W hc hj hf K' hK'
     go_step
     exact hK'.out
    · rfl
    refine Reg.RC_end (fun D v w9 hd hj hf => ?_)
    obtain ⟨j0, _⟩ := hj
    have st9 := j0
    clear hd hf j0
    refine hQ _ _ ?_
    clear hQ hops Q' ops'
    have B9 := below_steps B (Nat.le_of_lt gl) st9
    have hr9 := Hid.mk_ (HR.out.steps st9)
    clear st9 HR cx cy
    repeat' (first | go_values | go_skip | go_guarded | go_step | go_upon)
    go_roundw
    case rel => exact ⟨st, h, SC.out.down hi1 hj1 MONO.out (by rw [HK.out, HXY.out.1, HXY.out.2]; exact lt), by go_num, by go_num, hr9.out, B9⟩
    case measure => simp [intOf]; omega
   ·
    have c0 : ¬ c < 0 := fun h => lt (cmpI_neg.1 (by rw [hc]; exact h))
    clear hc
    repeat' (first | go_values | go_skip | go_guarded | go_step | go_upon)
    refine Reg.wp_chain (fun D v W => Below wr.heap.size wr W ∧ True) (Reg.inl [11]) (Reg.gv [(11, fun z_ => z_ = .int .i64 c)]) Reg.None_ (fun _ => Reg.Any) (fun _ _ => False) (Reg.pl []) (Reg.pl [])
     (by kernel_rfl) (by kernel_rfl) (by kernel_rfl) (Reg.gv_some _ (by intro p hp; simp only [List.mem_cons, List.not_mem_nil, or_false] at hp; rcases hp with rfl <;> first | exact ⟨_, rfl⟩ | exact ⟨_, none, 0, 0, rfl⟩ | exact ⟨_, false, none, 0, 0, rfl⟩ | exact ⟨_, false, none, 0, 0, false, none, 0, 0, rfl⟩)) (fun _ => ⟨belowB, trivial⟩) (fun _ _ _ _ _ h => h) (fun _ _ _ _ _ _ _ _ _ _ _ _ _ => Reg.none_) (fun _ _ _ _ h => h.elim) (fun ops' Q' hops hQ => ?_)
    apply Reg.RP rfl rfl rfl 158 rfl rfl
    ·
     intro D v W hc hj hf K' hK'
     go_step
     exact hK'.out
    · rfl
    apply Reg.RP rfl rfl rfl 159 rfl rfl
    ·
     intro D v W hc hj hf K' hK'
     go_step
     exact hK'.out
    · rfl
    apply Reg.RP rfl rfl rfl 160 rfl rfl
    ·
     intro D v W hc hj hf K' hK'
     go_step
     exact hK'.out
    · rfl
    apply Reg.RP rfl rfl rfl 161 rfl rfl
    ·
     intro D v W hc hj hf K' hK'
     go_step
     exact hK'.out
    · rfl
    apply Reg.RP rfl rfl rfl 162 rfl rfl
    ·
     intro D v W hc hj hf K' hK'
     go_step
     exact hK'.out
    · rfl
    apply Reg.RP rfl rfl rfl 163 rfl rfl
    ·
     intro D v W hc hj hf K' hK'
     go_step
     exact hK'.out
    · rfl
    apply Reg.RP rfl rfl rfl 164 rfl rfl
    ·
     intro D v W hc hj hf K' hK'
     obtain ⟨j0, _⟩ := hj
     have c0 : W.cell? ⟨g, k, none⟩ = some (.int .i64 x) := (j0.cell (p := ⟨g, _, none⟩) gq).trans cx
     go_step
     exact hK'.out
    · rfl
    apply Reg.RP rfl rfl rfl 165 rfl rfl
    ·
     intro D v W hc hj hf K' hK'
     go_step
     exact hK'.out
    · rfl
    apply Reg.RP rfl rfl rfl 166 rfl rfl
    ·
     intro D v W hc hj hf K' hK'
     go_step
     exact hK'.out
    · rfl
    apply Reg.RP rfl rfl rfl 167 rfl rfl
    ·
     intro D v W hc hj hf K' hK'
     go_step
     exact hK'.out
    · rfl
    apply Reg.RP rfl rfl rfl 168 rfl rfl
    ·
     intro D v W hc hj hf K' hK'
     obtain ⟨j0, _⟩ := hj
     have c0 : W.cell? ⟨g, h, none⟩ = some (.int .i64 y) := (j0.cell (p := ⟨g, _, none⟩) gq).trans cy
     go_step
     exact hK'.out
    · rfl
    refine Reg.RC_call rfl (tlt rfl) rfl (fun D v W hc hj hf K' hK' => ?_) ?_
    ·
     obtain ⟨j0, _⟩ := hj
     go_step
     refine (CMc _ (below_steps B (Nat.le_of_lt gl) j0)).mono ?_
     rintro e W2 ⟨rfl, hs⟩
     exact hK'.out _ W2 Reg.any ⟨jst j0 hs, trivial⟩ trivial rfl
    rintro _ rfl
    refine Reg.at220 rfl ?_
    apply Reg.RP rfl rfl rfl 170 rfl rfl
    ·
     intro D v W hc hj hf K' hK'
     go_step
     exact hK'.out
    · rfl
    apply Reg.RP rfl rfl rfl 171 rfl rfl
    ·
     intro D v W hc hj hf K' hK'
     go_step
     exact hK'.out
    · rfl
    refine Reg.RC_end (fun D v w9 hd hj hf => ?_)
    obtain ⟨j0, _⟩ := hj
    have st9 := j0
    clear hd hf j0
    refine hQ _ _ ?_
    clear hQ hops Q' ops'
    have B9 := below_steps B (Nat.le_of_lt gl) st9
    have hr9 := Hid.mk_ (HR.out.steps st9)
    clear st9 HR cx cy
    repeat' (first | go_values | go_skip | go_guarded | go_step | go_upon)
    go_roundw
    case rel => exact ⟨h + 1, r, SC.out.up hi1 hj1 MONO.out (by rw [HK.out, HXY.out.1, HXY.out.2]; exact lt), by go_num, by go_num, hr9.out, B9⟩
    case measure => simp [intOf]; omega
  ·
   obtain rfl : st = r := by omega
   have hlt : decide ((st : Int) < (st : Int)) = false := decide_eq_false (by omega)
   obtain ⟨en, hen⟩ : ∃ e, q - st = e := ⟨_, rfl⟩
   have een : (q : Int) - (st : Int) = (en : Int) := by have := HP.out; omega
   have sm : st ≤ m := by omega
   have sq : st ≤ mid := by have := HP.out; omega
   have as_ : a ≤ st := by omega
   have me : m ≤ en := by have := HP.out; omega
   have de : mid ≤ en := by have := HP.out; omega
   have eb : en ≤ b := by have := HP.out; omega
   have HE := Hid.mk_ (show en = mid + m - st ∧ (st = m → en = mid) ∧ (m = en → st = mid) by have := HP.out; omega)
   have ends := sch_ends (f := f) (a := a) (m := m) (b := b) (mid := mid) (s := st) (lo := lo) (hi := mid) (by have h1 := SC.out; rw [HP.out.1] at h1; exact h1) (by omega) (by first | exact .inl ⟨rfl, rfl⟩ | exact .inr ⟨HP.out.2.1, rfl, by have := HP.out; omega⟩)
   have MH := merge_halves (f := f) mid UU.out.1 UU.out.2 as_ sm sq (by omega) (by omega) (by omega) (by have := HE.out; omega) (by have := HE.out; omega) ends.1 ends.2
   rw [← HE.out.1] at MH
   have MH' := Hid.mk_ MH
   clear MH ends hen SC
   rcases (show (st < m ∧ m < en) ∨ ¬ st < m ∨ (st < m ∧ ¬ m < en) by omega) with ⟨g5, g6⟩ | g5 | ⟨g5, g6⟩
   ·
    have d1 : decide ((st : Int) < (m : Int)) = true := decide_eq_true (by omega)
    have d2 : decide ((m : Int) < (en : Int)) = true := decide_eq_true (by omega)
    have RO := vrotate (cap := cap) (p := p) wr st m en HR.out g5 g6 (by omega) hn
    repeat' (first | go_values | go_skip | go_guarded | go_step | go_upon)
    refine RO.mono ?_
    rintro e w6 ⟨rfl, h1, h2⟩
    have B6 : Below g w w6 := B.trans h2
    obtain ⟨g1, hg1⟩ : ∃ z, rotF st m en f = z := ⟨_, rfl⟩
    have G := Hid.mk_ (show RowS w6 g n g1 ∧ SP a b f g1 ∧ Up g1 a st ∧ Up g1 st mid ∧ Up g1 mid en ∧ Up g1 en b ∧ (∀ x y, a ≤ x → x < mid → mid ≤ y → y < b → g1 x ≤ g1 y) from by
     rw [← hg1]; exact ⟨h1, rotF_sp' f as_ g5 g6 eb, MH'.out⟩)
    clear h1 h2 hg1 RO MH' HR B
    dsimp only
    rcases (show (a < st ∧ st < mid) ∨ ¬ a < st ∨ (a < st ∧ ¬ st < mid) by omega) with ⟨g3, g4⟩ | g3 | ⟨g3, g4⟩
    ·
     have d3 : decide ((a : Int) < (st : Int)) = true := decide_eq_true (by omega)
     have d4 : decide ((st : Int) < (mid : Int)) = true := decide_eq_true (by omega)
     have RC := IH a st mid g1 w6 (by omega) G.out.1 g3 g4 (by omega) G.out.2.2.1 G.out.2.2.2.1 B6
     repeat' (first | go_values | go_skip | go_guarded | go_step | go_upon)
     refine RC.mono ?_
     rintro e w7 ⟨rfl, ⟨f7, h1, h2, h3⟩, h4⟩
     have B7 : Below g w w7 := B6.trans h4
     have H7 := Hid.mk_ (show RowS w7 g n f7 ∧ SP a b f f7 ∧ Up f7 mid en ∧ Up f7 en b ∧ SP a mid g1 f7 ∧ Up f7 a mid ∧ (∀ x y, a ≤ x → x < mid → mid ≤ y → y < b → g1 x ≤ g1 y) from ⟨h1, G.out.2.1.trans (h2.mono (Nat.le_refl _) (by omega)), G.out.2.2.2.2.1.congr (fun k k1 _ => h2.out (.inr k1)), G.out.2.2.2.2.2.1.congr (fun k k1 _ => h2.out (.inr (by omega))), h2, h3, G.out.2.2.2.2.2.2⟩)
     clear h1 h2 h3 h4 RC G
     dsimp only
     rcases (show (mid < en ∧ en < b) ∨ ¬ mid < en ∨ (mid < en ∧ ¬ en < b) by omega) with ⟨q1, q2⟩ | q1 | ⟨q1, q2⟩
     ·
      have d5 : decide ((mid : Int) < (en : Int)) = true := decide_eq_true (by omega)
      have d6 : decide ((en : Int) < (b : Int)) = true := decide_eq_true (by omega)
      have RC := IH mid en b f7 w7 (by omega) H7.out.1 q1 q2 hb (H7.out.2.2.1) (H7.out.2.2.2.1) B7
      repeat' (first | go_values | go_skip | go_guarded | go_step | go_upon)
      refine RC.mono ?_
      rintro e w8 ⟨rfl, ⟨f8, h1, h2, h3⟩, h4⟩
      have H8 := Hid.mk_ (And.intro h1 (And.intro h2 h3))
      have B8 : Below g w w8 := B7.trans h4
      clear h1 h2 h3 h4 RC
      dsimp only
      repeat' (first | go_values | go_skip | go_guarded | go_step | go_upon)
      go_returns
      exact ⟨rfl, ⟨f8, H8.out.1, H7.out.2.1.trans (H8.out.2.1.mono (by omega) (Nat.le_refl _)), merge_join (by omega) (by omega) H7.out.2.2.2.2.1 H8.out.2.1 H7.out.2.2.2.2.2.1 H8.out.2.2 H7.out.2.2.2.2.2.2⟩, B8⟩
     ·
      have d5 : decide ((mid : Int) < (en : Int)) = false := decide_eq_false (by omega)
      repeat' (first | go_values | go_skip | go_guarded | go_step | go_upon)
      go_returns
      exact ⟨rfl, ⟨f7, H7.out.1, H7.out.2.1, merge_join (by omega) (by omega) H7.out.2.2.2.2.1 (SP.refl _) H7.out.2.2.2.2.2.1 (by rw [show mid = en by omega]; exact H7.out.2.2.2.1) H7.out.2.2.2.2.2.2⟩, B7⟩
     ·
      have d5 : decide ((mid : Int) < (en : Int)) = true := decide_eq_true (by omega)
      have d6 : decide ((en : Int) < (b : Int)) = false := decide_eq_false (by omega)
      repeat' (first | go_values | go_skip | go_guarded | go_step | go_upon)
      go_returns
      exact ⟨rfl, ⟨f7, H7.out.1, H7.out.2.1, merge_join (by omega) (by omega) H7.out.2.2.2.2.1 (SP.refl _) H7.out.2.2.2.2.2.1 (by have := H7.out.2.2.1; rw [show en = b by omega] at this; exact this) H7.out.2.2.2.2.2.2⟩, B7⟩
    ·
     have d3 : decide ((a : Int) < (st : Int)) = false := decide_eq_false (by omega)
     have H7 := Hid.mk_ (show RowS w6 g n g1 ∧ SP a b f g1 ∧ Up g1 mid en ∧ Up g1 en b ∧ SP a mid g1 g1 ∧ Up g1 a mid ∧ (∀ x y, a ≤ x → x < mid → mid ≤ y → y < b → g1 x ≤ g1 y) from ⟨G.out.1, G.out.2.1, G.out.2.2.2.2.1, G.out.2.2.2.2.2.1, SP.refl _, (by rw [show a = st by omega]; exact G.out.2.2.2.1), G.out.2.2.2.2.2.2⟩)
     clear G
     rcases (show (mid < en ∧ en < b) ∨ ¬ mid < en ∨ (mid < en ∧ ¬ en < b) by omega) with ⟨q1, q2⟩ | q1 | ⟨q1, q2⟩
     ·
      have d5 : decide ((mid : Int) < (en : Int)) = true := decide_eq_true (by omega)
      have d6 : decide ((en : Int) < (b : Int)) = true := decide_eq_true (by omega)
      have RC := IH mid en b g1 w6 (by omega) H7.out.1 q1 q2 hb (H7.out.2.2.1) (H7.out.2.2.2.1) B6
      repeat' (first | go_values | go_skip | go_guarded | go_step | go_upon)
      refine RC.mono ?_
      rintro e w8 ⟨rfl, ⟨f8, h1, h2, h3⟩, h4⟩
      have H8 := Hid.mk_ (And.intro h1 (And.intro h2 h3))
      have B8 : Below g w w8 := B6.trans h4
      clear h1 h2 h3 h4 RC
      dsimp only
      repeat' (first | go_values | go_skip | go_guarded | go_step | go_upon)
      go_returns
      exact ⟨rfl, ⟨f8, H8.out.1, H7.out.2.1.trans (H8.out.2.1.mono (by omega) (Nat.le_refl _)), merge_join (by omega) (by omega) H7.out.2.2.2.2.1 H8.out.2.1 H7.out.2.2.2.2.2.1 H8.out.2.2 H7.out.2.2.2.2.2.2⟩, B8⟩
     ·
      have d5 : decide ((mid : Int) < (en : Int)) = false := decide_eq_false (by omega)
      repeat' (first | go_values | go_skip | go_guarded | go_step | go_upon)
      go_returns
      exact ⟨rfl, ⟨g1, H7.out.1, H7.out.2.1, merge_join (by omega) (by omega) H7.out.2.2.2.2.1 (SP.refl _) H7.out.2.2.2.2.2.1 (by rw [show mid = en by omega]; exact H7.out.2.2.2.1) H7.out.2.2.2.2.2.2⟩, B6⟩
     ·
      have d5 : decide ((mid : Int) < (en : Int)) = true := decide_eq_true (by omega)
      have d6 : decide ((en : Int) < (b : Int)) = false := decide_eq_false (by omega)
      repeat' (first | go_values | go_skip | go_guarded | go_step | go_upon)
      go_returns
      exact ⟨rfl, ⟨g1, H7.out.1, H7.out.2.1, merge_join (by omega) (by omega) H7.out.2.2.2.2.1 (SP.refl _) H7.out.2.2.2.2.2.1 (by have := H7.out.2.2.1; rw [show en = b by omega] at this; exact this) H7.out.2.2.2.2.2.2⟩, B6⟩
    ·
     have d3 : decide ((a : Int) < (st : Int)) = true := decide_eq_true (by omega)
     have d4 : decide ((st : Int) < (mid : Int)) = false := decide_eq_false (by omega)
     have H7 := Hid.mk_ (show RowS w6 g n g1 ∧ SP a b f g1 ∧ Up g1 mid en ∧ Up g1 en b ∧ SP a mid g1 g1 ∧ Up g1 a mid ∧ (∀ x y, a ≤ x → x < mid → mid ≤ y → y < b → g1 x ≤ g1 y) from ⟨G.out.1, G.out.2.1, G.out.2.2.2.2.1, G.out.2.2.2.2.2.1, SP.refl _, (by have := G.out.2.2.1; rw [show st = mid by omega] at this; exact this), G.out.2.2.2.2.2.2⟩)
     clear G
     rcases (show (mid < en ∧ en < b) ∨ ¬ mid < en ∨ (mid < en ∧ ¬ en < b) by omega) with ⟨q1, q2⟩ | q1 | ⟨q1, q2⟩
     ·
      have d5 : decide ((mid : Int) < (en : Int)) = true := decide_eq_true (by omega)
      have d6 : decide ((en : Int) < (b : Int)) = true := decide_eq_true (by omega)
      have RC := IH mid en b g1 w6 (by omega) H7.out.1 q1 q2 hb (H7.out.2.2.1) (H7.out.2.2.2.1) B6
      repeat' (first | go_values | go_skip | go_guarded | go_step | go_upon)
      refine RC.mono ?_
      rintro e w8 ⟨rfl, ⟨f8, h1, h2, h3⟩, h4⟩
      have H8 := Hid.mk_ (And.intro h1 (And.intro h2 h3))
      have B8 : Below g w w8 := B6.trans h4
      clear h1 h2 h3 h4 RC
      dsimp only
      repeat' (first | go_values | go_skip | go_guarded | go_step | go_upon)
      go_returns
      exact ⟨rfl, ⟨f8, H8.out.1, H7.out.2.1.trans (H8.out.2.1.mono (by omega) (Nat.le_refl _)), merge_join (by omega) (by omega) H7.out.2.2.2.2.1 H8.out.2.1 H7.out.2.2.2.2.2.1 H8.out.2.2 H7.out.2.2.2.2.2.2⟩, B8⟩
     ·
      have d5 : decide ((mid : Int) < (en : Int)) = false := decide_eq_false (by omega)
      repeat' (first | go_values | go_skip | go_guarded | go_step | go_upon)
      go_returns
      exact ⟨rfl, ⟨g1, H7.out.1, H7.out.2.1, merge_join (by omega) (by omega) H7.out.2.2.2.2.1 (SP.refl _) H7.out.2.2.2.2.2.1 (by rw [show mid = en by omega]; exact H7.out.2.2.2.1) H7.out.2.2.2.2.2.2⟩, B6⟩
     ·
      have d5 : decide ((mid : Int) < (en : Int)) = true := decide_eq_true (by omega)
      have d6 : decide ((en : Int) < (b : Int)) = false := decide_eq_false (by omega)
      repeat' (first | go_values | go_skip | go_guarded | go_step | go_upon)
      go_returns
      exact ⟨rfl, ⟨g1, H7.out.1, H7.out.2.1, merge_join (by omega) (by omega) H7.out.2.2.2.2.1 (SP.refl _) H7.out.2.2.2.2.2.1 (by have := H7.out.2.2.1; rw [show en = b by omega] at this; exact this) H7.out.2.2.2.2.2.2⟩, B6⟩
   ·
    have d1 : decide ((st : Int) < (m : Int)) = false := decide_eq_false (by omega)
    have G := Hid.mk_ (show RowS wr g n f ∧ SP a b f f ∧ Up f a st ∧ Up f st mid ∧ Up f mid en ∧ Up f en b ∧ (∀ x y, a ≤ x → x < mid → mid ≤ y → y < b → f x ≤ f y) from ⟨HR.out, SP.refl f, by
     have := MH'.out
     rw [rotF_id f sm me (by omega)] at this
     exact this⟩)
    have g1e : ∃ g1, g1 = f := ⟨f, rfl⟩
    obtain ⟨g1, hg1⟩ := g1e
    have G : Hid (RowS wr g n g1 ∧ SP a b f g1 ∧ Up g1 a st ∧ Up g1 st mid ∧ Up g1 mid en ∧ Up g1 en b ∧ (∀ x y, a ≤ x → x < mid → mid ≤ y → y < b → g1 x ≤ g1 y)) := by rw [hg1]; exact G
    clear hg1 MH' HR
    rcases (show (a < st ∧ st < mid) ∨ ¬ a < st ∨ (a < st ∧ ¬ st < mid) by omega) with ⟨g3, g4⟩ | g3 | ⟨g3, g4⟩
    ·
     have d3 : decide ((a : Int) < (st : Int)) = true := decide_eq_true (by omega)
     have d4 : decide ((st : Int) < (mid : Int)) = true := decide_eq_true (by omega)
     have RC := IH a st mid g1 wr (by omega) G.out.1 g3 g4 (by omega) G.out.2.2.1 G.out.2.2.2.1 B
     repeat' (first | go_values | go_skip | go_guarded | go_step | go_upon)
     refine RC.mono ?_
     rintro e w7 ⟨rfl, ⟨f7, h1, h2, h3⟩, h4⟩
     have B7 : Below g w w7 := B.trans h4
     have H7 := Hid.mk_ (show RowS w7 g n f7 ∧ SP a b f f7 ∧ Up f7 mid en ∧ Up f7 en b ∧ SP a mid g1 f7 ∧ Up f7 a mid ∧ (∀ x y, a ≤ x → x < mid → mid ≤ y → y < b → g1 x ≤ g1 y) from ⟨h1, G.out.2.1.trans (h2.mono (Nat.le_refl _) (by omega)), G.out.2.2.2.2.1.congr (fun k k1 _ => h2.out (.inr k1)), G.out.2.2.2.2.2.1.congr (fun k k1 _ => h2.out (.inr (by omega))), h2, h3, G.out.2.2.2.2.2.2⟩)
     clear h1 h2 h3 h4 RC G
     dsimp only
     rcases (show (mid < en ∧ en < b) ∨ ¬ mid < en ∨ (mid < en ∧ ¬ en < b) by omega) with ⟨q1, q2⟩ | q1 | ⟨q1, q2⟩
     ·
      have d5 : decide ((mid : Int) < (en : Int)) = true := decide_eq_true (by omega)
      have d6 : decide ((en : Int) < (b : Int)) = true := decide_eq_true (by omega)
      have RC := IH mid en b f7 w7 (by omega) H7.out.1 q1 q2 hb (H7.out.2.2.1) (H7.out.2.2.2.1) B7
      repeat' (first | go_values | go_skip | go_guarded | go_step | go_upon)
      refine RC.mono ?_
      rintro e w8 ⟨rfl, ⟨f8, h1, h2, h3⟩, h4⟩
      have H8 := Hid.mk_ (And.intro h1 (And.intro h2 h3))
      have B8 : Below g w w8 := B7.trans h4
      clear h1 h2 h3 h4 RC
      dsimp only
      repeat' (first | go_values | go_skip | go_guarded | go_step | go_upon)
      go_returns
      exact ⟨rfl, ⟨f8, H8.out.1, H7.out.2.1.trans (H8.out.2.1.mono (by omega) (Nat.le_refl _)), merge_join (by omega) (by omega) H7.out.2.2.2.2.1 H8.out.2.1 H7.out.2.2.2.2.2.1 H8.out.2.2 H7.out.2.2.2.2.2.2⟩, B8⟩
     ·
      have d5 : decide ((mid : Int) < (en : Int)) = false := decide_eq_false (by omega)
      repeat' (first | go_values | go_skip | go_guarded | go_step | go_upon)
      go_returns
      exact ⟨rfl, ⟨f7, H7.out.1, H7.out.2.1, merge_join (by omega) (by omega) H7.out.2.2.2.2.1 (SP.refl _) H7.out.2.2.2.2.2.1 (by rw [show mid = en by omega]; exact H7.out.2.2.2.1) H7.out.2.2.2.2.2.2⟩, B7⟩
     ·
      have d5 : decide ((mid : Int) < (en : Int)) = true := decide_eq_true (by omega)
      have d6 : decide ((en : Int) < (b : Int)) = false := decide_eq_false (by omega)
      repeat' (first | go_values | go_skip | go_guarded | go_step | go_upon)
      go_returns
      exact ⟨rfl, ⟨f7, H7.out.1, H7.out.2.1, merge_join (by omega) (by omega) H7.out.2.2.2.2.1 (SP.refl _) H7.out.2.2.2.2.2.1 (by have := H7.out.2.2.1; rw [show en = b by omega] at this; exact this) H7.out.2.2.2.2.2.2⟩, B7⟩
    ·
     have d3 : decide ((a : Int) < (st : Int)) = false := decide_eq_false (by omega)
     have H7 := Hid.mk_ (show RowS wr g n g1 ∧ SP a b f g1 ∧ Up g1 mid en ∧ Up g1 en b ∧ SP a mid g1 g1 ∧ Up g1 a mid ∧ (∀ x y, a ≤ x → x < mid → mid ≤ y → y < b → g1 x ≤ g1 y) from ⟨G.out.1, G.out.2.1, G.out.2.2.2.2.1, G.out.2.2.2.2.2.1, SP.refl _, (by rw [show a = st by omega]; exact G.out.2.2.2.1), G.out.2.2.2.2.2.2⟩)
     clear G
     rcases (show (mid < en ∧ en < b) ∨ ¬ mid < en ∨ (mid < en ∧ ¬ en < b) by omega) with ⟨q1, q2⟩ | q1 | ⟨q1, q2⟩
     ·
      have d5 : decide ((mid : Int) < (en : Int)) = true := decide_eq_true (by omega)
      have d6 : decide ((en : Int) < (b : Int)) = true := decide_eq_true (by omega)
      have RC := IH mid en b g1 wr (by omega) H7.out.1 q1 q2 hb (H7.out.2.2.1) (H7.out.2.2.2.1) B
      repeat' (first | go_values | go_skip | go_guarded | go_step | go_upon)
      refine RC.mono ?_
      rintro e w8 ⟨rfl, ⟨f8, h1, h2, h3⟩, h4⟩
      have H8 := Hid.mk_ (And.intro h1 (And.intro h2 h3))
      have B8 : Below g w w8 := B.trans h4
      clear h1 h2 h3 h4 RC
      dsimp only
      repeat' (first | go_values | go_skip | go_guarded | go_step | go_upon)
      go_returns
      exact ⟨rfl, ⟨f8, H8.out.1, H7.out.2.1.trans (H8.out.2.1.mono (by omega) (Nat.le_refl _)), merge_join (by omega) (by omega) H7.out.2.2.2.2.1 H8.out.2.1 H7.out.2.2.2.2.2.1 H8.out.2.2 H7.out.2.2.2.2.2.2⟩, B8⟩
     ·
      have d5 : decide ((mid : Int) < (en : Int)) = false := decide_eq_false (by omega)
      repeat' (first | go_values | go_skip | go_guarded | go_step | go_upon)
      go_returns
      exact ⟨rfl, ⟨g1, H7.out.1, H7.out.2.1, merge_join (by omega) (by omega) H7.out.2.2.2.2.1 (SP.refl _) H7.out.2.2.2.2.2.1 (by rw [show mid = en by omega]; exact H7.out.2.2.2.1) H7.out.2.2.2.2.2.2⟩, B⟩
     ·
      have d5 : decide ((mid : Int) < (en : Int)) = true := decide_eq_true (by omega)
      have d6 : decide ((en : Int) < (b : Int)) = false := decide_eq_false (by omega)
      repeat' (first | go_values | go_skip | go_guarded | go_step | go_upon)
      go_returns
      exact ⟨rfl, ⟨g1, H7.out.1, H7.out.2.1, merge_join (by omega) (by omega) H7.out.2.2.2.2.1 (SP.refl _) H7.out.2.2.2.2.2.1 (by have := H7.out.2.2.1; rw [show en = b by omega] at this; exact this) H7.out.2.2.2.2.2.2⟩, B⟩
    ·
     have d3 : decide ((a : Int) < (st : Int)) = true := decide_eq_true (by omega)
     have d4 : decide ((st : Int) < (mid : Int)) = false := decide_eq_false (by omega)
     have H7 := Hid.mk_ (show RowS wr g n g1 ∧ SP a b f g1 ∧ Up g1 mid en ∧ Up g1 en b ∧ SP a mid g1 g1 ∧ Up g1 a mid ∧ (∀ x y, a ≤ x → x < mid → mid ≤ y → y < b → g1 x ≤ g1 y) from ⟨G.out.1, G.out.2.1, G.out.2.2.2.2.1, G.out.2.2.2.2.2.1, SP.refl _, (by have := G.out.2.2.1; rw [show st = mid by omega] at this; exact this), G.out.2.2.2.2.2.2⟩)
     clear G
     rcases (show (mid < en ∧ en < b) ∨ ¬ mid < en ∨ (mid < en ∧ ¬ en < b) by omega) with ⟨q1, q2⟩ | q1 | ⟨q1, q2⟩
     ·
      have d5 : decide ((mid : Int) < (en : Int)) = true := decide_eq_true (by omega)
      have d6 : decide ((en : Int) < (b : Int)) = true := decide_eq_true (by omega)
      have RC := IH mid en b g1 wr (by omega) H7.out.1 q1 q2 hb (H7.out.2.2.1) (H7.out.2.2.2.1) B
      repeat' (first | go_values | go_skip | go_guarded | go_step | go_upon)
      refine RC.mono ?_
      rintro e w8 ⟨rfl, ⟨f8, h1, h2, h3⟩, h4⟩
      have H8 := Hid.mk_ (And.intro h1 (And.intro h2 h3))
      have B8 : Below g w w8 := B.trans h4
      clear h1 h2 h3 h4 RC
      dsimp only
      repeat' (first | go_values | go_skip | go_guarded | go_step | go_upon)
      go_returns
      exact ⟨rfl, ⟨f8, H8.out.1, H7.out.2.1.trans (H8.out.2.1.mono (by omega) (Nat.le_refl _)), merge_join (by omega) (by omega) H7.out.2.2.2.2.1 H8.out.2.1 H7.out.2.2.2.2.2.1 H8.out.2.2 H7.out.2.2.2.2.2.2⟩, B8⟩
     ·
      have d5 : decide ((mid : Int) < (en : Int)) = false := decide_eq_false (by omega)
      repeat' (first | go_values | go_skip | go_guarded | go_step | go_upon)
      go_returns
      exact ⟨rfl, ⟨g1, H7.out.1, H7.out.2.1, merge_join (by omega) (by omega) H7.out.2.2.2.2.1 (SP.refl _) H7.out.2.2.2.2.2.1 (by rw [show mid = en by omega]; exact H7.out.2.2.2.1) H7.out.2.2.2.2.2.2⟩, B⟩
     ·
      have d5 : decide ((mid : Int) < (en : Int)) = true := decide_eq_true (by omega)
      have d6 : decide ((en : Int) < (b : Int)) = false := decide_eq_false (by omega)
      repeat' (first | go_values | go_skip | go_guarded | go_step | go_upon)
      go_returns
      exact ⟨rfl, ⟨g1, H7.out.1, H7.out.2.1, merge_join (by omega) (by omega) H7.out.2.2.2.2.1 (SP.refl _) H7.out.2.2.2.2.2.1 (by have := H7.out.2.2.1; rw [show en = b by omega] at this; exact this) H7.out.2.2.2.2.2.2⟩, B⟩
   ·
    have d1 : decide ((st : Int) < (m : Int)) = true := decide_eq_true (by omega)
    have d2 : decide ((m : Int) < (en : Int)) = false := decide_eq_false (by omega)
    have G := Hid.mk_ (show RowS wr g n f ∧ SP a b f f ∧ Up f a st ∧ Up f st mid ∧ Up f mid en ∧ Up f en b ∧ (∀ x y, a ≤ x → x < mid → mid ≤ y → y < b → f x ≤ f y) from ⟨HR.out, SP.refl f, by
     have := MH'.out
     rw [rotF_id f sm me (by omega)] at this
     exact this⟩)
    have g1e : ∃ g1, g1 = f := ⟨f, rfl⟩
    obtain ⟨g1, hg1⟩ := g1e
    have G : Hid (RowS wr g n g1 ∧ SP a b f g1 ∧ Up g1 a st ∧ Up g1 st mid ∧ Up g1 mid en ∧ Up g1 en b ∧ (∀ x y, a ≤ x → x < mid → mid ≤ y → y < b → g1 x ≤ g1 y)) := by rw [hg1]; exact G
    clear hg1 MH' HR
    rcases (show (a < st ∧ st < mid) ∨ ¬ a < st ∨ (a < st ∧ ¬ st < mid) by omega) with ⟨g3, g4⟩ | g3 | ⟨g3, g4⟩
    ·
     have d3 : decide ((a : Int) < (st : Int)) = true := decide_eq_true (by omega)
     have d4 : decide ((st : Int) < (mid : Int)) = true := decide_eq_true (by omega)
     have RC := IH a st mid g1 wr (by omega) G.out.1 g3 g4 (by omega) G.out.2.2.1 G.out.2.2.2.1 B
     repeat' (first | go_values | go_skip | go_guarded | go_step | go_upon)
     refine RC.mono ?_
     rintro e w7 ⟨rfl, ⟨f7, h1, h2, h3⟩, h4⟩
     have B7 : Below g w w7 := B.trans h4
     have H7 := Hid.mk_ (show RowS w7 g n f7 ∧ SP a b f f7 ∧ Up f7 mid en ∧ Up f7 en b ∧ SP a mid g1 f7 ∧ Up f7 a mid ∧ (∀ x y, a ≤ x → x < mid → mid ≤ y → y < b → g1 x ≤ g1 y) from ⟨h1, G.out.2.1.trans (h2.mono (Nat.le_refl _) (by omega)), G.out.2.2.2.2.1.congr (fun k k1 _ => h2.out (.inr k1)), G.out.2.2.2.2.2.1.congr (fun k k1 _ => h2.out (.inr (by omega))), h2, h3, G.out.2.2.2.2.2.2⟩)
     clear h1 h2 h3 h4 RC G
     dsimp only
     rcases (show (mid < en ∧ en < b) ∨ ¬ mid < en ∨ (mid < en ∧ ¬ en < b) by omega) with ⟨q1, q2⟩ | q1 | ⟨q1, q2⟩
     ·
      have d5 : decide ((mid : Int) < (en : Int)) = true := decide_eq_true (by omega)
      have d6 : decide ((en : Int) < (b : Int)) = true := decide_eq_true (by omega)
      have RC := IH mid en b f7 w7 (by omega) H7.out.1 q1 q2 hb (H7.out.2.2.1) (H7.out.2.2.2.1) B7
      repeat' (first | go_values | go_skip | go_guarded | go_step | go_upon)
      refine RC.mono ?_
      rintro e w8 ⟨rfl, ⟨f8, h1, h2, h3⟩, h4⟩
      have H8 := Hid.mk_ (And.intro h1 (And.intro h2 h3))
      have B8 : Below g w w8 := B7.trans h4
      clear h1 h2 h3 h4 RC
      dsimp only
      repeat' (first | go_values | go_skip | go_guarded | go_step | go_upon)
      go_returns
      exact ⟨rfl, ⟨f8, H8.out.1, H7.out.2.1.trans (H8.out.2.1.mono (by omega) (Nat.le_refl _)), merge_join (by omega) (by omega) H7.out.2.2.2.2.1 H8.out.2.1 H7.out.2.2.2.2.2.1 H8.out.2.2 H7.out.2.2.2.2.2.2⟩, B8⟩
     ·
      have d5 : decide ((mid : Int) < (en : Int)) = false := decide_eq_false (by omega)
      repeat' (first | go_values | go_skip | go_guarded | go_step | go_upon)
      go_returns
      exact ⟨rfl, ⟨f7, H7.out.1, H7.out.2.1, merge_join (by omega) (by omega) H7.out.2.2.2.2.1 (SP.refl _) H7.out.2.2.2.2.2.1 (by rw [show mid = en by omega]; exact H7.out.2.2.2.1) H7.out.2.2.2.2.2.2⟩, B7⟩
     ·
      have d5 : decide ((mid : Int) < (en : Int)) = true := decide_eq_true (by omega)
      have d6 : decide ((en : Int) < (b : Int)) = false := decide_eq_false (by omega)
      repeat' (first | go_values | go_skip | go_guarded | go_step | go_upon)
      go_returns
      exact ⟨rfl, ⟨f7, H7.out.1, H7.out.2.1, merge_join (by omega) (by omega) H7.out.2.2.2.2.1 (SP.refl _) H7.out.2.2.2.2.2.1 (by have := H7.out.2.2.1; rw [show en = b by omega] at this; exact this) H7.out.2.2.2.2.2.2⟩, B7⟩
    ·
     have d3 : decide ((a : Int) < (st : Int)) = false := decide_eq_false (by omega)
     have H7 := Hid.mk_ (show RowS wr g n g1 ∧ SP a b f g1 ∧ Up g1 mid en ∧ Up g1 en b ∧ SP a mid g1 g1 ∧ Up g1 a mid ∧ (∀ x y, a ≤ x → x < mid → mid ≤ y → y < b → g1 x ≤ g1 y) from ⟨G.out.1, G.out.2.1, G.out.2.2.2.2.1, G.out.2.2.2.2.2.1, SP.refl _, (by rw [show a = st by omega]; exact G.out.2.2.2.1), G.out.2.2.2.2.2.2⟩)
     clear G
     rcases (show (mid < en ∧ en < b) ∨ ¬ mid < en ∨ (mid < en ∧ ¬ en < b) by omega) with ⟨q1, q2⟩ | q1 | ⟨q1, q2⟩
     ·
      have d5 : decide ((mid : Int) < (en : Int)) = true := decide_eq_true (by omega)
      have d6 : decide ((en : Int) < (b : Int)) = true := decide_eq_true (by omega)
      have RC := IH mid en b g1 wr (by omega) H7.out.1 q1 q2 hb (H7.out.2.2.1) (H7.out.2.2.2.1) B
      repeat' (first | go_values | go_skip | go_guarded | go_step | go_upon)
      refine RC.mono ?_
      rintro e w8 ⟨rfl, ⟨f8, h1, h2, h3⟩, h4⟩
      have H8 := Hid.mk_ (And.intro h1 (And.intro h2 h3))
      have B8 : Below g w w8 := B.trans h4
      clear h1 h2 h3 h4 RC
      dsimp only
      repeat' (first | go_values | go_skip | go_guarded | go_step | go_upon)
      go_returns
      exact ⟨rfl, ⟨f8, H8.out.1, H7.out.2.1.trans (H8.out.2.1.mono (by omega) (Nat.le_refl _)), merge_join (by omega) (by omega) H7.out.2.2.2.2.1 H8.out.2.1 H7.out.2.2.2.2.2.1 H8.out.2.2 H7.out.2.2.2.2.2.2⟩, B8⟩
     ·
      have d5 : decide ((mid : Int) < (en : Int)) = false := decide_eq_false (by omega)
      repeat' (first | go_values | go_skip | go_guarded | go_step | go_upon)
      go_returns
      exact ⟨rfl, ⟨g1, H7.out.1, H7.out.2.1, merge_join (by omega) (by omega) H7.out.2.2.2.2.1 (SP.refl _) H7.out.2.2.2.2.2.1 (by rw [show mid = en by omega]; exact H7.out.2.2.2.1) H7.out.2.2.2.2.2.2⟩, B⟩
     ·
      have d5 : decide ((mid : Int) < (en : Int)) = true := decide_eq_true (by omega)
      have d6 : decide ((en : Int) < (b : Int)) = false := decide_eq_false (by omega)
      repeat' (first | go_values | go_skip | go_guarded | go_step | go_upon)
      go_returns
      exact ⟨rfl, ⟨g1, H7.out.1, H7.out.2.1, merge_join (by omega) (by omega) H7.out.2.2.2.2.1 (SP.refl _) H7.out.2.2.2.2.2.1 (by have := H7.out.2.2.1; rw [show en = b by omega] at this; exact this) H7.out.2.2.2.2.2.2⟩, B⟩
    ·
     have d3 : decide ((a : Int) < (st : Int)) = true := decide_eq_true (by omega)
     have d4 : decide ((st : Int) < (mid : Int)) = false := decide_eq_false (by omega)
     have H7 := Hid.mk_ (show RowS wr g n g1 ∧ SP a b f g1 ∧ Up g1 mid en ∧ Up g1 en b ∧ SP a mid g1 g1 ∧ Up g1 a mid ∧ (∀ x y, a ≤ x → x < mid → mid ≤ y → y < b → g1 x ≤ g1 y) from ⟨G.out.1, G.out.2.1, G.out.2.2.2.2.1, G.out.2.2.2.2.2.1, SP.refl _, (by have := G.out.2.2.1; rw [show st = mid by omega] at this; exact this), G.out.2.2.2.2.2.2⟩)
     clear G
     rcases (show (mid < en ∧ en < b) ∨ ¬ mid < en ∨ (mid < en ∧ ¬ en < b) by omega) with ⟨q1, q2⟩ | q1 | ⟨q1, q2⟩
     ·
      have d5 : decide ((mid : Int) < (en : Int)) = true := decide_eq_true (by omega)
      have d6 : decide ((en : Int) < (b : Int)) = true := decide_eq_true (by omega)
      have RC := IH mid en b g1 wr (by omega) H7.out.1 q1 q2 hb (H7.out.2.2.1) (H7.out.2.2.2.1) B
      repeat' (first | go_values | go_skip | go_guarded | go_step | go_upon)
      refine RC.mono ?_
      rintro e w8 ⟨rfl, ⟨f8, h1, h2, h3⟩, h4⟩
      have H8 := Hid.mk_ (And.intro h1 (And.intro h2 h3))
      have B8 : Below g w w8 := B.trans h4
      clear h1 h2 h3 h4 RC
      dsimp only
      repeat' (first | go_values | go_skip | go_guarded | go_step | go_upon)
      go_returns
      exact ⟨rfl, ⟨f8, H8.out.1, H7.out.2.1.trans (H8.out.2.1.mono (by omega) (Nat.le_refl _)), merge_join (by omega) (by omega) H7.out.2.2.2.2.1 H8.out.2.1 H7.out.2.2.2.2.2.1 H8.out.2.2 H7.out.2.2.2.2.2.2⟩, B8⟩
     ·
      have d5 : decide ((mid : Int) < (en : Int)) = false := decide_eq_false (by omega)
      repeat' (first | go_values | go_skip | go_guarded | go_step | go_upon)
      go_returns
      exact ⟨rfl, ⟨g1, H7.out.1, H7.out.2.1, merge_join (by omega) (by omega) H7.out.2.2.2.2.1 (SP.refl _) H7.out.2.2.2.2.2.1 (by rw [show mid = en by omega]; exact H7.out.2.2.2.1) H7.out.2.2.2.2.2.2⟩, B⟩
     ·
      have d5 : decide ((mid : Int) < (en : Int)) = true := decide_eq_true (by omega)
      have d6 : decide ((en : Int) < (b : Int)) = false := decide_eq_false (by omega)
      repeat' (first | go_values | go_skip | go_guarded | go_step | go_upon)
      go_returns
      exact ⟨rfl, ⟨g1, H7.out.1, H7.out.2.1, merge_join (by omega) (by omega) H7.out.2.2.2.2.1 (SP.refl _) H7.out.2.2.2.2.2.1 (by have := H7.out.2.2.1; rw [show en = b by omega] at this; exact this) H7.out.2.2.2.2.2.2⟩, B⟩
theorem vsymC2 {g n cap p : Nat} {f : Nat → Int} (w : World) (a m b : Nat) (hr : RowS w g n f) (ha : a + 1 < m) (hm : m + 1 < b) (hb : b ≤ n) (hn : n ≤ 1000) (u1 : Up f a m) (u2 : Up f m b) (hw : m ≤ (a + b) / 2) (CM : ∀ W x y, Below g w W → Calls Tryz.prog 89 #[.int .i64 x, .int .i64 y, .pointer (some ⟨p, 0, none⟩)] W fun e w2 => e = .returned (.int .i64 (cmpI x y)) ∧ Steps W w2) (IH : ∀ (a' m' b' : Nat) (f' : Nat → Int) (w' : World), b' - a' < b - a → RowS w' g n f' → a' < m' → m' < b' → b' ≤ n → Up f' a' m' → Up f' m' b' → Below g w w' → Calls Tryz.prog 129 #[.slice (some ⟨g, 0, none⟩) n cap, .int .i64 a', .int .i64 m', .int .i64 b', .func (.func 89) #[] #[.pointer (some ⟨p, 0, none⟩)]] w' fun e w2 => e = .returned (.tuple #[]) ∧ (∃ f2, RowS w2 g n f2 ∧ SP a' b' f' f2 ∧ Up f2 a' b') ∧ Below g w' w2) :
  Calls Tryz.prog 129 #[.slice (some ⟨g, 0, none⟩) n cap, .int .i64 a, .int .i64 m, .int .i64 b, .func (.func 89) #[] #[.pointer (some ⟨p, 0, none⟩)]] w fun e w' => e = .returned (.tuple #[]) ∧ (∃ f', RowS w' g n f' ∧ SP a b f f' ∧ Up f' a b) ∧ Below g w w' := by
 have gl := hr.lt
 have HR := Hid.mk_ hr
 clear hr
 obtain ⟨d, hd⟩ : ∃ d, m - a = d := ⟨_, rfl⟩
 have e1 : ((m : Int) - (a : Int)) = (d : Int) := by omega
 have e2 : ((d : Int) == 1) = false := by simp; omega
 obtain ⟨d', hd'⟩ : ∃ d, b - m = d := ⟨_, rfl⟩
 have e3 : ((b : Int) - (m : Int)) = (d' : Int) := by omega
 have e4 : ((d' : Int) == 1) = false := by simp; omega
 obtain ⟨s0, hs0⟩ : ∃ s, a + b = s := ⟨_, rfl⟩
 obtain ⟨mid, hmid⟩ : ∃ s, s0 / 2 = s := ⟨_, rfl⟩
 have es0 : ((a : Int) + (b : Int)) = (s0 : Int) := by omega
 have es1 : (s0 : Int) / 2 = (mid : Int) := by omega
 have hx0 : (s0 : Int) < 2000 := by omega
 rw [hs0, hmid] at hw
 obtain ⟨q, hq⟩ : ∃ q, mid + m = q := ⟨_, rfl⟩
 have eq1 : ((mid : Int) + (m : Int)) = (q : Int) := by omega
 obtain ⟨pp, hpp⟩ : ∃ p, q - 1 = p := ⟨_, rfl⟩
 have epp : (q : Int) - 1 = (pp : Int) := by omega
 have m1 : a < mid := by omega
 have m2 : mid < b := by omega
 have m3 : 2 * mid ≤ a + b := by omega
 have m4 : a + b ≤ 2 * mid + 1 := by omega
 have hgt : decide ((mid : Int) < (m : Int)) = false := decide_eq_false (by omega)
 have hgtN : decide (mid < m) = false := decide_eq_false (by omega)
 have HP := Hid.mk_ (show pp = mid + m - 1 ∧ a = a ∧ q = mid + m ∧ a ≤ a by omega)
 have pb : pp < a + b := by omega
 have ph : m + m ≤ pp + 1 := by omega
 have MONO := Hid.mk_ (sch_mono (p := pp) (lo := a) (hi := m) u1 u2 (by omega) (by omega) ph pb)
 have UU := Hid.mk_ (And.intro u1 u2)
 clear hd hd' hs0 hmid hpp u1 u2 hq
 go_enter Tryz.func129, Tryz.ntmps129
 repeat' (first | go_values | go_skip | go_guarded | go_step | go_upon)
 go_loopw [20, 21] (fun ks kr wr => ∃ (st r : Nat), Sch f pp a m st r ∧ ks = .int .i64 st ∧ kr = .int .i64 r ∧ RowS wr g n f ∧ Below g w wr) (fun ks kr _ => (intOf kr).toNat - (intOf ks).toNat)
 case atStart => exact ⟨a, m, Sch.start (by omega), by go_num, by go_num, HR.out, Below.refl g w⟩
 case round =>
  clear HR e1 e2 e3 e4 es0 es1 eq1 epp hx0 hgt hgtN
  obtain ⟨st, r, sc, rfl, rfl, hr, B⟩ := hrel
  have gq := hr.lt
  have HR := Hid.mk_ hr
  have s1 := sc.1
  have s2 := sc.2.1
  have s3 := sc.2.2.1
  have SC := Hid.mk_ sc
  clear hr sc
  rcases Nat.lt_or_ge st r with ij | ij
  ·
   have hlt : decide ((st : Int) < (r : Int)) = true := decide_eq_true (by omega)
   obtain ⟨s, hs⟩ : ∃ s, st + r = s := ⟨_, rfl⟩
   obtain ⟨h, hh⟩ : ∃ h, s / 2 = h := ⟨_, rfl⟩
   have es : ((st : Int) + (r : Int)) = (s : Int) := by omega
   have es2 : (s : Int) / 2 = (h : Int) := by omega
   have hi1 : st ≤ h := by omega
   have hj1 : h < r := by omega
   have hn1 : h < n := by omega
   have hx2 : (s : Int) < 2000 := by omega
   obtain ⟨k, hk⟩ : ∃ k, pp - h = k := ⟨_, rfl⟩
   have ek : (pp : Int) - (h : Int) = (k : Int) := by omega
   have kn : k < n := by omega
   have HK := Hid.mk_ hk
   have cx := HR.out.c (i := k) kn
   have cy := HR.out.c (i := h) hn1
   obtain ⟨x, hx⟩ : ∃ x, f k = x := ⟨_, rfl⟩
   obtain ⟨y, hy⟩ : ∃ y, f h = y := ⟨_, rfl⟩
   rw [hx] at cx
   rw [hy] at cy
   have CMc := fun W q => CM W x y q
   obtain ⟨c, hc⟩ : ∃ c, cmpI x y = c := ⟨_, rfl⟩
   simp only [hc] at CMc
   have HXY := Hid.mk_ (And.intro hx hy)
   clear hx hy
   have HS := Hid.mk_ (And.intro hs hh)
   clear hs hh hk
   by_cases lt : x < y
   ·
    have c0 : c < 0 := by rw [← hc]; exact cmpI_neg.2 lt
    clear hc
    repeat' (first | go_values | go_skip | go_guarded | go_step | go_upon)
    refine Reg.wp_chain (fun D v W => Below wr.heap.size wr W ∧ True) (Reg.inl [11]) (Reg.gv [(11, fun z_ => z_ = .int .i64 c)]) Reg.None_ (fun _ => Reg.Any) (fun _ _ => False) (Reg.pl []) (Reg.pl [])
     (by kernel_rfl) (by kernel_rfl) (by kernel_rfl) (Reg.gv_some _ (by intro p hp; simp only [List.mem_cons, List.not_mem_nil, or_false] at hp; rcases hp with rfl <;> first | exact ⟨_, rfl⟩ | exact ⟨_, none, 0, 0, rfl⟩ | exact ⟨_, false, none, 0, 0, rfl⟩ | exact ⟨_, false, none, 0, 0, false, none, 0, 0, rfl⟩)) (fun _ => ⟨belowB, trivial⟩) (fun _ _ _ _ _ h => h) (fun _ _ _ _ _ _ _ _ _ _ _ _ _ => Reg.none_) (fun _ _ _ _ h => h.elim) (fun ops' Q' hops hQ => ?_)
    apply Reg.RP rfl rfl rfl 158 rfl rfl
    ·
     intro D v W hc hj hf K' hK'
     go_step
     exact hK'.out
    · rfl
    apply Reg.RP rfl rfl rfl 159 rfl rfl
    ·
     intro D v W hc hj hf K' hK'
     go_step
     exact hK'.out
    · rfl
    apply Reg.RP rfl rfl rfl 160 rfl rfl
    ·
     intro D v W hc hj hf K' hK'
     go_step
     exact hK'.out
    · rfl
    apply Reg.RP rfl rfl rfl 161 rfl rfl
    ·
     intro D v W hc hj hf K' hK'
     go_step
     exact hK'.out
    · rfl
    apply Reg.RP rfl rfl rfl 162 rfl rfl
    ·
     intro D v W hc hj hf K' hK'
     go_step
     exact hK'.out
    · rfl
    apply Reg.RP rfl rfl rfl 163 rfl rfl
    ·
     intro D v W hc hj hf K' hK'
     go_step
     exact hK'.out
    · rfl
    apply Reg.RP rfl rfl rfl 164 rfl rfl
    ·
     intro D v W hc hj hf K' hK'
     obtain ⟨j0, _⟩ := hj
     have c0 : W.cell? ⟨g, k, none⟩ = some (.int .i64 x) := (j0.cell (p := ⟨g, _, none⟩) gq).trans cx
     go_step
     exact hK'.out
    · rfl
    apply Reg.RP rfl rfl rfl 165 rfl rfl
    ·
     intro D v W hc hj hf K' hK'
     go_step
     exact hK'.out
    · rfl
    apply Reg.RP rfl rfl rfl 166 rfl rfl
    ·
     intro D v W hc hj hf K' hK'
     go_step
     exact hK'.out
    · rfl
    apply Reg.RP rfl rfl rfl 167 rfl rfl
    ·
     intro D v W hc hj hf K' hK'
     go_step
     exact hK'.out
    · rfl
    apply Reg.RP rfl rfl rfl 168 rfl rfl
    ·
     intro D v W hc hj hf K' hK'
     obtain ⟨j0, _⟩ := hj
     have c0 : W.cell? ⟨g, h, none⟩ = some (.int .i64 y) := (j0.cell (p := ⟨g, _, none⟩) gq).trans cy
     go_step
     exact hK'.out
    · rfl
    refine Reg.RC_call rfl (tlt rfl) rfl (fun D v W hc hj hf K' hK' => ?_) ?_
    ·
     obtain ⟨j0, _⟩ := hj
     go_step
     refine (CMc _ (below_steps B (Nat.le_of_lt gl) j0)).mono ?_
     rintro e W2 ⟨rfl, hs⟩
     exact hK'.out _ W2 Reg.any ⟨jst j0 hs, trivial⟩ trivial rfl
    rintro _ rfl
    refine Reg.at220 rfl ?_
    apply Reg.RP rfl rfl rfl 170 rfl rfl
    ·
     intro D v W hc hj hf K' hK'
     go_step
     exact hK'.out
    · rfl
    apply Reg.RP rfl rfl rfl 171 rfl rfl
    ·
     intro D v W hc hj hf K' hK'
     go_step
     exact hK'.out
    · rfl
    refine Reg.RC_end (fun D v w9 hd hj hf => ?_)
    obtain ⟨j0, _⟩ := hj
    have st9 := j0
    clear hd hf j0
    refine hQ _ _ ?_
    clear hQ hops Q' ops'
    have B9 := below_steps B (Nat.le_of_lt gl) st9
    have hr9 := Hid.mk_ (HR.out.steps st9)
    clear st9 HR cx cy
    repeat' (first | go_values | go_skip | go_guarded | go_step | go_upon)
    go_roundw
    case rel => exact ⟨st, h, SC.out.down hi1 hj1 MONO.out (by rw [HK.out, HXY.out.1, HXY.out.2]; exact lt), by go_num, by go_num, hr9.out, B9⟩
    case measure => simp [intOf]; omega
   ·
    have c0 : ¬ c < 0 := fun h => lt (cmpI_neg.1 (by rw [hc]; exact h))
    clear hc
    repeat' (first | go_values | go_skip | go_guarded | go_step | go_upon)
    refine Reg.wp_chain (fun D v W => Below wr.heap.size wr W ∧ True) (Reg.inl [11]) (Reg.gv [(11, fun z_ => z_ = .int .i64 c)]) Reg.None_ (fun _ => Reg.Any) (fun _ _ => False) (Reg.pl []) (Reg.pl [])
     (by kernel_rfl) (by kernel_rfl) (by kernel_rfl) (Reg.gv_some _ (by intro p hp; simp only [List.mem_cons, List.not_mem_nil, or_false] at hp; rcases hp with rfl <;> first | exact ⟨_, rfl⟩ | exact ⟨_, none, 0, 0, rfl⟩ | exact ⟨_, false, none, 0, 0, rfl⟩ | exact ⟨_, false, none, 0, 0, false, none, 0, 0, rfl⟩)) (fun _ => ⟨belowB, trivial⟩) (fun _ _ _ _ _ h => h) (fun _ _ _ _ _ _ _ _ _ _ _ _ _ => Reg.none_) (fun _ _ _ _ h => h.elim) (fun ops' Q' hops hQ => ?_)
    apply Reg.RP rfl rfl rfl 158 rfl rfl
    ·
     intro D v W hc hj hf K' hK'
     go_step
     exact hK'.out
    · rfl
    apply Reg.RP rfl rfl rfl 159 rfl rfl
    ·
     intro D v W hc hj hf K' hK'
     go_step
     exact hK'.out
    · rfl
    apply Reg.RP rfl rfl rfl 160 rfl rfl
    ·
     intro D v W hc hj hf K' hK'
     go_step
     exact hK'.out
    · rfl
    apply Reg.RP rfl rfl rfl 161 rfl rfl
    ·
     intro D v W hc hj hf K' hK'
     go_step
     exact hK'.out
    · rfl
    apply Reg.RP rfl rfl rfl 162 rfl rfl
    ·
     intro D v W hc hj hf K' hK'
     go_step
     exact hK'.out
    · rfl
    apply Reg.RP rfl rfl rfl 163 rfl rfl
    ·
     intro D v W hc hj hf K' hK'
     go_step
     exact hK'.out
    · rfl
    apply Reg.RP rfl rfl rfl 164 rfl rfl
    ·
     intro D v W hc hj hf K' hK'
     obtain ⟨j0, _⟩ := hj
     have c0 : W.cell? ⟨g, k, none⟩ = some (.int .i64 x) := (j0.cell (p := ⟨g, _, none⟩) gq).trans cx
     go_step
     exact hK'.out
    · rfl
    apply Reg.RP rfl rfl rfl 165 rfl rfl
    ·
     intro D v W hc hj hf K' hK'
     go_step
     exact hK'.out
    · rfl
    apply Reg.RP rfl rfl rfl 166 rfl rfl
    ·
     intro D v W hc hj hf K' hK'
     go_step
     exact hK'.out
    · rfl
    apply Reg.RP rfl rfl rfl 167 rfl rfl
    ·
     intro D v W hc hj hf K' hK'
     go_step
     exact hK'.out
    · rfl
    apply Reg.RP rfl rfl rfl 168 rfl rfl
    ·
     intro D v W hc hj hf K' hK'
     obtain ⟨j0, _⟩ := hj
     have c0 : W.cell? ⟨g, h, none⟩ = some (.int .i64 y) := (j0.cell (p := ⟨g, _, none⟩) gq).trans cy
     go_step
     exact hK'.out
    · rfl
    refine Reg.RC_call rfl (tlt rfl) rfl (fun D v W hc hj hf K' hK' => ?_) ?_
    ·
     obtain ⟨j0, _⟩ := hj
     go_step
     refine (CMc _ (below_steps B (Nat.le_of_lt gl) j0)).mono ?_
     rintro e W2 ⟨rfl, hs⟩
     exact hK'.out _ W2 Reg.any ⟨jst j0 hs, trivial⟩ trivial rfl
    rintro _ rfl
    refine Reg.at220 rfl ?_
    apply Reg.RP rfl rfl rfl 170 rfl rfl
    ·
     intro D v W hc hj hf K' hK'
     go_step
     exact hK'.out
    · rfl
    apply Reg.RP rfl rfl rfl 171 rfl rfl
    ·
     intro D v W hc hj hf K' hK'
     go_step
     exact hK'.out
    · rfl
    refine Reg.RC_end (fun D v w9 hd hj hf => ?_)
    obtain ⟨j0, _⟩ := hj
    have st9 := j0
    clear hd hf j0
    refine hQ _ _ ?_
    clear hQ hops Q' ops'
    have B9 := below_steps B (Nat.le_of_lt gl) st9
    have hr9 := Hid.mk_ (HR.out.steps st9)
    clear st9 HR cx cy
    repeat' (first | go_values | go_skip | go_guarded | go_step | go_upon)
    go_roundw
    case rel => exact ⟨h + 1, r, SC.out.up hi1 hj1 MONO.out (by rw [HK.out, HXY.out.1, HXY.out.2]; exact lt), by go_num, by go_num, hr9.out, B9⟩
    case measure => simp [intOf]; omega
  ·
   obtain rfl : st = r := by omega
   have hlt : decide ((st : Int) < (st : Int)) = false := decide_eq_false (by omega)
   obtain ⟨en, hen⟩ : ∃ e, q - st = e := ⟨_, rfl⟩
   have een : (q : Int) - (st : Int) = (en : Int) := by have := HP.out; omega
   have sm : st ≤ m := by omega
   have sq : st ≤ mid := by have := HP.out; omega
   have as_ : a ≤ st := by omega
   have me : m ≤ en := by have := HP.out; omega
   have de : mid ≤ en := by have := HP.out; omega
   have eb : en ≤ b := by have := HP.out; omega
   have HE := Hid.mk_ (show en = mid + m - st ∧ (st = m → en = mid) ∧ (m = en → st = mid) by have := HP.out; omega)
   have ends := sch_ends (f := f) (a := a) (m := m) (b := b) (mid := mid) (s := st) (lo := a) (hi := m) (by have h1 := SC.out; rw [HP.out.1] at h1; exact h1) (by omega) (by first | exact .inl ⟨rfl, rfl⟩ | exact .inr ⟨HP.out.2.1, rfl, by have := HP.out; omega⟩)
   have MH := merge_halves (f := f) mid UU.out.1 UU.out.2 as_ sm sq (by omega) (by omega) (by omega) (by have := HE.out; omega) (by have := HE.out; omega) ends.1 ends.2
   rw [← HE.out.1] at MH
   have MH' := Hid.mk_ MH
   clear MH ends hen SC
   rcases (show (st < m ∧ m < en) ∨ ¬ st < m ∨ (st < m ∧ ¬ m < en) by omega) with ⟨g5, g6⟩ | g5 | ⟨g5, g6⟩
   ·
    have d1 : decide ((st : Int) < (m : Int)) = true := decide_eq_true (by omega)
    have d2 : decide ((m : Int) < (en : Int)) = true := decide_eq_true (by omega)
    have RO := vrotate (cap := cap) (p := p) wr st m en HR.out g5 g6 (by omega) hn
    repeat' (first | go_values | go_skip | go_guarded | go_step | go_upon)
    refine RO.mono ?_
    rintro e w6 ⟨rfl, h1, h2⟩
    have B6 : Below g w w6 := B.trans h2
    obtain ⟨g1, hg1⟩ : ∃ z, rotF st m en f = z := ⟨_, rfl⟩
    have G := Hid.mk_ (show RowS w6 g n g1 ∧ SP a b f g1 ∧ Up g1 a st ∧ Up g1 st mid ∧ Up g1 mid en ∧ Up g1 en b ∧ (∀ x y, a ≤ x → x < mid → mid ≤ y → y < b → g1 x ≤ g1 y) from by
     rw [← hg1]; exact ⟨h1, rotF_sp' f as_ g5 g6 eb, MH'.out⟩)
    clear h1 h2 hg1 RO MH' HR B
    dsimp only
    rcases (show (a < st ∧ st < mid) ∨ ¬ a < st ∨ (a < st ∧ ¬ st < mid) by omega) with ⟨g3, g4⟩ | g3 | ⟨g3, g4⟩
    ·
     have d3 : decide ((a : Int) < (st : Int)) = true := decide_eq_true (by omega)
     have d4 : decide ((st : Int) < (mid : Int)) = true := decide_eq_true (by omega)
     have RC := IH a st mid g1 w6 (by omega) G.out.1 g3 g4 (by omega) G.out.2.2.1 G.out.2.2.2.1 B6
     repeat' (first | go_values | go_skip | go_guarded | go_step | go_upon)
     refine RC.mono ?_
     rintro e w7 ⟨rfl, ⟨f7, h1, h2, h3⟩, h4⟩
     have B7 : Below g w w7 := B6.trans h4
     have H7 := Hid.mk_ (show RowS w7 g n f7 ∧ SP a b f f7 ∧ Up f7 mid en ∧ Up f7 en b ∧ SP a mid g1 f7 ∧ Up f7 a mid ∧ (∀ x y, a ≤ x → x < mid → mid ≤ y → y < b → g1 x ≤ g1 y) from ⟨h1, G.out.2.1.trans (h2.mono (Nat.le_refl _) (by omega)), G.out.2.2.2.2.1.congr (fun k k1 _ => h2.out (.inr k1)), G.out.2.2.2.2.2.1.congr (fun k k1 _ => h2.out (.inr (by omega))), h2, h3, G.out.2.2.2.2.2.2⟩)
     clear h1 h2 h3 h4 RC G
     dsimp only
     rcases (show (mid < en ∧ en < b) ∨ ¬ mid < en ∨ (mid < en ∧ ¬ en < b) by omega) with ⟨q1, q2⟩ | q1 | ⟨q1, q2⟩
     ·
      have d5 : decide ((mid : Int) < (en : Int)) = true := decide_eq_true (by omega)
      have d6 : decide ((en : Int) < (b : Int)) = true := decide_eq_true (by omega)
      have RC := IH mid en b f7 w7 (by omega) H7.out.1 q1 q2 hb (H7.out.2.2.1) (H7.out.2.2.2.1) B7
      repeat' (first | go_values | go_skip | go_guarded | go_step | go_upon)
      refine RC.mono ?_
      rintro e w8 ⟨rfl, ⟨f8, h1, h2, h3⟩, h4⟩
      have H8 := Hid.mk_ (And.intro h1 (And.intro h2 h3))
      have B8 : Below g w w8 := B7.trans h4
      clear h1 h2 h3 h4 RC
      dsimp only
      repeat' (first | go_values | go_skip | go_guarded | go_step | go_upon)
      go_returns
      exact ⟨rfl, ⟨f8, H8.out.1, H7.out.2.1.trans (H8.out.2.1.mono (by omega) (Nat.le_refl _)), merge_join (by omega) (by omega) H7.out.2.2.2.2.1 H8.out.2.1 H7.out.2.2.2.2.2.1 H8.out.2.2 H7.out.2.2.2.2.2.2⟩, B8⟩
     ·
      have d5 : decide ((mid : Int) < (en : Int)) = false := decide_eq_false (by omega)
      repeat' (first | go_values | go_skip | go_guarded | go_step | go_upon)
      go_returns
      exact ⟨rfl, ⟨f7, H7.out.1, H7.out.2.1, merge_join (by omega) (by omega) H7.out.2.2.2.2.1 (SP.refl _) H7.out.2.2.2.2.2.1 (by rw [show mid = en by omega]; exact H7.out.2.2.2.1) H7.out.2.2.2.2.2.2⟩, B7⟩
     ·
      have d5 : decide ((mid : Int) < (en : Int)) = true := decide_eq_true (by omega)
      have d6 : decide ((en : Int) < (b : Int)) = false := decide_eq_false (by omega)
      repeat' (first | go_values | go_skip | go_guarded | go_step | go_upon)
      go_returns
      exact ⟨rfl, ⟨f7, H7.out.1, H7.out.2.1, merge_join (by omega) (by omega) H7.out.2.2.2.2.1 (SP.refl _) H7.out.2.2.2.2.2.1 (by have := H7.out.2.2.1; rw [show en = b by omega] at this; exact this) H7.out.2.2.2.2.2.2⟩, B7⟩
    ·
     have d3 : decide ((a : Int) < (st : Int)) = false := decide_eq_false (by omega)
     have H7 := Hid.mk_ (show RowS w6 g n g1 ∧ SP a b f g1 ∧ Up g1 mid en ∧ Up g1 en b ∧ SP a mid g1 g1 ∧ Up g1 a mid ∧ (∀ x y, a ≤ x → x < mid → mid ≤ y → y < b → g1 x ≤ g1 y) from ⟨G.out.1, G.out.2.1, G.out.2.2.2.2.1, G.out.2.2.2.2.2.1, SP.refl _, (by rw [show a = st by omega]; exact G.out.2.2.2.1), G.out.2.2.2.2.2.2⟩)
     clear G
     rcases (show (mid < en ∧ en < b) ∨ ¬ mid < en ∨ (mid < en ∧ ¬ en < b) by omega) with ⟨q1, q2⟩ | q1 | ⟨q1, q2⟩
     ·
      have d5 : decide ((mid : Int) < (en : Int)) = true := decide_eq_true (by omega)
      have d6 : decide ((en : Int) < (b : Int)) = true := decide_eq_true (by omega)
      have RC := IH mid en b g1 w6 (by omega) H7.out.1 q1 q2 hb (H7.out.2.2.1) (H7.out.2.2.2.1) B6
      repeat' (first | go_values | go_skip | go_guarded | go_step | go_upon)
      refine RC.mono ?_
      rintro e w8 ⟨rfl, ⟨f8, h1, h2, h3⟩, h4⟩
      have H8 := Hid.mk_ (And.intro h1 (And.intro h2 h3))
      have B8 : Below g w w8 := B6.trans h4
      clear h1 h2 h3 h4 RC
      dsimp only
      repeat' (first | go_values | go_skip | go_guarded | go_step | go_upon)
      go_returns
      exact ⟨rfl, ⟨f8, H8.out.1, H7.out.2.1.trans (H8.out.2.1.mono (by omega) (Nat.le_refl _)), merge_join (by omega) (by omega) H7.out.2.2.2.2.1 H8.out.2.1 H7.out.2.2.2.2.2.1 H8.out.2.2 H7.out.2.2.2.2.2.2⟩, B8⟩
     ·
      have d5 : decide ((mid : Int) < (en : Int)) = false := decide_eq_false (by omega)
      repeat' (first | go_values | go_skip | go_guarded | go_step | go_upon)
      go_returns
      exact ⟨rfl, ⟨g1, H7.out.1, H7.out.2.1, merge_join (by omega) (by omega) H7.out.2.2.2.2.1 (SP.refl _) H7.out.2.2.2.2.2.1 (by rw [show mid = en by omega]; exact H7.out.2.2.2.1) H7.out.2.2.2.2.2.2⟩, B6⟩
     ·
      have d5 : decide ((mid : Int) < (en : Int)) = true := decide_eq_true (by omega)
      have d6 : decide ((en : Int) < (b : Int)) = false := decide_eq_false (by omega)
      repeat' (first | go_values | go_skip | go_guarded | go_step | go_upon)
      go_returns
      exact ⟨rfl, ⟨g1, H7.out.1, H7.out.2.1, merge_join (by omega) (by omega) H7.out.2.2.2.2.1 (SP.refl _) H7.out.2.2.2.2.2.1 (by have := H7.out.2.2.1; rw [show en = b by omega] at this; exact this) H7.out.2.2.2.2.2.2⟩, B6⟩
    ·
     have d3 : decide ((a : Int) < (st : Int)) = true := decide_eq_true (by omega)
     have d4 : decide ((st : Int) < (mid : Int)) = false := decide_eq_false (by omega)
     have H7 := Hid.mk_ (show RowS w6 g n g1 ∧ SP a b f g1 ∧ Up g1 mid en ∧ Up g1 en b ∧ SP a mid g1 g1 ∧ Up g1 a mid ∧ (∀ x y, a ≤ x → x < mid → mid ≤ y → y < b → g1 x ≤ g1 y) from ⟨G.out.1, G.out.2.1, G.out.2.2.2.2.1, G.out.2.2.2.2.2.1, SP.refl _, (by have := G.out.2.2.1; rw [show st = mid by omega] at this; exact this), G.out.2.2.2.2.2.2⟩)
     clear G
     rcases (show (mid < en ∧ en < b) ∨ ¬ mid < en ∨ (mid < en ∧ ¬ en < b) by omega) with ⟨q1, q2⟩ | q1 | ⟨q1, q2⟩
     ·
      have d5 : decide ((mid : Int) < (en : Int)) = true := decide_eq_true (by omega)
      have d6 : decide ((en : Int) < (b : Int)) = true := decide_eq_true (by omega)
      have RC := IH mid en b g1 w6 (by omega) H7.out.1 q1 q2 hb (H7.out.2.2.1) (H7.out.2.2.2.1) B6
      repeat' (first | go_values | go_skip | go_guarded | go_step | go_upon)
      refine RC.mono ?_
      rintro e w8 ⟨rfl, ⟨f8, h1, h2, h3⟩, h4⟩
      have H8 := Hid.mk_ (And.intro h1 (And.intro h2 h3))
      have B8 : Below g w w8 := B6.trans h4
      clear h1 h2 h3 h4 RC
      dsimp only
      repeat' (first | go_values | go_skip | go_guarded | go_step | go_upon)
      go_returns
      exact ⟨rfl, ⟨f8, H8.out.1, H7.out.2.1.trans (H8.out.2.1.mono (by omega) (Nat.le_refl _)), merge_join (by omega) (by omega) H7.out.2.2.2.2.1 H8.out.2.1 H7.out.2.2.2.2.2.1 H8.out.2.2 H7.out.2.2.2.2.2.2⟩, B8⟩
     ·
      have d5 : decide ((mid : Int) < (en : Int)) = false := decide_eq_false (by omega)
      repeat' (first | go_values | go_skip | go_guarded | go_step | go_upon)
      go_returns
      exact ⟨rfl, ⟨g1, H7.out.1, H7.out.2.1, merge_join (by omega) (by omega) H7.out.2.2.2.2.1 (SP.refl _) H7.out.2.2.2.2.2.1 (by rw [show mid = en by omega]; exact H7.out.2.2.2.1) H7.out.2.2.2.2.2.2⟩, B6⟩
     ·
      have d5 : decide ((mid : Int) < (en : Int)) = true := decide_eq_true (by omega)
      have d6 : decide ((en : Int) < (b : Int)) = false := decide_eq_false (by omega)
      repeat' (first | go_values | go_skip | go_guarded | go_step | go_upon)
      go_returns
      exact ⟨rfl, ⟨g1, H7.out.1, H7.out.2.1, merge_join (by omega) (by omega) H7.out.2.2.2.2.1 (SP.refl _) H7.out.2.2.2.2.2.1 (by have := H7.out.2.2.1; rw [show en = b by omega] at this; exact this) H7.out.2.2.2.2.2.2⟩, B6⟩
   ·
    have d1 : decide ((st : Int) < (m : Int)) = false := decide_eq_false (by omega)
    have G := Hid.mk_ (show RowS wr g n f ∧ SP a b f f ∧ Up f a st ∧ Up f st mid ∧ Up f mid en ∧ Up f en b ∧ (∀ x y, a ≤ x → x < mid → mid ≤ y → y < b → f x ≤ f y) from ⟨HR.out, SP.refl f, by
     have := MH'.out
     rw [rotF_id f sm me (by omega)] at this
     exact this⟩)
    have g1e : ∃ g1, g1 = f := ⟨f, rfl⟩
    obtain ⟨g1, hg1⟩ := g1e
    have G : Hid (RowS wr g n g1 ∧ SP a b f g1 ∧ Up g1 a st ∧ Up g1 st mid ∧ Up g1 mid en ∧ Up g1 en b ∧ (∀ x y, a ≤ x → x < mid → mid ≤ y → y < b → g1 x ≤ g1 y)) := by rw [hg1]; exact G
    clear hg1 MH' HR
    rcases (show (a < st ∧ st < mid) ∨ ¬ a < st ∨ (a < st ∧ ¬ st < mid) by omega) with ⟨g3, g4⟩ | g3 | ⟨g3, g4⟩
    ·
     have d3 : decide ((a : Int) < (st : Int)) = true := decide_eq_true (by omega)
     have d4 : decide ((st : Int) < (mid : Int)) = true := decide_eq_true (by omega)
     have RC := IH a st mid g1 wr (by omega) G.out.1 g3 g4 (by omega) G.out.2.2.1 G.out.2.2.2.1 B
     repeat' (first | go_values | go_skip | go_guarded | go_step | go_upon)
     refine RC.mono ?_
     rintro e w7 ⟨rfl, ⟨f7, h1, h2, h3⟩, h4⟩
     have B7 : Below g w w7 := B.trans h4
     have H7 := Hid.mk_ (show RowS w7 g n f7 ∧ SP a b f f7 ∧ Up f7 mid en ∧ Up f7 en b ∧ SP a mid g1 f7 ∧ Up f7 a mid ∧ (∀ x y, a ≤ x → x < mid → mid ≤ y → y < b → g1 x ≤ g1 y) from ⟨h1, G.out.2.1.trans (h2.mono (Nat.le_refl _) (by omega)), G.out.2.2.2.2.1.congr (fun k k1 _ => h2.out (.inr k1)), G.out.2.2.2.2.2.1.congr (fun k k1 _ => h2.out (.inr (by omega))), h2, h3, G.out.2.2.2.2.2.2⟩)
     clear h1 h2 h3 h4 RC G
     dsimp only
     rcases (show (mid < en ∧ en < b) ∨ ¬ mid < en ∨ (mid < en ∧ ¬ en < b) by omega) with ⟨q1, q2⟩ | q1 | ⟨q1, q2⟩
     ·
      have d5 : decide ((mid : Int) < (en : Int)) = true := decide_eq_true (by omega)
      have d6 : decide ((en : Int) < (b : Int)) = true := decide_eq_true (by omega)
      have RC := IH mid en b f7 w7 (by omega) H7.out.1 q1 q2 hb (H7.out.2.2.1) (H7.out.2.2.2.1) B7
      repeat' (first | go_values | go_skip | go_guarded | go_step | go_upon)
      refine RC.mono ?_
      rintro e w8 ⟨rfl, ⟨f8, h1, h2, h3⟩, h4⟩
      have H8 := Hid.mk_ (And.intro h1 (And.intro h2 h3))
      have B8 : Below g w w8 := B7.trans h4
      clear h1 h2 h3 h4 RC
      dsimp only
      repeat' (first | go_values | go_skip | go_guarded | go_step | go_upon)
      go_returns
      exact ⟨rfl, ⟨f8, H8.out.1, H7.out.2.1.trans (H8.out.2.1.mono (by omega) (Nat.le_refl _)), merge_join (by omega) (by omega) H7.out.2.2.2.2.1 H8.out.2.1 H7.out.2.2.2.2.2.1 H8.out.2.2 H7.out.2.2.2.2.2.2⟩, B8⟩
     ·
      have d5 : decide ((mid : Int) < (en : Int)) = false := decide_eq_false (by omega)
      repeat' (first | go_values | go_skip | go_guarded | go_step | go_upon)
      go_returns
      exact ⟨rfl, ⟨f7, H7.out.1, H7.out.2.1, merge_join (by omega) (by omega) H7.out.2.2.2.2.1 (SP.refl _) H7.out.2.2.2.2.2.1 (by rw [show mid = en by omega]; exact H7.out.2.2.2.1) H7.out.2.2.2.2.2.2⟩, B7⟩
     ·
      have d5 : decide ((mid : Int) < (en : Int)) = true := decide_eq_true (by omega)
      have d6 : decide ((en : Int) < (b : Int)) = false := decide_eq_false (by omega)
      repeat' (first | go_values | go_skip | go_guarded | go_step | go_upon)
      go_returns
      exact ⟨rfl, ⟨f7, H7.out.1, H7.out.2.1, merge_join (by omega) (by omega) H7.out.2.2.2.2.1 (SP.refl _) H7.out.2.2.2.2.2.1 (by have := H7.out.2.2.1; rw [show en = b by omega] at this; exact this) H7.out.2.2.2.2.2.2⟩, B7⟩
    ·
     have d3 : decide ((a : Int) < (st : Int)) = false := decide_eq_false (by omega)
     have H7 := Hid.mk_ (show RowS wr g n g1 ∧ SP a b f g1 ∧ Up g1 mid en ∧ Up g1 en b ∧ SP a mid g1 g1 ∧ Up g1 a mid ∧ (∀ x y, a ≤ x → x < mid → mid ≤ y → y < b → g1 x ≤ g1 y) from ⟨G.out.1, G.out.2.1, G.out.2.2.2.2.1, G.out.2.2.2.2.2.1, SP.refl _, (by rw [show a = st by omega]; exact G.out.2.2.2.1), G.out.2.2.2.2.2.2⟩)
     clear G
     rcases (show (mid < en ∧ en < b) ∨ ¬ mid < en ∨ (mid < en ∧ ¬ en < b) by omega) with ⟨q1, q2⟩ | q1 | ⟨q1, q2⟩
     ·
      have d5 : decide ((mid : Int) < (en : Int)) = true := decide_eq_true (by omega)
      have d6 : decide ((en : Int) < (b : Int)) = true := decide_eq_true (by omega)
      have RC := IH mid en b g1 wr (by omega) H7.out.1 q1 q2 hb (H7.out.2.2.1) (H7.out.2.2.2.1) B
      repeat' (first | go_values | go_skip | go_guarded | go_step | go_upon)
      refine RC.mono ?_
      rintro e w8 ⟨rfl, ⟨f8, h1, h2, h3⟩, h4⟩
      have H8 := Hid.mk_ (And.intro h1 (And.intro h2 h3))
      have B8 : Below g w w8 := B.trans h4
      clear h1 h2 h3 h4 RC
      dsimp only
      repeat' (first | go_values | go_skip | go_guarded | go_step | go_upon)
      go_returns
      exact ⟨rfl, ⟨f8, H8.out.1, H7.out.2.1.trans (H8.out.2.1.mono (by omega) (Nat.le_refl _)), merge_join (by omega) (by omega) H7.out.2.2.2.2.1 H8.out.2.1 H7.out.2.2.2.2.2.1 H8.out.2.2 H7.out.2.2.2.2.2.2⟩, B8⟩
     ·
      have d5 : decide ((mid : Int) < (en : Int)) = false := decide_eq_false (by omega)
      repeat' (first | go_values | go_skip | go_guarded | go_step | go_upon)
      go_returns
      exact ⟨rfl, ⟨g1, H7.out.1, H7.out.2.1, merge_join (by omega) (by omega) H7.out.2.2.2.2.1 (SP.refl _) H7.out.2.2.2.2.2.1 (by rw [show mid = en by omega]; exact H7.out.2.2.2.1) H7.out.2.2.2.2.2.2⟩, B⟩
     ·
      have d5 : decide ((mid : Int) < (en : Int)) = true := decide_eq_true (by omega)
      have d6 : decide ((en : Int) < (b : Int)) = false := decide_eq_false (by omega)
      repeat' (first | go_values | go_skip | go_guarded | go_step | go_upon)
      go_returns
      exact ⟨rfl, ⟨g1, H7.out.1, H7.out.2.1, merge_join (by omega) (by omega) H7.out.2.2.2.2.1 (SP.refl _) H7.out.2.2.2.2.2.1 (by have := H7.out.2.2.1; rw [show en = b by omega] at this; exact this) H7.out.2.2.2.2.2.2⟩, B⟩
    ·
     have d3 : decide ((a : Int) < (st : Int)) = true := decide_eq_true (by omega)
     have d4 : decide ((st : Int) < (mid : Int)) = false := decide_eq_false (by omega)
     have H7 := Hid.mk_ (show RowS wr g n g1 ∧ SP a b f g1 ∧ Up g1 mid en ∧ Up g1 en b ∧ SP a mid g1 g1 ∧ Up g1 a mid ∧ (∀ x y, a ≤ x → x < mid → mid ≤ y → y < b → g1 x ≤ g1 y) from ⟨G.out.1, G.out.2.1, G.out.2.2.2.2.1, G.out.2.2.2.2.2.1, SP.refl _, (by have := G.out.2.2.1; rw [show st = mid by omega] at this; exact this), G.out.2.2.2.2.2.2⟩)
     clear G
     rcases (show (mid < en ∧ en < b) ∨ ¬ mid < en ∨ (mid < en ∧ ¬ en < b) by omega) with ⟨q1, q2⟩ | q1 | ⟨q1, q2⟩
     ·
      have d5 : decide ((mid : Int) < (en : Int)) = true := decide_eq_true (by omega)
      have d6 : decide ((en : Int) < (b : Int)) = true := decide_eq_true (by omega)
      have RC := IH mid en b g1 wr (by omega) H7.out.1 q1 q2 hb (H7.out.2.2.1) (H7.out.2.2.2.1) B
      repeat' (first | go_values | go_skip | go_guarded | go_step | go_upon)
      refine RC.mono ?_
      rintro e w8 ⟨rfl, ⟨f8, h1, h2, h3⟩, h4⟩
      have H8 := Hid.mk_ (And.intro h1 (And.intro h2 h3))
      have B8 : Below g w w8 := B.trans h4
      clear h1 h2 h3 h4 RC
      dsimp only
      repeat' (first | go_values | go_skip | go_guarded | go_step | go_upon)
      go_returns
      exact ⟨rfl, ⟨f8, H8.out.1, H7.out.2.1.trans (H8.out.2.1.mono (by omega) (Nat.le_refl _)), merge_join (by omega) (by omega) H7.out.2.2.2.2.1 H8.out.2.1 H7.out.2.2.2.2.2.1 H8.out.2.2 H7.out.2.2.2.2.2.2⟩, B8⟩
     ·
      have d5 : decide ((mid : Int) < (en : Int)) = false := decide_eq_false (by omega)
      repeat' (first | go_values | go_skip | go_guarded | go_step | go_upon)
      go_returns
      exact ⟨rfl, ⟨g1, H7.out.1, H7.out.2.1, merge_join (by omega) (by omega) H7.out.2.2.2.2.1 (SP.refl _) H7.out.2.2.2.2.2.1 (by rw [show mid = en by omega]; exact H7.out.2.2.2.1) H7.out.2.2.2.2.2.2⟩, B⟩
     ·
      have d5 : decide ((mid : Int) < (en : Int)) = true := decide_eq_true (by omega)
      have d6 : decide ((en : Int) < (b : Int)) = false := decide_eq_false (by omega)
      repeat' (first | go_values | go_skip | go_guarded | go_step | go_upon)
      go_returns
      exact ⟨rfl, ⟨g1, H7.out.1, H7.out.2.1, merge_join (by omega) (by omega) H7.out.2.2.2.2.1 (SP.refl _) H7.out.2.2.2.2.2.1 (by have := H7.out.2.2.1; rw [show en = b by omega] at this; exact this) H7.out.2.2.2.2.2.2⟩, B⟩
   ·
    have d1 : decide ((st : Int) < (m : Int)) = true := decide_eq_true (by omega)
    have d2 : decide ((m : Int) < (en : Int)) = false := decide_eq_false (by omega)
    have G := Hid.mk_ (show RowS wr g n f ∧ SP a b f f ∧ Up f a st ∧ Up f st mid ∧ Up f mid en ∧ Up f en b ∧ (∀ x y, a ≤ x → x < mid → mid ≤ y → y < b → f x ≤ f y) from ⟨HR.out, SP.refl f, by
     have := MH'.out
     rw [rotF_id f sm me (by omega)] at this
     exact this⟩)
    have g1e : ∃ g1, g1 = f := ⟨f, rfl⟩
    obtain ⟨g1, hg1⟩ := g1e
    have G : Hid (RowS wr g n g1 ∧ SP a b f g1 ∧ Up g1 a st ∧ Up g1 st mid ∧ Up g1 mid en ∧ Up g1 en b ∧ (∀ x y, a ≤ x → x < mid → mid ≤ y → y < b → g1 x ≤ g1 y)) := by rw [hg1]; exact G
    clear hg1 MH' HR
    rcases (show (a < st ∧ st < mid) ∨ ¬ a < st ∨ (a < st ∧ ¬ st < mid) by omega) with ⟨g3, g4⟩ | g3 | ⟨g3, g4⟩
    ·
     have d3 : decide ((a : Int) < (st : Int)) = true := decide_eq_true (by omega)
     have d4 : decide ((st : Int) < (mid : Int)) = true := decide_eq_true (by omega)
     have RC := IH a st mid g1 wr (by omega) G.out.1 g3 g4 (by omega) G.out.2.2.1 G.out.2.2.2.1 B
     repeat' (first | go_values | go_skip | go_guarded | go_step | go_upon)
     refine RC.mono ?_
     rintro e w7 ⟨rfl, ⟨f7, h1, h2, h3⟩, h4⟩
     have B7 : Below g w w7 := B.trans h4
     have H7 := Hid.mk_ (show RowS w7 g n f7 ∧ SP a b f f7 ∧ Up f7 mid en ∧ Up f7 en b ∧ SP a mid g1 f7 ∧ Up f7 a mid ∧ (∀ x y, a ≤ x → x < mid → mid ≤ y → y < b → g1 x ≤ g1 y) from ⟨h1, G.out.2.1.trans (h2.mono (Nat.le_refl _) (by omega)), G.out.2.2.2.2.1.congr (fun k k1 _ => h2.out (.inr k1)), G.out.2.2.2.2.2.1.congr (fun k k1 _ => h2.out (.inr (by omega))), h2, h3, G.out.2.2.2.2.2.2⟩)
     clear h1 h2 h3 h4 RC G
     dsimp only
     rcases (show (mid < en ∧ en < b) ∨ ¬ mid < en ∨ (mid < en ∧ ¬ en < b) by omega) with ⟨q1, q2⟩ | q1 | ⟨q1, q2⟩
     ·
      have d5 : decide ((mid : Int) < (en : Int)) = true := decide_eq_true (by omega)
      have d6 : decide ((en : Int) < (b : Int)) = true := decide_eq_true (by omega)
      have RC := IH mid en b f7 w7 (by omega) H7.out.1 q1 q2 hb (H7.out.2.2.1) (H7.out.2.2.2.1) B7
      repeat' (first | go_values | go_skip | go_guarded | go_step | go_upon)
      refine RC.mono ?_
      rintro e w8 ⟨rfl, ⟨f8, h1, h2, h3⟩, h4⟩
      have H8 := Hid.mk_ (And.intro h1 (And.intro h2 h3))
      have B8 : Below g w w8 := B7.trans h4
      clear h1 h2 h3 h4 RC
      dsimp only
      repeat' (first | go_values | go_skip | go_guarded | go_step | go_upon)
      go_returns
      exact ⟨rfl, ⟨f8, H8.out.1, H7.out.2.1.trans (H8.out.2.1.mono (by omega) (Nat.le_refl _)), merge_join (by omega) (by omega) H7.out.2.2.2.2.1 H8.out.2.1 H7.out.2.2.2.2.2.1 H8.out.2.2 H7.out.2.2.2.2.2.2⟩, B8⟩
     ·
      have d5 : decide ((mid : Int) < (en : Int)) = false := decide_eq_false (by omega)
      repeat' (first | go_values | go_skip | go_guarded | go_step | go_upon)
      go_returns
      exact ⟨rfl, ⟨f7, H7.out.1, H7.out.2.1, merge_join (by omega) (by omega) H7.out.2.2.2.2.1 (SP.refl _) H7.out.2.2.2.2.2.1 (by rw [show mid = en by omega]; exact H7.out.2.2.2.1) H7.out.2.2.2.2.2.2⟩, B7⟩
     ·
      have d5 : decide ((mid : Int) < (en : Int)) = true := decide_eq_true (by omega)
      have d6 : decide ((en : Int) < (b : Int)) = false := decide_eq_false (by omega)
      repeat' (first | go_values | go_skip | go_guarded | go_step | go_upon)
      go_returns
      exact ⟨rfl, ⟨f7, H7.out.1, H7.out.2.1, merge_join (by omega) (by omega) H7.out.2.2.2.2.1 (SP.refl _) H7.out.2.2.2.2.2.1 (by have := H7.out.2.2.1; rw [show en = b by omega] at this; exact this) H7.out.2.2.2.2.2.2⟩, B7⟩
    ·
     have d3 : decide ((a : Int) < (st : Int)) = false := decide_eq_false (by omega)
     have H7 := Hid.mk_ (show RowS wr g n g1 ∧ SP a b f g1 ∧ Up g1 mid en ∧ Up g1 en b ∧ SP a mid g1 g1 ∧ Up g1 a mid ∧ (∀ x y, a ≤ x → x < mid → mid ≤ y → y < b → g1 x ≤ g1 y) from ⟨G.out.1, G.out.2.1, G.out.2.2.2.2.1, G.out.2.2.2.2.2.1, SP.refl _, (by rw [show a = st by omega]; exact G.out.2.2.2.1), G.out.2.2.2.2.2.2⟩)
     clear G
     rcases (show (mid < en ∧ en < b) ∨ ¬ mid < en ∨ (mid < en ∧ ¬ en < b) by omega) with ⟨q1, q2⟩ | q1 | ⟨q1, q2⟩
     ·
      have d5 : decide ((mid : Int) < (en : Int)) = true := decide_eq_true (by omega)
      have d6 : decide ((en : Int) < (b : Int)) = true := decide_eq_true (by omega)
      have RC := IH mid en b g1 wr (by omega) H7.out.1 q1 q2 hb (H7.out.2.2.1) (H7.out.2.2.2.1) B
      repeat' (first | go_values | go_skip | go_guarded | go_step | go_upon)
      refine RC.mono ?_
      rintro e w8 ⟨rfl, ⟨f8, h1, h2, h3⟩, h4⟩
      have H8 := Hid.mk_ (And.intro h1 (And.intro h2 h3))
      have B8 : Below g w w8 := B.trans h4
      clear h1 h2 h3 h4 RC
      dsimp only
      repeat' (first | go_values | go_skip | go_guarded | go_step | go_upon)
      go_returns
      exact ⟨rfl, ⟨f8, H8.out.1, H7.out.2.1.trans (H8.out.2.1.mono (by omega) (Nat.le_refl _)), merge_join (by omega) (by omega) H7.out.2.2.2.2.1 H8.out.2.1 H7.out.2.2.2.2.2.1 H8.out.2.2 H7.out.2.2.2.2.2.2⟩, B8⟩
     ·
      have d5 : decide ((mid : Int) < (en : Int)) = false := decide_eq_false (by omega)
      repeat' (first | go_values | go_skip | go_guarded | go_step | go_upon)
      go_returns
      exact ⟨rfl, ⟨g1, H7.out.1, H7.out.2.1, merge_join (by omega) (by omega) H7.out.2.2.2.2.1 (SP.refl _) H7.out.2.2.2.2.2.1 (by rw [show mid = en by omega]; exact H7.out.2.2.2.1) H7.out.2.2.2.2.2.2⟩, B⟩
     ·
      have d5 : decide ((mid : Int) < (en : Int)) = true := decide_eq_true (by omega)
      have d6 : decide ((en : Int) < (b : Int)) = false := decide_eq_false (by omega)
      repeat' (first | go_values | go_skip | go_guarded | go_step | go_upon)
      go_returns
      exact ⟨rfl, ⟨g1, H7.out.1, H7.out.2.1, merge_join (by omega) (by omega) H7.out.2.2.2.2.1 (SP.refl _) H7.out.2.2.2.2.2.1 (by have := H7.out.2.2.1; rw [show en = b by omega] at this; exact this) H7.out.2.2.2.2.2.2⟩, B⟩
    ·
     have d3 : decide ((a : Int) < (st : Int)) = true := decide_eq_true (by omega)
     have d4 : decide ((st : Int) < (mid : Int)) = false := decide_eq_false (by omega)
     have H7 := Hid.mk_ (show RowS wr g n g1 ∧ SP a b f g1 ∧ Up g1 mid en ∧ Up g1 en b ∧ SP a mid g1 g1 ∧ Up g1 a mid ∧ (∀ x y, a ≤ x → x < mid → mid ≤ y → y < b → g1 x ≤ g1 y) from ⟨G.out.1, G.out.2.1, G.out.2.2.2.2.1, G.out.2.2.2.2.2.1, SP.refl _, (by have := G.out.2.2.1; rw [show st = mid by omega] at this; exact this), G.out.2.2.2.2.2.2⟩)
     clear G
     rcases (show (mid < en ∧ en < b) ∨ ¬ mid < en ∨ (mid < en ∧ ¬ en < b) by omega) with ⟨q1, q2⟩ | q1 | ⟨q1, q2⟩
     ·
      have d5 : decide ((mid : Int) < (en : Int)) = true := decide_eq_true (by omega)
      have d6 : decide ((en : Int) < (b : Int)) = true := decide_eq_true (by omega)
      have RC := IH mid en b g1 wr (by omega) H7.out.1 q1 q2 hb (H7.out.2.2.1) (H7.out.2.2.2.1) B
      repeat' (first | go_values | go_skip | go_guarded | go_step | go_upon)
      refine RC.mono ?_
      rintro e w8 ⟨rfl, ⟨f8, h1, h2, h3⟩, h4⟩
      have H8 := Hid.mk_ (And.intro h1 (And.intro h2 h3))
      have B8 : Below g w w8 := B.trans h4
      clear h1 h2 h3 h4 RC
      dsimp only
      repeat' (first | go_values | go_skip | go_guarded | go_step | go_upon)
      go_returns
      exact ⟨rfl, ⟨f8, H8.out.1, H7.out.2.1.trans (H8.out.2.1.mono (by omega) (Nat.le_refl _)), merge_join (by omega) (by omega) H7.out.2.2.2.2.1 H8.out.2.1 H7.out.2.2.2.2.2.1 H8.out.2.2 H7.out.2.2.2.2.2.2⟩, B8⟩
     ·
      have d5 : decide ((mid : Int) < (en : Int)) = false := decide_eq_false (by omega)
      repeat' (first | go_values | go_skip | go_guarded | go_step | go_upon)
      go_returns
      exact ⟨rfl, ⟨g1, H7.out.1, H7.out.2.1, merge_join (by omega) (by omega) H7.out.2.2.2.2.1 (SP.refl _) H7.out.2.2.2.2.2.1 (by rw [show mid = en by omega]; exact H7.out.2.2.2.1) H7.out.2.2.2.2.2.2⟩, B⟩
     ·
      have d5 : decide ((mid : Int) < (en : Int)) = true := decide_eq_true (by omega)
      have d6 : decide ((en : Int) < (b : Int)) = false := decide_eq_false (by omega)
      repeat' (first | go_values | go_skip | go_guarded | go_step | go_upon)
      go_returns
      exact ⟨rfl, ⟨g1, H7.out.1, H7.out.2.1, merge_join (by omega) (by omega) H7.out.2.2.2.2.1 (SP.refl _) H7.out.2.2.2.2.2.1 (by have := H7.out.2.2.1; rw [show en = b by omega] at this; exact this) H7.out.2.2.2.2.2.2⟩, B⟩
theorem vsym {g n cap p : Nat} (hn : n ≤ 1000) : ∀ (k : Nat) (a m b : Nat) (f : Nat → Int) (w : World), b - a ≤ k → RowS w g n f → a < m → m < b → b ≤ n → Up f a m → Up f m b → (∀ W x y, Below g w W → Calls Tryz.prog 89 #[.int .i64 x, .int .i64 y, .pointer (some ⟨p, 0, none⟩)] W fun e w2 => e = .returned (.int .i64 (cmpI x y)) ∧ Steps W w2) →
  Calls Tryz.prog 129 #[.slice (some ⟨g, 0, none⟩) n cap, .int .i64 a, .int .i64 m, .int .i64 b, .func (.func 89) #[] #[.pointer (some ⟨p, 0, none⟩)]] w fun e w' => e = .returned (.tuple #[]) ∧ (∃ f', RowS w' g n f' ∧ SP a b f f' ∧ Up f' a b) ∧ Below g w w'
 | 0, a, m, b, f, w, h, hr, h1, h2, h3, u1, u2, CM => by omega
 | k + 1, a, m, b, f, w, h, hr, h1, h2, h3, u1, u2, CM => by
  by_cases c1 : m = a + 1
  · exact vsymA w a m b hr c1 h2 h3 hn u2 CM
  ·
   by_cases c2 : b = m + 1
   · exact vsymB w a m b hr (by omega) c2 h3 hn u1 CM
   ·
    have IH := fun (a' m' b' : Nat) (f' : Nat → Int) (w' : World) (l : b' - a' < b - a) (hr' : RowS w' g n f') (h1' : a' < m') (h2' : m' < b') (h3' : b' ≤ n) (u1' : Up f' a' m') (u2' : Up f' m' b') (hb : Below g w w') => vsym (cap := cap) (p := p) hn k a' m' b' f' w' (by omega) hr' h1' h2' h3' u1' u2' (fun W x y hW => CM W x y (hb.trans hW))
    rcases Nat.lt_or_ge ((a + b) / 2) m with c | c
    · exact vsymC1 w a m b hr (by omega) (by omega) h3 hn u1 u2 c CM IH
    · exact vsymC2 w a m b hr (by omega) (by omega) h3 hn u1 u2 c CM IH
theorem Up.one {f : Nat → Int} {a : Nat} : Up f a a := Up.none (by omega)
theorem vinsert0 {g n cap p : Nat} (w : World) (a : Nat) (ha : a ≤ 1000) :
  Calls Tryz.prog 128 #[.slice (some ⟨g, 0, none⟩) n cap, .int .i64 a, .int .i64 a, .func (.func 89) #[] #[.pointer (some ⟨p, 0, none⟩)]] w fun e w' => e = .returned (.tuple #[]) ∧ w' = w := by
 have hlt : decide ((a : Int) + 1 < (a : Int)) = false := decide_eq_false (by omega)
 go_enter Tryz.func128, Tryz.ntmps128
 go_wp2_with fail
 go_loopw [8] (fun kk wr => kk = .int .i64 ((a : Int) + 1) ∧ wr = w) (fun kk _ => 0)
 case atStart => exact ⟨by go_num, rfl⟩
 case round =>
  obtain ⟨rfl, rfl⟩ := hrel
  go_wp2_with fail
  go_returns
  exact ⟨rfl, rfl⟩
theorem vstable {g n cap p : Nat} {f : Nat → Int} (w : World) (hr : RowS w g n f) (h0 : 0 < n) (hn : n ≤ 24) (CM : ∀ W x y, Below g w W → Calls Tryz.prog 89 #[.int .i64 x, .int .i64 y, .pointer (some ⟨p, 0, none⟩)] W fun e w2 => e = .returned (.int .i64 (cmpI x y)) ∧ Steps W w2) :
  Calls Tryz.prog 114 #[.slice (some ⟨g, 0, none⟩) n cap, .int .i64 n, .func (.func 89) #[] #[.pointer (some ⟨p, 0, none⟩)]] w fun e w' => e = .returned (.tuple #[]) ∧ (∃ f', RowS w' g n f' ∧ SP 0 n f f' ∧ Up f' 0 n) ∧ Below g w w' := by
 have gl := hr.lt
 have IN := vinsert (cap := cap) (p := p) w 0 n hr h0 (Nat.le_refl _) (by omega) CM
 have IL := fun (h : 20 < n) => vinsert (cap := cap) (p := p) w 0 20 hr (by omega) (by omega) (by omega) CM
 have IM := fun (h : 20 < n) f' w' (hr' : RowS w' g n f') (hb : Below g w w') => vinsert (cap := cap) (p := p) (f := f') w' 20 n hr' h (Nat.le_refl _) (by omega) (fun W x y hW => CM W x y (hb.trans hW))
 have IS := fun (h : 20 < n) f' w' (hr' : RowS w' g n f') (hb : Below g w w') u1 u2 => vsym (cap := cap) (p := p) (by omega) n 0 20 n f' w' (by omega) hr' (by omega) h (Nat.le_refl _) u1 u2 (fun W x y hW => CM W x y (hb.trans hW))
 have I0 := fun w' => vinsert0 (g := g) (n := n) (cap := cap) (p := p) w' 20 (by omega)
 clear hr CM
 rcases (show n < 20 ∨ n = 20 ∨ 20 < n by omega) with h | h | h
 ·
  have h1 : decide ((20 : Int) ≤ (n : Int)) = false := decide_eq_false (by omega)
  have h2 : decide ((20 : Int) < (n : Int)) = false := decide_eq_false (by omega)
  go_enter Tryz.func114, Tryz.ntmps114
  go_wp2_with fail
  go_loopw [7, 8] (fun ka kb wr => ka = .int .i64 0 ∧ kb = .int .i64 20 ∧ wr = w) (fun ka kb _ => 0)
  case atStart => exact ⟨rfl, rfl, rfl⟩
  case round =>
   obtain ⟨rfl, rfl, rfl⟩ := hrel
   go_wp2_with fail
   refine IN.mono ?_
   rintro e w2 ⟨rfl, h3, h4⟩
   have H3 := Hid.mk_ (And.intro h3 h4)
   clear h3 h4 IN I0
   dsimp only
   go_wp2_with fail
   go_loopw [6] (fun ka wr => ka = .int .i64 20 ∧ wr = w2) (fun ka _ => 0)
   case atStart => exact ⟨rfl, rfl⟩
   case round =>
    obtain ⟨rfl, rfl⟩ := hrel
    go_wp2_with fail
    go_returns
    exact ⟨rfl, H3.out.1, H3.out.2⟩
 ·
  obtain rfl : n = 20 := by omega
  go_enter Tryz.func114, Tryz.ntmps114
  go_wp2_with fail
  go_loopw [7, 8] (fun ka kb wr => (ka = .int .i64 0 ∧ kb = .int .i64 20 ∧ wr = w) ∨ (ka = .int .i64 20 ∧ kb = .int .i64 40 ∧ (∃ f', RowS wr g 20 f' ∧ SP 0 20 f f' ∧ Up f' 0 20) ∧ Below g w wr)) (fun ka kb _ => 40 - (intOf kb).toNat)
  case atStart => exact .inl ⟨rfl, rfl, rfl⟩
  case round =>
   rcases hrel with ⟨rfl, rfl, rfl⟩ | ⟨rfl, rfl, h3, h4⟩
   ·
    have h1 : decide ((20 : Int) ≤ 20) = true := by decide
    go_wp2_with fail
    refine IN.mono ?_
    rintro e w2 ⟨rfl, h3, h4⟩
    have H3 := Hid.mk_ (And.intro h3 h4)
    clear h3 h4 IN I0
    dsimp only
    go_wp2_with fail
    go_roundw
    case rel => exact .inr ⟨rfl, by go_num, H3.out.1, H3.out.2⟩
    case measure => simp [intOf]
   ·
    have h1 : decide ((40 : Int) ≤ 20) = false := by decide
    have H3 := Hid.mk_ (And.intro h3 h4)
    clear h3 h4 IN
    go_wp2_with fail
    refine (I0 _).mono ?_
    rintro e w2 ⟨rfl, rfl⟩
    clear I0
    dsimp only
    go_wp2_with fail
    go_loopw [6] (fun ka wr => ka = .int .i64 20 ∧ wr = w2) (fun ka _ => 0)
    case atStart => exact ⟨rfl, rfl⟩
    case round =>
     obtain ⟨rfl, rfl⟩ := hrel
     go_wp2_with fail
     go_returns
     exact ⟨rfl, H3.out.1, H3.out.2⟩
 ·
  have h20 : decide ((20 : Int) ≤ (n : Int)) = true := decide_eq_true (by omega)
  have h40 : decide ((40 : Int) ≤ (n : Int)) = false := decide_eq_false (by omega)
  have hl20 : decide ((20 : Int) < (n : Int)) = true := decide_eq_true (by omega)
  have hl40 : decide ((40 : Int) < (n : Int)) = false := decide_eq_false (by omega)
  replace IL := IL h
  replace IM := IM h
  replace IS := IS h
  have HN := Hid.mk_ (And.intro h hn)
  clear IN I0 h0 h hn
  go_enter Tryz.func114, Tryz.ntmps114
  go_wp2_with fail
  go_loopw [7, 8] (fun ka kb wr => (ka = .int .i64 0 ∧ kb = .int .i64 20 ∧ wr = w) ∨ (ka = .int .i64 20 ∧ kb = .int .i64 40 ∧ (∃ f', RowS wr g n f' ∧ SP 0 20 f f' ∧ Up f' 0 20) ∧ Below g w wr)) (fun ka kb _ => 40 - (intOf kb).toNat)
  case atStart => exact .inl ⟨rfl, rfl, rfl⟩
  case round =>
   rcases hrel with ⟨rfl, rfl, rfl⟩ | ⟨rfl, rfl, h3, h4⟩
   ·
    go_wp2_with fail
    refine IL.mono ?_
    rintro e w2 ⟨rfl, h3, h4⟩
    have H3 := Hid.mk_ (And.intro h3 h4)
    clear h3 h4 IL IM IS
    dsimp only
    go_wp2_with fail
    go_roundw
    case rel => exact .inr ⟨rfl, by go_num, H3.out.1, H3.out.2⟩
    case measure => simp [intOf]
   ·
    obtain ⟨f1, r1, s1, u1⟩ := h3
    have IM1 := IM f1 wr r1 h4
    have H1 := Hid.mk_ (And.intro s1 (And.intro u1 h4))
    clear r1 s1 u1 h4 IL IM
    go_wp2_with fail
    refine IM1.mono ?_
    rintro e w2 ⟨rfl, ⟨f2, r2, s2, u2⟩, b2⟩
    have B2 : Below g w w2 := H1.out.2.2.trans b2
    have IS2 := IS f2 w2 r2 B2 (H1.out.2.1.congr (fun k _ k2 => s2.out (.inl k2))) u2
    have H2 := Hid.mk_ ((H1.out.1.mono (Nat.le_refl _) (by have := HN.out; omega)).trans (s2.mono (by omega) (Nat.le_refl n)))
    clear r2 s2 u2 b2 IS IM1 H1
    dsimp only
    go_wp2_with fail
    go_loopw [6] (fun ka wr => (ka = .int .i64 20 ∧ wr = w2) ∨ (ka = .int .i64 40 ∧ (∃ f', RowS wr g n f' ∧ SP 0 n f f' ∧ Up f' 0 n) ∧ Below g w wr)) (fun ka _ => 40 - (intOf ka).toNat)
    case atStart => exact .inl ⟨rfl, rfl⟩
    case round =>
     rename World => wq
     rcases hrel with ⟨rfl, rfl⟩ | ⟨rfl, h5, h6⟩
     ·
      go_wp2_with fail
      go_loopw [7, 8] (fun ka kb wz => ka = .int .i64 0 ∧ kb = .int .i64 40 ∧ wz = wq) (fun ka kb _ => 0)
      case atStart => exact ⟨rfl, by go_num, rfl⟩
      case round =>
       rename World => wz
       obtain ⟨rfl, rfl, rfl⟩ := hrel
       go_wp2_with fail
       refine IS2.mono ?_
       rintro e w3 ⟨rfl, ⟨f3, r3, s3, u3⟩, b3⟩
       have H4 := Hid.mk_ (And.intro r3 (And.intro (H2.out.trans s3) u3))
       have B3 : Below g w w3 := B2.trans b3
       clear r3 s3 u3 b3 IS2 H2
       dsimp only
       go_wp2_with fail
       go_roundw
       case rel => exact .inr ⟨by go_num, ⟨f3, H4.out⟩, B3⟩
       case measure => simp [intOf]
     ·
      have H5 := Hid.mk_ (And.intro h5 h6)
      clear h5 h6 IS2 B2 H2
      go_wp2_with fail
      go_returns
      exact ⟨rfl, H5.out.1, H5.out.2⟩
theorem vsort {g n cap p : Nat} {f : Nat → Int} (w : World) (hr : RowS w g n f) (h0 : 0 < n) (hn : n ≤ 24) (CM : ∀ W x y, Below g w W → Calls Tryz.prog 89 #[.int .i64 x, .int .i64 y, .pointer (some ⟨p, 0, none⟩)] W fun e w2 => e = .returned (.int .i64 (cmpI x y)) ∧ Steps W w2) :
  Calls Tryz.prog 88 #[.slice (some ⟨g, 0, none⟩) n cap, .func (.func 89) #[] #[.pointer (some ⟨p, 0, none⟩)]] w fun e w' => e = .returned (.tuple #[]) ∧ (∃ f', RowS w' g n f' ∧ SP 0 n f f' ∧ Up f' 0 n) ∧ Below g w w' := by
 have ST_ := vstable (cap := cap) (p := p) w hr h0 hn CM
 clear hr CM
 go_enter Tryz.func88, Tryz.ntmps88
 go_wp2_with fail
 refine ST_.mono ?_
 rintro e w2 ⟨rfl, h3, h4⟩
 have H3 := Hid.mk_ (And.intro h3 h4)
 clear h3 h4 ST_
 dsimp only
 go_wp2_with fail
 go_returns
 exact ⟨rfl, H3.out.1, H3.out.2⟩
theorem vordered {vl : Value} {l : List Int} {f : Nat} (w : World) (hl : IntsR w vl l) (h0 : l ≠ []) (hn : l.length ≤ 24) (hk : IdKey f) (he : ∀ args w, (callFunc f args).run Tryz.prog w = .ok (.enter f args) w) :
  Calls Tryz.prog 51 #[vl, .func (.func f) #[] #[]] w fun e w' => ∃ v, e = .returned v ∧ IntsR w' v (srt l) ∧ Steps w w' := by
 have hp := List.length_pos_iff.2 h0
 have CL := fun w' (s : Steps w w') => vclone w' (hl.steps s) h0 (by omega)
 have VS := fun x y W hb => vless (p := w.heap.size) x y W hk he hb
 obtain ⟨n, hN⟩ : ∃ n, l.length = n := ⟨_, rfl⟩
 have HN := Hid.mk_ hN
 rw [hN] at CL hp hn
 obtain ⟨la, lc, rfl⟩ := hl.shape
 rw [hN] at CL ⊢
 clear hl h0 hk he hN
 go_enter Tryz.func51, Tryz.ntmps51
 go_wp2_with fail
 refine (CL _ belowB).mono ?_
 rintro e w1 ⟨v, rfl, hv, hs⟩
 have oc : Blk w1 w.heap.size 84 #[.func (.func f) #[] #[]] := Blk.stepsK hs
 have B : Below w.heap.size w w1 := belowA hs
 have hge : w.heap.size + 1 ≤ w1.heap.size := by have := oc.lt; omega
 obtain ⟨g, cap, rfl, hg, hc, hr⟩ := rowS_of hv HN.out hp
 have gw : w.heap.size + 1 ≤ g := by have := hg; (try simp only [World.size_alloc] at this); omega
 have CM : ∀ W x y, Below g w1 W → _ := fun W x y hb => VS x y W ((hb.block w.heap.size (by omega)).trans oc)
 have SO := vsort (cap := cap) w1 hr hp hn CM
 have HC := Hid.mk_ hc
 clear hs CL VS CM hv hr
 dsimp only
 go_wp2_with fail
 refine SO.mono ?_
 rintro e w2 ⟨rfl, ⟨f', h1, h2, h3⟩, h4⟩
 have B2 : Below w.heap.size w w2 := B.trans (h4.mono (by omega))
 have hs2 := up_srt h2 h3
 have hm : (List.range n).map (fun i => l.getD i 0) = l := by rw [← HN.out]; exact map_getD l
 rw [hm] at hs2
 have HI := Hid.mk_ (h1.il HC.out)
 have HS := Hid.mk_ hs2
 clear h1 h2 h3 h4 hm hs2 SO
 dsimp only
 go_wp2_with fail
 go_returns
 exact ⟨_, rfl, by rw [← HS.out]; exact HI.out, B2⟩
def midL (l : List Int) : Prop := l.length ≤ 24 ∧ ∀ x ∈ l, -1099511627776 ≤ x ∧ x ≤ 1099511627776
theorem midL.srt {l : List Int} (h : midL l) {i : Nat} (hi : i < l.length) : -1099511627776 ≤ (Go.Proofs.YtmpambmpknaldaaGreat.srt l).getD i 0 ∧ (Go.Proofs.YtmpambmpknaldaaGreat.srt l).getD i 0 ≤ 1099511627776 :=
 h.2 _ ((srt_perm l).mem_iff.1 (getD_mem (by rw [srt_len]; exact hi)))
theorem valL.mid {l : List Int} (h : valL l) (hn : l.length ≤ 24) : midL l := ⟨hn, fun x hx => by have := h.2 x hx; omega⟩
theorem noU_made64 (n : Nat) : noU32 (madeCells #[.int .i64 0] n) = true := noU_made n
theorem he_tw : ∀ args w, (callFunc 87 args).run Tryz.prog w = .ok (.enter 87 args) w := enters_of Tryz.func87 (by kernel_rfl) rfl
theorem vtwice {vl : Value} {l : List Int} (w : World) (hl : IntsR w vl l) (h0 : l ≠ []) (hv : midL l) :
  Calls Tryz.prog 50 #[vl] w fun e w' => e = .returned (.int .i64 (twI l)) ∧ Steps w w' := by
 have hp := List.length_pos_iff.2 h0
 have OR := fun w' (s : Steps w w') => vordered w' (hl.steps s) h0 hv.1 key_tw he_tw
 have r1 := hv.srt (i := (l.length - 1) / 2) (by omega)
 have r2 := hv.srt (i := l.length / 2) (by omega)
 have sl : (srt l).length = l.length := srt_len l
 have hn := hv.1
 unfold twI
 obtain ⟨s, hs⟩ : ∃ s, srt l = s := ⟨_, rfl⟩
 rw [hs] at OR r1 r2 sl ⊢
 obtain ⟨n, hN⟩ : ∃ n, l.length = n := ⟨_, rfl⟩
 rw [hN] at hp r1 r2 sl hn ⊢
 obtain ⟨la, lc, rfl⟩ := hl.shape
 rw [hN] at OR ⊢
 obtain ⟨x, hx⟩ : ∃ x, s.getD ((n - 1) / 2) 0 = x := ⟨_, rfl⟩
 obtain ⟨y, hy⟩ : ∃ y, s.getD (n / 2) 0 = y := ⟨_, rfl⟩
 rw [hx] at r1 ⊢
 rw [hy] at r2 ⊢
 have HX := Hid.mk_ (And.intro hx hy)
 clear hl h0 hv hs hN hx hy
 go_enter Tryz.func50, Tryz.ntmps50
 go_wp2_with fail
 refine (OR _ belowB).mono ?_
 rintro e w1 ⟨v, rfl, hv, hs1⟩
 obtain ⟨va, vc, rfl⟩ := hv.shape
 obtain ⟨b, o, rfl, hb, hx0⟩ := hv.at' (t := (n - 1) / 2) (by omega)
 obtain ⟨b', o', e2, hb', hy0⟩ := hv.at' (t := n / 2) (by omega)
 cases e2
 rw [sl]
 rw [HX.out.1] at hx0
 rw [HX.out.2] at hy0
 have B1 : Below w.heap.size w w1 := belowA hs1
 have q1 : ((n : Int) - 1).tdiv 2 = (((n - 1) / 2 : Nat) : Int) := by rw [show (n : Int) - 1 = ((n - 1 : Nat) : Int) by omega]; rfl
 have q2 : (n : Int).tdiv 2 = ((n / 2 : Nat) : Int) := rfl
 have i1 : (n - 1) / 2 < n := by omega
 have i2 : n / 2 < n := by omega
 obtain ⟨i, hi⟩ : ∃ i, (n - 1) / 2 = i := ⟨_, rfl⟩
 obtain ⟨k, hk⟩ : ∃ k, n / 2 = k := ⟨_, rfl⟩
 rw [hi] at hx0 q1 i1
 rw [hk] at hy0 q2 i2
 clear hv hs1 OR HX hi hk sl
 dsimp only
 repeat' (first | go_values | go_skip | go_guarded | go_step | go_upon)
 refine Reg.wp_chain (fun D v W => Below w1.heap.size w1 W ∧ True) (Reg.inl []) (Reg.gv []) Reg.None_ (fun _ => Reg.Any) (fun _ _ => False) (Reg.pl []) (Reg.pl [])
  (by kernel_rfl) (by kernel_rfl) (by kernel_rfl) (Reg.gv_some _ (by intro p hp; cases hp)) (fun _ => ⟨belowB, trivial⟩) (fun _ _ _ _ _ h => h) (fun _ _ _ _ _ _ _ _ _ _ _ _ _ => Reg.none_) (fun _ _ _ _ h => h.elim) (fun ops' Q' hops hQ => ?_)
 apply Reg.RP rfl rfl rfl 6 rfl rfl
 ·
  intro D v W hc hj hf K' hK'
  go_step
  exact hK'.out
 · rfl
 apply Reg.RP rfl rfl rfl 7 rfl rfl
 ·
  intro D v W hc hj hf K' hK'
  go_step
  exact hK'.out
 · rfl
 apply Reg.RP rfl rfl rfl 8 rfl rfl
 ·
  intro D v W hc hj hf K' hK'
  go_step
  exact hK'.out
 · rfl
 apply Reg.RP rfl rfl rfl 9 rfl rfl
 ·
  intro D v W hc hj hf K' hK'
  go_step
  exact hK'.out
 · rfl
 apply Reg.RP rfl rfl rfl 10 rfl rfl
 ·
  intro D v W hc hj hf K' hK'
  go_step
  exact hK'.out
 · rfl
 apply Reg.RP rfl rfl rfl 11 rfl rfl
 ·
  intro D v W hc hj hf K' hK'
  go_step
  exact hK'.out
 · rfl
 apply Reg.RP rfl rfl rfl 12 rfl rfl
 ·
  intro D v W hc hj hf K' hK'
  obtain ⟨j0, _⟩ := hj
  have c0 : W.cell? ⟨b, o + i, none⟩ = some (.int .i64 x) := (j0.cell (p := ⟨b, _, none⟩) hb).trans hx0
  go_step
  exact hK'.out
 · rfl
 apply Reg.RP rfl rfl rfl 13 rfl rfl
 ·
  intro D v W hc hj hf K' hK'
  go_step
  exact hK'.out
 · rfl
 apply Reg.RP rfl rfl rfl 14 rfl rfl
 ·
  intro D v W hc hj hf K' hK'
  go_step
  exact hK'.out
 · rfl
 apply Reg.RP rfl rfl rfl 15 rfl rfl
 ·
  intro D v W hc hj hf K' hK'
  go_step
  exact hK'.out
 · rfl
 apply Reg.RP rfl rfl rfl 16 rfl rfl
 ·
  intro D v W hc hj hf K' hK'
  go_step
  exact hK'.out
 · rfl
 apply Reg.RP rfl rfl rfl 17 rfl rfl
 ·
  intro D v W hc hj hf K' hK'
  go_step
  exact hK'.out
 · rfl
 apply Reg.RP rfl rfl rfl 18 rfl rfl
 ·
  intro D v W hc hj hf K' hK'
  obtain ⟨j0, _⟩ := hj
  have c0 : W.cell? ⟨b, o + k, none⟩ = some (.int .i64 y) := (j0.cell (p := ⟨b, _, none⟩) hb).trans hy0
  go_step
  exact hK'.out
 · rfl
 apply Reg.RP rfl rfl rfl 19 rfl rfl
 ·
  intro D v W hc hj hf K' hK'
  go_step
  exact hK'.out
 · rfl
 apply Reg.RP rfl rfl rfl 2 rfl rfl
 ·
  intro D v W hc hj hf K' hK'
  go_step
  exact hK'.out
 · rfl
 refine Reg.RC_end (fun D v w9 hd hj hf => ?_)
 obtain ⟨j0, _⟩ := hj
 have B := j0
 clear hd hf j0
 refine hQ _ _ ?_
 clear hQ hops Q' ops'
 repeat' (first | go_values | go_skip | go_guarded | go_step | go_upon)
 go_returns
 exact ⟨rfl, below_steps B1 (Nat.le_refl _) B⟩
theorem tw_range {l : List Int} (h0 : l ≠ []) (hv : midL l) : -2199023255552 ≤ twI l ∧ twI l ≤ 2199023255552 := by
 have hp := List.length_pos_iff.2 h0
 have r1 := hv.srt (i := (l.length - 1) / 2) (by omega)
 have r2 := hv.srt (i := l.length / 2) (by omega)
 unfold twI
 omega
theorem vMedian {vl : Value} {l : List Int} (w : World) (hl : IntsR w vl l) (hn : l.length ≤ 100000) (h20 : askV l = 0 → l.length ≤ 24) :
  Calls Tryz.prog 25 #[vl] w fun e w' => ∃ v, e = .returned (.tuple #[v, .int .i64 (askV l)]) ∧ FE w' v (askV l) (medQ l) ∧ Steps w w' := by
 have CS : ∀ w', Steps w w' → Calls Tryz.prog 35 #[vl] w' fun e w2 => e = .returned (.int .i64 (askV l)) ∧ Steps w' w2 := fun w' s => vstart w' (hl.steps s) hn
 by_cases hk : askV l = 0
 ·
  rw [hk] at CS ⊢
  obtain ⟨hv, h0⟩ := askV_val hk
  have md := hv.mid (h20 hk)
  have TW : ∀ w', Steps w w' → Calls Tryz.prog 50 #[vl] w' fun e w2 => e = .returned (.int .i64 (twI l)) ∧ Steps w' w2 := fun w' s => vtwice w' (hl.steps s) h0 md
  have tr := tw_range h0 md
  have OF : ∀ w', Calls Tryz.prog 36 #[.int .i64 (twI l), .int .i64 2] w' fun e w2 => ∃ v, e = .returned (.tuple #[v, .int .i64 0]) ∧ FR w2 v (medQ l) ∧ Steps w' w2 := fun w' => by
   unfold medQ
   exact fofQ (twI l) 2 w' (by omega) (by omega) (by decide) (by decide) (by decide)
  obtain ⟨la, lc, rfl⟩ := hl.shape
  generalize medQ l = mq at *
  generalize twI l = tw at *
  clear hl hn hk hv h0 md h20 tr
  go_enter Tryz.func25, Tryz.ntmps25
  go_wp2_with fail
  refine (CS _ belowB).mono ?_
  rintro e w1 ⟨rfl, hb1⟩
  have st : Steps _ w1 := hb1
  have B : Below w.heap.size w w1 := belowA st
  have or : Blk w1 (w.heap.size) 27 #[.bool false, .slice none 0 0, .bool false, .slice none 0 0] := Blk.stepsK st
  clear st
  go_wp2_with fail
  refine (TW _ belowB).mono ?_
  rintro e w2 ⟨rfl, hb2⟩
  have st : Steps _ w2 := hb2
  have sk : Below w1.heap.size w1 w2 := belowA st
  replace B := below_steps B (Nat.le_refl _) sk
  replace or := or.steps sk
  clear st sk
  go_wp2_with fail
  refine (OF _).mono ?_
  rintro e w3 ⟨vq, rfl, hvq, hb3⟩
  have st : Steps _ w3 := hb3
  have sk : Below w2.heap.size w2 w3 := belowA st
  replace B := below_steps B (Nat.le_refl _) sk
  replace or := or.steps sk
  clear st sk
  obtain ⟨cr0, cr1, cr2, cr3, fr, lr⟩ := or.s3
  obtain ⟨q1, q2, q3, q4, q5, q6, q7, q8, rfl⟩ := hvq.shape
  have Fq := Hid.mk_ hvq
  clear hvq
  go_wp2_with fail
  refine bodyPost_ret (by simp [results, Tryz.results25, go_sem, cr0, cr1, cr2, cr3, fr, lr]; rfl) rfl ?_
  exact ⟨_, rfl, FE.ok (Fq.out.keeps keepsB), belowB⟩
 ·
  obtain ⟨la, lc, rfl⟩ := hl.shape
  generalize medQ l = mq at *
  generalize askV l = c at *
  have h3 : (c == 0) = false := by simpa using hk
  have h4 : (c != 0) = true := by simpa using hk
  have HK := Hid.mk_ hk
  clear hl hn hk h20
  go_enter Tryz.func25, Tryz.ntmps25
  go_wp2_with fail
  refine (CS _ belowB).mono ?_
  rintro e w1 ⟨rfl, hb1⟩
  have st : Steps _ w1 := hb1
  have B : Below w.heap.size w w1 := belowA st
  have or : Blk w1 (w.heap.size) 27 #[.bool false, .slice none 0 0, .bool false, .slice none 0 0] := Blk.stepsK st
  clear st
  obtain ⟨cr0, cr1, cr2, cr3, fr, lr⟩ := or.s3
  go_wp2_with fail
  refine bodyPost_ret (by simp [results, Tryz.results25, go_sem, cr0, cr1, cr2, cr3, fr, lr]; rfl) rfl ?_
  exact ⟨_, rfl, FE.bad HK.out, belowB⟩
theorem tw_val {l : List Int} (h0 : l ≠ []) (hv : valL l) : -8589934592 ≤ twI l ∧ twI l ≤ 8589934592 := by
 have hp := List.length_pos_iff.2 h0
 have r1 := hv.2 _ ((srt_perm l).mem_iff.1 (getD_mem (l := srt l) (i := (l.length - 1) / 2) (by rw [srt_len]; omega)))
 have r2 := hv.2 _ ((srt_perm l).mem_iff.1 (getD_mem (l := srt l) (i := l.length / 2) (by rw [srt_len]; omega)))
 unfold twI
 omega
theorem awI_len (m : Int) (l : List Int) : (awI m l).length = l.length := by simp [awI]
theorem awI_get {m : Int} {l : List Int} {i : Nat} (h : i < l.length) : (awI m l).getD i 0 = max (2 * l.getD i 0 - m) (m - 2 * l.getD i 0) := by simp [awI, List.getD, h]
theorem awI_mid {m : Int} {l : List Int} (hv : valL l) (hn : l.length ≤ 24) (hm : -8589934592 ≤ m ∧ m ≤ 8589934592) : midL (awI m l) := by
 refine ⟨by rw [awI_len]; exact hn, fun y hy => ?_⟩
 unfold awI at hy
 obtain ⟨x, hx, rfl⟩ := List.mem_map.1 hy
 have := hv.2 x hx
 omega
theorem vDeviation {vl : Value} {l : List Int} (w : World) (hl : IntsR w vl l) (hn : l.length ≤ 100000) (h20 : askV l = 0 → l.length ≤ 24) :
  Calls Tryz.prog 30 #[vl] w fun e w' => ∃ v, e = .returned (.tuple #[v, .int .i64 (askV l)]) ∧ FE w' v (askV l) (dvnQ l) ∧ Steps w w' := by
 have CS : ∀ w', Steps w w' → Calls Tryz.prog 35 #[vl] w' fun e w2 => e = .returned (.int .i64 (askV l)) ∧ Steps w' w2 := fun w' s => vstart w' (hl.steps s) hn
 by_cases hk : askV l = 0
 ·
  rw [hk] at CS ⊢
  obtain ⟨hv, h0⟩ := askV_val hk
  have md := hv.mid (h20 hk)
  have mr := tw_val h0 hv
  have TW : ∀ w', Steps w w' → Calls Tryz.prog 50 #[vl] w' fun e w2 => e = .returned (.int .i64 (twI l)) ∧ Steps w' w2 := fun w' s => vtwice w' (hl.steps s) h0 md
  have am := awI_mid hv (h20 hk) mr
  have a0 : awI (twI l) l ≠ [] := fun e => h0 (List.eq_nil_of_length_eq_zero (by have := congrArg List.length e; rwa [awI_len] at this))
  have TA : ∀ w' v, IntsR w' v (awI (twI l) l) → Calls Tryz.prog 50 #[v] w' fun e w2 => e = .returned (.int .i64 (twI (awI (twI l) l))) ∧ Steps w' w2 := fun w' v h => vtwice w' h a0 am
  have tr := tw_range a0 am
  have OF : ∀ w', Calls Tryz.prog 36 #[.int .i64 (twI (awI (twI l) l)), .int .i64 4] w' fun e w2 => ∃ v, e = .returned (.tuple #[v, .int .i64 0]) ∧ FR w2 v (dvnQ l) ∧ Steps w' w2 := fun w' => by
   unfold dvnQ
   exact fofQ (twI (awI (twI l) l)) 4 w' (by omega) (by omega) (by decide) (by decide) (by decide)
  have AG := fun i (h : i < l.length) => awI_get (m := twI l) h
  have AL := awI_len (twI l) l
  have VR := fun i (h : i < l.length) => hv.get h
  obtain ⟨ta, hta⟩ : ∃ t, twI (awI (twI l) l) = t := ⟨_, rfl⟩
  rw [hta] at TA OF tr
  obtain ⟨aw, haw⟩ : ∃ t, awI (twI l) l = t := ⟨_, rfl⟩
  rw [haw] at TA AL
  simp only [haw] at AG
  generalize dvnQ l = mq at *
  generalize twI l = tw at *
  obtain ⟨N, hN⟩ : ∃ n, l.length = n := ⟨_, rfl⟩
  have HN := Hid.mk_ hN
  have hn20 := h20 hk
  obtain ⟨la, lc, rfl⟩ := hl.shape
  rw [hN] at CS TW AG AL VR hn20 ⊢
  have HL := Hid.mk_ hl
  rw [hN] at HL
  have HAG := Hid.mk_ AG
  have HAL := Hid.mk_ AL
  have HVR := Hid.mk_ VR
  have hmk := make_i64s N (by omega)
  clear hl hn hk hv h0 md h20 am a0 hta haw AG AL VR hN
  go_enter Tryz.func30, Tryz.ntmps30
  go_wp2_with fail
  refine (CS _ belowB).mono ?_
  rintro e w1 ⟨rfl, hs1⟩
  have or1 : Blk w1 w.heap.size 27 #[.bool false, .slice none 0 0, .bool false, .slice none 0 0] := Blk.stepsK hs1
  have B1 : Below w.heap.size w w1 := belowA hs1
  clear hs1 CS
  dsimp only
  go_wp2_with fail
  refine (TW _ B1).mono ?_
  rintro e w2 ⟨rfl, hs2⟩
  have or2 : Blk w2 w.heap.size 27 #[.bool false, .slice none 0 0, .bool false, .slice none 0 0] := or1.steps hs2
  have B2 : Below w.heap.size w w2 := below_steps B1 (Nat.le_refl _) hs2
  clear hs2 TW or1 B1
  dsimp only
  go_wp2_with fail
  go_loopw [22] (fun kk wr => ∃ (i : Nat) (CO : Array Value), i ≤ N ∧ kk = .int .i64 i ∧ CO.size = N ∧ CO.toList.take i = ints (aw.take i) ∧ noU32 CO = true ∧ Blk wr w2.heap.size 2 CO ∧ Below w2.heap.size w2 wr) (fun kk _ => N - (intOf kk).toNat)
  case atStart => exact ⟨0, _, by omega, rfl, size_madeCells _ _, rfl, noU_made64 _, ownK, belowB⟩
  case round =>
   clear hmk
   obtain ⟨i, CO, hi, rfl, hs, ht, hu, oq, B⟩ := hrel
   rcases Nat.lt_or_ge i N with i4 | i4
   ·
    have hlt : decide ((i : Int) < (N : Int)) = true := decide_eq_true (by omega)
    obtain ⟨b, of, rfl, hb, hx0⟩ := HL.out.at' (t := i) (by have := HN.out; omega)
    have xr := HVR.out i i4
    have ag := HAG.out i i4
    obtain ⟨x, hx⟩ : ∃ x, l.getD i 0 = x := ⟨_, rfl⟩
    rw [hx] at hx0 xr ag
    have c0 : wr.cell? ⟨b, of + i, none⟩ = some (.int .i64 x) := ((below_steps B2 (Nat.le_refl _) B).cell (p := ⟨b, _, none⟩) hb).trans hx0
    have HA := Hid.mk_ ag
    have hcs := cur_next (x := max (2 * x - tw) (tw - 2 * x)) (xs := aw.take i) (by rw [hs]; exact i4) (by rw [List.length_take]; have := HAL.out; omega) ht
    have HC := Hid.mk_ hcs
    have HT := Hid.mk_ ht
    have HS := Hid.mk_ hs
    have lq := oq.lt
    have fq := oq.fr
    have cqi : wr.cell? ⟨w2.heap.size, i, none⟩ = some (CO[i]'(by omega)) := (oq.cell i).trans (Array.getElem?_eq_getElem (by omega))
    clear hx0 hx ag hcs ht
    go_wp2_with fail
    go_roundw
    case rel => exact ⟨i + 1, CO.setIfInBounds i (.int .i64 (max (2 * x - tw) (tw - 2 * x))), by omega, by go_num, by rw [Array.size_setIfInBounds]; exact HS.out, by rw [take_step (by have := HAL.out; omega), HA.out]; exact HC.out, noU_set hu i _, by rw [show (if 2 * x - tw < tw - 2 * x then tw - 2 * x else 2 * x - tw) = max (2 * x - tw) (tw - 2 * x) from by split <;> omega]; exact oq.set_ i _, Below.setCell (p := ⟨w2.heap.size, i, none⟩) B (Nat.le_refl _) _⟩
    case measure => simp [intOf]; omega
   ·
    obtain rfl : i = N := by omega
    have hlt : decide ((i : Int) < (i : Int)) = false := decide_eq_false (by omega)
    have ea : aw.take i = aw := by rw [show i = aw.length from HAL.out.symm, List.take_length]
    have ia := ints_of_cur (n := i) (cap := i) oq HAL.out (Nat.le_refl _) (by rw [ht, ea])
    have or3 := or2.steps B
    have B3 : Below w.heap.size w wr := below_steps B2 (Nat.le_refl _) B
    have IA := Hid.mk_ ia
    clear ia ea oq ht hs hu or2 B2 B
    go_wp2_with fail
    refine (TA _ _ IA.out).mono ?_
    rintro e w4 ⟨rfl, hs4⟩
    have or4 : Blk w4 w.heap.size 27 #[.bool false, .slice none 0 0, .bool false, .slice none 0 0] := or3.steps hs4
    have B4 : Below w.heap.size w w4 := below_steps B3 (Nat.le_refl _) hs4
    clear hs4 or3 B3 TA IA
    dsimp only
    go_wp2_with fail
    refine (OF _).mono ?_
    rintro e w5 ⟨v, rfl, hv5, hs5⟩
    have or5 : Blk w5 w.heap.size 27 #[.bool false, .slice none 0 0, .bool false, .slice none 0 0] := or4.steps hs5
    have B5 : Below w.heap.size w w5 := below_steps B4 (Nat.le_refl _) hs5
    obtain ⟨q1, q2, q3, q4, q5, q6, q7, q8, rfl⟩ := hv5.shape
    have Fq := Hid.mk_ hv5
    have cr0 := or5.c 0 rfl
    have cr1 := or5.c 1 rfl
    have cr2 := or5.c 2 rfl
    have cr3 := or5.c 3 rfl
    have fr := or5.fr
    have lr := or5.lt
    clear hs5 or4 B4 OF hv5
    dsimp only
    go_wp2_with fail
    refine bodyPost_ret (by simp [results, Tryz.results30, go_sem, cr0, cr1, cr2, cr3, fr, lr]; rfl) rfl ?_
    exact ⟨_, rfl, FE.ok (FR.keeps Fq.out (Keeps.only or5 rfl ((Only.refl _ _).set.set.set.set))), belowB⟩
 ·
  obtain ⟨la, lc, rfl⟩ := hl.shape
  generalize dvnQ l = mq at *
  generalize askV l = c at *
  have h3 : (c == 0) = false := by simpa using hk
  have h4 : (c != 0) = true := by simpa using hk
  have HK := Hid.mk_ hk
  clear hl hn hk h20
  go_enter Tryz.func30, Tryz.ntmps30
  go_wp2_with fail
  refine (CS _ belowB).mono ?_
  rintro e w1 ⟨rfl, hb1⟩
  have st : Steps _ w1 := hb1
  have B : Below w.heap.size w w1 := belowA st
  have or : Blk w1 (w.heap.size) 27 #[.bool false, .slice none 0 0, .bool false, .slice none 0 0] := Blk.stepsK st
  clear st
  obtain ⟨cr0, cr1, cr2, cr3, fr, lr⟩ := or.s3
  go_wp2_with fail
  refine bodyPost_ret (by simp [results, Tryz.results30, go_sem, cr0, cr1, cr2, cr3, fr, lr]; rfl) rfl ?_
  exact ⟨_, rfl, FE.bad HK.out, belowB⟩
def pctS (l : List Int) (num den : Int) : Int × Int :=
 if askV l = 0 then (if den < 1 ∨ 1000 < den ∨ num < 0 ∨ den < num then (0, 2) else ((srt l).getD (pctI l.length num den) 0, 0)) else (0, askV l)
def lenV : Value → Nat
 | .slice _ n _ => n
 | _ => 0
theorem RowU.base {w : World} {b b' n s : Nat} {e : TypeId} {v : Value} {xs : List Value} (h : RowU w b e s v n xs) (hb : b' ≤ b) : RowU w b' e s v n xs := by
 refine ⟨⟨h.own.1, ?_⟩, h.noU⟩
 rcases h.own.2 with g | ⟨g, cap, cur, h1, h2, h3⟩
 · exact .inl g
 · exact .inr ⟨g, cap, cur, h1, Nat.le_trans hb h2, h3⟩
theorem rows_ne {w : World} {b b' n m : Nat} {v u : Value} {xs ys : List Value} (h : RowU w b 3 1 v n xs) (h' : RowU w b' 2 1 u m ys) : ∀ q, v.ownBlock = some q → u.ownBlock ≠ some q := by
 intro q e1 e2
 rcases h.own.2 with ⟨rfl, _⟩ | ⟨g, cap, cur, rfl, h1, h2, _⟩
 · cases e1
 ·
  rcases h'.own.2 with ⟨rfl, _⟩ | ⟨g', cap', cur', rfl, h1', h2', _⟩
  · cases e2
  ·
   have f1 : some g = some q := e1
   have f2 : some g' = some q := e2
   rw [Option.some.injEq] at f1 f2
   subst f1
   subst f2
   exact Blk.ne_ (show Blk w g' _ _ from h2) (show Blk w g' _ _ from h2') (by decide) rfl
theorem RowU.other {w w' : World} {b n s : Nat} {e : TypeId} {u : Value} {xs : List Value} {q : Option Nat} (h : RowU w b e s u n xs) (hg : w.grownBy w' q) (hne : ∀ k, u.ownBlock = some k → q ≠ some k) : RowU w' b e s u n xs :=
 h.keep fun k hk => hg.block k (h.lt k hk).2 (fun e => hne k hk e.symm)
theorem swap_ne {p q : Option Nat} (h : ∀ k, p = some k → q ≠ some k) : ∀ k, q = some k → p ≠ some k := fun k e1 e2 => h k e2 e1
theorem swap_ne2 {p q : Option Nat} (h : ∀ k, p = some k → q ≠ some k) : ∀ k, p = some k → q ≠ some k := h
def Two (w : World) (base : Nat) (v u : Value) (l m : List Int) : Prop :=
 (l = [] ∧ m = [] ∧ ∃ b o b' o', v = .slice (some ⟨b, o, none⟩) 0 0 ∧ u = .slice (some ⟨b', o', none⟩) 0 0) ∨
 (∃ n, 0 < n ∧ l.length = n ∧ m.length = n ∧ RowU w base 3 1 v n (ints l) ∧ RowU w base 2 1 u n (ints m))
theorem Two.steps {w w' : World} {base : Nat} {v u : Value} {l m : List Int} (h : Two w base v u l m) (s : Steps w w') : Two w' base v u l m := by
 rcases h with h | ⟨n, h0, h1, h2, h4, h5⟩
 · exact .inl h
 · exact .inr ⟨n, h0, h1, h2, h4.keep (fun k hk => s.block k (h4.lt k hk).2), h5.keep (fun k hk => s.block k (h5.lt k hk).2)⟩
theorem Two.len {w : World} {base : Nat} {v u : Value} {l m : List Int} (h : Two w base v u l m) : m.length = l.length ∧ ∃ a c b d, v = .slice a l.length c ∧ u = .slice b m.length d := by
 rcases h with ⟨rfl, rfl, b, o, b', o', rfl, rfl⟩ | ⟨n, h0, rfl, h2, h4, h5⟩
 · exact ⟨rfl, _, _, _, _, rfl, rfl⟩
 ·
  obtain ⟨a, c, rfl⟩ := h4.len
  obtain ⟨b, d, rfl⟩ := h5.len
  exact ⟨h2, _, _, _, _, rfl, by rw [h2]⟩
theorem two_ints {w : World} {base : Nat} {v u : Value} {l m : List Int} (h : Two w base v u l m) (hl : l ≠ []) : IntsR w v l ∧ IntsR w u m := by
 rcases h with ⟨rfl, _⟩ | ⟨n, h0, rfl, h2, h4, h5⟩
 · exact absurd rfl hl
 · exact ⟨h4.ints, h5.ints⟩
theorem two_first {base b1 b2 : Nat} {wg1 wg2 : World} {c : Obj} {v u : Value} {y x : Int} (r1 : RowU wg1 b1 3 1 v 1 (ints [y])) (r2 : RowU wg2 b2 2 1 u 1 (ints [x])) (h1 : base ≤ b1) (h2 : base ≤ b2) (g2 : (wg1.alloc c).grownBy wg2 none) : Two wg2 base v u [y] [x] :=
 .inr ⟨1, by omega, rfl, rfl, ((r1.alloc c).other g2 (fun k _ e => by cases e)).base h1, r2.base h2⟩
def keepF (l : List Int) (k : Rat) (ix : List Nat) (i : Nat) : List Nat := (ix.take i).filter (fun i => keepB (pick l ix) k (l.getD i 0))
theorem keepF_all (l : List Int) (k : Rat) (ix : List Nat) : keepF l k ix ix.length = stepC l k ix := by unfold keepF stepC; rw [List.take_length]
theorem keepF_step {l : List Int} {k : Rat} {ix : List Nat} {i : Nat} (h : i < ix.length) : keepF l k ix (i + 1) = if keepB (pick l ix) k (l.getD (ix.getD i 0) 0) then keepF l k ix i ++ [ix.getD i 0] else keepF l k ix i := by
 unfold keepF
 rw [takeN_step h, List.filter_append]
 by_cases hb : keepB (pick l ix) k (l.getD (ix.getD i 0) 0) = true
 · rw [if_pos hb]; simp only [List.filter_cons, hb, if_true, List.filter_nil]
 · rw [if_neg hb]; simp only [List.filter_cons, hb, if_false, List.filter_nil, List.append_nil, Bool.false_eq_true]
theorem keepF_le {l : List Int} {k : Rat} {ix : List Nat} (i : Nat) : (keepF l k ix i).length ≤ ix.length := by
 unfold keepF
 refine Nat.le_trans (List.length_filter_le _ _) ?_
 rw [List.length_take]; omega
theorem pick_get (l : List Int) (ix : List Nat) {i : Nat} (h : i < ix.length) : (pick l ix).getD i 0 = l.getD (ix.getD i 0) 0 := by simp [pick, List.getD, h]
theorem clip_round {l : List Int} {k : Rat} {f r : Nat} {ix : List Nat} (h : clipGo l k f ix r = clipR l k) (hf : ix.length ≤ f) (h0 : ix ≠ []) :
  ((stepC l k ix).length = ix.length → clipR l k = (ix, r)) ∧ ((stepC l k ix).length ≠ ix.length → ∃ f', clipGo l k f' (stepC l k ix) (r + 1) = clipR l k ∧ (stepC l k ix).length ≤ f') := by
 have hp := List.length_pos_iff.2 h0
 obtain ⟨f', rfl⟩ : ∃ f', f = f' + 1 := ⟨f - 1, by omega⟩
 unfold clipGo at h
 have hle := stepC_le l k ix
 refine ⟨fun e => ?_, fun e => ⟨f', ?_, by omega⟩⟩
 · rw [if_pos e] at h; exact h.symm
 · rw [if_neg e] at h; exact h
theorem vclip_ok {vl vk : Value} {l : List Int} {k : Rat} (w : World) (hl : IntsR w vl l) (hk : FR w vk k) (zk : sz k 4) (ha : askV l = 0) (hf : facB (some k) = true) :
  Calls Tryz.prog 43 #[vl, vk] w fun e w' => ∃ v u, e = .returned (.tuple #[v, u, .int .i64 ((clipR l k).2 : Nat), .int .i64 0]) ∧ IntsR w' v (inI (clipR l k).1) ∧ IntsR w' u (pick l (clipR l k).1) ∧ Steps w w' := by
 obtain ⟨hv, h0⟩ := askV_val ha
 have hn := hv.1
 have k1 : 1 ≤ k := by obtain ⟨r, e, h1, h2⟩ := facB_ok hf; cases e; exact h1
 have CS : ∀ w', Steps w w' → Calls Tryz.prog 35 #[vl] w' fun e w2 => e = .returned (.int .i64 0) ∧ Steps w' w2 := fun w' s => by have := vstart w' (hl.steps s) (by omega); rw [ha] at this; exact this
 have AL : ∀ w', Steps w w' → Calls Tryz.prog 76 #[vk] w' fun e w2 => e = .returned (.bool true) ∧ Steps w' w2 := fun w' s => by have := vallowed (o := some k) w' (FR.keeps hk (Keeps.steps s)) (fun r e => by cases e; exact zk); rw [hf] at this; exact this
 have CL : ∀ w', Steps w w' → Calls Tryz.prog 77 #[vl] w' fun e w2 => ∃ v, e = .returned v ∧ IntsR w2 v (pick l (List.range l.length)) ∧ Steps w' w2 := fun w' s => by
  refine (vclone w' (hl.steps s) h0 (by omega)).mono ?_
  rintro e w2 ⟨v, rfl, h1, h2⟩
  rw [pick_range]
  exact ⟨v, rfl, h1.ints, h2⟩
 have FA : ∀ w' g ix v, Steps w w' → Blk w' g 65 #[.int .i64 0] → IntsR w' v (pick l ix) → (∀ i ∈ ix, i < l.length) → ix.length ≤ 1000 → Calls Tryz.prog 78 #[.pointer (some ⟨g, 0, none⟩), v, vk] w' fun e w2 => ∃ p1 p2 p3 p4, e = .returned (.func (.func 107) #[] #[.pointer (some ⟨p1, 0, none⟩), .pointer (some ⟨p2, 0, none⟩), .pointer (some ⟨p3, 0, none⟩), .pointer (some ⟨p4, 0, none⟩)]) ∧ FarOk w2 g p1 p2 p3 p4 (pick l ix) k ∧ Steps w' w2 := fun w' g ix v s hb hi h1 h2 =>
  vfar w' hb hi (pick_val hv h1 h2) (FR.keeps hk (Keeps.steps s)) zk
 have FR1 : ∀ w' g p1 p2 p3 p4 ix i, Blk w' g 65 #[.int .i64 0] → FarOk w' g p1 p2 p3 p4 (pick l ix) k → (∀ i ∈ ix, i < l.length) → ix.length ≤ 1000 → ix ≠ [] → i < ix.length → Calls Tryz.prog 107 #[.int .i64 (l.getD (ix.getD i 0) 0), .pointer (some ⟨p1, 0, none⟩), .pointer (some ⟨p2, 0, none⟩), .pointer (some ⟨p3, 0, none⟩), .pointer (some ⟨p4, 0, none⟩)] w' fun e w2 => e = .returned (.bool (!keepB (pick l ix) k (l.getD (ix.getD i 0) 0))) ∧ Steps w' w2 := fun w' g p1 p2 p3 p4 ix i hb h h1 h2 h3 h4 =>
  vfar1 w' hb h (pick_val hv h1 h2) (pick_ne h3) zk (hv.get (h1 _ (getN_mem h4)))
 have SN : ∀ ix : List Nat, ix ≠ [] → stepC l k ix ≠ [] := fun ix h => stepC_ne k1 h
 have HSN := Hid.mk_ SN
 have HFA := Hid.mk_ FA
 have HF1 := Hid.mk_ FR1
 obtain ⟨k1, k2, k3, k4, k5, k6, k7, k8, rfl⟩ := hk.shape
 obtain ⟨la, lc, rfl⟩ := hl.shape
 obtain ⟨N, hN⟩ : ∃ n, l.length = n := ⟨_, rfl⟩
 have HN := Hid.mk_ hN
 have h0' : 0 < N := by rw [← hN]; exact List.length_pos_iff.2 h0
 rw [hN] at CS CL hn ⊢
 clear hl hk zk ha hf hv h0 hN SN FA FR1
 go_enter Tryz.func43, Tryz.ntmps43
 go_wp2_with fail
 refine (CS _ belowB).mono ?_
 rintro e w1 ⟨rfl, hs1⟩
 have ok1 : Blk w1 (w.heap.size) 27 #[.bool k1, .slice k2 k3 k4, .bool k5, .slice k6 k7 k8] := Blk.stepsK hs1
 have B1 : Below w.heap.size w w1 := belowA hs1
 have c0 := ok1.c 0 rfl
 have c1 := ok1.c 1 rfl
 have c2 := ok1.c 2 rfl
 have c3 := ok1.c 3 rfl
 clear hs1 CS
 go_wp2_with fail
 refine (AL _ B1).mono ?_
 rintro e w2 ⟨rfl, hs2⟩
 have ok2 : Blk w2 (w.heap.size) 27 #[.bool k1, .slice k2 k3 k4, .bool k5, .slice k6 k7 k8] := ok1.steps hs2
 have B2 : Below w.heap.size w w2 := below_steps B1 (Nat.le_refl _) hs2
 have l2 := ok2.lt
 have zz2 := B2.size
 clear hs2 ok1 B1 AL c0 c1 c2 c3
 go_wp2_with fail
 go_loopw [26, 4] (fun kk oo wr => ∃ (t : Nat) (ow : Value), ow = oo ∧ t ≤ N ∧ kk = .int .i64 t ∧ RowU wr (w2.heap.size + 1) 3 1 ow t (ints (inI (List.range t))) ∧ Blk wr (w.heap.size) 27 #[.bool k1, .slice k2 k3 k4, .bool k5, .slice k6 k7 k8] ∧ Blk wr (w2.heap.size) 65 #[.int .i64 0] ∧ Below w.heap.size w wr) (fun kk _ _ => N - (intOf kk).toNat)
 case atStart => exact ⟨0, _, rfl, Nat.zero_le _, rfl, RowU.nil _ _ _ _, ownK, ownK, belowB⟩
 case round =>
  clear ok2 B2
  obtain ⟨t, ow, rfl, ht, rfl, hr, ok, oc, B⟩ := hrel
  obtain ⟨oa, ocap, rfl⟩ := hr.len
  have HR := Hid.mk_ hr
  clear hr
  rcases Nat.lt_or_ge t N with tn | tn
  ·
   have hlt : decide ((t : Int) < (N : Int)) = true := decide_eq_true (by omega)
   have zz := B.size
   have lc2 := oc.lt
   have hps : inI (List.range (t + 1)) = inI (List.range t) ++ [(t : Int)] := by rw [List.range_succ, inI_snoc]
   have hpl : (inI (List.range t)).length = t := by rw [inI_len, List.length_range]
   have HPS := Hid.mk_ hps
   clear hps
   repeat' (first | ((with_reducible show wpList _ _ _ (⟨some 32, _, _, _, _, _⟩ :: _) _ _); refine app_int rfl (.tmp 29) (.tmp 31) rfl (w2.heap.size + 1) t (.slice oa t ocap) (inI (List.range t)) rfl (HR.out.alloc _) wr.heap.size t rfl (Blk.new _ _ _) (by omega) (by rw [World.size_alloc]; omega) (fun v' w7 hr7 hg7 => ?_)) | go_values | go_skip | go_guarded | go_step | go_upon)
   obtain ⟨oa', ocap', rfl⟩ := hr7.len
   have r6 := HR.out.alloc (.cells #[.int .i64 (t : Int)] 3)
   have ok7 := r6.blk hg7 (ok.alloc _) (by omega)
   have oc7 := r6.blk hg7 (oc.alloc _) (by omega)
   have B7 := r6.below hg7 (B.alloc B.size _) (by omega)
   have HR7 := Hid.mk_ hr7
   clear r6 hg7 hr7 HR ok oc B
   go_wp2_with fail
   go_roundw
   case rel => exact ⟨t + 1, _, rfl, by omega, by go_num, by rw [HPS.out]; exact HR7.out, ok7, oc7, B7⟩
   case measure => simp [intOf]; omega
  ·
   obtain rfl : t = N := by omega
   have hlt : decide ((t : Int) < (t : Int)) = false := decide_eq_false (by omega)
   have hpl : (inI (List.range t)).length = t := by rw [inI_len, List.length_range]
   have hL : IntsR wr (.slice oa t ocap) (inI (List.range t)) := by have := HR.out; rw [show t = (inI (List.range t)).length from hpl.symm] at this ⊢; simpa [hpl] using this.ints
   clear HR
   go_wp2_with fail
   refine (CL _ B).mono ?_
   rintro e w3 ⟨u, rfl, hu, hs3⟩
   have ok3 : Blk w3 (w.heap.size) 27 #[.bool k1, .slice k2 k3 k4, .bool k5, .slice k6 k7 k8] := ok.steps hs3
   have oc3 : Blk w3 (w2.heap.size) 65 #[.int .i64 0] := oc.steps hs3
   have B3 : Below w.heap.size w w3 := below_steps B (Nat.le_refl _) hs3
   have hL3 := Hid.mk_ (hL.steps hs3)
   have hU3 := Hid.mk_ hu
   clear hs3 ok oc B hL hu CL hpl hlt tn ht
   dsimp only
   repeat' (first | go_values | go_skip | go_guarded | go_step | go_upon)
   go_loopw [4, 5, 6] (fun s4 s5 s6 wr => ∃ (ix : List Nat) (f r : Nat) (v u : Value), v = s4 ∧ u = s5 ∧ s6 = .int .i64 r ∧ clipGo l k f ix r = clipR l k ∧ ix.length ≤ f ∧ ix ≠ [] ∧ (∀ i ∈ ix, i < l.length) ∧ r + ix.length ≤ t ∧ IntsR wr v (inI ix) ∧ IntsR wr u (pick l ix) ∧ Blk wr (w.heap.size) 27 #[.bool k1, .slice k2 k3 k4, .bool k5, .slice k6 k7 k8] ∧ Blk wr (w2.heap.size) 65 #[.int .i64 0] ∧ Below w.heap.size w wr) (fun s4 _ _ _ => lenV s4)
   case atStart => exact ⟨List.range t, t, 0, _, _, rfl, rfl, rfl, (by unfold clipR; rw [HN.out]), (by rw [List.length_range]; omega), (fun e => by have := congrArg List.length e; simp at this; omega), (fun i hi => by have := HN.out; have := List.mem_range.1 hi; omega), (by rw [List.length_range]; omega), hL3.out, (by have := hU3.out; exact this), ok3, oc3, B3⟩
   case round =>
    clear hL3 hU3 ok3 oc3 B3
    obtain ⟨ix, f, r, v, u, rfl, rfl, rfl, hgo, hfl, hne, hix, hrn, hv, hu, ok, oc, B⟩ := hrel
    obtain ⟨n, hn_⟩ : ∃ n, ix.length = n := ⟨_, rfl⟩
    have n0 : 0 < n := by rw [← hn_]; exact List.length_pos_iff.2 hne
    have nN : n ≤ t := by rw [← hn_]; omega
    obtain ⟨va, vc, rfl⟩ := hv.shape
    obtain ⟨ua, uc, rfl⟩ := hu.shape
    obtain ⟨bv, ov, rfl, -, -⟩ := hv.at' (t := 0) (by rw [inI_len, hn_]; exact n0)
    obtain ⟨bu, ou, rfl, -, -⟩ := hu.at' (t := 0) (by rw [pick_len, hn_]; exact n0)
    have el : (inI ix).length = n := by rw [inI_len, hn_]
    have eu : (pick l ix).length = n := by rw [pick_len, hn_]
    rw [el] at hv ⊢
    rw [eu] at hu ⊢
    have FA := HFA.out wr w2.heap.size ix _ B oc hu hix (by omega)
    have F1 := fun W p1 p2 p3 p4 i h1 h2 h3 => HF1.out W w2.heap.size p1 p2 p3 p4 ix i h1 h2 hix (by omega) hne h3
    have KS := fun i (h : i < ix.length) => keepF_step (l := l) (k := k) h
    have KA := keepF_all l k ix
    have KL := fun i => keepF_le (l := l) (k := k) (ix := ix) i
    have K0 : keepF l k ix 0 = [] := rfl
    have PG := fun i (h : i < ix.length) => pick_get l ix h
    have IG := fun i (h : i < ix.length) => inI_get ix h
    have SN := HSN.out ix hne
    have SS : ∀ i ∈ stepC l k ix, i < l.length := fun i hi => hix i (List.mem_filter.1 hi).1
    obtain ⟨CR1, CR2⟩ := clip_round hgo hfl hne
    have hsl := stepC_le l k ix
    rw [hn_] at KS KA KL PG IG CR1 CR2 F1 hsl
    obtain ⟨KF, hKF⟩ : ∃ g : Nat → List Nat, ∀ i, keepF l k ix i = g i := ⟨_, fun _ => rfl⟩
    simp only [hKF] at KS KA KL K0
    obtain ⟨IX, hIX⟩ : ∃ g : Nat → Nat, ∀ i, ix.getD i 0 = g i := ⟨_, fun _ => rfl⟩
    simp only [hIX] at KS PG IG F1
    obtain ⟨XX, hXX⟩ : ∃ g : Nat → Int, ∀ i, l.getD (IX i) 0 = g i := ⟨_, fun _ => rfl⟩
    have PK : ∀ (m : List Nat) i, pick l (m ++ [IX i]) = pick l m ++ [XX i] := fun m i => by rw [pick_snoc, hXX]
    simp only [hXX] at KS PG F1
    obtain ⟨KB, hKB⟩ : ∃ g : Nat → Bool, ∀ i, keepB (pick l ix) k (XX i) = g i := ⟨_, fun _ => rfl⟩
    simp only [hKB] at KS F1
    obtain ⟨SC, hSC⟩ : ∃ s, stepC l k ix = s := ⟨_, rfl⟩
    rw [hSC] at KA SN SS CR1 CR2 hsl
    have HV := Hid.mk_ hv
    have HU := Hid.mk_ hu
    have HEL := Hid.mk_ (And.intro el eu)
    have HKS := Hid.mk_ KS
    have HKA := Hid.mk_ KA
    have HKL := Hid.mk_ KL
    have HK0 := Hid.mk_ K0
    have HPG := Hid.mk_ PG
    have HIG := Hid.mk_ IG
    have HSN2 := Hid.mk_ (And.intro SN SS)
    have HCR := Hid.mk_ (And.intro CR1 CR2)
    have HPK := Hid.mk_ PK
    have HF2 := Hid.mk_ F1
    have HXN := Hid.mk_ hn_
    clear hv hu hgo hfl hne hix el eu HFA HF1 HSN KS KA KL K0 PG IG SN SS CR1 CR2 hKF hIX hXX hKB hSC PK F1 hn_
    have lk := ok.lt
    have lc2 := oc.lt
    have c0 := ok.c 0 rfl
    have c1 := ok.c 1 rfl
    have c2 := ok.c 2 rfl
    have c3 := ok.c 3 rfl
    repeat' (first | go_values | go_skip | go_guarded | go_step | go_upon)
    refine FA.mono ?_
    rintro e w5 ⟨p1, p2, p3, p4, rfl, hfo, hs5⟩
    have ok5 : Blk w5 (w.heap.size) 27 #[.bool k1, .slice k2 k3 k4, .bool k5, .slice k6 k7 k8] := ok.steps hs5
    have oc5 : Blk w5 (w2.heap.size) 65 #[.int .i64 0] := oc.steps hs5
    have B5 : Below w.heap.size w w5 := below_steps B (Nat.le_refl _) hs5
    have hv5 := Hid.mk_ (HV.out.steps hs5)
    have hu5 := Hid.mk_ (HU.out.steps hs5)
    have HFO := Hid.mk_ hfo
    clear hs5 ok oc B HV HU FA hfo lk lc2 c0 c1 c2 c3
    dsimp only
    repeat' (first | go_values | go_skip | go_guarded | go_step | go_upon)
    refine Reg.wp_chain (fun D v W => Below w5.heap.size w5 W ∧ True) (Reg.inl []) (Reg.gv []) Reg.None_ (fun _ => Reg.Any) (fun _ _ => False) (Reg.pl []) (Reg.pl [])
     (by kernel_rfl) (by kernel_rfl) (by kernel_rfl) (Reg.gv_some _ (by intro p hp; cases hp)) (fun _ => ⟨belowB, trivial⟩) (fun _ _ _ _ _ h => h) (fun _ _ _ _ _ _ _ _ _ _ _ _ _ => Reg.none_) (fun _ _ _ _ h => h.elim) (fun ops' Q' hops hQ => ?_)
    apply Reg.RP rfl rfl rfl 39 rfl rfl
    ·
     intro D v W hc hj hf K' hK'
     go_step
     exact hK'.out
    · rfl
    apply Reg.RP rfl rfl rfl 40 rfl rfl
    ·
     intro D v W hc hj hf K' hK'
     go_step
     exact hK'.out
    · rfl
    apply Reg.RP rfl rfl rfl 41 rfl rfl
    ·
     intro D v W hc hj hf K' hK'
     go_step
     exact hK'.out
    · rfl
    apply Reg.RP rfl rfl rfl 42 rfl rfl
    ·
     intro D v W hc hj hf K' hK'
     go_step
     exact hK'.out
    · rfl
    apply Reg.RP rfl rfl rfl 12 rfl rfl
    ·
     intro D v W hc hj hf K' hK'
     go_step
     exact hK'.out
    · rfl
    apply Reg.RP rfl rfl rfl 13 rfl rfl
    ·
     intro D v W hc hj hf K' hK'
     go_step
     exact hK'.out
    · rfl
    refine Reg.RC_end (fun D v w6 hd hj hf => ?_)
    obtain ⟨j0, _⟩ := hj
    have st6 := j0
    clear hd hf j0
    refine hQ _ _ ?_
    clear hQ hops Q' ops'
    have ok6 := ok5.steps st6
    have oc6 := oc5.steps st6
    have B6 : Below w.heap.size w w6 := below_steps B5 (Nat.le_refl _) st6
    have hv6 := Hid.mk_ (hv5.out.steps st6)
    have hu6 := Hid.mk_ (hu5.out.steps st6)
    have HFO6 := Hid.mk_ (HFO.out.steps st6)
    clear ok5 oc5 B5 hv5 hu5 HFO st6
    repeat' (first | go_values | go_skip | go_guarded | go_step | go_upon)
    go_loopw [45, 12, 13] (fun kk s12 s13 wq => ∃ (i : Nat) (v u : Value), v = s12 ∧ u = s13 ∧ i ≤ n ∧ kk = .int .i64 i ∧ Two wq w6.heap.size v u (inI (KF i)) (pick l (KF i)) ∧ Below w6.heap.size w6 wq) (fun kk _ _ _ => n - (intOf kk).toNat)
    case atStart => exact ⟨0, _, _, rfl, rfl, by omega, rfl, (by rw [HK0.out]; exact .inl ⟨rfl, rfl, _, _, _, _, rfl, rfl⟩), belowB⟩
    case round =>
     rename World => wq
     obtain ⟨i, v, u, rfl, rfl, hi, rfl, h2, Bq⟩ := hrel
     obtain ⟨h2l, va2, vc2, ua2, uc2, rfl, rfl⟩ := h2.len
     rcases Nat.lt_or_ge i n with i4 | i4
     ·
      have hlt : decide ((i : Int) < (n : Int)) = true := decide_eq_true (by omega)
      obtain ⟨bv', ov', ev, hbv, hv0⟩ := hv6.out.at' (t := i) (by have := HEL.out.1; omega)
      cases ev
      obtain ⟨bu', ou', eu', hbu, hu0⟩ := hu6.out.at' (t := i) (by have := HEL.out.2; omega)
      cases eu'
      rw [HIG.out i i4] at hv0
      rw [HPG.out i i4] at hu0
      have oc7 := oc6.steps Bq
      have f1 := HF2.out wq p1 p2 p3 p4 i oc7 (HFO6.out.steps Bq) i4
      have ks := Hid.mk_ (HKS.out i i4)
      have pk := Hid.mk_ (HPK.out (KF i) i)
      have kl := HKL.out i
      have cu : wq.cell? ⟨bu, ou + i, none⟩ = some (.int .i64 (XX i)) := (Bq.cell (p := ⟨bu, _, none⟩) hbu).trans hu0
      generalize KB i = kb at *
      have H2 := Hid.mk_ h2
      clear h2 hu0 oc7
      repeat' (first | go_values | go_skip | go_guarded | go_step | go_upon)
      refine f1.mono ?_
      rintro e wp ⟨rfl, hsp⟩
      have Bp : Below w6.heap.size w6 wp := below_steps Bq (Nat.le_refl _) hsp
      have H3 := Hid.mk_ (H2.out.steps hsp)
      have cv : wp.cell? ⟨bv, ov + i, none⟩ = some (.int .i64 (IX i : Nat)) := (Bp.cell (p := ⟨bv, _, none⟩) hbv).trans hv0
      clear hsp Bq H2 f1 cu
      have zz := Bp.size
      cases kb with
      | false =>
       have e1 : KF (i + 1) = KF i := ks.out
       have E1 := Hid.mk_ e1
       clear e1
       rw [show (!false) = true from rfl]
       dsimp only
       repeat' (first | go_values | go_skip | go_guarded | go_step | go_upon)
       go_roundw
       case rel => exact ⟨i + 1, _, _, rfl, rfl, by omega, by go_num, by rw [E1.out]; exact H3.out, Bp⟩
       case measure => simp [intOf]; omega
      | true =>
       have e1 : KF (i + 1) = KF i ++ [IX i] := ks.out
       have E1 := Hid.mk_ e1
       clear e1
       rw [show (!true) = false from rfl]
       dsimp only
       rcases H3.out with ⟨z1, z2, b, o, b', o', z3, z4⟩ | ⟨n', z0, z1, z2, z6, z7⟩
       ·
        have t1 : inI (KF (i + 1)) = [(IX i : Int)] := by rw [E1.out, inI_snoc, z1]; rfl
        have t2 : pick l (KF (i + 1)) = [XX i] := by rw [E1.out, pk.out, z2]; rfl
        have T1 := Hid.mk_ (And.intro t1 t2)
        rw [z3, z4]
        clear z1 z2 z3 z4 t1 t2 H3
        repeat' (first | ((with_reducible show wpList _ _ _ (⟨some 60, _, _, _, _, _⟩ :: _) _ _); refine app_firstI rfl (.tmp 54) (.tmp 59) rfl _ rfl wp.heap.size (IX i : Nat) rfl (Blk.new _ _ _) (fun vg1 wg1 rg1 gg1 => ?_)) | ((with_reducible show wpList _ _ _ (⟨some 64, _, _, _, _, _⟩ :: _) _ _); refine app_firstX rfl (.tmp 61) (.tmp 63) rfl _ rfl wg1.heap.size (XX i) rfl (Blk.new _ _ _) (fun vg2 wg2 rg2 gg2 => ?_)) | go_values | go_skip | go_guarded | go_step | go_upon)
        have e1 : Below w6.heap.size w6 wg1 := (Bp.alloc Bp.size _).grown gg1 (by rw [World.size_alloc]; omega) (fun k hk => by cases hk)
        have e2 : Below w6.heap.size w6 wg2 := (e1.alloc e1.size _).grown gg2 (by rw [World.size_alloc]; have := e1.size; omega) (fun k hk => by cases hk)
        have tw := two_first (base := w6.heap.size) rg1 rg2 (by rw [World.size_alloc]; omega) (by rw [World.size_alloc]; have := e1.size; omega) gg2
        obtain ⟨a1, c1, rfl⟩ := rg1.len
        obtain ⟨a2, c2, rfl⟩ := rg2.len
        clear rg1 rg2 gg1 gg2
        repeat' (first | go_values | go_skip | go_guarded | go_step | go_upon)
        go_roundw
        case rel => exact ⟨i + 1, _, _, rfl, rfl, by omega, by go_num, by rw [T1.out.1, T1.out.2]; exact tw, e2⟩
        case measure => simp [intOf]; omega
       ·
        have t1 : inI (KF (i + 1)) = inI (KF i) ++ [(IX i : Int)] := by rw [E1.out, inI_snoc]
        have t2 : pick l (KF (i + 1)) = pick l (KF i) ++ [XX i] := by rw [E1.out, pk.out]
        have T1 := Hid.mk_ (And.intro t1 t2)
        have T2 := Hid.mk_ (And.intro z1 z2)
        rw [z1] at z6 ⊢
        rw [z2] at z7 ⊢
        have Z6 := Hid.mk_ z6
        have Z7 := Hid.mk_ z7
        have nn : n' ≤ 100000 := by have := T2.out.1; rw [inI_len] at this; omega
        clear z1 z2 z6 z7 t1 t2 H3
        repeat' (first | ((with_reducible show wpList _ _ _ (⟨some 60, _, _, _, _, _⟩ :: _) _ _); refine app_int rfl (.tmp 54) (.tmp 59) rfl w6.heap.size n' _ (inI (KF i)) rfl (Z6.out.alloc (.cells #[.int .i64 ((IX i : Nat) : Int)] 3)) wp.heap.size (IX i : Nat) rfl (Blk.new _ _ _) nn (by rw [World.size_alloc]; omega) (fun vg1 wg1 rg1 gg1 => ?_)) | ((with_reducible show wpList _ _ _ (⟨some 64, _, _, _, _, _⟩ :: _) _ _); refine app_i64 rfl (.tmp 61) (.tmp 63) rfl w6.heap.size n' _ (pick l (KF i)) rfl (((Z7.out.alloc (.cells #[.int .i64 ((IX i : Nat) : Int)] 3)).other gg1 (swap_ne (rows_ne (Z6.out.alloc (.cells #[.int .i64 ((IX i : Nat) : Int)] 3)) (Z7.out.alloc (.cells #[.int .i64 ((IX i : Nat) : Int)] 3))))).alloc _) wg1.heap.size (XX i) rfl (Blk.new _ _ _) nn (by rw [World.size_alloc]; have := gg1.size; rw [World.size_alloc] at this; omega) (fun vg2 wg2 rg2 gg2 => ?_)) | go_values | go_skip | go_guarded | go_step | go_upon)
        have e1 := (Z6.out.alloc (.cells #[.int .i64 ((IX i : Nat) : Int)] 3)).below gg1 (Bp.alloc Bp.size _) (Nat.le_refl _)
        have r7 := ((Z7.out.alloc (.cells #[.int .i64 ((IX i : Nat) : Int)] 3)).other gg1 (swap_ne (rows_ne (Z6.out.alloc (.cells #[.int .i64 ((IX i : Nat) : Int)] 3)) (Z7.out.alloc (.cells #[.int .i64 ((IX i : Nat) : Int)] 3))))).alloc (.cells #[.int .i64 (XX i)] 2)
        have e2 := r7.below gg2 (e1.alloc e1.size _) (Nat.le_refl _)
        have r1 := (rg1.alloc (.cells #[.int .i64 (XX i)] 2)).other gg2 (swap_ne2 (rows_ne (rg1.alloc (.cells #[.int .i64 (XX i)] 2)) r7))
        have tw : Two wg2 w6.heap.size vg1 vg2 (inI (KF i) ++ [(IX i : Int)]) (pick l (KF i) ++ [XX i]) := .inr ⟨n' + 1, by omega, by rw [List.length_append, T2.out.1]; rfl, by rw [List.length_append, T2.out.2]; rfl, r1, rg2⟩
        obtain ⟨a1, c1, rfl⟩ := rg1.len
        obtain ⟨a2, c2, rfl⟩ := rg2.len
        clear rg1 rg2 gg1 gg2 r7 r1 Z6 Z7
        repeat' (first | go_values | go_skip | go_guarded | go_step | go_upon)
        go_roundw
        case rel => exact ⟨i + 1, _, _, rfl, rfl, by omega, by go_num, by rw [T1.out.1, T1.out.2]; exact tw, e2⟩
        case measure => simp [intOf]; omega
     ·
      obtain rfl : i = n := by omega
      have hlt : decide ((i : Int) < (i : Int)) = false := decide_eq_false (by omega)
      have oc7 := oc6.steps Bq
      have cc := oc7.c 0 rfl
      have BB : Below w.heap.size w wq := below_steps B6 (Nat.le_refl _) Bq
      rw [HKA.out] at h2 h2l ⊢
      have y1 : (inI SC).length = SC.length := inI_len SC
      rw [y1] at h2l ⊢
      by_cases es : SC.length = i
      ·
       have ei : ((SC.length : Int) == (i : Int)) = true := by rw [es]; simp
       have er := HCR.out.1 es
       have ER := Hid.mk_ er
       have er2 : ((clipR l k).2 : Int) = (r : Int) := by rw [er]
       have ER2 := Hid.mk_ er2
       clear er2
       have hv7 := hv6.out.steps Bq
       have hu7 := hu6.out.steps Bq
       clear er
       repeat' (first | go_values | go_skip | go_guarded | go_step | go_upon)
       go_returns
       exact ⟨_, _, by rw [ER2.out], by rw [ER.out]; exact hv7, by rw [ER.out]; exact hu7, BB⟩
      ·
       have ei : ((SC.length : Int) == (i : Int)) = false := by rw [beq_eq_false_iff_ne]; omega
       obtain ⟨f', g1, g2⟩ := HCR.out.2 es
       obtain ⟨i1, i2⟩ := two_ints h2 (by intro e; have := congrArg List.length e; rw [inI_len] at this; exact HSN2.out.1 (List.eq_nil_of_length_eq_zero this))
       repeat' (first | go_values | go_skip | go_guarded | go_step | go_upon)
       go_roundw
       case rel => exact ⟨SC, f', r + 1, _, _, rfl, rfl, by go_num, g1, g2, HSN2.out.1, HSN2.out.2, (by have := HXN.out; omega), (by have := i1; rw [y1] at this; exact this), i2, ok6.steps Bq, oc7, BB⟩
       case measure => show SC.length < i; omega
def clipS (l : List Int) (o : Option Rat) : List Nat × Nat × Int :=
 if askV l = 0 then (if facB o then ((clipR l (o.getD 0)).1, (clipR l (o.getD 0)).2, 0) else ([], 0, 2)) else ([], 0, askV l)
theorem clipS_err {l : List Int} {o : Option Rat} (h : (clipS l o).2.2 = 0) : askV l = 0 ∧ ∃ k, o = some k ∧ 1 ≤ k ∧ k ≤ 1000 ∧ clipS l o = ((clipR l k).1, (clipR l k).2, 0) := by
 unfold clipS at h
 by_cases h1 : askV l = 0
 ·
  rw [if_pos h1] at h
  cases h2 : facB o with
  | false => rw [h2] at h; cases h
  | true =>
   obtain ⟨k, rfl, h3, h4⟩ := facB_ok h2
   refine ⟨h1, k, rfl, h3, h4, ?_⟩
   unfold clipS
   rw [if_pos h1, h2]; rfl
 ·
  rw [if_neg h1] at h
  exact absurd h h1
theorem vclip_bad {vl vk : Value} {l : List Int} {o : Option Rat} (w : World) (hl : IntsR w vl l) (hn : l.length ≤ 100000) (hk : FB w vk o) (zk : ∀ r, o = some r → sz r 4) (c : Int) (hc : (askV l = c ∧ c ≠ 0) ∨ (askV l = 0 ∧ facB o = false ∧ c = 2)) :
  Calls Tryz.prog 43 #[vl, vk] w fun e w' => e = .returned (.tuple #[.slice none 0 0, .slice none 0 0, .int .i64 0, .int .i64 c]) ∧ Steps w w' := by
 have CS : ∀ w', Steps w w' → Calls Tryz.prog 35 #[vl] w' fun e w2 => e = .returned (.int .i64 (askV l)) ∧ Steps w' w2 := fun w' s => vstart w' (hl.steps s) hn
 have AL : ∀ w', Steps w w' → Calls Tryz.prog 76 #[vk] w' fun e w2 => e = .returned (.bool (facB o)) ∧ Steps w' w2 := fun w' s => vallowed w' (hk.keeps (Keeps.steps s)) zk
 obtain ⟨k1, k2, k3, k4, k5, k6, k7, k8, rfl⟩ := hk.shape
 obtain ⟨la, lc, rfl⟩ := hl.shape
 clear hl hn hk zk
 rcases hc with ⟨h1, h2⟩ | ⟨h1, h2, rfl⟩
 ·
  rw [h1] at CS
  have h3 : (c == 0) = false := by simpa using h2
  have h4 : (c != 0) = true := by simpa using h2
  clear h1 h2 AL
  go_enter Tryz.func43, Tryz.ntmps43
  go_wp2_with fail
  refine (CS _ belowB).mono ?_
  rintro e w1 ⟨rfl, hb1⟩
  have st : Steps _ w1 := hb1
  have B : Below w.heap.size w w1 := belowA st
  have ok : Blk w1 (w.heap.size) 27 #[.bool k1, .slice k2 k3 k4, .bool k5, .slice k6 k7 k8] := Blk.stepsK st
  clear st
  go_wp2_with fail
  refine bodyPost_ret (by simp [results, Tryz.results43, go_sem, ]; rfl) rfl ?_
  exact ⟨rfl, belowB⟩
 ·
  rw [h1] at CS
  rw [h2] at AL
  clear h1 h2
  go_enter Tryz.func43, Tryz.ntmps43
  go_wp2_with fail
  refine (CS _ belowB).mono ?_
  rintro e w1 ⟨rfl, hb1⟩
  have st : Steps _ w1 := hb1
  have B : Below w.heap.size w w1 := belowA st
  have ok : Blk w1 (w.heap.size) 27 #[.bool k1, .slice k2 k3 k4, .bool k5, .slice k6 k7 k8] := Blk.stepsK st
  clear st
  obtain ⟨ck0, ck1, ck2, ck3⟩ := ok.r3
  have lk := ok.lt
  go_wp2_with fail
  refine (AL _ (belowB)).mono ?_
  rintro e w2 ⟨rfl, hb2⟩
  have st : Steps _ w2 := hb2
  have sk : Below w1.heap.size w1 w2 := belowA st
  replace B := below_steps B (Nat.le_refl _) sk
  replace ok := ok.steps sk
  clear st sk ck0 ck1 ck2 ck3 lk
  go_wp2_with fail
  refine bodyPost_ret (by simp [results, Tryz.results43, go_sem, ]; rfl) rfl ?_
  exact ⟨rfl, belowB⟩
theorem vclip {vl vk : Value} {l : List Int} {o : Option Rat} (w : World) (hl : IntsR w vl l) (hn : l.length ≤ 100000) (hk : FB w vk o) (zk : ∀ r, o = some r → sz r 4) :
  Calls Tryz.prog 43 #[vl, vk] w fun e w' => ∃ v u, e = .returned (.tuple #[v, u, .int .i64 ((clipS l o).2.1 : Nat), .int .i64 (clipS l o).2.2]) ∧ IntsR w' v (inI (clipS l o).1) ∧ IntsR w' u (pick l (clipS l o).1) ∧ Steps w w' := by
 unfold clipS
 by_cases h1 : askV l = 0
 ·
  rw [if_pos h1]
  cases h2 : facB o with
  | false =>
   refine (vclip_bad w hl hn hk zk 2 (.inr ⟨h1, h2, rfl⟩)).mono ?_
   rintro e w' ⟨rfl, hs⟩
   exact ⟨_, _, rfl, IntsR.nil _, IntsR.nil _, hs⟩
  | true =>
   obtain ⟨k, rfl, -, -⟩ := facB_ok h2
   exact vclip_ok w hl hk (zk k rfl) h1 h2
 ·
  rw [if_neg h1]
  refine (vclip_bad w hl hn hk zk (askV l) (.inl ⟨rfl, h1⟩)).mono ?_
  rintro e w' ⟨rfl, hs⟩
  exact ⟨_, _, rfl, IntsR.nil _, IntsR.nil _, hs⟩
theorem vClip {vl vk : Value} {l : List Int} {o : Option Rat} (w : World) (hl : IntsR w vl l) (hn : l.length ≤ 100000) (hk : FB w vk o) (zk : ∀ r, o = some r → sz r 4) :
  Calls Tryz.prog 14 #[vl, vk] w fun e w' => ∃ v, e = .returned (.tuple #[v, .int .i64 ((clipS l o).2.1 : Nat), .int .i64 (clipS l o).2.2]) ∧ IntsR w' v (inI (clipS l o).1) ∧ Steps w w' := by
 have CC : ∀ w', Steps w w' → Calls Tryz.prog 43 #[vl, vk] w' fun e w2 => ∃ v u, e = .returned (.tuple #[v, u, .int .i64 ((clipS l o).2.1 : Nat), .int .i64 (clipS l o).2.2]) ∧ IntsR w2 v (inI (clipS l o).1) ∧ IntsR w2 u (pick l (clipS l o).1) ∧ Steps w' w2 := fun w' s => vclip w' (hl.steps s) hn (hk.keeps (Keeps.steps s)) zk
 obtain ⟨k1, k2, k3, k4, k5, k6, k7, k8, rfl⟩ := hk.shape
 obtain ⟨la, lc, rfl⟩ := hl.shape
 generalize (clipS l o).2.2 = c at *
 generalize ((clipS l o).2.1 : Int) = r at *
 generalize inI (clipS l o).1 = x at *
 generalize pick l (clipS l o).1 = y at *
 clear hl hn hk zk
 go_enter Tryz.func14, Tryz.ntmps14
 go_wp2_with fail
 refine (CC _ belowB).mono ?_
 rintro e w1 ⟨v, u, rfl, hv, hu, hs⟩
 obtain ⟨va, vc, rfl⟩ := hv.shape
 obtain ⟨ua, uc, rfl⟩ := hu.shape
 have B : Below w.heap.size w w1 := belowA hs
 clear hs CC
 go_wp2_with fail
 go_returns
 exact ⟨_, rfl, hv, B⟩
theorem askV_of {m : List Int} (h0 : m ≠ []) (h : valL m) : askV m = 0 := by
 have hk : ∀ t, t ≤ m.length → okV m t = true := by
  intro t
  induction t with
  | zero => intro _; rfl
  | succ t ih =>
   intro ht
   unfold okV
   rw [ih (by omega), decide_eq_true (h.get (by omega))]; rfl
 have hc : chkV m = 0 := by unfold chkV; rw [if_neg (by have := h.1; omega), hk _ (Nat.le_refl _)]; rfl
 unfold askV
 rw [if_pos hc, if_neg (by have := List.length_pos_iff.2 h0; omega)]
theorem vTrimmed {vl vk : Value} {l : List Int} {o : Option Rat} (w : World) (hl : IntsR w vl l) (hn : l.length ≤ 100000) (hk : FB w vk o) (zk : ∀ r, o = some r → sz r 4) :
  Calls Tryz.prog 16 #[vl, vk] w fun e w' => ∃ v, e = .returned (.tuple #[v, .int .i64 (clipS l o).2.2]) ∧ FE w' v (clipS l o).2.2 (meanQ (pick l (clipS l o).1)) ∧ Steps w w' := by
 have CC : ∀ w', Steps w w' → Calls Tryz.prog 43 #[vl, vk] w' fun e w2 => ∃ v u, e = .returned (.tuple #[v, u, .int .i64 ((clipS l o).2.1 : Nat), .int .i64 (clipS l o).2.2]) ∧ IntsR w2 v (inI (clipS l o).1) ∧ IntsR w2 u (pick l (clipS l o).1) ∧ Steps w' w2 := fun w' s => vclip w' (hl.steps s) hn (hk.keeps (Keeps.steps s)) zk
 by_cases h0 : (clipS l o).2.2 = 0
 ·
  have ME : ∀ w' u, IntsR w' u (pick l (clipS l o).1) → Calls Tryz.prog 10 #[u] w' fun e w2 => ∃ v, e = .returned (.tuple #[v, .int .i64 0]) ∧ FR w2 v (meanQ (pick l (clipS l o).1)) ∧ Steps w' w2 := fun w' u hu => by
   obtain ⟨h1, k, rfl, h3, h4, h5⟩ := clipS_err h0
   obtain ⟨hv, hl0⟩ := askV_val h1
   rw [h5] at hu ⊢
   have hm : valL (pick l (clipR l k).1) := pick_val hv (fun i hi => clipR_lt hi) (Nat.le_trans (by have := (clipR_spec l k).2.2.1; omega) hv.1)
   have e0 := askV_of (pick_ne (l := l) (clipR_ne h3 hl0)) hm
   have := vMean w' hu (by rw [pick_len]; have := (clipR_spec l k).2.2.1; show (clipR l k).1.length ≤ _; omega)
   rw [e0] at this
   refine this.mono ?_
   rintro e w2 ⟨v, rfl, h6, h7⟩
   exact ⟨v, rfl, by unfold FE at h6; rwa [if_pos rfl] at h6, h7⟩
  rw [h0] at CC ⊢
  obtain ⟨k1, k2, k3, k4, k5, k6, k7, k8, rfl⟩ := hk.shape
  obtain ⟨la, lc, rfl⟩ := hl.shape
  generalize ((clipS l o).2.1 : Int) = r at *
  generalize meanQ (pick l (clipS l o).1) = mq at *
  generalize pick l (clipS l o).1 = y at *
  clear hl hn hk zk h0
  go_enter Tryz.func16, Tryz.ntmps16
  go_wp2_with fail
  refine (CC _ belowB).mono ?_
  rintro e w1 ⟨va, vu, rfl, hva, hvu, hb1⟩
  have st : Steps _ w1 := hb1
  have B : Below w.heap.size w w1 := belowA st
  have ok : Blk w1 (w.heap.size) 27 #[.bool k1, .slice k2 k3 k4, .bool k5, .slice k6 k7 k8] := Blk.stepsK st
  have or : Blk w1 (w.heap.size + 1) 27 #[.bool false, .slice none 0 0, .bool false, .slice none 0 0] := Blk.stepsK st
  clear st
  obtain ⟨aa, ac, rfl⟩ := hva.shape
  obtain ⟨ua, uc, rfl⟩ := hvu.shape
  have HU := Hid.mk_ hvu
  clear hva hvu
  go_wp2_with fail
  refine (ME _ _ HU.out).mono ?_
  rintro e w2 ⟨vq, rfl, hvq, hb2⟩
  have st : Steps _ w2 := hb2
  have sk : Below w1.heap.size w1 w2 := belowA st
  replace B := below_steps B (Nat.le_refl _) sk
  replace ok := ok.steps sk
  replace or := or.steps sk
  clear st sk
  have lk := ok.lt
  obtain ⟨cr0, cr1, cr2, cr3, fr, lr⟩ := or.s3
  obtain ⟨q1, q2, q3, q4, q5, q6, q7, q8, rfl⟩ := hvq.shape
  have Fq := Hid.mk_ hvq
  clear hvq
  go_wp2_with fail
  refine bodyPost_ret (by simp [results, Tryz.results16, go_sem, lk, cr0, cr1, cr2, cr3, fr, lr]; rfl) rfl ?_
  exact ⟨_, rfl, FE.ok (Fq.out.keeps keepsB), belowB⟩
 ·
  obtain ⟨k1, k2, k3, k4, k5, k6, k7, k8, rfl⟩ := hk.shape
  obtain ⟨la, lc, rfl⟩ := hl.shape
  generalize meanQ (pick l (clipS l o).1) = mq at *
  generalize ((clipS l o).2.1 : Int) = r at *
  generalize inI (clipS l o).1 = x at *
  generalize pick l (clipS l o).1 = y at *
  generalize (clipS l o).2.2 = c at *
  have h3 : (c == 0) = false := by simpa using h0
  have h4 : (c != 0) = true := by simpa using h0
  have HK := Hid.mk_ h0
  clear hl hn hk zk h0
  go_enter Tryz.func16, Tryz.ntmps16
  go_wp2_with fail
  refine (CC _ belowB).mono ?_
  rintro e w1 ⟨va, vu, rfl, hva, hvu, hb1⟩
  have st : Steps _ w1 := hb1
  have B : Below w.heap.size w w1 := belowA st
  have ok : Blk w1 (w.heap.size) 27 #[.bool k1, .slice k2 k3 k4, .bool k5, .slice k6 k7 k8] := Blk.stepsK st
  have or : Blk w1 (w.heap.size + 1) 27 #[.bool false, .slice none 0 0, .bool false, .slice none 0 0] := Blk.stepsK st
  clear st
  have lk := ok.lt
  obtain ⟨cr0, cr1, cr2, cr3, fr, lr⟩ := or.s3
  obtain ⟨aa, ac, rfl⟩ := hva.shape
  obtain ⟨ua, uc, rfl⟩ := hvu.shape
  clear hva hvu
  go_wp2_with fail
  refine bodyPost_ret (by simp [results, Tryz.results16, go_sem, lk, cr0, cr1, cr2, cr3, fr, lr]; rfl) rfl ?_
  exact ⟨_, rfl, FE.bad HK.out, belowB⟩
end Go.Proofs.YtmpambmpknaldaaGreat
