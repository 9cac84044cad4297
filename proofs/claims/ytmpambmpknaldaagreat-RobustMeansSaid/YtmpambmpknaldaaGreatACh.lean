import Derived.Test.YtmpambmpknaldaaGreatACe
import Derived.Test.YtmpambmpknaldaaGreatACs
import Derived.ArgAppend
import Derived.Test.YtmpambmpknaldaaGreatATf
set_option linter.unusedVariables false
set_option linter.unusedSimpArgs false
set_option maxHeartbeats 6400000
set_option maxRecDepth 1000000
namespace Go.Proofs.YtmpambmpknaldaaGreat
open Go.RowKit
def inI (ix : List Nat) : List Int := ix.map (fun (i : Nat) => (i : Int))
theorem inI_len (ix : List Nat) : (inI ix).length = ix.length := by simp [inI]
theorem inI_get (ix : List Nat) {t : Nat} (h : t < ix.length) : (inI ix).getD t 0 = ((ix.getD t 0 : Nat) : Int) := by simp [inI, List.getD, h]
theorem inI_snoc (ix : List Nat) (i : Nat) : inI (ix ++ [i]) = inI ix ++ [(i : Int)] := by simp [inI]
theorem pick_snoc (l : List Int) (ix : List Nat) (i : Nat) : pick l (ix ++ [i]) = pick l ix ++ [l.getD i 0] := by simp [pick]
theorem takeN_step {ix : List Nat} {t : Nat} (h : t < ix.length) : ix.take (t + 1) = ix.take t ++ [ix.getD t 0] := by
 rw [List.take_succ_eq_append_getElem h]
 simp [List.getD, h]
theorem getN_mem {ix : List Nat} {i : Nat} (h : i < ix.length) : ix.getD i 0 ∈ ix := by
 rw [List.getD, List.getElem?_eq_getElem h]
 exact List.getElem_mem h
theorem pick_val {l : List Int} (hv : valL l) {ix : List Nat} (h : ∀ i ∈ ix, i < l.length) (hl : ix.length ≤ 1000) : valL (pick l ix) := by
 refine ⟨by rw [pick_len]; exact hl, fun x hx => ?_⟩
 obtain ⟨i, hi, rfl⟩ := List.mem_map.1 hx
 exact hv.get (h i hi)
theorem prpick {vl va : Value} {l : List Int} {ix : List Nat} (w : World) (hl : IntsR w vl l) (ha : IntsR w va (inI ix)) (hi : ∀ i ∈ ix, i < l.length) (hn : ix.length ≤ 1000) (hx : l.length ≤ 100000) :
  Calls Tryz.prog 23 #[vl, va] w fun e w' => ∃ v, e = .returned v ∧ IntsR w' v (pick l ix) ∧ Steps w w' := by
 have PS : ∀ t, t < ix.length → pick l (ix.take (t + 1)) = pick l (ix.take t) ++ [l.getD (ix.getD t 0) 0] := fun t ht => by rw [takeN_step ht, pick_snoc]
 have PL : ∀ t, t ≤ ix.length → (pick l (ix.take t)).length = t := fun t ht => by rw [pick_len, List.length_take]; omega
 have PE : pick l (ix.take ix.length) = pick l ix := by rw [List.take_length]
 have P0 : pick l (ix.take 0) = [] := rfl
 have KL : ∀ t, t < ix.length → ix.getD t 0 < l.length := fun t ht => hi _ (getN_mem ht)
 have KG : ∀ t, t < ix.length → (inI ix).getD t 0 = ((ix.getD t 0 : Nat) : Int) := fun t ht => inI_get ix ht
 rw [← PE]
 obtain ⟨PP, hPP⟩ : ∃ f : Nat → List Int, ∀ t, pick l (ix.take t) = f t := ⟨_, fun _ => rfl⟩
 obtain ⟨KK, hKK⟩ : ∃ f : Nat → Nat, ∀ t, ix.getD t 0 = f t := ⟨_, fun _ => rfl⟩
 simp only [hPP, hKK] at PS PL P0 KL KG ⊢
 obtain ⟨la, lc, rfl⟩ := hl.shape
 obtain ⟨aa, ac, rfl⟩ := ha.shape
 rw [inI_len] at ha ⊢
 have HL := Hid.mk_ hl
 have HA := Hid.mk_ ha
 have HI := Hid.mk_ (inI_len ix)
 obtain ⟨n, hN⟩ : ∃ n, ix.length = n := ⟨_, rfl⟩
 have HN := Hid.mk_ hN
 rw [hN] at PS PL KL KG HA HI hn ⊢
 have PS' := Hid.mk_ PS
 have PL' := Hid.mk_ PL
 have KG' := Hid.mk_ KG
 have KL' := Hid.mk_ KL
 have P0' := Hid.mk_ P0
 clear hl ha hi hN PE hPP hKK PS PL KG KL P0
 go_enter Tryz.func23, Tryz.ntmps23
 go_wp2_with fail
 go_loopw [6, 5] (fun kk oo wr => ∃ (t : Nat) (ow : Value), ow = oo ∧ t ≤ n ∧ kk = .int .i64 t ∧ RowU wr w.heap.size 2 1 ow t (ints (PP t)) ∧ Below w.heap.size w wr) (fun kk _ _ => n - (intOf kk).toNat)
 case atStart => exact ⟨0, _, rfl, Nat.zero_le _, rfl, by rw [P0'.out]; exact RowU.nil _ _ _ _, belowB⟩
 case round =>
  obtain ⟨t, ow, rfl, ht, rfl, hr, B⟩ := hrel
  obtain ⟨oa, ocap, rfl⟩ := hr.len
  have HR := Hid.mk_ hr
  clear hr
  rcases Nat.lt_or_ge t n with tn | tn
  ·
   have hlt : decide ((t : Int) < (n : Int)) = true := decide_eq_true (by omega)
   obtain ⟨bA, oA, rfl, hbA, hA0⟩ := HA.out.at' (t := t) (by have := HI.out; omega)
   rw [KG'.out t tn] at hA0
   obtain ⟨b, of, rfl, hbl, hx0⟩ := HL.out.at' (t := KK t) (KL'.out t tn)
   have kl := KL'.out t tn
   have hps := Hid.mk_ (PS'.out t tn)
   have hpl := PL'.out t ht
   obtain ⟨x, hxx⟩ : ∃ x, l.getD (KK t) 0 = x := ⟨_, rfl⟩
   rw [hxx] at hx0 hps
   obtain ⟨k, hk⟩ : ∃ k, KK t = k := ⟨_, rfl⟩
   rw [hk] at hA0 hx0 kl
   have c0 : wr.cell? ⟨bA, oA + t, none⟩ = some (.int .i64 (k : Int)) := (B.cell (p := ⟨bA, _, none⟩) hbA).trans hA0
   have c1 : wr.cell? ⟨b, of + k, none⟩ = some (.int .i64 x) := (B.cell (p := ⟨b, _, none⟩) hbl).trans hx0
   have zz := B.size
   clear hA0 hx0 hxx hk
   repeat' (first | ((with_reducible show wpList _ _ _ (⟨some 22, _, _, _, _, _⟩ :: _) _ _); refine app_i64 rfl (.tmp 13) (.tmp 21) rfl w.heap.size t (.slice oa t ocap) (PP t) rfl (HR.out.alloc _) wr.heap.size x rfl (Blk.new _ _ _) (by omega) (by rw [World.size_alloc]; omega) (fun v' w7 hr7 hg7 => ?_)) | go_values | go_skip | go_guarded | go_step | go_upon)
   obtain ⟨oa', ocap', rfl⟩ := hr7.len
   have r6 := HR.out.alloc (.cells #[.int .i64 x] 2)
   have B7 := r6.below hg7 (B.alloc B.size _) (Nat.le_refl _)
   have HR7 := Hid.mk_ hr7
   clear r6 hg7 hr7 HR B
   go_wp2_with fail
   go_roundw
   case rel => exact ⟨t + 1, _, rfl, by omega, by go_num, by rw [hps.out]; exact HR7.out, B7⟩
   case measure => simp [intOf]; omega
  ·
   obtain rfl : t = n := by omega
   have hlt : decide ((t : Int) < (t : Int)) = false := decide_eq_false (by omega)
   have hpl := PL'.out t (Nat.le_refl _)
   go_wp2_with fail
   go_returns
   exact ⟨_, rfl, by have := HR.out; rw [show t = (PP t).length from hpl.symm] at this ⊢; exact this.ints, B⟩
section
variable {ops : Array Oper} {rest : List Oper} {o : Oper} {a : Act} {w : World} {Q : Exit → Act → World → Prop}
theorem noU_ints (l : List Int) : noU32 (ints l).toArray = true := noU32_mem.2 (fun u hu => by
 unfold ints at hu
 obtain ⟨p, -, rfl⟩ := List.mem_map.1 hu
 rfl)
theorem app_copyU (hgd : o.guard = none) (s x : Operand) (ho : o.op = .call { callee := .builtin .append, args := #[s, x], argTypes := #[22, 22] })
  (g : Nat) (hs : a.eval s = .slice (some ⟨g, 0, none⟩) 0 0) (hb : Blk w g 2 #[]) (v : Value) (l : List Int) (hx : a.eval x = v) (hv : IntsR w v l) (h0 : 0 < l.length) (hl : l.length ≤ 100000)
  (h : ∀ v' w', RowU w' g 2 1 v' l.length (ints l) → w.grownBy w' (some g) → wpList Tryz.prog ops Q rest (a.put o.dst v') w') : wpList Tryz.prog ops Q (o :: rest) a w := by
 obtain ⟨ie, z, h1, h2, h3, h4, h5⟩ := infoJ
 refine wpList_plain hgd fun K hK => ?_
 obtain ⟨ao, cap, rfl⟩ := hv.shape
 obtain ⟨b, of, rfl, hbl, -⟩ := hv.at' h0
 have hlen : (ints l).length = l.length := by unfold ints; rw [List.length_map]
 have hr0 : RowU w g 2 1 (.slice (some ⟨g, 0, none⟩) 0 0) 0 [] := ⟨⟨rfl, .inr ⟨g, 0, #[], rfl, Nat.le_refl _, hb, Nat.le_refl _, by unfold maxLen; omega, rfl, rfl⟩⟩, fun g' cur e1 e2 => by
  have e3 : some g = some g' := e1
  rw [Option.some.injEq] at e3
  subst e3
  have hb' : w.heap[g]? = some (.cells #[] 2 (0, 0)) := hb
  have e4 := hb'.symm.trans e2
  simp only [Option.some.injEq, Obj.cells.injEq] at e4
  rw [← e4.1]; rfl⟩
 refine wp_append_U w s x 22 ho g 2 ie z 1 8 Tryz.underlying22 h1 h4 h2 h3 (by rw [h5]; rfl) (by rw [h5]; rfl) (by omega) (.slice (some ⟨g, 0, none⟩) 0 0) 0 [] hs hr0 ⟨b, of, none⟩ l.length cap (ints l) hx h0 (by rw [hlen]; omega) (fun j u hj => ?_) (fun u hu => ?_) (noU_ints l) (by unfold maxLen; omega) (by omega) (Nat.le_of_lt hb.lt) (fun v' w' hr hg => hK _ _ (h v' w' ?_ hg))
 ·
  have hjl : j < l.length := by
   rcases Nat.lt_or_ge j (ints l).length with g | g
   · rwa [hlen] at g
   · rw [List.getElem?_eq_none g] at hj; cases hj
  rw [show (⟨b, of, none⟩ : Addr).add j = ⟨b, of + j, none⟩ from Addr.add_lit ..]
  obtain ⟨b', of', e, -, hc⟩ := hv.at' hjl
  cases e
  rw [hc]
  unfold ints at hj
  rw [List.getElem?_map, List.getElem?_eq_getElem hjl] at hj
  rw [← hj, List.getD_eq_getElem?_getD, List.getElem?_eq_getElem hjl]
  rfl
 ·
  unfold ints at hu
  obtain ⟨p, -, rfl⟩ := List.mem_map.1 hu
  rfl
 ·
  rw [Nat.zero_add, List.nil_append] at hr
  exact hr
theorem app_firstX (hgd : o.guard = none) (s x : Operand) (ho : o.op = .call { callee := .builtin .append, args := #[s, x], argTypes := #[22, 22] })
  (b0 : Addr) (hs : a.eval s = .slice (some b0) 0 0) (g : Nat) (y : Int) (hx : a.eval x = .slice (some ⟨g, 0, none⟩) 1 1) (hb : Blk w g 2 #[.int .i64 y])
  (h : ∀ v' w', RowU w' w.heap.size 2 1 v' 1 (ints [y]) → w.grownBy w' none → wpList Tryz.prog ops Q rest (a.put o.dst v') w') : wpList Tryz.prog ops Q (o :: rest) a w := by
 obtain ⟨ie, z, h1, h2, h3, h4, h5⟩ := infoJ
 have hc0 : ∀ j u, ([.int .i64 y] : List Value)[j]? = some u → w.cell? ((⟨g, 0, none⟩ : Addr).add j) = some u := fun j u hj => by
  have hc := hb.cell j
  rw [show (⟨g, 0, none⟩ : Addr).add j = ⟨g, 0 + j, none⟩ from Addr.add_lit .., Nat.zero_add, hc]
  simpa using hj
 refine wpList_plain hgd fun K hK' => ?_
 have hr := run_append_grow (P := Tryz.prog) w 22 o.type 2 ie z Tryz.underlying22 h1 h4 b0 0 0 [] (by simp) (fun j u hj => by cases hj) ⟨g, 0, none⟩ 1 1 [.int .i64 y] (by rw [h2]; rfl) hc0 (by omega) (by omega) (growslice_fits (by omega) (by rw [h3]; omega))
 have hge := grownCap_ge w (0 + 1) 0 2
 have hcm : grownCap w (0 + 1) 0 2 ≤ maxLen := grownCap_le_maxLen w (0 + 1) 0 2 (by unfold maxLen; omega)
 unfold Oper.wp
 simp [execOp, ho, resolve, invoke, builtin, hs, hx, hr, Result.andThen]
 simp only [Nat.zero_add] at hge hcm hr
 refine hK' _ _ (h _ _ ⟨⟨rfl, .inr ⟨w.heap.size, _, _, rfl, Nat.le_refl _, heap_alloc_new w.drew _, hge, hcm, ?_, ?_⟩⟩, fun g' cur e1 e2 => ?_⟩ ⟨rfl, rfl, rfl, by simp, fun k hk _ => by first | exact heap_alloc_old w.drew _ hk | exact heap_alloc_old w.drew _ k hk⟩)
 ·
  simp only [Array.size_append, List.size_toArray, size_zeroCells, h5, Nat.mul_one]
  simp only [List.length_cons, List.length_nil]
  show _ + _ * 1 = _
  omega
 · simp [ints]
 ·
  have e3 : some w.heap.size = some g' := e1
  rw [Option.some.injEq] at e3
  subst e3
  have e4 := (heap_alloc_new w.drew _).symm.trans e2
  simp only [Option.some.injEq, Obj.cells.injEq] at e4
  rw [← e4.1]
  simp only [noU32_arr, noU32_zero (show noU32 z.cells = true by rw [h5]; rfl)]
  rfl
theorem app_firstI (hgd : o.guard = none) (s x : Operand) (ho : o.op = .call { callee := .builtin .append, args := #[s, x], argTypes := #[34, 34] })
  (b0 : Addr) (hs : a.eval s = .slice (some b0) 0 0) (g : Nat) (y : Int) (hx : a.eval x = .slice (some ⟨g, 0, none⟩) 1 1) (hb : Blk w g 3 #[.int .i64 y])
  (h : ∀ v' w', RowU w' w.heap.size 3 1 v' 1 (ints [y]) → w.grownBy w' none → wpList Tryz.prog ops Q rest (a.put o.dst v') w') : wpList Tryz.prog ops Q (o :: rest) a w := by
 obtain ⟨ie, z, h1, h2, h3, h4, h5⟩ := infoI
 have hc0 : ∀ j u, ([.int .i64 y] : List Value)[j]? = some u → w.cell? ((⟨g, 0, none⟩ : Addr).add j) = some u := fun j u hj => by
  have hc := hb.cell j
  rw [show (⟨g, 0, none⟩ : Addr).add j = ⟨g, 0 + j, none⟩ from Addr.add_lit .., Nat.zero_add, hc]
  simpa using hj
 refine wpList_plain hgd fun K hK' => ?_
 have hr := run_append_grow (P := Tryz.prog) w 34 o.type 3 ie z Tryz.underlying34 h1 h4 b0 0 0 [] (by simp) (fun j u hj => by cases hj) ⟨g, 0, none⟩ 1 1 [.int .i64 y] (by rw [h2]; rfl) hc0 (by omega) (by omega) (growslice_fits (by omega) (by rw [h3]; omega))
 have hge := grownCap_ge w (0 + 1) 0 3
 have hcm : grownCap w (0 + 1) 0 3 ≤ maxLen := grownCap_le_maxLen w (0 + 1) 0 3 (by unfold maxLen; omega)
 unfold Oper.wp
 simp [execOp, ho, resolve, invoke, builtin, hs, hx, hr, Result.andThen]
 simp only [Nat.zero_add] at hge hcm hr
 refine hK' _ _ (h _ _ ⟨⟨rfl, .inr ⟨w.heap.size, _, _, rfl, Nat.le_refl _, heap_alloc_new w.drew _, hge, hcm, ?_, ?_⟩⟩, fun g' cur e1 e2 => ?_⟩ ⟨rfl, rfl, rfl, by simp, fun k hk _ => by first | exact heap_alloc_old w.drew _ hk | exact heap_alloc_old w.drew _ k hk⟩)
 ·
  simp only [Array.size_append, List.size_toArray, size_zeroCells, h5, Nat.mul_one]
  simp only [List.length_cons, List.length_nil]
  show _ + _ * 1 = _
  omega
 · simp [ints]
 ·
  have e3 : some w.heap.size = some g' := e1
  rw [Option.some.injEq] at e3
  subst e3
  have e4 := (heap_alloc_new w.drew _).symm.trans e2
  simp only [Option.some.injEq, Obj.cells.injEq] at e4
  rw [← e4.1]
  simp only [noU32_arr, noU32_zero (show noU32 z.cells = true by rw [h5]; rfl)]
  rfl
end
theorem vclone {vl : Value} {l : List Int} (w : World) (hl : IntsR w vl l) (h0 : l ≠ []) (hn : l.length ≤ 100000) :
  Calls Tryz.prog 77 #[vl] w fun e w' => ∃ v, e = .returned v ∧ RowU w' w.heap.size 2 1 v l.length (ints l) ∧ Steps w w' := by
 have hp := List.length_pos_iff.2 h0
 obtain ⟨la, lc, rfl⟩ := hl.shape
 obtain ⟨b, of, rfl, hbl, -⟩ := hl.at' hp
 have HA := Hid.mk_ (hl.steps ((Below.refl _ _).alloc (Nat.le_refl _) (.cells #[] 2)))
 obtain ⟨n, hN⟩ : ∃ n, l.length = n := ⟨_, rfl⟩
 have HN := Hid.mk_ hN
 rw [hN] at HA hp hn ⊢
 clear hl h0 hN
 have heq : ∀ w', (binOp .eql 22 (.slice (some ⟨b, of, none⟩) n lc) (.slice none 0 0)).run Tryz.prog w' = .ok (.bool false) w' := fun w' => run_eql_slice_nil w' _ _ _ _ _ Tryz.underlying22
 go_enter Tryz.func77, Tryz.ntmps77
 repeat' (first | ((with_reducible show wpList _ _ _ (⟨some 7, _, _, _, _, _⟩ :: _) _ _); refine app_copyU rfl (.tmp 5) (.tmp 6) rfl w.heap.size rfl (Blk.new _ _ _) (.slice (some ⟨b, of, none⟩) n lc) l rfl HA.out (by have := HN.out; omega) (by have := HN.out; omega) (fun v7 w7 hr7 gr => ?_)) | go_values | go_skip | go_guarded | go_step | go_upon)
 have B := ((Below.refl w.heap.size w).alloc (Nat.le_refl _) (.cells #[] 2)).grown gr (by rw [World.size_alloc]; omega) (fun k hk => by injection hk with hk; have e : w.heap.size = k := hk; omega)
 go_returns
 exact ⟨_, rfl, by rw [← HN.out]; exact hr7, B⟩
def lenV : Value → Nat
 | .slice _ n _ => n
 | _ => 0
theorem RowU.base {w : World} {b b' n s : Nat} {e : TypeId} {v : Value} {xs : List Value} (h : RowU w b e s v n xs) (hb : b' ≤ b) : RowU w b' e s v n xs := by
 refine ⟨⟨h.own.1, ?_⟩, h.noU⟩
 rcases h.own.2 with g | ⟨g, cap, cur, h1, h2, h3⟩
 · exact .inl g
 · exact .inr ⟨g, cap, cur, h1, Nat.le_trans hb h2, h3⟩
theorem rows_ne {w : World} {b b' n m : Nat} {v u : Value} {xs ys : List Value} (h : RowU w b 3 1 v n xs) (h' : RowU w b' 2 1 u m ys) : ∀ q, v.ownBlock = some q → u.ownBlock ≠ some q := by
 intro q e1 e2
 rcases h.own.2 with ⟨rfl, _⟩ | ⟨g, cap, cur, rfl, h1, h2, _⟩
 · cases e1
 ·
  rcases h'.own.2 with ⟨rfl, _⟩ | ⟨g', cap', cur', rfl, h1', h2', _⟩
  · cases e2
  ·
   have f1 : some g = some q := e1
   have f2 : some g' = some q := e2
   rw [Option.some.injEq] at f1 f2
   subst f1
   subst f2
   exact Blk.ne_ (show Blk w g' _ _ from h2) (show Blk w g' _ _ from h2') (by decide) rfl
theorem RowU.other {w w' : World} {b n s : Nat} {e : TypeId} {u : Value} {xs : List Value} {q : Option Nat} (h : RowU w b e s u n xs) (hg : w.grownBy w' q) (hne : ∀ k, u.ownBlock = some k → q ≠ some k) : RowU w' b e s u n xs :=
 h.keep fun k hk => hg.block k (h.lt k hk).2 (fun e => hne k hk e.symm)
theorem swap_ne {p q : Option Nat} (h : ∀ k, p = some k → q ≠ some k) : ∀ k, q = some k → p ≠ some k := fun k e1 e2 => h k e2 e1
theorem swap_ne2 {p q : Option Nat} (h : ∀ k, p = some k → q ≠ some k) : ∀ k, p = some k → q ≠ some k := h
def Two (w : World) (base : Nat) (v u : Value) (l m : List Int) : Prop :=
 (l = [] ∧ m = [] ∧ ∃ b o b' o', v = .slice (some ⟨b, o, none⟩) 0 0 ∧ u = .slice (some ⟨b', o', none⟩) 0 0) ∨
 (∃ n, 0 < n ∧ l.length = n ∧ m.length = n ∧ RowU w base 3 1 v n (ints l) ∧ RowU w base 2 1 u n (ints m))
theorem Two.steps {w w' : World} {base : Nat} {v u : Value} {l m : List Int} (h : Two w base v u l m) (s : Steps w w') : Two w' base v u l m := by
 rcases h with h | ⟨n, h0, h1, h2, h4, h5⟩
 · exact .inl h
 · exact .inr ⟨n, h0, h1, h2, h4.keep (fun k hk => s.block k (h4.lt k hk).2), h5.keep (fun k hk => s.block k (h5.lt k hk).2)⟩
theorem Two.len {w : World} {base : Nat} {v u : Value} {l m : List Int} (h : Two w base v u l m) : m.length = l.length ∧ ∃ a c b d, v = .slice a l.length c ∧ u = .slice b m.length d := by
 rcases h with ⟨rfl, rfl, b, o, b', o', rfl, rfl⟩ | ⟨n, h0, rfl, h2, h4, h5⟩
 · exact ⟨rfl, _, _, _, _, rfl, rfl⟩
 ·
  obtain ⟨a, c, rfl⟩ := h4.len
  obtain ⟨b, d, rfl⟩ := h5.len
  exact ⟨h2, _, _, _, _, rfl, by rw [h2]⟩
theorem two_ints {w : World} {base : Nat} {v u : Value} {l m : List Int} (h : Two w base v u l m) (hl : l ≠ []) : IntsR w v l ∧ IntsR w u m := by
 rcases h with ⟨rfl, _⟩ | ⟨n, h0, rfl, h2, h4, h5⟩
 · exact absurd rfl hl
 · exact ⟨h4.ints, h5.ints⟩
theorem two_first {base b1 b2 : Nat} {wg1 wg2 : World} {c : Obj} {v u : Value} {y x : Int} (r1 : RowU wg1 b1 3 1 v 1 (ints [y])) (r2 : RowU wg2 b2 2 1 u 1 (ints [x])) (h1 : base ≤ b1) (h2 : base ≤ b2) (g2 : (wg1.alloc c).grownBy wg2 none) : Two wg2 base v u [y] [x] :=
 .inr ⟨1, by omega, rfl, rfl, ((r1.alloc c).other g2 (fun k _ e => by cases e)).base h1, r2.base h2⟩
def keepF (l : List Int) (k : Rat) (ix : List Nat) (i : Nat) : List Nat := (ix.take i).filter (fun i => keepB (pick l ix) k (l.getD i 0))
theorem keepF_all (l : List Int) (k : Rat) (ix : List Nat) : keepF l k ix ix.length = stepC l k ix := by unfold keepF stepC; rw [List.take_length]
theorem keepF_step {l : List Int} {k : Rat} {ix : List Nat} {i : Nat} (h : i < ix.length) : keepF l k ix (i + 1) = if keepB (pick l ix) k (l.getD (ix.getD i 0) 0) then keepF l k ix i ++ [ix.getD i 0] else keepF l k ix i := by
 unfold keepF
 rw [takeN_step h, List.filter_append]
 by_cases hb : keepB (pick l ix) k (l.getD (ix.getD i 0) 0) = true
 · rw [if_pos hb]; simp only [List.filter_cons, hb, if_true, List.filter_nil]
 · rw [if_neg hb]; simp only [List.filter_cons, hb, if_false, List.filter_nil, List.append_nil, Bool.false_eq_true]
theorem keepF_le {l : List Int} {k : Rat} {ix : List Nat} (i : Nat) : (keepF l k ix i).length ≤ ix.length := by
 unfold keepF
 refine Nat.le_trans (List.length_filter_le _ _) ?_
 rw [List.length_take]; omega
theorem pick_get (l : List Int) (ix : List Nat) {i : Nat} (h : i < ix.length) : (pick l ix).getD i 0 = l.getD (ix.getD i 0) 0 := by simp [pick, List.getD, h]
theorem clip_round {l : List Int} {k : Rat} {f r : Nat} {ix : List Nat} (h : clipGo l k f ix r = clipR l k) (hf : ix.length ≤ f) (h0 : ix ≠ []) :
  ((stepC l k ix).length = ix.length → clipR l k = (ix, r)) ∧ ((stepC l k ix).length ≠ ix.length → ∃ f', clipGo l k f' (stepC l k ix) (r + 1) = clipR l k ∧ (stepC l k ix).length ≤ f') := by
 have hp := List.length_pos_iff.2 h0
 obtain ⟨f', rfl⟩ : ∃ f', f = f' + 1 := ⟨f - 1, by omega⟩
 unfold clipGo at h
 have hle := stepC_le l k ix
 refine ⟨fun e => ?_, fun e => ⟨f', ?_, by omega⟩⟩
 · rw [if_pos e] at h; exact h.symm
 · rw [if_neg e] at h; exact h
theorem vclip_ok {vl vk : Value} {l : List Int} {k : Rat} (w : World) (hl : IntsR w vl l) (hk : FR w vk k) (zk : sz k 4) (ha : askV l = 0) (hf : facB (some k) = true) :
  Calls Tryz.prog 43 #[vl, vk] w fun e w' => ∃ v u, e = .returned (.tuple #[v, u, .int .i64 ((clipR l k).2 : Nat), .int .i64 0]) ∧ IntsR w' v (inI (clipR l k).1) ∧ IntsR w' u (pick l (clipR l k).1) ∧ Steps w w' := by
 obtain ⟨hv, h0⟩ := askV_val ha
 have hn := hv.1
 have k1 : 1 ≤ k := by obtain ⟨r, e, h1, h2⟩ := facB_ok hf; cases e; exact h1
 have CS : ∀ w', Steps w w' → Calls Tryz.prog 35 #[vl] w' fun e w2 => e = .returned (.int .i64 0) ∧ Steps w' w2 := fun w' s => by have := vstart w' (hl.steps s) (by omega); rw [ha] at this; exact this
 have AL : ∀ w', Steps w w' → Calls Tryz.prog 76 #[vk] w' fun e w2 => e = .returned (.bool true) ∧ Steps w' w2 := fun w' s => by have := vallowed (o := some k) w' (FR.keeps hk (Keeps.steps s)) (fun r e => by cases e; exact zk); rw [hf] at this; exact this
 have CL : ∀ w', Steps w w' → Calls Tryz.prog 77 #[vl] w' fun e w2 => ∃ v, e = .returned v ∧ IntsR w2 v (pick l (List.range l.length)) ∧ Steps w' w2 := fun w' s => by
  refine (vclone w' (hl.steps s) h0 (by omega)).mono ?_
  rintro e w2 ⟨v, rfl, h1, h2⟩
  rw [pick_range]
  exact ⟨v, rfl, h1.ints, h2⟩
 have FA : ∀ w' g ix v, Steps w w' → Blk w' g 65 #[.int .i64 0] → IntsR w' v (pick l ix) → (∀ i ∈ ix, i < l.length) → ix.length ≤ 1000 → Calls Tryz.prog 78 #[.pointer (some ⟨g, 0, none⟩), v, vk] w' fun e w2 => ∃ p1 p2 p3 p4, e = .returned (.func (.func 107) #[] #[.pointer (some ⟨p1, 0, none⟩), .pointer (some ⟨p2, 0, none⟩), .pointer (some ⟨p3, 0, none⟩), .pointer (some ⟨p4, 0, none⟩)]) ∧ FarOk w2 g p1 p2 p3 p4 (pick l ix) k ∧ Steps w' w2 := fun w' g ix v s hb hi h1 h2 =>
  vfar w' hb hi (pick_val hv h1 h2) (FR.keeps hk (Keeps.steps s)) zk
 have FR1 : ∀ w' g p1 p2 p3 p4 ix i, Blk w' g 65 #[.int .i64 0] → FarOk w' g p1 p2 p3 p4 (pick l ix) k → (∀ i ∈ ix, i < l.length) → ix.length ≤ 1000 → ix ≠ [] → i < ix.length → Calls Tryz.prog 107 #[.int .i64 (l.getD (ix.getD i 0) 0), .pointer (some ⟨p1, 0, none⟩), .pointer (some ⟨p2, 0, none⟩), .pointer (some ⟨p3, 0, none⟩), .pointer (some ⟨p4, 0, none⟩)] w' fun e w2 => e = .returned (.bool (!keepB (pick l ix) k (l.getD (ix.getD i 0) 0))) ∧ Steps w' w2 := fun w' g p1 p2 p3 p4 ix i hb h h1 h2 h3 h4 =>
  vfar1 w' hb h (pick_val hv h1 h2) (pick_ne h3) zk (hv.get (h1 _ (getN_mem h4)))
 have SN : ∀ ix : List Nat, ix ≠ [] → stepC l k ix ≠ [] := fun ix h => stepC_ne k1 h
 have HSN := Hid.mk_ SN
 have HFA := Hid.mk_ FA
 have HF1 := Hid.mk_ FR1
 obtain ⟨k1, k2, k3, k4, k5, k6, k7, k8, rfl⟩ := hk.shape
 obtain ⟨la, lc, rfl⟩ := hl.shape
 obtain ⟨N, hN⟩ : ∃ n, l.length = n := ⟨_, rfl⟩
 have HN := Hid.mk_ hN
 have h0' : 0 < N := by rw [← hN]; exact List.length_pos_iff.2 h0
 rw [hN] at CS CL hn ⊢
 clear hl hk zk ha hf hv h0 hN SN FA FR1
 go_enter Tryz.func43, Tryz.ntmps43
 go_wp2_with fail
 refine (CS _ belowB).mono ?_
 rintro e w1 ⟨rfl, hs1⟩
 have ok1 : Blk w1 (w.heap.size) 27 #[.bool k1, .slice k2 k3 k4, .bool k5, .slice k6 k7 k8] := Blk.stepsK hs1
 have B1 : Below w.heap.size w w1 := belowA hs1
 have c0 := ok1.c 0 rfl
 have c1 := ok1.c 1 rfl
 have c2 := ok1.c 2 rfl
 have c3 := ok1.c 3 rfl
 clear hs1 CS
 go_wp2_with fail
 refine (AL _ B1).mono ?_
 rintro e w2 ⟨rfl, hs2⟩
 have ok2 : Blk w2 (w.heap.size) 27 #[.bool k1, .slice k2 k3 k4, .bool k5, .slice k6 k7 k8] := ok1.steps hs2
 have B2 : Below w.heap.size w w2 := below_steps B1 (Nat.le_refl _) hs2
 have l2 := ok2.lt
 have zz2 := B2.size
 clear hs2 ok1 B1 AL c0 c1 c2 c3
 go_wp2_with fail
 go_loopw [26, 4] (fun kk oo wr => ∃ (t : Nat) (ow : Value), ow = oo ∧ t ≤ N ∧ kk = .int .i64 t ∧ RowU wr (w2.heap.size + 1) 3 1 ow t (ints (inI (List.range t))) ∧ Blk wr (w.heap.size) 27 #[.bool k1, .slice k2 k3 k4, .bool k5, .slice k6 k7 k8] ∧ Blk wr (w2.heap.size) 65 #[.int .i64 0] ∧ Below w.heap.size w wr) (fun kk _ _ => N - (intOf kk).toNat)
 case atStart => exact ⟨0, _, rfl, Nat.zero_le _, rfl, RowU.nil _ _ _ _, ownK, ownK, belowB⟩
 case round =>
  clear ok2 B2
  obtain ⟨t, ow, rfl, ht, rfl, hr, ok, oc, B⟩ := hrel
  obtain ⟨oa, ocap, rfl⟩ := hr.len
  have HR := Hid.mk_ hr
  clear hr
  rcases Nat.lt_or_ge t N with tn | tn
  ·
   have hlt : decide ((t : Int) < (N : Int)) = true := decide_eq_true (by omega)
   have zz := B.size
   have lc2 := oc.lt
   have hps : inI (List.range (t + 1)) = inI (List.range t) ++ [(t : Int)] := by rw [List.range_succ, inI_snoc]
   have hpl : (inI (List.range t)).length = t := by rw [inI_len, List.length_range]
   have HPS := Hid.mk_ hps
   clear hps
   repeat' (first | ((with_reducible show wpList _ _ _ (⟨some 32, _, _, _, _, _⟩ :: _) _ _); refine app_int rfl (.tmp 29) (.tmp 31) rfl (w2.heap.size + 1) t (.slice oa t ocap) (inI (List.range t)) rfl (HR.out.alloc _) wr.heap.size t rfl (Blk.new _ _ _) (by omega) (by rw [World.size_alloc]; omega) (fun v' w7 hr7 hg7 => ?_)) | go_values | go_skip | go_guarded | go_step | go_upon)
   obtain ⟨oa', ocap', rfl⟩ := hr7.len
   have r6 := HR.out.alloc (.cells #[.int .i64 (t : Int)] 3)
   have ok7 := r6.blk hg7 (ok.alloc _) (by omega)
   have oc7 := r6.blk hg7 (oc.alloc _) (by omega)
   have B7 := r6.below hg7 (B.alloc B.size _) (by omega)
   have HR7 := Hid.mk_ hr7
   clear r6 hg7 hr7 HR ok oc B
   go_wp2_with fail
   go_roundw
   case rel => exact ⟨t + 1, _, rfl, by omega, by go_num, by rw [HPS.out]; exact HR7.out, ok7, oc7, B7⟩
   case measure => simp [intOf]; omega
  ·
   obtain rfl : t = N := by omega
   have hlt : decide ((t : Int) < (t : Int)) = false := decide_eq_false (by omega)
   have hpl : (inI (List.range t)).length = t := by rw [inI_len, List.length_range]
   have hL : IntsR wr (.slice oa t ocap) (inI (List.range t)) := by have := HR.out; rw [show t = (inI (List.range t)).length from hpl.symm] at this ⊢; simpa [hpl] using this.ints
   clear HR
   go_wp2_with fail
   refine (CL _ B).mono ?_
   rintro e w3 ⟨u, rfl, hu, hs3⟩
   have ok3 : Blk w3 (w.heap.size) 27 #[.bool k1, .slice k2 k3 k4, .bool k5, .slice k6 k7 k8] := ok.steps hs3
   have oc3 : Blk w3 (w2.heap.size) 65 #[.int .i64 0] := oc.steps hs3
   have B3 : Below w.heap.size w w3 := below_steps B (Nat.le_refl _) hs3
   have hL3 := Hid.mk_ (hL.steps hs3)
   have hU3 := Hid.mk_ hu
   clear hs3 ok oc B hL hu CL hpl hlt tn ht
   dsimp only
   repeat' (first | go_values | go_skip | go_guarded | go_step | go_upon)
   go_loopw [4, 5, 6] (fun s4 s5 s6 wr => ∃ (ix : List Nat) (f r : Nat) (v u : Value), v = s4 ∧ u = s5 ∧ s6 = .int .i64 r ∧ clipGo l k f ix r = clipR l k ∧ ix.length ≤ f ∧ ix ≠ [] ∧ (∀ i ∈ ix, i < l.length) ∧ r + ix.length ≤ t ∧ IntsR wr v (inI ix) ∧ IntsR wr u (pick l ix) ∧ Blk wr (w.heap.size) 27 #[.bool k1, .slice k2 k3 k4, .bool k5, .slice k6 k7 k8] ∧ Blk wr (w2.heap.size) 65 #[.int .i64 0] ∧ Below w.heap.size w wr) (fun s4 _ _ _ => lenV s4)
   case atStart => exact ⟨List.range t, t, 0, _, _, rfl, rfl, rfl, (by unfold clipR; rw [HN.out]), (by rw [List.length_range]; omega), (fun e => by have := congrArg List.length e; simp at this; omega), (fun i hi => by have := HN.out; have := List.mem_range.1 hi; omega), (by rw [List.length_range]; omega), hL3.out, (by have := hU3.out; exact this), ok3, oc3, B3⟩
   case round =>
    clear hL3 hU3 ok3 oc3 B3
    obtain ⟨ix, f, r, v, u, rfl, rfl, rfl, hgo, hfl, hne, hix, hrn, hv, hu, ok, oc, B⟩ := hrel
    obtain ⟨n, hn_⟩ : ∃ n, ix.length = n := ⟨_, rfl⟩
    have n0 : 0 < n := by rw [← hn_]; exact List.length_pos_iff.2 hne
    have nN : n ≤ t := by rw [← hn_]; omega
    obtain ⟨va, vc, rfl⟩ := hv.shape
    obtain ⟨ua, uc, rfl⟩ := hu.shape
    obtain ⟨bv, ov, rfl, -, -⟩ := hv.at' (t := 0) (by rw [inI_len, hn_]; exact n0)
    obtain ⟨bu, ou, rfl, -, -⟩ := hu.at' (t := 0) (by rw [pick_len, hn_]; exact n0)
    have el : (inI ix).length = n := by rw [inI_len, hn_]
    have eu : (pick l ix).length = n := by rw [pick_len, hn_]
    rw [el] at hv ⊢
    rw [eu] at hu ⊢
    have FA := HFA.out wr w2.heap.size ix _ B oc hu hix (by omega)
    have F1 := fun W p1 p2 p3 p4 i h1 h2 h3 => HF1.out W w2.heap.size p1 p2 p3 p4 ix i h1 h2 hix (by omega) hne h3
    have KS := fun i (h : i < ix.length) => keepF_step (l := l) (k := k) h
    have KA := keepF_all l k ix
    have KL := fun i => keepF_le (l := l) (k := k) (ix := ix) i
    have K0 : keepF l k ix 0 = [] := rfl
    have PG := fun i (h : i < ix.length) => pick_get l ix h
    have IG := fun i (h : i < ix.length) => inI_get ix h
    have SN := HSN.out ix hne
    have SS : ∀ i ∈ stepC l k ix, i < l.length := fun i hi => hix i (List.mem_filter.1 hi).1
    obtain ⟨CR1, CR2⟩ := clip_round hgo hfl hne
    have hsl := stepC_le l k ix
    rw [hn_] at KS KA KL PG IG CR1 CR2 F1 hsl
    obtain ⟨KF, hKF⟩ : ∃ g : Nat → List Nat, ∀ i, keepF l k ix i = g i := ⟨_, fun _ => rfl⟩
    simp only [hKF] at KS KA KL K0
    obtain ⟨IX, hIX⟩ : ∃ g : Nat → Nat, ∀ i, ix.getD i 0 = g i := ⟨_, fun _ => rfl⟩
    simp only [hIX] at KS PG IG F1
    obtain ⟨XX, hXX⟩ : ∃ g : Nat → Int, ∀ i, l.getD (IX i) 0 = g i := ⟨_, fun _ => rfl⟩
    have PK : ∀ (m : List Nat) i, pick l (m ++ [IX i]) = pick l m ++ [XX i] := fun m i => by rw [pick_snoc, hXX]
    simp only [hXX] at KS PG F1
    obtain ⟨KB, hKB⟩ : ∃ g : Nat → Bool, ∀ i, keepB (pick l ix) k (XX i) = g i := ⟨_, fun _ => rfl⟩
    simp only [hKB] at KS F1
    obtain ⟨SC, hSC⟩ : ∃ s, stepC l k ix = s := ⟨_, rfl⟩
    rw [hSC] at KA SN SS CR1 CR2 hsl
    have HV := Hid.mk_ hv
    have HU := Hid.mk_ hu
    have HEL := Hid.mk_ (And.intro el eu)
    have HKS := Hid.mk_ KS
    have HKA := Hid.mk_ KA
    have HKL := Hid.mk_ KL
    have HK0 := Hid.mk_ K0
    have HPG := Hid.mk_ PG
    have HIG := Hid.mk_ IG
    have HSN2 := Hid.mk_ (And.intro SN SS)
    have HCR := Hid.mk_ (And.intro CR1 CR2)
    have HPK := Hid.mk_ PK
    have HF2 := Hid.mk_ F1
    have HXN := Hid.mk_ hn_
    clear hv hu hgo hfl hne hix el eu HFA HF1 HSN KS KA KL K0 PG IG SN SS CR1 CR2 hKF hIX hXX hKB hSC PK F1 hn_
    have lk := ok.lt
    have lc2 := oc.lt
    have c0 := ok.c 0 rfl
    have c1 := ok.c 1 rfl
    have c2 := ok.c 2 rfl
    have c3 := ok.c 3 rfl
    repeat' (first | go_values | go_skip | go_guarded | go_step | go_upon)
    refine FA.mono ?_
    rintro e w5 ⟨p1, p2, p3, p4, rfl, hfo, hs5⟩
    have ok5 : Blk w5 (w.heap.size) 27 #[.bool k1, .slice k2 k3 k4, .bool k5, .slice k6 k7 k8] := ok.steps hs5
    have oc5 : Blk w5 (w2.heap.size) 65 #[.int .i64 0] := oc.steps hs5
    have B5 : Below w.heap.size w w5 := below_steps B (Nat.le_refl _) hs5
    have hv5 := Hid.mk_ (HV.out.steps hs5)
    have hu5 := Hid.mk_ (HU.out.steps hs5)
    have HFO := Hid.mk_ hfo
    clear hs5 ok oc B HV HU FA hfo lk lc2 c0 c1 c2 c3
    dsimp only
    repeat' (first | go_values | go_skip | go_guarded | go_step | go_upon)
    refine Reg.wp_chain (fun D v W => Below w5.heap.size w5 W ∧ True) (Reg.inl []) (Reg.gv []) Reg.None_ (fun _ => Reg.Any) (fun _ _ => False) (Reg.pl []) (Reg.pl [])
     (by kernel_rfl) (by kernel_rfl) (by kernel_rfl) (Reg.gv_some _ (by intro p hp; cases hp)) (fun _ => ⟨belowB, trivial⟩) (fun _ _ _ _ _ h => h) (fun _ _ _ _ _ _ _ _ _ _ _ _ _ => Reg.none_) (fun _ _ _ _ h => h.elim) (fun ops' Q' hops hQ => ?_)
    apply Reg.RP rfl rfl rfl 39 rfl rfl
    ·
     intro D v W hc hj hf K' hK'
     go_step
     exact hK'.out
    · rfl
    apply Reg.RP rfl rfl rfl 40 rfl rfl
    ·
     intro D v W hc hj hf K' hK'
     go_step
     exact hK'.out
    · rfl
    apply Reg.RP rfl rfl rfl 41 rfl rfl
    ·
     intro D v W hc hj hf K' hK'
     go_step
     exact hK'.out
    · rfl
    apply Reg.RP rfl rfl rfl 42 rfl rfl
    ·
     intro D v W hc hj hf K' hK'
     go_step
     exact hK'.out
    · rfl
    apply Reg.RP rfl rfl rfl 12 rfl rfl
    ·
     intro D v W hc hj hf K' hK'
     go_step
     exact hK'.out
    · rfl
    apply Reg.RP rfl rfl rfl 13 rfl rfl
    ·
     intro D v W hc hj hf K' hK'
     go_step
     exact hK'.out
    · rfl
    refine Reg.RC_end (fun D v w6 hd hj hf => ?_)
    obtain ⟨j0, _⟩ := hj
    have st6 := j0
    clear hd hf j0
    refine hQ _ _ ?_
    clear hQ hops Q' ops'
    have ok6 := ok5.steps st6
    have oc6 := oc5.steps st6
    have B6 : Below w.heap.size w w6 := below_steps B5 (Nat.le_refl _) st6
    have hv6 := Hid.mk_ (hv5.out.steps st6)
    have hu6 := Hid.mk_ (hu5.out.steps st6)
    have HFO6 := Hid.mk_ (HFO.out.steps st6)
    clear ok5 oc5 B5 hv5 hu5 HFO st6
    repeat' (first | go_values | go_skip | go_guarded | go_step | go_upon)
    go_loopw [45, 12, 13] (fun kk s12 s13 wq => ∃ (i : Nat) (v u : Value), v = s12 ∧ u = s13 ∧ i ≤ n ∧ kk = .int .i64 i ∧ Two wq w6.heap.size v u (inI (KF i)) (pick l (KF i)) ∧ Below w6.heap.size w6 wq) (fun kk _ _ _ => n - (intOf kk).toNat)
    case atStart => exact ⟨0, _, _, rfl, rfl, by omega, rfl, (by rw [HK0.out]; exact .inl ⟨rfl, rfl, _, _, _, _, rfl, rfl⟩), belowB⟩
    case round =>
     rename World => wq
     obtain ⟨i, v, u, rfl, rfl, hi, rfl, h2, Bq⟩ := hrel
     obtain ⟨h2l, va2, vc2, ua2, uc2, rfl, rfl⟩ := h2.len
     rcases Nat.lt_or_ge i n with i4 | i4
     ·
      have hlt : decide ((i : Int) < (n : Int)) = true := decide_eq_true (by omega)
      obtain ⟨bv', ov', ev, hbv, hv0⟩ := hv6.out.at' (t := i) (by have := HEL.out.1; omega)
      cases ev
      obtain ⟨bu', ou', eu', hbu, hu0⟩ := hu6.out.at' (t := i) (by have := HEL.out.2; omega)
      cases eu'
      rw [HIG.out i i4] at hv0
      rw [HPG.out i i4] at hu0
      have oc7 := oc6.steps Bq
      have f1 := HF2.out wq p1 p2 p3 p4 i oc7 (HFO6.out.steps Bq) i4
      have ks := Hid.mk_ (HKS.out i i4)
      have pk := Hid.mk_ (HPK.out (KF i) i)
      have kl := HKL.out i
      have cu : wq.cell? ⟨bu, ou + i, none⟩ = some (.int .i64 (XX i)) := (Bq.cell (p := ⟨bu, _, none⟩) hbu).trans hu0
      generalize KB i = kb at *
      have H2 := Hid.mk_ h2
      clear h2 hu0 oc7
      repeat' (first | go_values | go_skip | go_guarded | go_step | go_upon)
      refine f1.mono ?_
      rintro e wp ⟨rfl, hsp⟩
      have Bp : Below w6.heap.size w6 wp := below_steps Bq (Nat.le_refl _) hsp
      have H3 := Hid.mk_ (H2.out.steps hsp)
      have cv : wp.cell? ⟨bv, ov + i, none⟩ = some (.int .i64 (IX i : Nat)) := (Bp.cell (p := ⟨bv, _, none⟩) hbv).trans hv0
      clear hsp Bq H2 f1 cu
      have zz := Bp.size
      cases kb with
      | false =>
       have e1 : KF (i + 1) = KF i := ks.out
       have E1 := Hid.mk_ e1
       clear e1
       rw [show (!false) = true from rfl]
       dsimp only
       repeat' (first | go_values | go_skip | go_guarded | go_step | go_upon)
       go_roundw
       case rel => exact ⟨i + 1, _, _, rfl, rfl, by omega, by go_num, by rw [E1.out]; exact H3.out, Bp⟩
       case measure => simp [intOf]; omega
      | true =>
       have e1 : KF (i + 1) = KF i ++ [IX i] := ks.out
       have E1 := Hid.mk_ e1
       clear e1
       rw [show (!true) = false from rfl]
       dsimp only
       rcases H3.out with ⟨z1, z2, b, o, b', o', z3, z4⟩ | ⟨n', z0, z1, z2, z6, z7⟩
       ·
        have t1 : inI (KF (i + 1)) = [(IX i : Int)] := by rw [E1.out, inI_snoc, z1]; rfl
        have t2 : pick l (KF (i + 1)) = [XX i] := by rw [E1.out, pk.out, z2]; rfl
        have T1 := Hid.mk_ (And.intro t1 t2)
        rw [z3, z4]
        clear z1 z2 z3 z4 t1 t2 H3
        repeat' (first | ((with_reducible show wpList _ _ _ (⟨some 60, _, _, _, _, _⟩ :: _) _ _); refine app_firstI rfl (.tmp 54) (.tmp 59) rfl _ rfl wp.heap.size (IX i : Nat) rfl (Blk.new _ _ _) (fun vg1 wg1 rg1 gg1 => ?_)) | ((with_reducible show wpList _ _ _ (⟨some 64, _, _, _, _, _⟩ :: _) _ _); refine app_firstX rfl (.tmp 61) (.tmp 63) rfl _ rfl wg1.heap.size (XX i) rfl (Blk.new _ _ _) (fun vg2 wg2 rg2 gg2 => ?_)) | go_values | go_skip | go_guarded | go_step | go_upon)
        have e1 : Below w6.heap.size w6 wg1 := (Bp.alloc Bp.size _).grown gg1 (by rw [World.size_alloc]; omega) (fun k hk => by cases hk)
        have e2 : Below w6.heap.size w6 wg2 := (e1.alloc e1.size _).grown gg2 (by rw [World.size_alloc]; have := e1.size; omega) (fun k hk => by cases hk)
        have tw := two_first (base := w6.heap.size) rg1 rg2 (by rw [World.size_alloc]; omega) (by rw [World.size_alloc]; have := e1.size; omega) gg2
        obtain ⟨a1, c1, rfl⟩ := rg1.len
        obtain ⟨a2, c2, rfl⟩ := rg2.len
        clear rg1 rg2 gg1 gg2
        repeat' (first | go_values | go_skip | go_guarded | go_step | go_upon)
        go_roundw
        case rel => exact ⟨i + 1, _, _, rfl, rfl, by omega, by go_num, by rw [T1.out.1, T1.out.2]; exact tw, e2⟩
        case measure => simp [intOf]; omega
       ·
        have t1 : inI (KF (i + 1)) = inI (KF i) ++ [(IX i : Int)] := by rw [E1.out, inI_snoc]
        have t2 : pick l (KF (i + 1)) = pick l (KF i) ++ [XX i] := by rw [E1.out, pk.out]
        have T1 := Hid.mk_ (And.intro t1 t2)
        have T2 := Hid.mk_ (And.intro z1 z2)
        rw [z1] at z6 ⊢
        rw [z2] at z7 ⊢
        have Z6 := Hid.mk_ z6
        have Z7 := Hid.mk_ z7
        have nn : n' ≤ 100000 := by have := T2.out.1; rw [inI_len] at this; omega
        clear z1 z2 z6 z7 t1 t2 H3
        repeat' (first | ((with_reducible show wpList _ _ _ (⟨some 60, _, _, _, _, _⟩ :: _) _ _); refine app_int rfl (.tmp 54) (.tmp 59) rfl w6.heap.size n' _ (inI (KF i)) rfl (Z6.out.alloc (.cells #[.int .i64 ((IX i : Nat) : Int)] 3)) wp.heap.size (IX i : Nat) rfl (Blk.new _ _ _) nn (by rw [World.size_alloc]; omega) (fun vg1 wg1 rg1 gg1 => ?_)) | ((with_reducible show wpList _ _ _ (⟨some 64, _, _, _, _, _⟩ :: _) _ _); refine app_i64 rfl (.tmp 61) (.tmp 63) rfl w6.heap.size n' _ (pick l (KF i)) rfl (((Z7.out.alloc (.cells #[.int .i64 ((IX i : Nat) : Int)] 3)).other gg1 (swap_ne (rows_ne (Z6.out.alloc (.cells #[.int .i64 ((IX i : Nat) : Int)] 3)) (Z7.out.alloc (.cells #[.int .i64 ((IX i : Nat) : Int)] 3))))).alloc _) wg1.heap.size (XX i) rfl (Blk.new _ _ _) nn (by rw [World.size_alloc]; have := gg1.size; rw [World.size_alloc] at this; omega) (fun vg2 wg2 rg2 gg2 => ?_)) | go_values | go_skip | go_guarded | go_step | go_upon)
        have e1 := (Z6.out.alloc (.cells #[.int .i64 ((IX i : Nat) : Int)] 3)).below gg1 (Bp.alloc Bp.size _) (Nat.le_refl _)
        have r7 := ((Z7.out.alloc (.cells #[.int .i64 ((IX i : Nat) : Int)] 3)).other gg1 (swap_ne (rows_ne (Z6.out.alloc (.cells #[.int .i64 ((IX i : Nat) : Int)] 3)) (Z7.out.alloc (.cells #[.int .i64 ((IX i : Nat) : Int)] 3))))).alloc (.cells #[.int .i64 (XX i)] 2)
        have e2 := r7.below gg2 (e1.alloc e1.size _) (Nat.le_refl _)
        have r1 := (rg1.alloc (.cells #[.int .i64 (XX i)] 2)).other gg2 (swap_ne2 (rows_ne (rg1.alloc (.cells #[.int .i64 (XX i)] 2)) r7))
        have tw : Two wg2 w6.heap.size vg1 vg2 (inI (KF i) ++ [(IX i : Int)]) (pick l (KF i) ++ [XX i]) := .inr ⟨n' + 1, by omega, by rw [List.length_append, T2.out.1]; rfl, by rw [List.length_append, T2.out.2]; rfl, r1, rg2⟩
        obtain ⟨a1, c1, rfl⟩ := rg1.len
        obtain ⟨a2, c2, rfl⟩ := rg2.len
        clear rg1 rg2 gg1 gg2 r7 r1 Z6 Z7
        repeat' (first | go_values | go_skip | go_guarded | go_step | go_upon)
        go_roundw
        case rel => exact ⟨i + 1, _, _, rfl, rfl, by omega, by go_num, by rw [T1.out.1, T1.out.2]; exact tw, e2⟩
        case measure => simp [intOf]; omega
     ·
      obtain rfl : i = n := by omega
      have hlt : decide ((i : Int) < (i : Int)) = false := decide_eq_false (by omega)
      have oc7 := oc6.steps Bq
      have cc := oc7.c 0 rfl
      have BB : Below w.heap.size w wq := below_steps B6 (Nat.le_refl _) Bq
      rw [HKA.out] at h2 h2l ⊢
      have y1 : (inI SC).length = SC.length := inI_len SC
      rw [y1] at h2l ⊢
      by_cases es : SC.length = i
      ·
       have ei : ((SC.length : Int) == (i : Int)) = true := by rw [es]; simp
       have er := HCR.out.1 es
       have ER := Hid.mk_ er
       have er2 : ((clipR l k).2 : Int) = (r : Int) := by rw [er]
       have ER2 := Hid.mk_ er2
       clear er2
       have hv7 := hv6.out.steps Bq
       have hu7 := hu6.out.steps Bq
       clear er
       repeat' (first | go_values | go_skip | go_guarded | go_step | go_upon)
       go_returns
       exact ⟨_, _, by rw [ER2.out], by rw [ER.out]; exact hv7, by rw [ER.out]; exact hu7, BB⟩
      ·
       have ei : ((SC.length : Int) == (i : Int)) = false := by rw [beq_eq_false_iff_ne]; omega
       obtain ⟨f', g1, g2⟩ := HCR.out.2 es
       obtain ⟨i1, i2⟩ := two_ints h2 (by intro e; have := congrArg List.length e; rw [inI_len] at this; exact HSN2.out.1 (List.eq_nil_of_length_eq_zero this))
       repeat' (first | go_values | go_skip | go_guarded | go_step | go_upon)
       go_roundw
       case rel => exact ⟨SC, f', r + 1, _, _, rfl, rfl, by go_num, g1, g2, HSN2.out.1, HSN2.out.2, (by have := HXN.out; omega), (by have := i1; rw [y1] at this; exact this), i2, ok6.steps Bq, oc7, BB⟩
       case measure => show SC.length < i; omega
def clipS (l : List Int) (o : Option Rat) : List Nat × Nat × Int :=
 if askV l = 0 then (if facB o then ((clipR l (o.getD 0)).1, (clipR l (o.getD 0)).2, 0) else ([], 0, 2)) else ([], 0, askV l)
theorem clipS_err {l : List Int} {o : Option Rat} (h : (clipS l o).2.2 = 0) : askV l = 0 ∧ ∃ k, o = some k ∧ 1 ≤ k ∧ k ≤ 1000 ∧ clipS l o = ((clipR l k).1, (clipR l k).2, 0) := by
 unfold clipS at h
 by_cases h1 : askV l = 0
 ·
  rw [if_pos h1] at h
  cases h2 : facB o with
  | false => rw [h2] at h; cases h
  | true =>
   obtain ⟨k, rfl, h3, h4⟩ := facB_ok h2
   refine ⟨h1, k, rfl, h3, h4, ?_⟩
   unfold clipS
   rw [if_pos h1, h2]; rfl
 ·
  rw [if_neg h1] at h
  exact absurd h h1
theorem vclip_bad {vl vk : Value} {l : List Int} {o : Option Rat} (w : World) (hl : IntsR w vl l) (hn : l.length ≤ 100000) (hk : FB w vk o) (zk : ∀ r, o = some r → sz r 4) (c : Int) (hc : (askV l = c ∧ c ≠ 0) ∨ (askV l = 0 ∧ facB o = false ∧ c = 2)) :
  Calls Tryz.prog 43 #[vl, vk] w fun e w' => e = .returned (.tuple #[.slice none 0 0, .slice none 0 0, .int .i64 0, .int .i64 c]) ∧ Steps w w' := by
 have CS : ∀ w', Steps w w' → Calls Tryz.prog 35 #[vl] w' fun e w2 => e = .returned (.int .i64 (askV l)) ∧ Steps w' w2 := fun w' s => vstart w' (hl.steps s) hn
 have AL : ∀ w', Steps w w' → Calls Tryz.prog 76 #[vk] w' fun e w2 => e = .returned (.bool (facB o)) ∧ Steps w' w2 := fun w' s => vallowed w' (hk.keeps (Keeps.steps s)) zk
 obtain ⟨k1, k2, k3, k4, k5, k6, k7, k8, rfl⟩ := hk.shape
 obtain ⟨la, lc, rfl⟩ := hl.shape
 clear hl hn hk zk
 rcases hc with ⟨h1, h2⟩ | ⟨h1, h2, rfl⟩
 ·
  rw [h1] at CS
  have h3 : (c == 0) = false := by simpa using h2
  have h4 : (c != 0) = true := by simpa using h2
  clear h1 h2 AL
  go_enter Tryz.func43, Tryz.ntmps43
  go_wp2_with fail
  refine (CS _ belowB).mono ?_
  rintro e w1 ⟨rfl, hb1⟩
  have st : Steps _ w1 := hb1
  have B : Below w.heap.size w w1 := belowA st
  have ok : Blk w1 (w.heap.size) 27 #[.bool k1, .slice k2 k3 k4, .bool k5, .slice k6 k7 k8] := Blk.stepsK st
  clear st
  go_wp2_with fail
  refine bodyPost_ret (by simp [results, Tryz.results43, go_sem, ]; rfl) rfl ?_
  exact ⟨rfl, belowB⟩
 ·
  rw [h1] at CS
  rw [h2] at AL
  clear h1 h2
  go_enter Tryz.func43, Tryz.ntmps43
  go_wp2_with fail
  refine (CS _ belowB).mono ?_
  rintro e w1 ⟨rfl, hb1⟩
  have st : Steps _ w1 := hb1
  have B : Below w.heap.size w w1 := belowA st
  have ok : Blk w1 (w.heap.size) 27 #[.bool k1, .slice k2 k3 k4, .bool k5, .slice k6 k7 k8] := Blk.stepsK st
  clear st
  obtain ⟨ck0, ck1, ck2, ck3⟩ := ok.r3
  have lk := ok.lt
  go_wp2_with fail
  refine (AL _ (belowB)).mono ?_
  rintro e w2 ⟨rfl, hb2⟩
  have st : Steps _ w2 := hb2
  have sk : Below w1.heap.size w1 w2 := belowA st
  replace B := below_steps B (Nat.le_refl _) sk
  replace ok := ok.steps sk
  clear st sk ck0 ck1 ck2 ck3 lk
  go_wp2_with fail
  refine bodyPost_ret (by simp [results, Tryz.results43, go_sem, ]; rfl) rfl ?_
  exact ⟨rfl, belowB⟩
theorem vclip {vl vk : Value} {l : List Int} {o : Option Rat} (w : World) (hl : IntsR w vl l) (hn : l.length ≤ 100000) (hk : FB w vk o) (zk : ∀ r, o = some r → sz r 4) :
  Calls Tryz.prog 43 #[vl, vk] w fun e w' => ∃ v u, e = .returned (.tuple #[v, u, .int .i64 ((clipS l o).2.1 : Nat), .int .i64 (clipS l o).2.2]) ∧ IntsR w' v (inI (clipS l o).1) ∧ IntsR w' u (pick l (clipS l o).1) ∧ Steps w w' := by
 unfold clipS
 by_cases h1 : askV l = 0
 ·
  rw [if_pos h1]
  cases h2 : facB o with
  | false =>
   refine (vclip_bad w hl hn hk zk 2 (.inr ⟨h1, h2, rfl⟩)).mono ?_
   rintro e w' ⟨rfl, hs⟩
   exact ⟨_, _, rfl, IntsR.nil _, IntsR.nil _, hs⟩
  | true =>
   obtain ⟨k, rfl, -, -⟩ := facB_ok h2
   exact vclip_ok w hl hk (zk k rfl) h1 h2
 ·
  rw [if_neg h1]
  refine (vclip_bad w hl hn hk zk (askV l) (.inl ⟨rfl, h1⟩)).mono ?_
  rintro e w' ⟨rfl, hs⟩
  exact ⟨_, _, rfl, IntsR.nil _, IntsR.nil _, hs⟩
theorem vClip {vl vk : Value} {l : List Int} {o : Option Rat} (w : World) (hl : IntsR w vl l) (hn : l.length ≤ 100000) (hk : FB w vk o) (zk : ∀ r, o = some r → sz r 4) :
  Calls Tryz.prog 14 #[vl, vk] w fun e w' => ∃ v, e = .returned (.tuple #[v, .int .i64 ((clipS l o).2.1 : Nat), .int .i64 (clipS l o).2.2]) ∧ IntsR w' v (inI (clipS l o).1) ∧ Steps w w' := by
 have CC : ∀ w', Steps w w' → Calls Tryz.prog 43 #[vl, vk] w' fun e w2 => ∃ v u, e = .returned (.tuple #[v, u, .int .i64 ((clipS l o).2.1 : Nat), .int .i64 (clipS l o).2.2]) ∧ IntsR w2 v (inI (clipS l o).1) ∧ IntsR w2 u (pick l (clipS l o).1) ∧ Steps w' w2 := fun w' s => vclip w' (hl.steps s) hn (hk.keeps (Keeps.steps s)) zk
 obtain ⟨k1, k2, k3, k4, k5, k6, k7, k8, rfl⟩ := hk.shape
 obtain ⟨la, lc, rfl⟩ := hl.shape
 generalize (clipS l o).2.2 = c at *
 generalize ((clipS l o).2.1 : Int) = r at *
 generalize inI (clipS l o).1 = x at *
 generalize pick l (clipS l o).1 = y at *
 clear hl hn hk zk
 go_enter Tryz.func14, Tryz.ntmps14
 go_wp2_with fail
 refine (CC _ belowB).mono ?_
 rintro e w1 ⟨v, u, rfl, hv, hu, hs⟩
 obtain ⟨va, vc, rfl⟩ := hv.shape
 obtain ⟨ua, uc, rfl⟩ := hu.shape
 have B : Below w.heap.size w w1 := belowA hs
 clear hs CC
 go_wp2_with fail
 go_returns
 exact ⟨_, rfl, hv, B⟩
theorem askV_of {m : List Int} (h0 : m ≠ []) (h : valL m) : askV m = 0 := by
 have hk : ∀ t, t ≤ m.length → okV m t = true := by
  intro t
  induction t with
  | zero => intro _; rfl
  | succ t ih =>
   intro ht
   unfold okV
   rw [ih (by omega), decide_eq_true (h.get (by omega))]; rfl
 have hc : chkV m = 0 := by unfold chkV; rw [if_neg (by have := h.1; omega), hk _ (Nat.le_refl _)]; rfl
 unfold askV
 rw [if_pos hc, if_neg (by have := List.length_pos_iff.2 h0; omega)]
theorem vTrimmed {vl vk : Value} {l : List Int} {o : Option Rat} (w : World) (hl : IntsR w vl l) (hn : l.length ≤ 100000) (hk : FB w vk o) (zk : ∀ r, o = some r → sz r 4) :
  Calls Tryz.prog 16 #[vl, vk] w fun e w' => ∃ v, e = .returned (.tuple #[v, .int .i64 (clipS l o).2.2]) ∧ FE w' v (clipS l o).2.2 (meanQ (pick l (clipS l o).1)) ∧ Steps w w' := by
 have CC : ∀ w', Steps w w' → Calls Tryz.prog 43 #[vl, vk] w' fun e w2 => ∃ v u, e = .returned (.tuple #[v, u, .int .i64 ((clipS l o).2.1 : Nat), .int .i64 (clipS l o).2.2]) ∧ IntsR w2 v (inI (clipS l o).1) ∧ IntsR w2 u (pick l (clipS l o).1) ∧ Steps w' w2 := fun w' s => vclip w' (hl.steps s) hn (hk.keeps (Keeps.steps s)) zk
 by_cases h0 : (clipS l o).2.2 = 0
 ·
  have ME : ∀ w' u, IntsR w' u (pick l (clipS l o).1) → Calls Tryz.prog 10 #[u] w' fun e w2 => ∃ v, e = .returned (.tuple #[v, .int .i64 0]) ∧ FR w2 v (meanQ (pick l (clipS l o).1)) ∧ Steps w' w2 := fun w' u hu => by
   obtain ⟨h1, k, rfl, h3, h4, h5⟩ := clipS_err h0
   obtain ⟨hv, hl0⟩ := askV_val h1
   rw [h5] at hu ⊢
   have hm : valL (pick l (clipR l k).1) := pick_val hv (fun i hi => clipR_lt hi) (Nat.le_trans (by have := (clipR_spec l k).2.2.1; omega) hv.1)
   have e0 := askV_of (pick_ne (l := l) (clipR_ne h3 hl0)) hm
   have := vMean w' hu (by rw [pick_len]; have := (clipR_spec l k).2.2.1; show (clipR l k).1.length ≤ _; omega)
   rw [e0] at this
   refine this.mono ?_
   rintro e w2 ⟨v, rfl, h6, h7⟩
   exact ⟨v, rfl, by unfold FE at h6; rwa [if_pos rfl] at h6, h7⟩
  rw [h0] at CC ⊢
  obtain ⟨k1, k2, k3, k4, k5, k6, k7, k8, rfl⟩ := hk.shape
  obtain ⟨la, lc, rfl⟩ := hl.shape
  generalize ((clipS l o).2.1 : Int) = r at *
  generalize meanQ (pick l (clipS l o).1) = mq at *
  generalize pick l (clipS l o).1 = y at *
  clear hl hn hk zk h0
  go_enter Tryz.func16, Tryz.ntmps16
  go_wp2_with fail
  refine (CC _ belowB).mono ?_
  rintro e w1 ⟨va, vu, rfl, hva, hvu, hb1⟩
  have st : Steps _ w1 := hb1
  have B : Below w.heap.size w w1 := belowA st
  have ok : Blk w1 (w.heap.size) 27 #[.bool k1, .slice k2 k3 k4, .bool k5, .slice k6 k7 k8] := Blk.stepsK st
  have or : Blk w1 (w.heap.size + 1) 27 #[.bool false, .slice none 0 0, .bool false, .slice none 0 0] := Blk.stepsK st
  clear st
  obtain ⟨aa, ac, rfl⟩ := hva.shape
  obtain ⟨ua, uc, rfl⟩ := hvu.shape
  have HU := Hid.mk_ hvu
  clear hva hvu
  go_wp2_with fail
  refine (ME _ _ HU.out).mono ?_
  rintro e w2 ⟨vq, rfl, hvq, hb2⟩
  have st : Steps _ w2 := hb2
  have sk : Below w1.heap.size w1 w2 := belowA st
  replace B := below_steps B (Nat.le_refl _) sk
  replace ok := ok.steps sk
  replace or := or.steps sk
  clear st sk
  have lk := ok.lt
  obtain ⟨cr0, cr1, cr2, cr3, fr, lr⟩ := or.s3
  obtain ⟨q1, q2, q3, q4, q5, q6, q7, q8, rfl⟩ := hvq.shape
  have Fq := Hid.mk_ hvq
  clear hvq
  go_wp2_with fail
  refine bodyPost_ret (by simp [results, Tryz.results16, go_sem, lk, cr0, cr1, cr2, cr3, fr, lr]; rfl) rfl ?_
  exact ⟨_, rfl, FE.ok (Fq.out.keeps keepsB), belowB⟩
 ·
  obtain ⟨k1, k2, k3, k4, k5, k6, k7, k8, rfl⟩ := hk.shape
  obtain ⟨la, lc, rfl⟩ := hl.shape
  generalize meanQ (pick l (clipS l o).1) = mq at *
  generalize ((clipS l o).2.1 : Int) = r at *
  generalize inI (clipS l o).1 = x at *
  generalize pick l (clipS l o).1 = y at *
  generalize (clipS l o).2.2 = c at *
  have h3 : (c == 0) = false := by simpa using h0
  have h4 : (c != 0) = true := by simpa using h0
  have HK := Hid.mk_ h0
  clear hl hn hk zk h0
  go_enter Tryz.func16, Tryz.ntmps16
  go_wp2_with fail
  refine (CC _ belowB).mono ?_
  rintro e w1 ⟨va, vu, rfl, hva, hvu, hb1⟩
  have st : Steps _ w1 := hb1
  have B : Below w.heap.size w w1 := belowA st
  have ok : Blk w1 (w.heap.size) 27 #[.bool k1, .slice k2 k3 k4, .bool k5, .slice k6 k7 k8] := Blk.stepsK st
  have or : Blk w1 (w.heap.size + 1) 27 #[.bool false, .slice none 0 0, .bool false, .slice none 0 0] := Blk.stepsK st
  clear st
  have lk := ok.lt
  obtain ⟨cr0, cr1, cr2, cr3, fr, lr⟩ := or.s3
  obtain ⟨aa, ac, rfl⟩ := hva.shape
  obtain ⟨ua, uc, rfl⟩ := hvu.shape
  clear hva hvu
  go_wp2_with fail
  refine bodyPost_ret (by simp [results, Tryz.results16, go_sem, lk, cr0, cr1, cr2, cr3, fr, lr]; rfl) rfl ?_
  exact ⟨_, rfl, FE.bad HK.out, belowB⟩
theorem prclip_ok {vl vk : Value} {l : List Int} {k : Rat} (w : World) (hl : IntsR w vl l) (h24 : l.length ≤ 24) (hk : FR w vk k) (zk : sz k 4) (ha : askV l = 0) (hf : facB (some k) = true) :
  Calls Tryz.prog 15 #[vl, vk] w fun e w' => ∃ v, e = .returned (.tuple #[v, .int .i64 ((clipR l k).2 : Nat), .int .i64 0]) ∧ IntsR w' v (inI (clipR l k).1) ∧ Steps w w' := by
 obtain ⟨hv, h0⟩ := askV_val ha
 have hn := hv.1
 have k1 : 1 ≤ k := by obtain ⟨r, e, h1, h2⟩ := facB_ok hf; cases e; exact h1
 have zkk : sz (k * k) 8 := zk.mul zk
 have CS : ∀ w', Steps w w' → Calls Tryz.prog 21 #[vl] w' fun e w2 => e = .returned (.int .i64 0) ∧ Steps w' w2 := fun w' s => by have := pvasked w' (hl.steps s) (by omega); rw [ha] at this; exact this
 have AL : ∀ w', Steps w w' → Calls Tryz.prog 22 #[vk] w' fun e w2 => e = .returned (.bool true) ∧ Steps w' w2 := fun w' s => by have := pvfactor (o := some k) w' (FR.keeps hk (Keeps.steps s)) (fun r e => by cases e; exact zk); rw [hf] at this; exact this
 have KK : ∀ w', Steps w w' → Calls Tryz.prog 44 #[vk, vk] w' fun e w2 => ∃ v, e = .returned (.tuple #[v, .int .i64 0]) ∧ FR w2 v (k * k) ∧ Steps w' w2 := fun w' s => rMulQ w' (FR.keeps hk (Keeps.steps s)) (FR.keeps hk (Keeps.steps s)) zk zk (by omega)
 have PI : ∀ w' ix v, Steps w w' → IntsR w' v (inI ix) → (∀ i ∈ ix, i < l.length) → ix.length ≤ 1000 → Calls Tryz.prog 23 #[vl, v] w' fun e w2 => ∃ u, e = .returned u ∧ IntsR w2 u (pick l ix) ∧ Steps w' w2 := fun w' ix v s h h1 h2 => prpick w' (hl.steps s) h h1 h2 (by omega)
 have ME : ∀ w' ix v, IntsR w' v (pick l ix) → (∀ i ∈ ix, i < l.length) → ix.length ≤ 24 → ix ≠ [] → Calls Tryz.prog 37 #[v] w' fun e w2 => ∃ u, e = .returned u ∧ FR w2 u (meanQ (pick l ix)) ∧ Steps w' w2 := fun w' ix v h h1 h2 h3 => prmean w' h (pick_val hv h1 (by omega)) (pick_ne h3)
 have VA : ∀ w' ix v u, IntsR w' v (pick l ix) → FR w' u (meanQ (pick l ix)) → (∀ i ∈ ix, i < l.length) → ix.length ≤ 24 → ix ≠ [] → Calls Tryz.prog 42 #[v, u] w' fun e w2 => ∃ u, e = .returned u ∧ FR w2 u (varQ (pick l ix)) ∧ Steps w' w2 := fun w' ix v u h hu h1 h2 h3 => prvariance w' h (pick_val hv h1 (by omega)) (pick_ne h3) (by rw [pick_len]; exact h2) hu
 have zv : ∀ ix : List Nat, (∀ i ∈ ix, i < l.length) → ix.length ≤ 24 → ix ≠ [] → sz (varQ (pick l ix)) 5 := fun ix h1 h2 h3 => sz_var (pick_val hv h1 (by omega)) (pick_ne h3)
 have MO : ∀ w' ix v u, FR w' v (k * k) → FR w' u (varQ (pick l ix)) → (∀ i ∈ ix, i < l.length) → ix.length ≤ 24 → ix ≠ [] → Calls Tryz.prog 44 #[v, u] w' fun e w2 => ∃ u, e = .returned (.tuple #[u, .int .i64 0]) ∧ FR w2 u (k * k * varQ (pick l ix)) ∧ Steps w' w2 := fun w' ix v u h hu h1 h2 h3 => rMulQ w' h hu zkk (zv ix h1 h2 h3) (by omega)
 have SQ : ∀ w' ix i u, FR w' u (meanQ (pick l ix)) → (∀ i ∈ ix, i < l.length) → ix.length ≤ 24 → ix ≠ [] → i < ix.length → Calls Tryz.prog 46 #[.int .i64 (l.getD (ix.getD i 0) 0), u] w' fun e w2 => ∃ u, e = .returned u ∧ FR w2 u (((l.getD (ix.getD i 0) 0 : Rat) - meanQ (pick l ix)) * ((l.getD (ix.getD i 0) 0 : Rat) - meanQ (pick l ix))) ∧ Steps w' w2 := fun w' ix i u h h1 h2 h3 h4 => prsquare w' h (sz_mean (pick_val hv h1 (by omega)) (pick_ne h3)) (hv.get (h1 _ (getN_mem h4)))
 have CM : ∀ w' ix i u v, FR w' u (((l.getD (ix.getD i 0) 0 : Rat) - meanQ (pick l ix)) * ((l.getD (ix.getD i 0) 0 : Rat) - meanQ (pick l ix))) → FR w' v (k * k * varQ (pick l ix)) → (∀ i ∈ ix, i < l.length) → ix.length ≤ 24 → ix ≠ [] → i < ix.length → Calls Tryz.prog 45 #[u, v] w' fun e w2 => e = .returned (.tuple #[.int .i64 (cmpQ (((l.getD (ix.getD i 0) 0 : Rat) - meanQ (pick l ix)) * ((l.getD (ix.getD i 0) 0 : Rat) - meanQ (pick l ix))) (k * k * varQ (pick l ix))), .int .i64 0]) ∧ Steps w' w2 := fun w' ix i u v hu hv' h1 h2 h3 h4 =>
  rCmpQ w' hu hv' (sz_sq (pick_val hv h1 (by omega)) (pick_ne h3) (hv.get (h1 _ (getN_mem h4)))) (zkk.mul (zv ix h1 h2 h3)) (by omega)
 have KBS : ∀ (ix : List Nat) i, keepB (pick l ix) k (l.getD (ix.getD i 0) 0) = decide (cmpQ (((l.getD (ix.getD i 0) 0 : Rat) - meanQ (pick l ix)) * ((l.getD (ix.getD i 0) 0 : Rat) - meanQ (pick l ix))) (k * k * varQ (pick l ix)) ≤ 0) := fun ix i => by
  unfold keepB
  exact decide_eq_decide.2 cmpQ_le.symm
 have HKBS := Hid.mk_ KBS
 have HSN := Hid.mk_ (fun (ix : List Nat) h => stepC_ne (l := l) k1 (ix := ix) h)
 have HPI := Hid.mk_ PI
 have HME := Hid.mk_ ME
 have HVA := Hid.mk_ VA
 have HMO := Hid.mk_ MO
 have HSQ := Hid.mk_ SQ
 have HCM := Hid.mk_ CM
 obtain ⟨k1, k2, k3, k4, k5, k6, k7, k8, rfl⟩ := hk.shape
 have HL := Hid.mk_ hl
 obtain ⟨la, lc, rfl⟩ := hl.shape
 obtain ⟨N, hN⟩ : ∃ n, l.length = n := ⟨_, rfl⟩
 have HN := Hid.mk_ hN
 have h0' : 0 < N := by rw [← hN]; exact List.length_pos_iff.2 h0
 rw [hN] at CS h24 hn HL ⊢
 clear hl hk zk zkk ha hf hv h0 hN KBS PI ME VA MO SQ CM zv
 go_enter Tryz.func15, Tryz.ntmps15
 go_wp2_with fail
 refine (CS _ belowB).mono ?_
 rintro e w1 ⟨rfl, hs1⟩
 have ok1 : Blk w1 (w.heap.size) 27 #[.bool k1, .slice k2 k3 k4, .bool k5, .slice k6 k7 k8] := Blk.stepsK hs1
 have B1 : Below w.heap.size w w1 := belowA hs1
 have c0 := ok1.c 0 rfl
 have c1 := ok1.c 1 rfl
 have c2 := ok1.c 2 rfl
 have c3 := ok1.c 3 rfl
 clear hs1 CS
 go_wp2_with fail
 refine (AL _ B1).mono ?_
 rintro e w2 ⟨rfl, hs2⟩
 have ok2 : Blk w2 (w.heap.size) 27 #[.bool k1, .slice k2 k3 k4, .bool k5, .slice k6 k7 k8] := ok1.steps hs2
 have B2 : Below w.heap.size w w2 := below_steps B1 (Nat.le_refl _) hs2
 clear hs2 ok1 B1 AL c0 c1 c2 c3
 have c0 := ok2.c 0 rfl
 have c1 := ok2.c 1 rfl
 have c2 := ok2.c 2 rfl
 have c3 := ok2.c 3 rfl
 go_wp2_with fail
 refine (KK _ B2).mono ?_
 rintro e w3 ⟨vq, rfl, hq, hs3⟩
 have B3 : Below w.heap.size w w3 := below_steps B2 (Nat.le_refl _) hs3
 clear hs3 ok2 B2 KK c0 c1 c2 c3
 obtain ⟨q1, q2, q3, q4, q5, q6, q7, q8, rfl⟩ := hq.shape
 have Fq := Hid.mk_ hq
 clear hq
 have zz3 := B3.size
 dsimp only
 go_wp2_with fail
 go_loopw [11, 10] (fun kk oo wr => ∃ (t : Nat) (ow : Value), ow = oo ∧ t ≤ N ∧ kk = .int .i64 t ∧ RowU wr (w3.heap.size + 1) 3 1 ow t (ints (inI (List.range t))) ∧ Blk wr (w3.heap.size) 27 #[.bool q1, .slice q2 q3 q4, .bool q5, .slice q6 q7 q8] ∧ Below w3.heap.size w3 wr) (fun kk _ _ => N - (intOf kk).toNat)
 case atStart => exact ⟨0, _, rfl, Nat.zero_le _, rfl, RowU.nil _ _ _ _, ownK, belowB⟩
 case round =>
  obtain ⟨t, ow, rfl, ht, rfl, hr, oq, B⟩ := hrel
  obtain ⟨oa, ocap, rfl⟩ := hr.len
  have HR := Hid.mk_ hr
  clear hr
  rcases Nat.lt_or_ge t N with tn | tn
  ·
   have hlt : decide ((t : Int) < (N : Int)) = true := decide_eq_true (by omega)
   have zz := B.size
   have lq := oq.lt
   have hps : inI (List.range (t + 1)) = inI (List.range t) ++ [(t : Int)] := by rw [List.range_succ, inI_snoc]
   have HPS := Hid.mk_ hps
   clear hps
   repeat' (first | ((with_reducible show wpList _ _ _ (⟨some 44, _, _, _, _, _⟩ :: _) _ _); refine app_int rfl (.tmp 41) (.tmp 43) rfl (w3.heap.size + 1) t (.slice oa t ocap) (inI (List.range t)) rfl (HR.out.alloc _) wr.heap.size t rfl (Blk.new _ _ _) (by omega) (by rw [World.size_alloc]; omega) (fun v' w7 hr7 hg7 => ?_)) | go_values | go_skip | go_guarded | go_step | go_upon)
   obtain ⟨oa', ocap', rfl⟩ := hr7.len
   have r6 := HR.out.alloc (.cells #[.int .i64 (t : Int)] 3)
   have oq7 := r6.blk hg7 (oq.alloc _) (by omega)
   have B7 := r6.below hg7 (B.alloc B.size _) (by omega)
   have HR7 := Hid.mk_ hr7
   clear r6 hg7 hr7 HR oq B
   go_wp2_with fail
   go_roundw
   case rel => exact ⟨t + 1, _, rfl, by omega, by go_num, by rw [HPS.out]; exact HR7.out, oq7, B7⟩
   case measure => simp [intOf]; omega
  ·
   obtain rfl : t = N := by omega
   have hlt : decide ((t : Int) < (t : Int)) = false := decide_eq_false (by omega)
   have hpl : (inI (List.range t)).length = t := by rw [inI_len, List.length_range]
   have hL : IntsR wr (.slice oa t ocap) (inI (List.range t)) := by have := HR.out; rw [show t = (inI (List.range t)).length from hpl.symm] at this ⊢; simpa [hpl] using this.ints
   have HL3 := Hid.mk_ hL
   clear HR hL hpl
   go_wp2_with fail
   go_loopw [10, 12] (fun s4 s6 wr => ∃ (ix : List Nat) (f r : Nat) (v : Value), v = s4 ∧ s6 = .int .i64 r ∧ clipGo l k f ix r = clipR l k ∧ ix.length ≤ f ∧ ix ≠ [] ∧ (∀ i ∈ ix, i < l.length) ∧ r + ix.length ≤ t ∧ IntsR wr v (inI ix) ∧ Blk wr (w3.heap.size) 27 #[.bool q1, .slice q2 q3 q4, .bool q5, .slice q6 q7 q8] ∧ Below w3.heap.size w3 wr) (fun s4 _ _ => lenV s4)
   case atStart => exact ⟨List.range t, t, 0, _, rfl, rfl, (by unfold clipR; rw [HN.out]), (by rw [List.length_range]; omega), (fun e => by have := congrArg List.length e; simp at this; omega), (fun i hi => by have := HN.out; have := List.mem_range.1 hi; omega), (by rw [List.length_range]; omega), HL3.out, ownK, belowB⟩
   case round =>
    clear HL3 oq B
    obtain ⟨ix, f, r, v, rfl, rfl, hgo, hfl, hne, hix, hrn, hv, oq, B⟩ := hrel
    obtain ⟨n, hn_⟩ : ∃ n, ix.length = n := ⟨_, rfl⟩
    have n0 : 0 < n := by rw [← hn_]; exact List.length_pos_iff.2 hne
    have nN : n ≤ t := by rw [← hn_]; omega
    obtain ⟨va, vc, rfl⟩ := hv.shape
    have el : (inI ix).length = n := by rw [inI_len, hn_]
    have eu : (pick l ix).length = n := by rw [pick_len, hn_]
    rw [el] at hv ⊢
    have PI := fun W v s h => HPI.out W ix v s h hix (by omega)
    rw [HN.out] at PI
    have ME := fun W v h => HME.out W ix v h hix (by omega) hne
    have VA := fun W v u h hu => HVA.out W ix v u h hu hix (by omega) hne
    have MO := fun W v u h hu => HMO.out W ix v u h hu hix (by omega) hne
    have SQ := fun i (h : i < ix.length) W u hu => HSQ.out W ix i u hu hix (by omega) hne h
    have CM := fun i (h : i < ix.length) W u v hu hv => HCM.out W ix i u v hu hv hix (by omega) hne h
    have KBS := fun i => HKBS.out ix i
    have KS := fun i (h : i < ix.length) => keepF_step (l := l) (k := k) h
    have KA := keepF_all l k ix
    have KL := fun i => keepF_le (l := l) (k := k) (ix := ix) i
    have K0 : keepF l k ix 0 = [] := rfl
    have IG := fun i (h : i < ix.length) => inI_get ix h
    have IL := fun i (h : i < ix.length) => hix _ (getN_mem h)
    have SN := HSN.out ix hne
    have SS : ∀ i ∈ stepC l k ix, i < l.length := fun i hi => hix i (List.mem_filter.1 hi).1
    obtain ⟨CR1, CR2⟩ := clip_round hgo hfl hne
    have hsl := stepC_le l k ix
    rw [hn_] at KS KA KL IG IL CR1 CR2 SQ CM hsl
    obtain ⟨KF, hKF⟩ : ∃ g : Nat → List Nat, ∀ i, keepF l k ix i = g i := ⟨_, fun _ => rfl⟩
    simp only [hKF] at KS KA KL K0
    obtain ⟨IX, hIX⟩ : ∃ g : Nat → Nat, ∀ i, ix.getD i 0 = g i := ⟨_, fun _ => rfl⟩
    simp only [hIX] at KS IG IL SQ CM KBS
    obtain ⟨MQ, hMQ⟩ : ∃ q, meanQ (pick l ix) = q := ⟨_, rfl⟩
    obtain ⟨VQ, hVQ⟩ : ∃ q, varQ (pick l ix) = q := ⟨_, rfl⟩
    simp only [hMQ, hVQ] at ME VA MO SQ CM KBS
    obtain ⟨SQQ, hSQ⟩ : ∃ g : Nat → Rat, ∀ i, (((l.getD (IX i) 0 : Int) : Rat) - MQ) * (((l.getD (IX i) 0 : Int) : Rat) - MQ) = g i := ⟨_, fun _ => rfl⟩
    simp only [hSQ] at SQ CM KBS
    obtain ⟨XX, hXX⟩ : ∃ g : Nat → Int, ∀ i, l.getD (IX i) 0 = g i := ⟨_, fun _ => rfl⟩
    simp only [hXX] at KS SQ KBS
    generalize k * k * VQ = MOQ at *
    obtain ⟨CQ, hCQ⟩ : ∃ g : Nat → Int, ∀ i, cmpQ (SQQ i) MOQ = g i := ⟨_, fun _ => rfl⟩
    simp only [hCQ] at CM KBS
    simp only [KBS] at KS
    obtain ⟨SC, hSC⟩ : ∃ s, stepC l k ix = s := ⟨_, rfl⟩
    rw [hSC] at KA SN SS CR1 CR2 hsl
    have HV := Hid.mk_ hv
    have HEL := Hid.mk_ (And.intro el eu)
    have HKS := Hid.mk_ KS
    have HKA := Hid.mk_ KA
    have HKL := Hid.mk_ KL
    have HK0 := Hid.mk_ K0
    have HIG := Hid.mk_ (And.intro IG IL)
    have HSN2 := Hid.mk_ (And.intro SN SS)
    have HCR := Hid.mk_ (And.intro CR1 CR2)
    have HXX := Hid.mk_ hXX
    have HXN := Hid.mk_ hn_
    clear hv hgo hfl hne hix el HPI HME HVA HMO HSQ HCM HKBS HSN KS KA KL K0 IG IL SN SS CR1 CR2 hKF hIX hMQ hVQ hSQ hXX hCQ hSC KBS hn_
    have lq := oq.lt
    have Bw : Below w.heap.size w wr := below_steps B3 (Nat.le_refl _) B
    repeat' (first | go_values | go_skip | go_guarded | go_step | go_upon)
    refine (PI _ _ Bw HV.out).mono ?_
    rintro e w4 ⟨vn, rfl, hn4, hs4⟩
    have oq4 : Blk w4 (w3.heap.size) 27 #[.bool q1, .slice q2 q3 q4, .bool q5, .slice q6 q7 q8] := oq.steps hs4
    have B4 : Below w3.heap.size w3 w4 := below_steps B (Nat.le_refl _) hs4
    have hv4 := Hid.mk_ (HV.out.steps hs4)
    obtain ⟨na, nc, rfl⟩ := hn4.shape
    rw [eu] at hn4 ⊢
    have HN4 := Hid.mk_ hn4
    clear hs4 oq B HV Bw PI lq hn4 eu
    dsimp only
    repeat' (first | go_values | go_skip | go_guarded | go_step | go_upon)
    refine (ME _ _ HN4.out).mono ?_
    rintro e w5 ⟨vm, rfl, hm, hs5⟩
    have oq5 : Blk w5 (w3.heap.size) 27 #[.bool q1, .slice q2 q3 q4, .bool q5, .slice q6 q7 q8] := oq4.steps hs5
    have B5 : Below w3.heap.size w3 w5 := below_steps B4 (Nat.le_refl _) hs5
    have hv5 := Hid.mk_ (hv4.out.steps hs5)
    have HN5 := Hid.mk_ (HN4.out.steps hs5)
    obtain ⟨m1, m2, m3, m4, m5, m6, m7, m8, rfl⟩ := hm.shape
    have Fm := Hid.mk_ hm
    have Fq5 := Hid.mk_ (FR.keeps Fq.out (Keeps.steps B5))
    clear hs5 oq4 B4 hv4 HN4 ME hm
    have zz5 := B5.size
    have lq5 := oq5.lt
    dsimp only
    repeat' (first | go_values | go_skip | go_guarded | go_step | go_upon)
    have B := Below.refl w5.heap.size w5
    have oq := oq5
    clear oq5
    have zz5 := B.size
    go_upto_region 16 with fail
    refine Reg.wp_chain_n (fun N0 D v W => Below w5.heap.size w5 W ∧ Keeps w5 W ∧ N0 ≤ W.heap.size ∧ Blk W (w3.heap.size) 27 #[.bool q1, .slice q2 q3 q4, .bool q5, .slice q6 q7 q8] ∧ Blk W (w5.heap.size) 27 #[.bool m1, .slice m2 m3 m4, .bool m5, .slice m6 m7 m8] ∧ (D 8 = true → ∃ g : Nat, v 8 = .pointer (some ⟨g, 0, none⟩) ∧ N0 ≤ g ∧ g < W.heap.size ∧ (D 9 = false → Blk W g 27 #[.bool false, .slice none 0 0, .bool false, .slice none 0 0]) ∧ (D 9 = true → D 4 = true ∧ ∃ cs, v 4 = .tuple #[.agg cs, .int .i64 0] ∧ Blk W g 27 cs)))
     (Reg.inl [3, 4, 8, 9]) (Reg.gv [(3, IsFr), (4, IsFrE 0), (8, IsPtr)]) (gw [(3, GFr (VQ)), (4, GFrE (MOQ) 0)]) (fun _ => Keeps) (fun _ _ => False) (Reg.pl [(4, [(3, some 56)]), (9, [(4, some 57), (8, some 15)]), (11, [(3, some 56), (4, some 57), (8, some 15)])]) (Reg.pl [(8, [9]), (4, [9])])
     (by kernel_rfl) (by kernel_rfl) (by kernel_rfl) (Reg.gvA _) (fun N0 hN0 => ⟨fun v => ?_, fun D v v' W hv hj => ?_, fun D v k j W W' x _ _ _ _ hk hg => gwA hk hg, fun _ _ _ _ h => h.elim, fun ops' Q' hops hQ => ?_⟩)
    · exact ⟨belowB, keepsB, by first | with_reducible exact Nat.le_of_eq hN0.out | (simp only [World.size_drew]; with_reducible exact Nat.le_of_eq hN0.out), ownK, ownK, (fun h => Bool.noConfusion h)⟩
    ·
     obtain ⟨j0, jk, jn, b_q, b_m, a_8⟩ := hj
     exact ⟨j0, jk, jn, b_q, b_m, fun h => by obtain ⟨g, e1, e2, e3, e4, e5⟩ := a_8 h; exact ⟨g, (hv 8 h) ▸ e1, e2, e3, e4, fun h => by obtain ⟨d, cs, e, hb⟩ := e5 h; exact ⟨d, cs, (hv 4 d) ▸ e, hb⟩⟩⟩
    have eN := hN0.out
    try simp only [World.size_alloc, World.size_setCell, World.size_drew, World.heap_drewN] at eN
    have i_q : w3.heap.size < N0 := by first | omega | (have h := oq.lt; omega)
    have i_m : w5.heap.size < N0 := by first | omega | (have h := om.lt; omega)
    have iw : w5.heap.size ≤ N0 := by first | omega | (have h := B.size; omega)
    clear hN0 eN
    apply Reg.RP rfl rfl rfl 53 rfl rfl
    ·
     intro D v' W' hc hj hf K hK
     obtain ⟨j0, jk, jn, b_q, b_m, a_8⟩ := hj
     obtain ⟨c0, c1, c2, c3⟩ := b_q.r3
     go_step
     exact hK.out
    · rfl
    refine Reg.RP0 54 ?_
    apply Reg.RP rfl rfl rfl 55 rfl rfl
    ·
     intro D v' W' hc hj hf K hK
     obtain ⟨j0, jk, jn, b_q, b_m, a_8⟩ := hj
     obtain ⟨c0, c1, c2, c3⟩ := b_m.r3
     go_step
     exact hK.out
    · rfl
    refine Reg.RC_call rfl (tlt rfl) rfl (fun D v' W' hc hj hf K hK => ?_) ?_
    ·
     obtain ⟨j0, jk, jn, b_q, b_m, a_8⟩ := hj
     clear hf
     go_step
     refine (VA W' _ _ (HN5.out.steps j0) (Fm.out.keeps jk)).mono ?_
     rintro e W2 ⟨u, rfl, hu, hs⟩
     obtain ⟨v1, v2, v3, v4, v5, v6, v7, v8, rfl⟩ := hu.shape
     exact hK.out _ W2 (Keeps.steps hs) ⟨jst j0 hs, jk.then_ hs, jsz jn hs, b_q.steps hs, b_m.steps hs, fun h => by obtain ⟨g, e1, e2, e3, e4, e5⟩ := a_8 h; exact ⟨g, e1, e2, Nat.lt_of_lt_of_le e3 (hs).size, fun h => (e4 h).steps hs, fun h => by obtain ⟨d, cs, e, hb⟩ := e5 h; exact ⟨d, cs, e, hb.steps hs⟩⟩⟩ hu ⟨_, _, _, _, _, _, _, _, rfl⟩
    rintro _ ⟨v1, v2, v3, v4, v5, v6, v7, v8, rfl⟩
    refine Reg.RC_at (b := ⟨#[_,_,_,_,_,_,_,_,_,_,_,_,_,_,_,_,_,_,_,_,_,_,_,_,_,_,_,_,_,_,_,_,_,_,_,_,_,_,_,_,_,_,_,_,_,_,_,_,_,_,_,_,_,_,_,_,_,_,_,_,_,_,_,_,_,_,_,_,_,_,_,_,_,_,_,_,_,_,_,_,_,_,_,_,_,_,_,_,_,_,_,_,_,_,_,_,_], _⟩) rfl ?_
    refine Reg.RC_call rfl (tlt rfl) rfl (fun D v' W' hc hj hf K hK => ?_) ?_
    ·
     obtain ⟨j0, jk, jn, b_q, b_m, a_8⟩ := hj
     have g3 : GFr (VQ) _ W' := (hf (3, some 56) (.head _) rfl).2.2
     have g3 : FR W' _ (VQ) := g3
     clear hf
     go_step
     refine (MO W' _ _ (Fq5.out.keeps jk) g3).mono ?_
     rintro e W2 ⟨u, rfl, hu, hs⟩
     obtain ⟨x1, x2, x3, x4, x5, x6, x7, x8, rfl⟩ := hu.shape
     exact hK.out _ W2 (Keeps.steps hs) ⟨jst j0 hs, jk.then_ hs, jsz jn hs, b_q.steps hs, b_m.steps hs, fun h => by obtain ⟨g, e1, e2, e3, e4, e5⟩ := a_8 h; exact ⟨g, e1, e2, Nat.lt_of_lt_of_le e3 (hs).size, fun h => (e4 h).steps hs, fun h => Bool.noConfusion ((hc.2 9 (by decide)).symm.trans h)⟩⟩ ⟨_, rfl, hu⟩ ⟨_, _, _, _, _, _, _, _, rfl⟩
    rintro _ ⟨x1, x2, x3, x4, x5, x6, x7, x8, rfl⟩
    refine Reg.RC_at (b := ⟨#[_,_,_,_,_,_,_,_,_,_,_,_,_,_,_,_,_,_,_,_,_,_,_,_,_,_,_,_,_,_,_,_,_,_,_,_,_,_,_,_,_,_,_,_,_,_,_,_,_,_,_,_,_,_,_,_,_,_,_,_,_,_,_,_,_,_,_,_,_,_,_,_,_,_,_,_,_,_,_,_,_,_,_,_,_,_,_,_,_,_,_,_,_,_,_,_,_], _⟩) rfl ?_
    refine Reg.RP0 52 ?_
    refine Reg.RP0 58 ?_
    refine Reg.RP0 59 ?_
    refine Reg.RC_call rfl (tlt rfl) rfl (fun D v' W' hc hj hf K hK => ?_) ?_
    ·
     obtain ⟨j0, jk, jn, b_q, b_m, a_8⟩ := hj
     go_step
     have hs : ∀ o : Obj, Steps W' (W'.alloc o) := fun o => (Below.refl _ _).alloc (Nat.le_refl _) o
     exact hK.out _ _ (Keeps.steps (hs _)) ⟨jst j0 (hs _), jk.then_ (hs _), jsz jn (hs _), b_q.steps (hs _), b_m.steps (hs _), fun _ => ⟨W'.heap.size, rfl, jn, by rw [World.size_alloc]; omega, fun _ => Blk.new _ _ _, fun h => Bool.noConfusion ((hc.2 9 (by decide)).symm.trans h)⟩⟩ trivial ⟨_, rfl⟩
    rintro _ ⟨p15, rfl⟩
    refine Reg.RC_at (b := ⟨#[_,_,_,_,_,_,_,_,_,_,_,_,_,_,_,_,_,_,_,_,_,_,_,_,_,_,_,_,_,_,_,_,_,_,_,_,_,_,_,_,_,_,_,_,_,_,_,_,_,_,_,_,_,_,_,_,_,_,_,_,_,_,_,_,_,_,_,_,_,_,_,_,_,_,_,_,_,_,_,_,_,_,_,_,_,_,_,_,_,_,_,_,_,_,_,_,_], _⟩) rfl ?_
    refine Reg.RC_call rfl (by intro t ht; cases ht) rfl (fun D v' W' hc hj hf K hK => ?_) (fun _ _ => Reg.RC_at (b := ⟨_, _⟩) rfl ?_)
    ·
     obtain ⟨j0, jk, jn, b_q, b_m, a_8⟩ := hj
     have f := hf (8, some 15) (.tail _ (.head _)) rfl
     have e6 : v' 8 = .pointer (some ⟨p15, 0, none⟩) := f.2.1
     obtain ⟨g, e1, e2, e3, e4, e5⟩ := a_8 f.1
     obtain rfl : p15 = g := Reg.ptr_eq (e6.symm.trans e1)
     have hb := e4 hc.1
     clear e4 e5
     have fc := hf (4, some 57) (.head _) rfl
     have ec : v' 4 = .tuple #[.agg #[.bool x1, .slice x2 x3 x4, .bool x5, .slice x6 x7 x8], .int .i64 0] := fc.2.1
     have ff := hb.fr
     obtain ⟨cc0, cc1, cc2, cc3⟩ := hb.r3
     go_step
     exact hK.out undef _ (keeps4 hb rfl) ⟨(below4 j0 (by show w5.heap.size ≤ p15; omega)), jk.trans (keeps4 hb rfl), by simpa using jn, (b_q).far4 (show w3.heap.size ≠ p15 by omega), (b_m).far4 (show w5.heap.size ≠ p15 by omega), fun _ => ⟨p15, e1, e2, by simpa using e3, fun h => Bool.noConfusion h, fun _ => ⟨fc.1, _, ec, (Blk.set2 (cs' := #[.bool x1, .slice x2 x3 x4, .bool x5, .slice x6 x7 x8]) (Blk.set2 (cs' := #[.bool x1, .slice x2 x3 x4, .bool x5, .slice none 0 0]) (Blk.set2 (cs' := #[.bool x1, .slice x2 x3 x4, .bool false, .slice none 0 0]) (Blk.set2 (cs' := #[.bool x1, .slice none 0 0, .bool false, .slice none 0 0]) hb (i := 0) rfl) (i := 1) rfl) (i := 2) rfl) (i := 3) rfl)⟩⟩⟩ trivial trivial
    refine Reg.RP0 16 ?_
    refine Reg.RC_end (fun Dn v' w6 hd hj hf => ?_)
    obtain ⟨j0, jk, jn, b_q, b_m, a_8⟩ := hj
    have B := j0
    have oq := b_q
    clear b_q
    have om := b_m
    clear b_m
    have f := hf (8, some 15) (.tail _ (.tail _ (.head _))) rfl
    have e6_ : v' 8 = .pointer (some ⟨p15, 0, none⟩) := f.2.1
    obtain ⟨g, e1_, zx, -, -, e5_⟩ := a_8 f.1
    obtain rfl : p15 = g := Reg.ptr_eq (e6_.symm.trans e1_)
    obtain ⟨-, cs_, ee, ox⟩ := e5_ (hd 9 (Nat.le_of_ble_eq_true rfl))
    have ef : v' 4 = .tuple #[.agg #[.bool x1, .slice x2 x3 x4, .bool x5, .slice x6 x7 x8], .int .i64 0] := (hf (4, some 57) (.tail _ (.head _)) rfl).2.1
    obtain rfl : #[.bool x1, .slice x2 x3 x4, .bool x5, .slice x6 x7 x8] = cs_ := by have := ef.symm.trans ee; simpa only [Value.tuple.injEq, Value.agg.injEq, Array.mk.injEq, List.cons.injEq, and_true, true_and] using this
    clear ee ef f e5_ e1_ e6_
    have Fx := Hid.mk_ (GFrE.get (r := MOQ) (e := 0) (v := .agg #[.bool x1, .slice x2 x3 x4, .bool x5, .slice x6 x7 x8]) (hf (4, some 57) (.tail _ (.head _)) rfl).2.2)
    replace Fq5 := Hid.mk_ (Fq5.out.keeps jk)
    replace Fm := Hid.mk_ (Fm.out.keeps jk)
    clear hd hf jk j0
    refine hQ _ _ ?_
    clear hQ hops Q' ops'
    have Bw6 : Below w3.heap.size w3 w6 := below_steps B5 (Nat.le_refl _) B
    have hv6 := Hid.mk_ (hv5.out.steps B)
    have hl6 := Hid.mk_ (HL.out.steps (below_steps B3 (Nat.le_refl _) Bw6))
    clear hv5 HN5 VA MO zz5 lq5 B5
    repeat' (first | go_values | go_skip | go_guarded | go_step | go_upon)
    go_loopw [18, 17] (fun kk oo wr => ∃ (i : Nat) (ow : Value), ow = oo ∧ i ≤ n ∧ kk = .int .i64 i ∧ RowU wr w6.heap.size 3 1 ow (KF i).length (ints (inI (KF i))) ∧ Below w6.heap.size w6 wr) (fun kk _ _ => n - (intOf kk).toNat)
    case atStart => exact ⟨0, _, rfl, Nat.zero_le _, rfl, (by rw [HK0.out]; exact RowU.nil _ _ _ _), belowB⟩
    case round =>
     rename World => wq
     obtain ⟨i, ow, rfl, hi, rfl, hr, Bq⟩ := hrel
     have om7 : Blk wq (w5.heap.size) 27 #[.bool m1, .slice m2 m3 m4, .bool m5, .slice m6 m7 m8] := om.steps Bq
     have ox7 : Blk wq (p15) 27 #[.bool x1, .slice x2 x3 x4, .bool x5, .slice x6 x7 x8] := ox.steps Bq
     have Fm7 := Hid.mk_ (FR.keeps Fm.out (Keeps.steps Bq))
     have Fx7 := Hid.mk_ (FR.keeps Fx.out (Keeps.steps Bq))
     obtain ⟨oa2, oc2, rfl⟩ := hr.len
     have HR := Hid.mk_ hr
     clear hr
     rcases Nat.lt_or_ge i n with i4 | i4
     ·
      have hlt : decide ((i : Int) < (n : Int)) = true := decide_eq_true (by omega)
      obtain ⟨bv, ov, rfl, hbv, hv0⟩ := hv6.out.at' (t := i) (by have := HEL.out.1; omega)
      rw [HIG.out.1 i i4] at hv0
      obtain ⟨bl, ol, ell, hbl, hl0⟩ := hl6.out.at' (t := IX i) (HIG.out.2 i i4)
      obtain rfl : la = some ⟨bl, ol, none⟩ := ell
      rw [HXX.out] at hl0
      have sq := SQ i (by have := HXN.out; omega)
      have cm := CM i (by have := HXN.out; omega)
      have kl := HKL.out i
      have ks := Hid.mk_ (HKS.out i i4)
      have kin : IX i < t := by have := HIG.out.2 i i4; have := HN.out; omega
      generalize SQQ i = sqi at *
      generalize CQ i = cq at *
      have hbv7 : bv < wq.heap.size := Nat.lt_of_lt_of_le hbv Bq.size
      have hbl7 : bl < wq.heap.size := Nat.lt_of_lt_of_le hbl Bq.size
      have cv : wq.cell? ⟨bv, ov + i, none⟩ = some (.int .i64 (IX i : Nat)) := (Bq.cell (p := ⟨bv, _, none⟩) hbv).trans hv0
      have cl : wq.cell? ⟨bl, ol + IX i, none⟩ = some (.int .i64 (XX i)) := (Bq.cell (p := ⟨bl, _, none⟩) hbl).trans hl0
      generalize IX i = j at *
      generalize XX i = x at *
      have HC := Hid.mk_ (And.intro cv cl)
      clear hv0 hl0 cv cl
      have om := om7
      have ox := ox7
      have B := Below.refl wq.heap.size wq
      clear om7 ox7
      repeat' (first | go_values | go_skip | go_guarded | go_step | go_upon)
      have zx_20 : p15 < wq.heap.size := ox.lt
      have zz20 := B.size
      go_upto_region 21 with fail
      refine Reg.wp_chain_n (fun N0 D v W => Below wq.heap.size wq W ∧ Keeps wq W ∧ N0 ≤ W.heap.size ∧ Blk W (w5.heap.size) 27 #[.bool m1, .slice m2 m3 m4, .bool m5, .slice m6 m7 m8] ∧ Blk W (p15) 27 #[.bool x1, .slice x2 x3 x4, .bool x5, .slice x6 x7 x8])
       (Reg.inl [8, 10]) (Reg.gv [(8, IsFr), (10, fun z_ => z_ = .tuple #[.int .i64 cq, .int .i64 0])]) (gw [(8, GFr (sqi))]) (fun _ => Keeps) (fun _ _ => False) (Reg.pl [(10, [(8, some 75)]), (16, [(8, some 75), (10, some 77)])]) (Reg.pl [])
       (by kernel_rfl) (by kernel_rfl) (by kernel_rfl) (Reg.gvA _) (fun N0 hN0 => ⟨fun v => ?_, fun D v v' W hv hj => ?_, fun D v k j W W' x _ _ _ _ hk hg => gwA hk hg, fun _ _ _ _ h => h.elim, fun ops' Q' hops hQ => ?_⟩)
      · exact ⟨belowB, keepsB, by first | with_reducible exact Nat.le_of_eq hN0.out | (simp only [World.size_drew]; with_reducible exact Nat.le_of_eq hN0.out), ownK, ownK⟩
      ·
       obtain ⟨j0, jk, jn, b_m, b_x⟩ := hj
       exact ⟨j0, jk, jn, b_m, b_x⟩
      have eN := hN0.out
      try simp only [World.size_alloc, World.size_setCell, World.size_drew, World.heap_drewN] at eN
      have i_m : w5.heap.size < N0 := by first | omega | (have h := om.lt; omega)
      have i_x : p15 < N0 := by first | omega | (have h := ox.lt; omega)
      have iw : wq.heap.size ≤ N0 := by first | omega | (have h := B.size; omega)
      clear hN0 eN
      refine Reg.RP0 67 ?_
      refine Reg.RP0 68 ?_
      refine Reg.RP0 69 ?_
      refine Reg.RP0 70 ?_
      apply Reg.RP rfl rfl rfl 71 rfl rfl
      ·
       intro D v' W' hc hj hf K hK
       obtain ⟨j0, jk, jn, b_m, b_x⟩ := hj
       have x0_ : W'.cell? ⟨bv, ov + i, none⟩ = some (.int .i64 (j : Nat)) := (j0.cell (p := ⟨bv, _, none⟩) hbv7).trans HC.out.1
       go_step
       exact hK.out
      · rfl
      refine Reg.RP0 72 ?_
      apply Reg.RP rfl rfl rfl 73 rfl rfl
      ·
       intro D v' W' hc hj hf K hK
       obtain ⟨j0, jk, jn, b_m, b_x⟩ := hj
       have x0_ : W'.cell? ⟨bl, ol + j, none⟩ = some (.int .i64 x) := (j0.cell (p := ⟨bl, _, none⟩) hbl7).trans HC.out.2
       go_step
       exact hK.out
      · rfl
      apply Reg.RP rfl rfl rfl 74 rfl rfl
      ·
       intro D v' W' hc hj hf K hK
       obtain ⟨j0, jk, jn, b_m, b_x⟩ := hj
       obtain ⟨c0, c1, c2, c3⟩ := b_m.r3
       go_step
       exact hK.out
      · rfl
      refine Reg.RC_call rfl (tlt rfl) rfl (fun D v' W' hc hj hf K hK => ?_) ?_
      ·
       obtain ⟨j0, jk, jn, b_m, b_x⟩ := hj
       clear hf
       go_step
       refine (sq W' _ (Fm7.out.keeps jk)).mono ?_
       rintro e W2 ⟨u, rfl, hu, hs⟩
       obtain ⟨s1, s2, s3, s4, s5, s6, s7, s8, rfl⟩ := hu.shape
       exact hK.out _ W2 (Keeps.steps hs) ⟨jst j0 hs, jk.then_ hs, jsz jn hs, b_m.steps hs, b_x.steps hs⟩ hu ⟨_, _, _, _, _, _, _, _, rfl⟩
      rintro _ ⟨s1, s2, s3, s4, s5, s6, s7, s8, rfl⟩
      refine Reg.RC_at (b := ⟨#[_,_,_,_,_,_,_,_,_,_,_,_,_,_,_,_,_,_,_,_,_,_,_,_,_,_,_,_,_,_,_,_,_,_,_,_,_,_,_,_,_,_,_,_,_,_,_,_,_,_,_,_,_,_,_,_,_,_,_,_,_,_,_,_,_,_,_,_,_,_,_,_,_,_,_,_,_,_,_,_,_,_,_,_,_,_,_,_,_,_,_,_,_,_,_,_,_], _⟩) rfl ?_
      apply Reg.RP rfl rfl rfl 76 rfl rfl
      ·
       intro D v' W' hc hj hf K hK
       obtain ⟨j0, jk, jn, b_m, b_x⟩ := hj
       obtain ⟨c0, c1, c2, c3⟩ := b_x.r3
       go_step
       exact hK.out
      · rfl
      refine Reg.RC_call rfl (tlt rfl) rfl (fun D v' W' hc hj hf K hK => ?_) ?_
      ·
       obtain ⟨j0, jk, jn, b_m, b_x⟩ := hj
       have g8 : GFr (sqi) _ W' := (hf (8, some 75) (.head _) rfl).2.2
       have g8 : FR W' _ (sqi) := g8
       clear hf
       go_step
       refine (cm W' _ _ g8 (Fx7.out.keeps jk)).mono ?_
       rintro e W2 ⟨rfl, hs⟩
       exact hK.out _ W2 (Keeps.steps hs) ⟨jst j0 hs, jk.then_ hs, jsz jn hs, b_m.steps hs, b_x.steps hs⟩ trivial rfl
      rintro _ rfl
      refine Reg.RC_at (b := ⟨#[_,_,_,_,_,_,_,_,_,_,_,_,_,_,_,_,_,_,_,_,_,_,_,_,_,_,_,_,_,_,_,_,_,_,_,_,_,_,_,_,_,_,_,_,_,_,_,_,_,_,_,_,_,_,_,_,_,_,_,_,_,_,_,_,_,_,_,_,_,_,_,_,_,_,_,_,_,_,_,_,_,_,_,_,_,_,_,_,_,_,_,_,_,_,_,_,_], _⟩) rfl ?_
      refine Reg.RP0 66 ?_
      refine Reg.RP0 78 ?_
      refine Reg.RP0 79 ?_
      refine Reg.RP0 19 ?_
      refine Reg.RP0 20 ?_
      refine Reg.RC_end (fun Dn v' w21 hd hj hf => ?_)
      obtain ⟨j0, jk, jn, b_m, b_x⟩ := hj
      have B := j0
      have om := b_m
      clear b_m
      have ox := b_x
      clear b_x
      replace Fm7 := Hid.mk_ (Fm7.out.keeps jk)
      replace Fx7 := Hid.mk_ (Fx7.out.keeps jk)
      clear hd hf jk j0
      refine hQ _ _ ?_
      clear hQ hops Q' ops'
      have B9 : Below w6.heap.size w6 w21 := below_steps Bq (Nat.le_refl _) B
      have HR9 := Hid.mk_ (HR.out.keep (fun g hg => B.block g (HR.out.lt g hg).2))
      have cv9 : w21.cell? ⟨bv, ov + i, none⟩ = some (.int .i64 (j : Nat)) := (B.cell (p := ⟨bv, _, none⟩) hbv7).trans HC.out.1
      clear HR HC
      by_cases c0 : cq ≤ 0
      ·
       have e1 : KF (i + 1) = KF i ++ [j] := by rw [ks.out, decide_eq_true c0]; rfl
       have e2 : inI (KF (i + 1)) = inI (KF i) ++ [(j : Int)] := by rw [e1, inI_snoc]
       have e3 : (KF (i + 1)).length = (KF i).length + 1 := by rw [e1]; simp
       have E1 := Hid.mk_ (And.intro e2 e3)
       clear e1 e2 e3
       have lxx := ox.lt
       repeat' (first | ((with_reducible show wpList _ _ _ (⟨some 88, _, _, _, _, _⟩ :: _) _ _); refine app_int rfl (.tmp 82) (.tmp 87) rfl w6.heap.size (KF i).length (.slice oa2 (KF i).length oc2) (inI (KF i)) rfl (HR9.out.alloc _) w21.heap.size (j : Nat) rfl (Blk.new _ _ _) (by omega) (by rw [World.size_alloc]; have := B9.size; omega) (fun v8 w8 hr8 gr8 => ?_)) | go_values | go_skip | go_guarded | go_step | go_upon)
       have e4 := (HR9.out.alloc (.cells #[.int .i64 ((j : Nat) : Int)] 3)).below gr8 (B9.alloc B9.size _) (Nat.le_refl _)
       obtain ⟨oa', ocap', rfl⟩ := hr8.len
       have HR8 := Hid.mk_ hr8
       clear gr8 hr8 HR9
       repeat' (first | go_values | go_skip | go_guarded | go_step | go_upon)
       go_roundw
       case rel => exact ⟨i + 1, _, rfl, by omega, by go_num, by rw [E1.out.1, E1.out.2]; exact HR8.out, e4⟩
       case measure => simp [intOf]; omega
      ·
       have e1 : KF (i + 1) = KF i := by rw [ks.out, decide_eq_false c0]; rfl
       have E1 := Hid.mk_ e1
       clear e1
       repeat' (first | go_values | go_skip | go_guarded | go_step | go_upon)
       go_roundw
       case rel => exact ⟨i + 1, _, rfl, by omega, by go_num, by rw [E1.out]; exact HR9.out, B9⟩
       case measure => simp [intOf]; omega
     ·
      obtain rfl : i = n := by omega
      have hlt : decide ((i : Int) < (i : Int)) = false := decide_eq_false (by omega)
      have oq7 : Blk wq (w3.heap.size) 27 #[.bool q1, .slice q2 q3 q4, .bool q5, .slice q6 q7 q8] := (oq.steps Bq)
      have BB : Below w3.heap.size w3 wq := below_steps Bw6 (Nat.le_refl _) Bq
      have hr := HR.out
      rw [HKA.out] at hr ⊢
      clear HR
      by_cases es : SC.length = i
      ·
       have ei : ((SC.length : Int) == (i : Int)) = true := by rw [es]; simp
       have er := HCR.out.1 es
       have ER := Hid.mk_ er
       have er2 : ((clipR l k).2 : Int) = (r : Int) := by rw [er]
       have ER2 := Hid.mk_ er2
       have hv7 := hv6.out.steps Bq
       clear er er2
       repeat' (first | go_values | go_skip | go_guarded | go_step | go_upon)
       go_returns
       exact ⟨_, by rw [ER2.out]; rfl, by rw [ER.out]; exact hv7, below_steps B3 (Nat.le_refl _) BB⟩
      ·
       have ei : ((SC.length : Int) == (i : Int)) = false := by rw [beq_eq_false_iff_ne]; omega
       obtain ⟨f', g1, g2⟩ := HCR.out.2 es
       have hi7 : IntsR wq (.slice oa2 SC.length oc2) (inI SC) := by have := inI_len SC; rw [← this] at hr ⊢; exact hr.ints
       repeat' (first | go_values | go_skip | go_guarded | go_step | go_upon)
       go_roundw
       case rel => exact ⟨SC, f', r + 1, _, rfl, by go_num, g1, g2, HSN2.out.1, HSN2.out.2, (by have := HXN.out; omega), hi7, oq7, BB⟩
       case measure => show SC.length < i; omega
theorem prclip_bad {vl vk : Value} {l : List Int} {o : Option Rat} (w : World) (hl : IntsR w vl l) (hn : l.length ≤ 100000) (hk : FB w vk o) (zk : ∀ r, o = some r → sz r 4) (c : Int) (hc : (askV l = c ∧ c ≠ 0) ∨ (askV l = 0 ∧ facB o = false ∧ c = 2)) :
  Calls Tryz.prog 15 #[vl, vk] w fun e w' => e = .returned (.tuple #[.slice none 0 0, .int .i64 0, .int .i64 c]) ∧ Steps w w' := by
 have CS : ∀ w', Steps w w' → Calls Tryz.prog 21 #[vl] w' fun e w2 => e = .returned (.int .i64 (askV l)) ∧ Steps w' w2 := fun w' s => pvasked w' (hl.steps s) hn
 have AL : ∀ w', Steps w w' → Calls Tryz.prog 22 #[vk] w' fun e w2 => e = .returned (.bool (facB o)) ∧ Steps w' w2 := fun w' s => pvfactor w' (hk.keeps (Keeps.steps s)) zk
 obtain ⟨k1, k2, k3, k4, k5, k6, k7, k8, rfl⟩ := hk.shape
 obtain ⟨la, lc, rfl⟩ := hl.shape
 clear hl hn hk zk
 rcases hc with ⟨h1, h2⟩ | ⟨h1, h2, rfl⟩
 ·
  rw [h1] at CS
  have h3 : (c == 0) = false := by simpa using h2
  have h4 : (c != 0) = true := by simpa using h2
  clear h1 h2 AL
  go_enter Tryz.func15, Tryz.ntmps15
  go_wp2_with fail
  refine (CS _ belowB).mono ?_
  rintro e w1 ⟨rfl, hb1⟩
  have st : Steps _ w1 := hb1
  have B : Below w.heap.size w w1 := belowA st
  have ok : Blk w1 (w.heap.size) 27 #[.bool k1, .slice k2 k3 k4, .bool k5, .slice k6 k7 k8] := Blk.stepsK st
  clear st
  go_wp2_with fail
  refine bodyPost_ret (by simp [results, Tryz.results15, go_sem, ]; rfl) rfl ?_
  exact ⟨rfl, belowB⟩
 ·
  rw [h1] at CS
  rw [h2] at AL
  clear h1 h2
  go_enter Tryz.func15, Tryz.ntmps15
  go_wp2_with fail
  refine (CS _ belowB).mono ?_
  rintro e w1 ⟨rfl, hb1⟩
  have st : Steps _ w1 := hb1
  have B : Below w.heap.size w w1 := belowA st
  have ok : Blk w1 (w.heap.size) 27 #[.bool k1, .slice k2 k3 k4, .bool k5, .slice k6 k7 k8] := Blk.stepsK st
  clear st
  obtain ⟨ck0, ck1, ck2, ck3⟩ := ok.r3
  have lk := ok.lt
  go_wp2_with fail
  refine (AL _ belowB).mono ?_
  rintro e w2 ⟨rfl, hb2⟩
  have st : Steps _ w2 := hb2
  have sk : Below w1.heap.size w1 w2 := belowA st
  replace B := below_steps B (Nat.le_refl _) sk
  replace ok := ok.steps sk
  clear st sk ck0 ck1 ck2 ck3 lk
  go_wp2_with fail
  refine bodyPost_ret (by simp [results, Tryz.results15, go_sem, ]; rfl) rfl ?_
  exact ⟨rfl, belowB⟩
theorem prClip {vl vk : Value} {l : List Int} {o : Option Rat} (w : World) (hl : IntsR w vl l) (hn : l.length ≤ 100000) (h24 : askV l = 0 → l.length ≤ 24) (hk : FB w vk o) (zk : ∀ r, o = some r → sz r 4) :
  Calls Tryz.prog 15 #[vl, vk] w fun e w' => ∃ v, e = .returned (.tuple #[v, .int .i64 ((clipS l o).2.1 : Nat), .int .i64 (clipS l o).2.2]) ∧ IntsR w' v (inI (clipS l o).1) ∧ Steps w w' := by
 unfold clipS
 by_cases h1 : askV l = 0
 ·
  rw [if_pos h1]
  cases h2 : facB o with
  | false =>
   refine (prclip_bad w hl hn hk zk 2 (.inr ⟨h1, h2, rfl⟩)).mono ?_
   rintro e w' ⟨rfl, hs⟩
   exact ⟨_, rfl, IntsR.nil _, hs⟩
  | true =>
   obtain ⟨k, rfl, -, -⟩ := facB_ok h2
   exact prclip_ok w hl (h24 h1) hk (zk k rfl) h1 h2
 ·
  rw [if_neg h1]
  refine (prclip_bad w hl hn hk zk (askV l) (.inl ⟨rfl, h1⟩)).mono ?_
  rintro e w' ⟨rfl, hs⟩
  exact ⟨_, rfl, IntsR.nil _, hs⟩
theorem prTrimmed {vl vk : Value} {l : List Int} {o : Option Rat} (w : World) (hl : IntsR w vl l) (hn : l.length ≤ 100000) (h24 : askV l = 0 → l.length ≤ 24) (hk : FB w vk o) (zk : ∀ r, o = some r → sz r 4) :
  Calls Tryz.prog 17 #[vl, vk] w fun e w' => ∃ v, e = .returned (.tuple #[v, .int .i64 (clipS l o).2.2]) ∧ FE w' v (clipS l o).2.2 (meanQ (pick l (clipS l o).1)) ∧ Steps w w' := by
 have CC : ∀ w', Steps w w' → Calls Tryz.prog 15 #[vl, vk] w' fun e w2 => ∃ v, e = .returned (.tuple #[v, .int .i64 ((clipS l o).2.1 : Nat), .int .i64 (clipS l o).2.2]) ∧ IntsR w2 v (inI (clipS l o).1) ∧ Steps w' w2 := fun w' s => prClip w' (hl.steps s) hn h24 (hk.keeps (Keeps.steps s)) zk
 by_cases h0 : (clipS l o).2.2 = 0
 ·
  have PI : ∀ w' u, Steps w w' → IntsR w' u (inI (clipS l o).1) → Calls Tryz.prog 23 #[vl, u] w' fun e w2 => ∃ v, e = .returned v ∧ IntsR w2 v (pick l (clipS l o).1) ∧ Steps w' w2 := fun w' u s hu => by
   obtain ⟨h1, k, rfl, h3, h4, h5⟩ := clipS_err h0
   obtain ⟨hv, hl0⟩ := askV_val h1
   rw [h5] at hu ⊢
   exact prpick w' (hl.steps s) hu (fun i hi => clipR_lt hi) (Nat.le_trans (by have := (clipR_spec l k).2.2.1; show (clipR l k).1.length ≤ l.length; omega) hv.1) hn
  have ME : ∀ w' u, IntsR w' u (pick l (clipS l o).1) → Calls Tryz.prog 37 #[u] w' fun e w2 => ∃ v, e = .returned v ∧ FR w2 v (meanQ (pick l (clipS l o).1)) ∧ Steps w' w2 := fun w' u hu => by
   obtain ⟨h1, k, rfl, h3, h4, h5⟩ := clipS_err h0
   obtain ⟨hv, hl0⟩ := askV_val h1
   rw [h5] at hu ⊢
   exact prmean w' hu (pick_val hv (fun i hi => clipR_lt hi) (Nat.le_trans (by have := (clipR_spec l k).2.2.1; show (clipR l k).1.length ≤ l.length; omega) hv.1)) (pick_ne (clipR_ne h3 hl0))
  rw [h0] at CC ⊢
  obtain ⟨k1, k2, k3, k4, k5, k6, k7, k8, rfl⟩ := hk.shape
  obtain ⟨la, lc, rfl⟩ := hl.shape
  generalize ((clipS l o).2.1 : Int) = r at *
  generalize meanQ (pick l (clipS l o).1) = mq at *
  generalize pick l (clipS l o).1 = y at *
  generalize inI (clipS l o).1 = x at *
  clear hl hn hk zk h0 h24
  go_enter Tryz.func17, Tryz.ntmps17
  have kk := Keeps.refl w
  go_wp2_with fail
  refine (CC _ belowB).mono ?_
  rintro e w1 ⟨va, rfl, hva, hb1⟩
  have st : Steps _ w1 := hb1
  have B : Below w.heap.size w w1 := belowA st
  have kp : Keeps w w1 := Keeps.then_ keepsB st
  replace kk := kk.trans kp
  have ok : Blk w1 (w.heap.size) 27 #[.bool k1, .slice k2 k3 k4, .bool k5, .slice k6 k7 k8] := Blk.stepsK st
  have or : Blk w1 (w.heap.size + 1) 27 #[.bool false, .slice none 0 0, .bool false, .slice none 0 0] := Blk.stepsK st
  clear kp
  clear st
  obtain ⟨aa, ac, rfl⟩ := hva.shape
  have HU := Hid.mk_ hva
  clear hva
  go_wp2_with fail
  refine (PI _ _ belowB HU.out).mono ?_
  rintro e w2 ⟨vy, rfl, hvy, hb2⟩
  have st : Steps _ w2 := hb2
  have sk : Below w1.heap.size w1 w2 := belowA st
  replace B := below_steps B (Nat.le_refl _) sk
  replace ok := ok.steps sk
  replace or := or.steps sk
  replace kk := kk.then_ sk
  clear st sk
  obtain ⟨ya, yc, rfl⟩ := hvy.shape
  have HY := Hid.mk_ hvy
  clear hvy HU
  go_wp2_with fail
  refine (ME _ _ HY.out).mono ?_
  rintro e w3 ⟨vq, rfl, hvq, hb3⟩
  have st : Steps _ w3 := hb3
  have sk : Below w2.heap.size w2 w3 := belowA st
  replace B := below_steps B (Nat.le_refl _) sk
  replace ok := ok.steps sk
  replace or := or.steps sk
  replace kk := kk.then_ sk
  clear st sk
  have lk := ok.lt
  obtain ⟨cr0, cr1, cr2, cr3, fr, lr⟩ := or.s3
  obtain ⟨q1, q2, q3, q4, q5, q6, q7, q8, rfl⟩ := hvq.shape
  have Fq := Hid.mk_ hvq
  clear hvq
  go_wp2_with fail
  refine bodyPost_ret (by simp [results, Tryz.results17, go_sem, lk, cr0, cr1, cr2, cr3, fr, lr]; rfl) rfl ?_
  exact ⟨_, rfl, FE.ok (Fq.out.keeps keepsB), belowB⟩
 ·
  obtain ⟨k1, k2, k3, k4, k5, k6, k7, k8, rfl⟩ := hk.shape
  obtain ⟨la, lc, rfl⟩ := hl.shape
  generalize meanQ (pick l (clipS l o).1) = mq at *
  generalize ((clipS l o).2.1 : Int) = r at *
  generalize inI (clipS l o).1 = x at *
  generalize (clipS l o).2.2 = c at *
  have h3 : (c == 0) = false := by simpa using h0
  have h4 : (c != 0) = true := by simpa using h0
  have HK := Hid.mk_ h0
  clear hl hn hk zk h0 h24
  go_enter Tryz.func17, Tryz.ntmps17
  go_wp2_with fail
  refine (CC _ belowB).mono ?_
  rintro e w1 ⟨va, rfl, hva, hb1⟩
  have st : Steps _ w1 := hb1
  have B : Below w.heap.size w w1 := belowA st
  have ok : Blk w1 (w.heap.size) 27 #[.bool k1, .slice k2 k3 k4, .bool k5, .slice k6 k7 k8] := Blk.stepsK st
  have or : Blk w1 (w.heap.size + 1) 27 #[.bool false, .slice none 0 0, .bool false, .slice none 0 0] := Blk.stepsK st
  clear st
  have lk := ok.lt
  obtain ⟨cr0, cr1, cr2, cr3, fr, lr⟩ := or.s3
  obtain ⟨aa, ac, rfl⟩ := hva.shape
  clear hva
  go_wp2_with fail
  refine bodyPost_ret (by simp [results, Tryz.results17, go_sem, lk, cr0, cr1, cr2, cr3, fr, lr]; rfl) rfl ?_
  exact ⟨_, rfl, FE.bad HK.out, belowB⟩
end Go.Proofs.YtmpambmpknaldaaGreat
