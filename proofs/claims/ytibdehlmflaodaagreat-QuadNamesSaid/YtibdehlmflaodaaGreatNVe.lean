import Derived.Test.YtibdehlmflaodaaGreatNVc
import Derived.Test.YtibdehlmflaodaaGreatNRowU
set_option linter.unusedVariables false
set_option linter.unusedSimpArgs false
namespace Go.Proofs.YtibdehlmflaodaaGreat
open Go.RowKit
def IntsR (w : World) (v : Value) (l : List Int) : Prop := ∃ ao cap, v = .slice ao l.length cap ∧ l.length ≤ cap ∧ (l ≠ [] → ∃ b o, ao = some ⟨b, o, none⟩ ∧ b < w.heap.size ∧ ∀ t, t < l.length → w.cell? ⟨b, o + t, none⟩ = some (.int .i64 (l.getD t 0)))
theorem IntsR.steps {w w' : World} {v : Value} {l : List Int} (h : IntsR w v l) (s : Steps w w') : IntsR w' v l := by
 obtain ⟨ao, cap, e, hc, h2⟩ := h
 refine ⟨ao, cap, e, hc, fun hn => ?_⟩
 obtain ⟨b, o, e2, hb, h3⟩ := h2 hn
 exact ⟨b, o, e2, Nat.lt_of_lt_of_le hb s.size, fun t ht => (s.cell (p := ⟨b, _, none⟩) hb).trans (h3 t ht)⟩
theorem IntsR.nil (w : World) : IntsR w (.slice none 0 0) [] := ⟨none, 0, rfl, Nat.le_refl _, fun h => absurd rfl h⟩
theorem IntsR.shape {w : World} {v : Value} {l : List Int} (h : IntsR w v l) : ∃ ao cap, v = .slice ao l.length cap := by obtain ⟨ao, cap, e, _⟩ := h; exact ⟨ao, cap, e⟩
def ints (l : List Int) : List Value := l.map (.int .i64)
theorem ints_snoc (l : List Int) (x : Int) : ints (l ++ [x]) = ints l ++ [.int .i64 x] := by unfold ints; simp
theorem RowU.ints {w : World} {base n : Nat} {e : TypeId} {v : Value} {l : List Int} (h : RowU w base e 1 v n (ints l)) : IntsR w v l := by
 have hn : n = l.length := by have := h.own.1; unfold Go.Proofs.YtibdehlmflaodaaGreat.ints at this; simpa using this.symm
 subst hn
 rcases h.own.2 with ⟨rfl, h0⟩ | ⟨g, cap, cur, rfl, h1, h2, h3, h4, h5, h6⟩
 ·
  have : l = [] := List.eq_nil_of_length_eq_zero h0
  subst this
  exact IntsR.nil w
 ·
  refine ⟨_, cap, rfl, h3, fun _ => ⟨g, 0, rfl, (Array.getElem?_eq_some_iff.1 h2).1, fun t ht => ?_⟩⟩
  have c := h.own.cells (g := g) rfl t (.int .i64 (l.getD t 0)) (by unfold Go.Proofs.YtibdehlmflaodaaGreat.ints; simp [List.getD, ht])
  rw [Addr.add_lit] at c
  exact c
section
variable {ops : Array Oper} {rest : List Oper} {o : Oper} {a : Act} {w : World} {Q : Exit → Act → World → Prop}
theorem infoI : ∃ ie z, Tryz.prog.info? 3 = some ie ∧ ie.size = 1 ∧ ie.bytes = 8 ∧ ie.zero = some z ∧ z.cells = #[.int .i64 0] := by
 obtain ⟨ie, hie⟩ : ∃ ie, Tryz.prog.info? 3 = some ie := Option.isSome_iff_exists.1 (by kernel_rfl)
 have h1 : (Tryz.prog.info? 3).map (·.size) = some 1 := by kernel_rfl
 have h2 : ((Tryz.prog.info? 3).bind (·.zero)).map (·.cells) = some #[.int .i64 0] := by kernel_rfl
 have h3 : (Tryz.prog.info? 3).map (·.bytes) = some 8 := by kernel_rfl
 rw [hie] at h1 h2 h3
 simp only [Option.map_some, Option.some.injEq, Option.bind_some] at h1 h2 h3
 obtain ⟨z, hz, e⟩ := Option.map_eq_some_iff.1 h2
 exact ⟨ie, z, hie, h1, h3, hz, e⟩
theorem app_int (hgd : o.guard = none) (s x : Operand) (ho : o.op = .call { callee := .builtin .append, args := #[s, x], argTypes := #[43, 43] })
  (base n : Nat) (v : Value) (l : List Int) (hs : a.eval s = v) (hown : RowU w base 3 1 v n (ints l)) (g : Nat) (y : Int) (hx : a.eval x = .slice (some ⟨g, 0, none⟩) 1 1) (hb : Blk w g 3 #[.int .i64 y]) (hn : n ≤ 100000) (hbase : base ≤ w.heap.size)
  (h : ∀ v' w', RowU w' base 3 1 v' (n + 1) (ints (l ++ [y])) → w.grownBy w' v.ownBlock → wpList Tryz.prog ops Q rest (a.put o.dst v') w') : wpList Tryz.prog ops Q (o :: rest) a w := by
 obtain ⟨ie, z, h1, h2, h3, h4, h5⟩ := infoI
 refine wpList_plain hgd fun K hK => ?_
 refine wp_append_U w s x 43 ho base 3 ie z 1 8 Tryz.underlying43 h1 h4 h2 h3 (by rw [h5]; rfl) (by rw [h5]; rfl) (by omega) v n (ints l) hs hown ⟨g, 0, none⟩ 1 1 [.int .i64 y] hx (by omega) rfl (fun j u hj => ?_) (fun u hu => ?_) rfl (by unfold maxLen; omega) (by omega) hbase (fun v' w' hr hg => hK _ _ (h v' w' ?_ hg))
 ·
  have hc := hb.cell j
  rw [show (⟨g, 0, none⟩ : Addr).add j = ⟨g, 0 + j, none⟩ from Addr.add_lit .., Nat.zero_add, hc]
  simpa using hj
 ·
  simp only [List.mem_cons, List.not_mem_nil, or_false] at hu
  rw [hu]; rfl
 · rw [ints_snoc]; exact hr
end
def findS (n : Nat) (R : Nat → Nat → Option Rat) (q : Nat → Option Rat) (o : Option Rat) : List Int × Int :=
 if 500 < n then ([], 4) else if wholeL R n && wholeQ q 4 then (if limB o then (found R q (rq (fun _ => o) 0) n, 0) else ([], 2)) else ([], 8)
theorem found_le (R : Nat → Nat → Option Rat) (q : Nat → Option Rat) (off : Rat) {n : Nat} (hn : n ≤ 1000) : (found R q off n).length ≤ 100000 := by have := found_len R q off n; omega
theorem RowU.len {w : World} {base : Nat} {e : TypeId} {size n : Nat} {v : Value} {xs : List Value} (h : RowU w base e size v n xs) : ∃ a c, v = .slice a n c := by
 rcases h.own.2 with ⟨rfl, rfl⟩ | ⟨g, cap, cur, rfl, _⟩
 · exact ⟨_, _, rfl⟩
 · exact ⟨_, _, rfl⟩
theorem RowU.below {w w' w0 : World} {base n size : Nat} {e : TypeId} {v : Value} {xs : List Value} (h : RowU w base e size v n xs) (hg : w.grownBy w' v.ownBlock) (hb : Below w0.heap.size w0 w) (hle : w0.heap.size ≤ base) : Below w0.heap.size w0 w' :=
 hb.grown hg hb.size fun k hk => Nat.le_trans hle (h.lt k hk).1
theorem RowU.blk {w w' : World} {base n b size : Nat} {e t : TypeId} {v : Value} {xs : List Value} {cs : Array Value} (h : RowU w base e size v n xs) (hg : w.grownBy w' v.ownBlock) (hb : Blk w b t cs) (hlt : b < base) : Blk w' b t cs :=
 (hg.block b hb.lt fun e1 => by have := (h.lt b e1.symm).1; omega).trans hb
set_option maxHeartbeats 6400000 in
set_option maxRecDepth 1000000 in
theorem qFind {v vf : Value} {n : Nat} {CS : Nat → Array Value} {R : Nat → Nat → Option Rat} {CQ : Array Value} {q : Nat → Option Rat} {o : Option Rat} (w : World) (h : QSl w v n CS R) (hn : n ≤ 1000) (hq : QX w CQ q) (hf : FB w vf o) (sR : ∀ t, t < n → ∀ i, i < 4 → sz (rq (R t) i) 500) (sq : ∀ i, i < 4 → sz (rq q i) 500) (sf : sz (rq (fun _ => o) 0) 500) :
  Calls Tryz.prog 9 #[v, .agg CQ, vf] w fun e w' => ∃ u, e = .returned (.tuple #[u, .int .i64 (findS n R q o).2]) ∧ IntsR w' u (findS n R q o).1 ∧ Steps w w' := by
 have ia : (Tryz.prog.info? 33).map (·.size) = some CQ.size := by rw [hq.1]; kernel_rfl
 have za := hq.1
 obtain ⟨t1, t2, t3, t4, t5, t6, t7, t8, rfl⟩ := hf.shape
 obtain ⟨ao, cap, rfl⟩ := h.shape
 have HS := Hid.mk_ h
 have wl : ∀ w', Steps w w' → Calls Tryz.prog 21 #[.slice ao n cap] w' fun e w2 => e = .returned (.bool (wholeL R n)) ∧ Steps w' w2 := fun w' s => qwhole w' (h.steps s) hn
 have wq : ∀ w' g, Keeps w w' → Blk w' g 33 CQ → Calls Tryz.prog 21 #[.slice (some ⟨g, 0, none⟩) 1 1] w' fun e w2 => e = .returned (.bool (wholeQ q 4)) ∧ Steps w' w2 := fun w' g k hb => by
  have := qwhole w' ((hq.keeps k).one hb) (by omega)
  rw [wholeL_one] at this
  exact this
 have ck : ∀ w', Keeps w w' → Calls Tryz.prog 22 #[.agg #[.bool t1, .slice t2 t3 t4, .bool t5, .slice t6 t7 t8]] w' fun e w2 => e = .returned (.int .i64 (okC o.isSome)) ∧ Steps w' w2 := fun w' k => fcheck_fb w' (hf.keeps k)
 have nr : wholeL R n = true → wholeQ q 4 = true → limB o = true → ∀ t, t < n → ∀ w', Keeps w w' → Calls Tryz.prog 23 #[.agg (CS t), .agg CQ, .agg #[.bool t1, .slice t2 t3 t4, .bool t5, .slice t6 t7 t8]] w' fun e w2 => e = .returned (.tuple #[.bool (nearQ (rq (R t)) (rq q) (rq (fun _ => o) 0) 4), .int .i64 0]) ∧ Steps w' w2 := fun h1 h2 h3 t ht w' k => by
  obtain ⟨z, rfl, -⟩ := lim_some h3
  exact qnear w' (((h.1 t ht).qv (wholeL_get h1 t ht)).keeps k) ((hq.qv h2).keeps k) (FR.keeps hf k) (sR t ht) sq sf
 have hl := hf.neg
 have HN : Hid (findS n R q o = if 500 < n then ([], 4) else if wholeL R n && wholeQ q 4 then (if limB o then (found R q (rq (fun _ => o) 0) n, 0) else ([], 2)) else ([], 8)) := Hid.mk_ rfl
 generalize findS n R q o = N at *
 have HF : ∀ t, found R q (rq (fun _ => o) 0) (t + 1) = if nearQ (rq (R t)) (rq q) (rq (fun _ => o) 0) 4 then found R q (rq (fun _ => o) 0) t ++ [(t : Int)] else found R q (rq (fun _ => o) 0) t := fun t => rfl
 have HF0 : found R q (rq (fun _ => o) 0) 0 = [] := rfl
 have HFL : ∀ t, t ≤ n → (found R q (rq (fun _ => o) 0) t).length ≤ 100000 := fun t ht => found_le _ _ _ (by omega)
 generalize hfd : found R q (rq (fun _ => o) 0) = fd at *
 obtain ⟨nf, hnf⟩ : ∃ nf : Nat → Bool, ∀ t, nearQ (rq (R t)) (rq q) (rq (fun _ => o) 0) 4 = nf t := ⟨_, fun _ => rfl⟩
 simp only [hnf] at nr HF
 have HF' := Hid.mk_ HF
 have HFL' := Hid.mk_ HFL
 clear HF HFL hfd hnf
 generalize wholeL R n = wa at *
 generalize wholeQ q 4 = wb at *
 generalize limB o = lo at *
 generalize o.isSome = so at *
 clear h hq hf sR sq sf
 go_enter Tryz.func9, Tryz.ntmps9
 by_cases g5 : 500 < n
 ·
  have g5' : (500 : Int) < (n : Int) := by omega
  have N0 : Hid (N = ([], 4)) := Hid.mk_ (by rw [HN.out, if_pos g5])
  clear HN wl wq ck nr
  go_wp2_with fail
  go_returns
  exact ⟨_, by rw [N0.out]; rfl, by rw [N0.out]; exact IntsR.nil _, belowB⟩
 have g5' : ¬ (500 : Int) < (n : Int) := by omega
 have HN1 : Hid (N = if wa && wb then (if lo then (fd n, 0) else ([], 2)) else ([], 8)) := Hid.mk_ (by rw [HN.out, if_neg g5])
 clear HN
 go_wp2_with fail
 refine (wl _ belowB).mono ?_
 rintro e w1 ⟨rfl, hs1⟩
 have kk : Keeps w w1 := Keeps.then_ keepsB hs1
 have oq : Blk w1 (w.heap.size) 33 CQ := Blk.stepsK hs1
 have oc : Blk w1 (w.heap.size + 1) 30 #[.bool t1, .slice t2 t3 t4, .bool t5, .slice t6 t7 t8] := Blk.stepsK hs1
 have B : Below w.heap.size w w1 := belowA hs1
 clear hs1
 clear wl
 cases wa with
 | false =>
  have N0 : Hid (N = ([], 8)) := Hid.mk_ HN1.out
  clear HN1 wq ck nr
  go_wp2_with fail
  go_returns
  exact ⟨_, by rw [N0.out]; rfl, by rw [N0.out]; exact IntsR.nil _, belowB⟩
 | true =>
  have zz1 := B.size
  dsimp only
  repeat' (first | ((with_reducible show wpList _ _ _ (⟨some 22, _, _, _, _, _⟩ :: _) _ _); refine load_bigH rfl 33 (.tmp 4) rfl (w.heap.size) rfl 33 CQ _ oq Tryz.underlying33 rfl ia ?_) | ((with_reducible show wpList _ _ _ (⟨some 23, _, _, _, _, _⟩ :: _) _ _); refine quad1G rfl (.tmp 22) rfl CQ rfl za ?_) | go_values | go_skip | go_guarded | go_step | go_upon)
  refine (wq _ _ (kk.trans keepsB) ownK).mono ?_
  rintro e w2 ⟨rfl, hs2⟩
  replace kk : Keeps w w2 := (kk.trans keepsB).then_ hs2
  replace oq : Blk w2 (w.heap.size) 33 CQ := Blk.stepsK hs2
  replace oc : Blk w2 (w.heap.size + 1) 30 #[.bool t1, .slice t2 t3 t4, .bool t5, .slice t6 t7 t8] := Blk.stepsK hs2
  replace B : Below w.heap.size w w2 := belowA hs2
  clear hs2
  clear wq
  cases wb with
  | false =>
   have N0 : Hid (N = ([], 8)) := Hid.mk_ HN1.out
   clear HN1 ck nr
   go_wp2_with fail
   go_returns
   exact ⟨_, by rw [N0.out]; rfl, by rw [N0.out]; exact IntsR.nil _, belowB⟩
  | true =>
   replace nr := nr rfl rfl
   have cc0 := oc.c 0 rfl
   have cc1 := oc.c 1 rfl
   have cc2 := oc.c 2 rfl
   have cc3 := oc.c 3 rfl
   go_wp2_with fail
   refine (ck _ (kk.trans keepsB)).mono ?_
   rintro e w3 ⟨rfl, hs3⟩
   clear cc0 cc1 cc2 cc3
   replace kk : Keeps w w3 := (kk.trans keepsB).then_ hs3
   replace oq : Blk w3 (w.heap.size) 33 CQ := Blk.stepsK hs3
   replace oc : Blk w3 (w.heap.size + 1) 30 #[.bool t1, .slice t2 t3 t4, .bool t5, .slice t6 t7 t8] := Blk.stepsK hs3
   replace B : Below w.heap.size w w3 := belowA hs3
   clear hs3
   clear ck
   have cc0 := oc.c 0 rfl
   have cc1 := oc.c 1 rfl
   have cc2 := oc.c 2 rfl
   have cc3 := oc.c 3 rfl
   cases so with
   | false =>
    have e0 : lo = false := hl
    rw [e0] at HN1
    have N0 : Hid (N = ([], 2)) := Hid.mk_ HN1.out
    clear HN1 nr hl
    rw [show okC false = 8 from rfl]
    go_wp2_with fail
    go_returns
    exact ⟨_, by rw [N0.out]; rfl, by rw [N0.out]; exact IntsR.nil _, belowB⟩
   | true =>
    rw [show okC true = 0 from rfl]
    cases t1 with
    | true =>
     have e0 : lo = false := hl
     rw [e0] at HN1
     have N0 : Hid (N = ([], 2)) := Hid.mk_ HN1.out
     clear HN1 nr hl
     go_wp2_with fail
     go_returns
     exact ⟨_, by rw [N0.out]; rfl, by rw [N0.out]; exact IntsR.nil _, belowB⟩
    | false =>
     have e0 : lo = true := hl
     rw [e0] at HN1
     have HN2 : Hid (N = (fd n, 0)) := Hid.mk_ HN1.out
     replace nr := nr e0
     clear hl e0 HN1
     go_wp2_with fail
     clear cc0 cc1 cc2 cc3
     go_loopw [8, 38] (fun oo kk wr => ∃ (t : Nat) (ow : Value), ow = oo ∧ t ≤ n ∧ kk = .int .i64 t ∧ RowU wr (w.heap.size + 2) 3 1 ow (fd t).length (ints (fd t)) ∧ Blk wr (w.heap.size) 33 CQ ∧ Blk wr (w.heap.size + 1) 30 #[.bool false, .slice t2 t3 t4, .bool t5, .slice t6 t7 t8] ∧ Below w.heap.size w wr ∧ Keeps w wr) (fun _ kk _ => n - (intOf kk).toNat)
     case atStart => exact ⟨0, _, rfl, Nat.zero_le _, rfl, by rw [HF0]; exact RowU.nil _ _ _ _, ownK, ownK, belowB, kk.trans keepsB⟩
     case round =>
      obtain ⟨t, ow, rfl, ht, rfl, hr, zq, zc, zB, zk⟩ := hrel
      clear oq oc B kk
      have oq := zq
      have oc := zc
      have B := zB
      have kk := zk
      clear zq zc zB zk
      obtain ⟨oa, ocap, rfl⟩ := hr.len
      have HR := Hid.mk_ hr
      clear hr
      rcases Nat.lt_or_ge t n with tn | tn
      ·
       have hlt : decide ((t : Int) < (n : Int)) = true := decide_eq_true (by omega)
       obtain ⟨b, o', rfl, hb, hcell⟩ := HS.out.at tn
       have qx := HS.out.1 t tn
       have nc := nr t tn
       have HFt := Hid.mk_ (HF'.out t)
       have hfl := HFL'.out t ht
       obtain ⟨C, hC⟩ : ∃ C, CS t = C := ⟨_, rfl⟩
       rw [hC] at hcell qx nc
       have hsz := qx.1
       have hone := qx.2.1
       have hcw : ∀ j, j < C.size → wr.cell? ⟨b, o' + t * 20 + j, none⟩ = C[j]? := fun j hj => (B.cell (p := ⟨b, _, none⟩) hb).trans (hcell j (by omega))
       have ic : (Tryz.prog.info? 33).map (·.size) = some C.size := by rw [hsz]; kernel_rfl
       generalize nf t = nt at *
       have zz := B.size
       have cc0 := oc.c 0 rfl
       have cc1 := oc.c 1 rfl
       have cc2 := oc.c 2 rfl
       have cc3 := oc.c 3 rfl
       have lc := oc.lt
       clear hcell hC qx nr
       repeat' (first | ((with_reducible show wpList _ _ _ (⟨some 42, _, _, _, _, _⟩ :: _) _ _); refine load_at rfl 33 (.tmp 41) rfl b (o' + t * 20) rfl C _ hcw Tryz.underlying33 rfl ic ?_) | ((with_reducible show wpList _ _ _ (⟨none, .store _ _ _, _, _, _, _⟩ :: _) _ _); refine store_big rfl 33 (.tmp 10) (.tmp 42) rfl wr.heap.size C rfl rfl 33 #[.int .i64 0, .int .i64 0, .int .i64 0, .int .i64 0, .bool false, .slice none 0 0, .bool false, .slice none 0 0, .bool false, .slice none 0 0, .bool false, .slice none 0 0, .bool false, .slice none 0 0, .bool false, .slice none 0 0, .bool false, .slice none 0 0, .bool false, .slice none 0 0] ownK ic hsz.symm hone (fun w5 r5 => ?_); have oq5 := r5.far (oq.alloc _) (by omega); have oc5 := r5.far (oc.alloc _) (by omega); have ok5 := r5.blk; have cd0 := oc5.c 0 rfl; have cd1 := oc5.c 1 rfl; have cd2 := oc5.c 2 rfl; have cd3 := oc5.c 3 rfl) | ((with_reducible show wpList _ _ _ (⟨some 44, _, _, _, _, _⟩ :: _) _ _); refine load_big rfl 33 (.tmp 10) rfl (wr.heap.size) rfl 33 C _ ok5 Tryz.underlying33 rfl ic ?_) | ((with_reducible show wpList _ _ _ (⟨some 45, _, _, _, _, _⟩ :: _) _ _); refine load_big rfl 33 (.tmp 4) rfl (w.heap.size) rfl 33 CQ _ oq5 Tryz.underlying33 rfl ia ?_) | go_values | go_skip | go_guarded | go_step | go_upon)
       have B5 : Below w.heap.size w w5 := r5.below (B.alloc B.size _) B.size
       have kw : Keeps wr w5 := Keeps.trans keepsB (r5.keeps rfl)
       have hr5 : RowU w5 (w.heap.size + 2) 3 1 (.slice oa (fd t).length ocap) (fd t).length (ints (fd t)) := (HR.out.alloc _).keep fun g hg => r5.only.2 g (by have := (HR.out.lt g hg).2; omega)
       refine (nc _ (kk.trans kw)).mono ?_
       rintro e w6 ⟨rfl, hs6⟩
       have oq6 : Blk w6 (w.heap.size) 33 CQ := oq5.steps hs6
       have oc6 : Blk w6 (w.heap.size + 1) 30 #[.bool false, .slice t2 t3 t4, .bool t5, .slice t6 t7 t8] := oc5.steps hs6
       have B6 : Below w.heap.size w w6 := below_steps B5 (Nat.le_refl _) hs6
       have k6 : Keeps w w6 := (kk.trans kw).then_ hs6
       have HR6 := Hid.mk_ (hr5.steps hs6)
       clear r5 oq5 oc5 ok5 cd0 cd1 cd2 cd3 cc0 cc1 cc2 cc3 hs6 B5 kw hr5 nc hcw ic hone oq oc B kk HR lc zz hsz
       have zz := B6.size
       have lc := oc6.lt
       cases nt with
       | false =>
        go_wp2_with fail
        go_roundw
        case rel => exact ⟨t + 1, _, rfl, by omega, by go_num, by rw [HFt.out]; exact HR6.out, oq6, oc6, B6, k6⟩
        case measure => simp [intOf]; omega
       | true =>
        dsimp only
        repeat' (first | ((with_reducible show wpList _ _ _ (⟨some 57, _, _, _, _, _⟩ :: _) _ _); refine app_int rfl (.tmp 54) (.tmp 56) rfl (w.heap.size + 2) (fd t).length (.slice oa (fd t).length ocap) (fd t) rfl (HR6.out.alloc _) w6.heap.size t rfl (Blk.new _ _ _) hfl (by rw [World.size_alloc]; omega) (fun v' w7 hr7 hg7 => ?_)) | go_values | go_skip | go_guarded | go_step | go_upon)
        obtain ⟨oa', ocap', rfl⟩ := hr7.len
        have r6 := HR6.out.alloc (.cells #[.int .i64 (t : Int)] 3)
        have oq7 := r6.blk hg7 (oq6.alloc _) (by omega)
        have oc7 := r6.blk hg7 (oc6.alloc _) (by omega)
        have B7 := r6.below hg7 (B6.alloc B6.size _) (by omega)
        have k7 : Keeps w w7 := (k6.alloc _).trans (r6.keeps hg7)
        have HR7 := Hid.mk_ hr7
        clear r6 hg7 hr7 HR6 oq6 oc6 B6 k6 hfl
        go_roundw
        case rel => exact ⟨t + 1, _, rfl, by omega, by go_num, by rw [HFt.out]; simpa using HR7.out, oq7, oc7, B7, k7⟩
        case measure => simp [intOf]; omega
      ·
       obtain rfl : t = n := by omega
       go_wp2_with fail
       go_returns
       exact ⟨_, by rw [HN2.out]; rfl, by rw [HN2.out]; exact HR.out.ints, B⟩
end Go.Proofs.YtibdehlmflaodaaGreat
