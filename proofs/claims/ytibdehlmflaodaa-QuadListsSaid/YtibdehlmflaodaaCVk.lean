import Derived.Test.YtibdehlmflaodaaCVi
import Derived.Test.YtibdehlmflaodaaCQx
import Derived.Deep.Upon
namespace Go.Proofs.Ytibdehlmflaodaa
open Go.RowKit
theorem QF.qmn {w : World} {cs : Array Value} {k : Nat → Int} {r : Nat → Rat} (h : QF w cs k r) : QM w cs k (fun i => (r i).num) (fun i => ((r i).den : Int)) := by
  refine ⟨h.1, h.2.1, h.2.2.1, fun i hi => ?_⟩
  obtain ⟨a1, a2, a3, a4, a5, a6, a7, a8, c0, c1, c2, c3, f⟩ := h.2.2.2 i hi
  obtain ⟨b2, b3, b4, b6, b7, b8, e, n1, n2, -⟩ := f.nums
  simp only [Value.agg.injEq, Array.mk.injEq, List.cons.injEq, and_true] at e
  obtain ⟨e1, e2, e3, e4⟩ := e
  rw [← e1, ← e2] at n1
  rw [← e3, ← e4] at n2
  exact ⟨_, _, _, _, c0, c1, c2, c3, n1, n2⟩
theorem QF.fits {w : World} {cs : Array Value} {k : Nat → Int} {r : Nat → Rat} (h : QF w cs k r) (i : Nat) (hi : i < 4) : Go.Proofs.Ytibdehlmflaodaa.fits (r i).num ∧ Go.Proofs.Ytibdehlmflaodaa.fits ((r i).den : Int) := by
  obtain ⟨a1, a2, a3, a4, a5, a6, a7, a8, c0, c1, c2, c3, f⟩ := h.2.2.2 i hi
  exact f.fit
theorem rSameF {CA CB : Array Value} {k : Nat → Int} {r : Nat → Rat} (w : World) (ha : QF w CA k r) (hb : QF w CB k r) : Calls Try.prog 12 #[.agg CA, .agg CB] w fun e w' => e = .returned (.bool true) ∧ Steps w w' :=
  rSame w ha.qmn hb.qmn (fun i hi => (ha.fits i hi).1) (fun i hi => (ha.fits i hi).2)
theorem QAs.at {w : World} {v : Value} {qa : List Arr} (h : QAs w v qa) : ∃ (ao : Option Addr) (cap : Nat) (CS : Nat → Array Value), v = .slice ao qa.length cap ∧ ∀ t, t < qa.length → ∃ b o, ao = some ⟨b, o, none⟩ ∧ b < w.heap.size ∧ QF w (CS t) (kA (qa.getD t noArr)) (rA (qa.getD t noArr)) ∧ ∀ j, j < 20 → w.cell? ⟨b, o + t * 20 + j, none⟩ = (CS t)[j]? := by
  obtain ⟨ao, cap, e, hc, CS, h1, h2⟩ := h
  refine ⟨ao, cap, CS, e, fun t ht => ?_⟩
  obtain ⟨b, o, e2, hb, h3⟩ := h2 (by omega)
  exact ⟨b, o, e2, hb, h1 t ht, h3 t ht⟩
set_option maxHeartbeats 6400000 in
set_option maxRecDepth 1000000 in
theorem rsameList {va vb : Value} {qa : List Arr} (w : World) (h : QAs w va qa) (h' : QAs w vb qa) (hl : qa.length ≤ 100000) : Calls Try.prog 23 #[va, vb] w fun e w' => e = .returned (.bool true) ∧ Steps w w' := by
  obtain ⟨ao, cap, CS, rfl, ha⟩ := h.at
  obtain ⟨bo, cbp, CT, rfl, hb⟩ := h'.at
  have HA := Hid.mk_ ha
  have HB := Hid.mk_ hb
  obtain ⟨n, hn⟩ : ∃ n, qa.length = n := ⟨_, rfl⟩
  rw [hn] at HA HB hl ⊢
  clear h h' ha hb hn
  go_enter Try.func23, Try.ntmps23
  go_wp2_with fail
  go_loopw [5] (fun kk wr => ∃ i : Nat, i ≤ n ∧ kk = .int .i64 i ∧ Below w.heap.size w wr) (fun kk _ => n - (intOf kk).toNat)
  case atStart => exact ⟨0, by omega, rfl, belowB⟩
  case round =>
    obtain ⟨i, hi, rfl, B⟩ := hrel
    rcases Nat.lt_or_ge i n with i4 | i4
    · have hlt : decide ((i : Int) < (n : Int)) = true := decide_eq_true (by omega)
      obtain ⟨b, o, rfl, hb, qa1, hca⟩ := HA.out i i4
      obtain ⟨b', o', rfl, hb', qb1, hcb⟩ := HB.out i i4
      have sm : ∀ W, Steps wr W → Calls Try.prog 12 #[.agg (CS i), .agg (CT i)] W fun e w2 => e = .returned (.bool true) ∧ Steps W w2 := fun W s => rSameF W (qa1.steps (below_steps B (Nat.le_refl _) s)) (qb1.steps (below_steps B (Nat.le_refl _) s))
      have sa := qa1.1
      have sb := qb1.1
      obtain ⟨CA, hCA⟩ : ∃ C, CS i = C := ⟨_, rfl⟩
      obtain ⟨CB, hCB⟩ : ∃ C, CT i = C := ⟨_, rfl⟩
      rw [hCA] at hca sm sa
      rw [hCB] at hcb sm sb
      have hA : ∀ W, Steps wr W → ∀ j, j < CA.size → W.cell? ⟨b, o + i * 20 + j, none⟩ = CA[j]? := fun W s j hj => ((below_steps B (Nat.le_refl _) s).cell (p := ⟨b, _, none⟩) hb).trans (hca j (by omega))
      have hB : ∀ W, Steps wr W → ∀ j, j < CB.size → W.cell? ⟨b', o' + i * 20 + j, none⟩ = CB[j]? := fun W s j hj => ((below_steps B (Nat.le_refl _) s).cell (p := ⟨b', _, none⟩) hb').trans (hcb j (by omega))
      have ia : (Try.prog.info? 31).map (·.size) = some CA.size := by rw [sa]; kernel_rfl
      have ib : (Try.prog.info? 31).map (·.size) = some CB.size := by rw [sb]; kernel_rfl
      clear qa1 qb1 hca hcb hCA hCB sa sb
      repeat' (first | go_values | go_skip | go_guarded | go_step | go_upon)
      refine Reg.wp_chain (fun D v W => Below wr.heap.size wr W ∧ True) (Reg.inl [8]) (Reg.gv [(8, fun z_ => z_ = .bool true)]) Reg.None_ (fun _ => Reg.Any) (fun _ _ => False) (Reg.pl []) (Reg.pl [])
        (by kernel_rfl) (by kernel_rfl) (by kernel_rfl) (Reg.gv_some _ (by intro p hp; simp only [List.mem_cons, List.not_mem_nil, or_false] at hp; rcases hp with rfl <;> first | exact ⟨_, rfl⟩ | exact ⟨_, none, 0, 0, rfl⟩ | exact ⟨_, false, none, 0, 0, rfl⟩ | exact ⟨_, false, none, 0, 0, false, none, 0, 0, rfl⟩)) (fun _ => ⟨belowB, trivial⟩) (fun _ _ _ _ _ h => h) (fun _ _ _ _ _ _ _ _ _ _ _ _ _ => Reg.none_) (fun _ _ _ _ h => h.elim) (fun ops' Q' hops hQ => ?_)
      apply Reg.RC_pure (hc := rfl) (hst := rfl) (hw := rfl) (t := 17) (hd := rfl) (ht := Nat.le_of_ble_eq_true rfl)
      · intro D v W hc hj hf K' hK'
        go_step
        exact hK'.out
      · rfl
      apply Reg.RC_pure (hc := rfl) (hst := rfl) (hw := rfl) (t := 18) (hd := rfl) (ht := Nat.le_of_ble_eq_true rfl)
      · intro D v W hc hj hf K' hK'
        go_step
        exact hK'.out
      · rfl
      apply Reg.RC_pure (hc := rfl) (hst := rfl) (hw := rfl) (t := 19) (hd := rfl) (ht := Nat.le_of_ble_eq_true rfl)
      · intro D v W hc hj hf K' hK'
        go_step
        exact hK'.out
      · rfl
      apply Reg.RC_pure (hc := rfl) (hst := rfl) (hw := rfl) (t := 20) (hd := rfl) (ht := Nat.le_of_ble_eq_true rfl)
      · intro D v W hc hj hf K' hK'
        obtain ⟨j0, _⟩ := hj
        exact wp_load_at 31 (.tmp 19) rfl b (o + i * 20) rfl CA _ (hA W j0) Try.underlying31 rfl ia hK'.out
      · rfl
      apply Reg.RC_pure (hc := rfl) (hst := rfl) (hw := rfl) (t := 21) (hd := rfl) (ht := Nat.le_of_ble_eq_true rfl)
      · intro D v W hc hj hf K' hK'
        go_step
        exact hK'.out
      · rfl
      apply Reg.RC_pure (hc := rfl) (hst := rfl) (hw := rfl) (t := 22) (hd := rfl) (ht := Nat.le_of_ble_eq_true rfl)
      · intro D v W hc hj hf K' hK'
        go_step
        exact hK'.out
      · rfl
      apply Reg.RC_pure (hc := rfl) (hst := rfl) (hw := rfl) (t := 23) (hd := rfl) (ht := Nat.le_of_ble_eq_true rfl)
      · intro D v W hc hj hf K' hK'
        go_step
        exact hK'.out
      · rfl
      apply Reg.RC_pure (hc := rfl) (hst := rfl) (hw := rfl) (t := 24) (hd := rfl) (ht := Nat.le_of_ble_eq_true rfl)
      · intro D v W hc hj hf K' hK'
        obtain ⟨j0, _⟩ := hj
        exact wp_load_at 31 (.tmp 23) rfl b' (o' + i * 20) rfl CB _ (hB W j0) Try.underlying31 rfl ib hK'.out
      · rfl
      refine Reg.RC_call rfl (by intro t ht; cases ht; exact Nat.le_of_ble_eq_true rfl) rfl (fun D v W hc hj hf K' hK' => ?_) ?_
      · obtain ⟨j0, _⟩ := hj
        go_step
        refine (sm _ j0).mono ?_
        rintro e W2 ⟨rfl, hs⟩
        exact hK'.out _ W2 Reg.any ⟨below_steps j0 (Nat.le_refl _) hs, trivial⟩ trivial rfl
      rintro _ rfl
      refine Reg.RC_at (b := ⟨#[_,_,_,_,_,_,_,_,_,_,_,_,_,_,_,_,_,_,_,_,_,_,_,_,_,_,_], _⟩) rfl ?_
      apply Reg.RC_pure (hc := rfl) (hst := rfl) (hw := rfl) (t := 26) (hd := rfl) (ht := Nat.le_of_ble_eq_true rfl)
      · intro D v W hc hj hf K' hK'
        go_step
        exact hK'.out
      · rfl
      refine Reg.RC_end (fun D v w9 hd hj hf => ?_)
      obtain ⟨j0, _⟩ := hj
      have B9 := j0
      clear hd hf j0
      refine hQ _ _ ?_
      clear hQ hops Q' ops'
      dsimp only [Act.put]
      have B6 := below_steps B (Nat.le_refl _) B9
      go_wp2
      go_roundw
      case rel => exact ⟨i + 1, by omega, by go_num, B6⟩
      case measure => simp [intOf]; omega
    · obtain rfl : i = n := by omega
      go_wp2
      go_returns
      exact ⟨rfl, B⟩
theorem infoP : ∃ ie z, Try.prog.info? 43 = some ie ∧ ie.size = 2 ∧ ie.bytes = 16 ∧ ie.zero = some z ∧ z.cells.size = 2 := by
  obtain ⟨ie, hie⟩ : ∃ ie, Try.prog.info? 43 = some ie := Option.isSome_iff_exists.1 (by kernel_rfl)
  have h1 : (Try.prog.info? 43).map (·.size) = some 2 := by kernel_rfl
  have h2 : ((Try.prog.info? 43).bind (·.zero)).map (·.cells.size) = some 2 := by kernel_rfl
  have h3 : (Try.prog.info? 43).map (·.bytes) = some 16 := by kernel_rfl
  rw [hie] at h1 h2 h3
  simp only [Option.map_some, Option.some.injEq, Option.bind_some] at h1 h2 h3
  obtain ⟨z, hz, e⟩ := Option.map_eq_some_iff.1 h2
  exact ⟨ie, z, hie, h1, h3, hz, e⟩
theorem app_pts {ops : Array Oper} {rest : List Oper} {o : Oper} {a : Act} {w : World} {Q : Exit → Act → World → Prop} (hgd : o.guard = none) (s x : Operand) (ho : o.op = .call { callee := .builtin .append, args := #[s, x], argTypes := #[22, 22] })
    (g : Nat) (hs : a.eval s = .slice (some ⟨g, 0, none⟩) 0 0) (hb : Blk w g 43 #[]) (v : Value) (l : PL) (hx : a.eval x = v) (hv : Pts w v l) (hl : l.length ≤ 100000)
    (h : ∀ v' w', Pts w' v' l → w.grownBy w' (some g) → wpList Try.prog ops Q rest (a.put o.dst v') w') : wpList Try.prog ops Q (o :: rest) a w := by
  obtain ⟨ie, z, h1, h2, h3, h4, h5⟩ := infoP
  refine wpList_plain hgd fun K hK => ?_
  rcases Nat.eq_zero_or_pos l.length with h0 | h0
  · have e0 : l = [] := List.eq_nil_of_length_eq_zero h0
    subst e0
    obtain ⟨hbd, ao, cap, rfl, hc, -⟩ := hv
    have hsrc : Src Try.prog ie.size 22 (.slice ao 0 cap) 0 [] w := by
      cases ao with
      | none => exact Src.ofNil w Try.underlying22 cap
      | some ad => exact Src.ofSlice w Try.underlying22 ad 0 cap [] (by simp) (fun j u hj => by cases hj) (fun u hu => by cases hu)
    have hr := run_append_nothing w 22 22 o.type 43 ie Try.underlying22 h1 (some ⟨g, 0, none⟩) 0 0 (Nat.le_refl _) _ hsrc
    unfold Oper.wp execOp
    simp only [ho, resolve, invoke, builtin, Sem.run_bind, Sem.run_pure, Result.andThen_ok, List.map_toArray, List.map_cons, List.map_nil, hs, hx, List.length_nil]
    rw [hr]
    exact hK _ _ (h _ w ⟨hbd, _, 0, rfl, Nat.le_refl _, fun hne => absurd rfl hne⟩ ⟨rfl, rfl, rfl, Nat.le_refl _, fun _ _ _ => rfl⟩)
  · obtain ⟨ao, cap, rfl⟩ := hv.shape
    obtain ⟨-, hc, hm⟩ := hv.cells
    obtain ⟨b, of, rfl, hbl, hcell⟩ := hm h0
    refine wp_append_own_wide w s x 22 ho g 43 ie z 2 16 Try.underlying22 h1 h4 h2 h3 h5 (by omega) (.slice (some ⟨g, 0, none⟩) 0 0) 0 [] hs ⟨rfl, .inr ⟨g, 0, #[], rfl, Nat.le_refl _, hb, Nat.le_refl _, by unfold maxLen; omega, rfl, rfl⟩⟩ ⟨b, of, none⟩ l.length cap (pcs l) hx (pcs_len l) (fun j u hj => ?_) (fun u hu => ?_) (by unfold maxLen; omega) (by omega) (Nat.le_of_lt hb.lt) (fun v' w' hr hg _ => ?_)
    · have hjl : j < l.length * 2 := by
        rcases Nat.lt_or_ge j (pcs l).length with g | g
        · rwa [pcs_len] at g
        · rw [List.getElem?_eq_none g] at hj; cases hj
      rw [show (⟨b, of, none⟩ : Addr).add j = ⟨b, of + j, none⟩ from Addr.add_lit ..]
      obtain ⟨q1, q2⟩ := pcs_get l (j / 2) (by omega)
      obtain ⟨p1, p2⟩ := hcell (j / 2) (by omega)
      rcases (show j = j / 2 * 2 ∨ j = j / 2 * 2 + 1 by omega) with e | e
      · rw [e] at hj ⊢
        rw [q1] at hj; rw [← hj]; exact p1
      · rw [e] at hj ⊢
        rw [q2] at hj; rw [← hj, ← Nat.add_assoc]; exact p2
    · unfold pcs at hu
      obtain ⟨p, -, hp⟩ := List.mem_flatMap.1 hu
      simp only [List.mem_cons, List.not_mem_nil, or_false] at hp
      rcases hp with rfl | rfl <;> rfl
    · rw [Nat.zero_add, List.nil_append] at hr
      exact hK _ _ (h v' w' (Pts.own hr hv.1) hg)
theorem eq_pt (x y : Int) (w : World) : (Op.equalIn 10000 43 (.agg #[.int .i64 x, .int .i64 y]) (.agg #[.int .i64 x, .int .i64 y])).run Try.prog w = .ok true w := by
  have one : ∀ k : Int, (Op.equalIn 9999 2 (.int .i64 k) (.int .i64 k)).run Try.prog w = .ok true w := fun k => by
    have : (Op.equalIn 9999 2 (.int .i64 k) (.int .i64 k)).run Try.prog w = .ok (k == k) w := by kernel_rfl
    rw [this]; simp
  have p0 : (part 2 #[.int .i64 x, .int .i64 y] 0).run Try.prog w = .ok (.int .i64 x) w := by kernel_rfl
  have p1 : (part 2 #[.int .i64 x, .int .i64 y] 1).run Try.prog w = .ok (.int .i64 y) w := by kernel_rfl
  have hm : (Try.prog.fieldsOf 43).toList.map (fun f => (decide (f.name = "_"), f.type, f.offset)) = [(false, 2, 0), (false, 2, 1)] := by kernel_rfl
  rw [show (10000 : Nat) = 9999 + 1 from rfl, run_equalIn_struct w 9999 _ _ _ (by kernel_rfl) (by kernel_rfl)]
  generalize (Try.prog.fieldsOf 43).toList = fs at hm
  rcases fs with _ | ⟨f0, _ | ⟨f1, _ | ⟨f2, r⟩⟩⟩
  · exact absurd (congrArg List.length hm) (by simp)
  · exact absurd (congrArg List.length hm) (by simp)
  · simp only [List.map_cons, List.map_nil, List.cons.injEq, Prod.mk.injEq, decide_eq_false_iff_not, and_true] at hm
    obtain ⟨⟨n0, t0, o0⟩, n1, t1, o1⟩ := hm
    simp only [Op.eqFields, t0, t1, o0, o1, ne_eq, n0, n1, not_false_eq_true, if_true, Sem.run_bind, p0, p1, one, Result.andThen_ok, Bool.not_true, Bool.false_eq_true, if_false, Sem.run_pure]
  · exact absurd (congrArg List.length hm) (by simp)
set_option maxHeartbeats 6400000 in
set_option maxRecDepth 1000000 in
theorem lists_walk {v : Value} {l : PL} (most : Int) (w : World) (hv : Pts w v l) :
    Calls Try.prog 6 #[v, .int .i64 most] w fun e w' => e = .returned (.bool true) ∧ Steps w w' := by
  have aA : l.length ≤ 1000 → (0 ≤ most → most ≤ 12 → (min most (l.length : Int)).toNat ≤ 7) → ∀ w', Steps w w' → Calls Try.prog 21 #[v, .int .i64 most] w' (AllP w' l most) := fun h1 h2 w' s => qAll most w' (hv.steps s) h1 h2
  have aR : l.length ≤ 1000 → (0 ≤ most → most ≤ 12 → (min most (l.length : Int)).toNat ≤ 7) → ∀ w' u, Pts w' u l → Calls Try.prog 22 #[u, .int .i64 most] w' (AllP w' l most) := fun h1 h2 w' u hu => rAll most w' hu h1 h2
  have hshort : (0 ≤ most → most ≤ 12 → (min most (l.length : Int)).toNat ≤ 7) → (allS l most).2.length ≤ 100000 := fun h7 => by
    unfold allS
    split
    · simp
    · split
      · simp
      · rename_i q
        have h7' := h7 (by omega) (by omega)
        have := qs_len l (fours (min most (l.length : Int)).toNat)
        have := (it4_all _ h7').1
        dsimp only
        omega
  unfold AllP at aA aR
  obtain ⟨AE, hAE⟩ : ∃ z, (allS l most).1 = z := ⟨_, rfl⟩
  obtain ⟨AL, hAL⟩ : ∃ z, (allS l most).2 = z := ⟨_, rfl⟩
  rw [hAE, hAL] at aA aR
  rw [hAL] at hshort
  clear hAE hAL
  obtain ⟨ao, cap, rfl⟩ := hv.shape
  have HP := Hid.mk_ hv
  obtain ⟨n, hn⟩ : ∃ n, l.length = n := ⟨_, rfl⟩
  have HL := Hid.mk_ hn
  rw [hn] at aA aR HP hshort ⊢
  clear hv hn
  have HAA := Hid.mk_ aA
  have HAR := Hid.mk_ aR
  have HSH := Hid.mk_ hshort
  clear aA aR hshort
  have hne : (AE == AE) = true := by simp
  go_enter Try.func6, Try.ntmps6
  go_upto_region 1 with fail
  go_cut [36] (fun c wx => (c = .bool true ∨ (c = .bool false ∧ n ≤ 210 ∧ (0 ≤ most → most ≤ 12 → (min most (n : Int)).toNat ≤ 7))) ∧ Below w.heap.size w wx)
  case first =>
    rcases (show n ≤ 40 ∨ (40 < n ∧ n ≤ 200) ∨ (200 < n ∧ n ≤ 210) ∨ 210 < n by omega) with g | g | g | g
    · have g1 : ¬ (40 : Int) < (n : Int) := by omega
      have g2 : ¬ (210 : Int) < (n : Int) := by omega
      by_cases m1 : 7 < most
      · by_cases m2 : most ≤ 12
        · by_cases m3 : (7 : Int) < (n : Int)
          · skip
            go_wp2_with fail
            go_meet
            exact ⟨.inl rfl, belowB⟩

          · skip
            go_wp2_with fail
            go_meet
            exact ⟨.inr ⟨by first | rfl | simp, by omega, fun _ _ => by omega⟩, belowB⟩
        · skip
          go_wp2_with fail
          go_meet
          exact ⟨.inr ⟨by first | rfl | simp, by omega, fun _ _ => by omega⟩, belowB⟩
      · skip
        go_wp2_with fail
        go_meet
        exact ⟨.inr ⟨by first | rfl | simp, by omega, fun _ _ => by omega⟩, belowB⟩
    · have g1 : (40 : Int) < (n : Int) := by omega
      have g3 : (n : Int) ≤ 200 := by omega
      go_wp2_with fail
      go_meet
      exact ⟨.inl rfl, belowB⟩
    · have g1 : (40 : Int) < (n : Int) := by omega
      have g3 : ¬ (n : Int) ≤ 200 := by omega
      have g2 : ¬ (210 : Int) < (n : Int) := by omega
      by_cases m1 : 7 < most
      · by_cases m2 : most ≤ 12
        · by_cases m3 : (7 : Int) < (n : Int)
          · skip
            go_wp2_with fail
            go_meet
            exact ⟨.inl rfl, belowB⟩

          · skip
            go_wp2_with fail
            go_meet
            exact ⟨.inr ⟨by first | rfl | simp, by omega, fun _ _ => by omega⟩, belowB⟩
        · skip
          go_wp2_with fail
          go_meet
          exact ⟨.inr ⟨by first | rfl | simp, by omega, fun _ _ => by omega⟩, belowB⟩
      · skip
        go_wp2_with fail
        go_meet
        exact ⟨.inr ⟨by first | rfl | simp, by omega, fun _ _ => by omega⟩, belowB⟩
    · have g1 : (40 : Int) < (n : Int) := by omega
      have g3 : ¬ (n : Int) ≤ 200 := by omega
      have g2 : (210 : Int) < (n : Int) := by omega
      go_wp2_with fail
      go_meet
      exact ⟨.inl rfl, belowB⟩
  case rest =>
    obtain ⟨hc, B⟩ := hcut
    rcases hc with rfl | ⟨rfl, hn, h7⟩
    · go_wp2_with fail
      go_returns
      exact ⟨rfl, belowB⟩
    · have aA := HAA.out (by omega) h7
      have aR := HAR.out (by omega) h7
      have hshort := HSH.out h7
      clear HAA HAR HSH h7
      have zz := B.size
      have hP := HP.out.steps B
      obtain ⟨wx, hwx⟩ : ∃ x, wc = x := ⟨_, rfl⟩
      subst hwx
      go_upto_region 3 with fail
      repeat' (first | ((with_reducible show wpList _ _ _ (⟨some 39, _, _, _, _, _⟩ :: _) _ _); refine app_pts rfl (.tmp 37) (.tmp 38) rfl wc.heap.size rfl (Blk.new _ _ _) (.slice ao n cap) l rfl (hP.steps ((Below.refl _ _).alloc (Nat.le_refl _) _)) (by have := HL.out; omega) (fun u2 w2 hp2 hg2 => ?_)) | go_values | go_skip | go_guarded | go_step | go_upon)
      have B2 : Below w.heap.size w w2 := (B.alloc B.size _).grown hg2 (by rw [World.size_alloc]; omega) (fun k hk => by cases hk; exact B.size)
      obtain ⟨ta, tc, rfl⟩ := hp2.shape
      have HL2 := HL.out
      have HT := Hid.mk_ hp2
      rw [HL2] at HT ⊢
      clear hp2 hg2 B hP zz HL2
      go_wp2_with fail
      refine (aA _ belowB).mono ?_
      rintro e w3 ⟨u, rfl, hu, hs3⟩
      have B3 : Below w.heap.size w w3 := below_steps B2 (Nat.le_refl _) hs3
      have HT3 := Hid.mk_ (HT.out.steps hs3)
      have kk : Steps w3 w3 := Below.refl _ _
      clear hs3 B2 HT aA
      obtain ⟨ua, uc, rfl⟩ := hu.shape
      go_wp2_with fail
      refine (aR _ _ HT3.out).mono ?_
      rintro e w4 ⟨u', rfl, hu', hs4⟩
      have B4 : Below w.heap.size w w4 := below_steps B3 (Nat.le_refl _) hs4
      have HT4 := Hid.mk_ (HT3.out.steps hs4)
      have hu4 := hu.steps hs4
      clear hs4 B3 HT3 aR kk hu
      obtain ⟨ua', uc', rfl⟩ := hu'.shape
      have HU := Hid.mk_ (And.intro hu4 hu')
      clear hu4 hu'
      go_wp2_with fail
      go_loopw [10] (fun kk wr => ∃ i : Nat, i ≤ n ∧ kk = .int .i64 i ∧ Below w.heap.size w wr ∧ Steps w4 wr) (fun kk _ => n - (intOf kk).toNat)
      case atStart => exact ⟨0, by omega, rfl, belowB, Below.refl _ _⟩
      case round =>
        clear B4
        obtain ⟨i, hi, rfl, B, kk⟩ := hrel
        rcases Nat.lt_or_ge i n with i4 | i4
        · have hlt : decide ((i : Int) < (n : Int)) = true := decide_eq_true (by omega)
          obtain ⟨b, o, rfl, hb, ha0, ha1⟩ := HP.out.at (a := i) (by have := HL.out; omega)
          obtain ⟨b', o', rfl, hb', hb0, hb1⟩ := HT4.out.at (a := i) (by have := HL.out; omega)
          generalize (pt l i).1 = x at *
          generalize (pt l i).2 = y at *
          repeat' (first | go_values | go_skip | go_guarded | go_step | go_upon)
          refine Reg.wp_chain (fun D v W => Below wr.heap.size wr W ∧ True) (Reg.inl []) (Reg.gv []) Reg.None_ (fun _ => Reg.Any) (fun _ _ => False) (Reg.pl []) (Reg.pl [])
            (by kernel_rfl) (by kernel_rfl) (by kernel_rfl) (Reg.gv_some _ (by intro p hp; cases hp)) (fun _ => ⟨belowB, trivial⟩) (fun _ _ _ _ _ h => h) (fun _ _ _ _ _ _ _ _ _ _ _ _ _ => Reg.none_) (fun _ _ _ _ h => h.elim) (fun ops' Q' hops hQ => ?_)
          apply Reg.RC_pure (hc := rfl) (hst := rfl) (hw := rfl) (t := 58) (hd := rfl) (ht := Nat.le_of_ble_eq_true rfl)
          · intro D v W hc hj hf K' hK'
            go_step
            exact hK'.out
          · rfl
          apply Reg.RC_pure (hc := rfl) (hst := rfl) (hw := rfl) (t := 59) (hd := rfl) (ht := Nat.le_of_ble_eq_true rfl)
          · intro D v W hc hj hf K' hK'
            go_step
            exact hK'.out
          · rfl
          apply Reg.RC_pure (hc := rfl) (hst := rfl) (hw := rfl) (t := 60) (hd := rfl) (ht := Nat.le_of_ble_eq_true rfl)
          · intro D v W hc hj hf K' hK'
            go_step
            exact hK'.out
          · rfl
          apply Reg.RC_pure (hc := rfl) (hst := rfl) (hw := rfl) (t := 61) (hd := rfl) (ht := Nat.le_of_ble_eq_true rfl)
          · intro D v W hc hj hf K' hK'
            obtain ⟨j0, _⟩ := hj
            have c0 : W.cell? ⟨b, o + i * 2, none⟩ = some (.int .i64 x) := ((below_steps B (Nat.le_refl _) j0).cell (p := ⟨b, _, none⟩) hb).trans ha0
            have c1 : W.cell? ⟨b, o + i * 2 + 1, none⟩ = some (.int .i64 y) := ((below_steps B (Nat.le_refl _) j0).cell (p := ⟨b, _, none⟩) hb).trans ha1
            go_step
            exact hK'.out
          · rfl
          apply Reg.RC_pure (hc := rfl) (hst := rfl) (hw := rfl) (t := 62) (hd := rfl) (ht := Nat.le_of_ble_eq_true rfl)
          · intro D v W hc hj hf K' hK'
            go_step
            exact hK'.out
          · rfl
          apply Reg.RC_pure (hc := rfl) (hst := rfl) (hw := rfl) (t := 63) (hd := rfl) (ht := Nat.le_of_ble_eq_true rfl)
          · intro D v W hc hj hf K' hK'
            go_step
            exact hK'.out
          · rfl
          apply Reg.RC_pure (hc := rfl) (hst := rfl) (hw := rfl) (t := 64) (hd := rfl) (ht := Nat.le_of_ble_eq_true rfl)
          · intro D v W hc hj hf K' hK'
            go_step
            exact hK'.out
          · rfl
          apply Reg.RC_pure (hc := rfl) (hst := rfl) (hw := rfl) (t := 65) (hd := rfl) (ht := Nat.le_of_ble_eq_true rfl)
          · intro D v W hc hj hf K' hK'
            obtain ⟨j0, _⟩ := hj
            have c0 : W.cell? ⟨b', o' + i * 2, none⟩ = some (.int .i64 x) := (below_steps kk (Nat.le_refl _) j0 |>.cell (p := ⟨b', _, none⟩) hb').trans hb0
            have c1 : W.cell? ⟨b', o' + i * 2 + 1, none⟩ = some (.int .i64 y) := (below_steps kk (Nat.le_refl _) j0 |>.cell (p := ⟨b', _, none⟩) hb').trans hb1
            go_step
            exact hK'.out
          · rfl
          apply Reg.RC_pure (hc := rfl) (hst := rfl) (hw := rfl) (t := 66) (hd := rfl) (ht := Nat.le_of_ble_eq_true rfl)
          · intro D v W hc hj hf K' hK'
            obtain ⟨j0, _⟩ := hj
            have qe := eq_pt x y W
            go_step
            exact hK'.out
          · rfl
          refine Reg.RC_end (fun D v w9 hd hj hf => ?_)
          obtain ⟨j0, _⟩ := hj
          have B9 := j0
          clear hd hf j0
          refine hQ _ _ ?_
          clear hQ hops Q' ops'
          have B6 := below_steps B (Nat.le_refl _) B9
          have k6 := below_steps kk (Nat.le_refl _) B9
          go_wp2
          go_roundw
          case rel => exact ⟨i + 1, by omega, by go_num, B6, k6⟩
          case measure => simp [intOf]; omega
        · obtain rfl : n = i := by omega
          have sl := rsameList wr (HU.out.1.steps kk) (HU.out.2.steps kk) hshort
          clear HU
          go_wp2_with fail
          refine sl.mono ?_
          rintro e w6 ⟨rfl, hs6⟩
          have B6 := below_steps B (Nat.le_refl _) hs6
          clear hs6 sl
          go_wp2_with fail
          go_returns
          exact ⟨rfl, B6⟩
end Go.Proofs.Ytibdehlmflaodaa
