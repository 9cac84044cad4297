import Derived.Test.YtibdehlmflaodaaCQd
namespace Go.Proofs.Ytibdehlmflaodaa
open Go.RowKit
set_option maxHeartbeats 6400000 in
set_option maxRecDepth 1000000 in
theorem cnan64 (x : Int) (w : World) : Calls Try.prog 109 #[.int .i64 x] w fun e w' => e = .returned (.bool false) ∧ Steps w w' := by
  go_enter Try.func109, Try.ntmps109
  go_wp2
  go_returns
  exact ⟨rfl, belowB⟩
set_option maxHeartbeats 6400000 in
set_option maxRecDepth 1000000 in
theorem ccmp64 (x y : Int) (w : World) : Calls Try.prog 81 #[.int .i64 x, .int .i64 y] w fun e w' => e = .returned (.int .i64 (cmpI x y)) ∧ Steps w w' := by
  rcases (show x < y ∨ x = y ∨ y < x by omega) with h | h | h
  · have E : Hid (cmpI x y = -1) := by show cmpI x y = _; unfold cmpI; rw [if_neg (by omega), if_pos h]
    go_enter Try.func81, Try.ntmps81
    go_wp2_with fail
    refine (cnan64 _ _).mono ?_
    rintro e w1 ⟨rfl, hb1⟩
    have st : Steps _ w1 := hb1
    have Bn : Below w.heap.size w w1 := belowA st
    clear st
    have B := Bn
    clear Bn
    go_wp2_with fail
    refine (cnan64 _ _).mono ?_
    rintro e w2 ⟨rfl, hb2⟩
    have st : Steps _ w2 := hb2
    have Bn : Below w.heap.size w w2 := belowA st
    clear B
    clear st
    have B := Bn
    clear Bn
    go_wp2
    go_returns
    exact ⟨retI E.out.symm, belowB⟩
  · have E : Hid (cmpI x y = 0) := by show cmpI x y = _; unfold cmpI; rw [if_pos h]
    subst h
    go_enter Try.func81, Try.ntmps81
    go_wp2_with fail
    refine (cnan64 _ _).mono ?_
    rintro e w1 ⟨rfl, hb1⟩
    have st : Steps _ w1 := hb1
    have Bn : Below w.heap.size w w1 := belowA st
    clear st
    have B := Bn
    clear Bn
    go_wp2_with fail
    refine (cnan64 _ _).mono ?_
    rintro e w2 ⟨rfl, hb2⟩
    have st : Steps _ w2 := hb2
    have Bn : Below w.heap.size w w2 := belowA st
    clear B
    clear st
    have B := Bn
    clear Bn
    go_wp2
    go_returns
    exact ⟨retI E.out.symm, belowB⟩
  · have E : Hid (cmpI x y = 1) := by show cmpI x y = _; unfold cmpI; rw [if_neg (by omega), if_neg (by omega)]
    go_enter Try.func81, Try.ntmps81
    go_wp2_with fail
    refine (cnan64 _ _).mono ?_
    rintro e w1 ⟨rfl, hb1⟩
    have st : Steps _ w1 := hb1
    have Bn : Below w.heap.size w w1 := belowA st
    clear st
    have B := Bn
    clear Bn
    go_wp2_with fail
    refine (cnan64 _ _).mono ?_
    rintro e w2 ⟨rfl, hb2⟩
    have st : Steps _ w2 := hb2
    have Bn : Below w.heap.size w w2 := belowA st
    clear B
    clear st
    have B := Bn
    clear Bn
    go_wp2
    go_returns
    exact ⟨retI E.out.symm, belowB⟩
set_option maxHeartbeats 6400000 in
set_option maxRecDepth 1000000 in
theorem cnan (x : Int) (w : World) : Calls Try.prog 110 #[.int .i64 x] w fun e w' => e = .returned (.bool false) ∧ Steps w w' := by
  go_enter Try.func110, Try.ntmps110
  go_wp2
  go_returns
  exact ⟨rfl, belowB⟩
set_option maxHeartbeats 6400000 in
set_option maxRecDepth 1000000 in
theorem ccmp (x y : Int) (w : World) : Calls Try.prog 83 #[.int .i64 x, .int .i64 y] w fun e w' => e = .returned (.int .i64 (cmpI x y)) ∧ Steps w w' := by
  rcases (show x < y ∨ x = y ∨ y < x by omega) with h | h | h
  · have E : Hid (cmpI x y = -1) := by show cmpI x y = _; unfold cmpI; rw [if_neg (by omega), if_pos h]
    go_enter Try.func83, Try.ntmps83
    go_wp2_with fail
    refine (cnan _ _).mono ?_
    rintro e w1 ⟨rfl, hb1⟩
    have st : Steps _ w1 := hb1
    have Bn : Below w.heap.size w w1 := belowA st
    clear st
    have B := Bn
    clear Bn
    go_wp2_with fail
    refine (cnan _ _).mono ?_
    rintro e w2 ⟨rfl, hb2⟩
    have st : Steps _ w2 := hb2
    have Bn : Below w.heap.size w w2 := belowA st
    clear B
    clear st
    have B := Bn
    clear Bn
    go_wp2
    go_returns
    exact ⟨retI E.out.symm, belowB⟩
  · have E : Hid (cmpI x y = 0) := by show cmpI x y = _; unfold cmpI; rw [if_pos h]
    subst h
    go_enter Try.func83, Try.ntmps83
    go_wp2_with fail
    refine (cnan _ _).mono ?_
    rintro e w1 ⟨rfl, hb1⟩
    have st : Steps _ w1 := hb1
    have Bn : Below w.heap.size w w1 := belowA st
    clear st
    have B := Bn
    clear Bn
    go_wp2_with fail
    refine (cnan _ _).mono ?_
    rintro e w2 ⟨rfl, hb2⟩
    have st : Steps _ w2 := hb2
    have Bn : Below w.heap.size w w2 := belowA st
    clear B
    clear st
    have B := Bn
    clear Bn
    go_wp2
    go_returns
    exact ⟨retI E.out.symm, belowB⟩
  · have E : Hid (cmpI x y = 1) := by show cmpI x y = _; unfold cmpI; rw [if_neg (by omega), if_neg (by omega)]
    go_enter Try.func83, Try.ntmps83
    go_wp2_with fail
    refine (cnan _ _).mono ?_
    rintro e w1 ⟨rfl, hb1⟩
    have st : Steps _ w1 := hb1
    have Bn : Below w.heap.size w w1 := belowA st
    clear st
    have B := Bn
    clear Bn
    go_wp2_with fail
    refine (cnan _ _).mono ?_
    rintro e w2 ⟨rfl, hb2⟩
    have st : Steps _ w2 := hb2
    have Bn : Below w.heap.size w w2 := belowA st
    clear B
    clear st
    have B := Bn
    clear Bn
    go_wp2
    go_returns
    exact ⟨retI E.out.symm, belowB⟩
def orI (c d : Int) : Int := if c = 0 then d else c
set_option maxHeartbeats 6400000 in
set_option maxRecDepth 1000000 in
theorem cor (c d : Int) (g : Nat) (w : World) (hg : g < w.heap.size) (h0 : w.cell? ⟨g, 0, none⟩ = some (.int .i64 c)) (h1 : w.cell? ⟨g, 1, none⟩ = some (.int .i64 d)) :
    Calls Try.prog 82 #[.slice (some ⟨g, 0, none⟩) 2 2] w fun e w' => e = .returned (.int .i64 (orI c d)) ∧ Steps w w' := by
  by_cases hc : c = 0
  · by_cases hd : d = 0
    · have E : Hid (orI c d = 0) := by show orI c d = _; unfold orI; rw [if_pos hc, hd]
      subst hc hd
      go_enter Try.func82, Try.ntmps82
      go_wp2_with fail
      refine wp_loop_rounds 3 ?_
      rw [rounds_succ]
      go_wp2_with fail
      rw [rounds_succ]
      go_wp2_with fail
      rw [rounds_succ]
      go_wp2
      go_returns
      exact ⟨retI E.out.symm, belowB⟩
    · have E : Hid (orI c d = d) := if_pos hc
      have hd' : (d == 0) = false := by simpa using hd
      subst hc
      go_enter Try.func82, Try.ntmps82
      go_wp2_with fail
      refine wp_loop_rounds 3 ?_
      rw [rounds_succ]
      go_wp2_with fail
      rw [rounds_succ]
      go_wp2
      go_returns
      exact ⟨retI E.out.symm, belowB⟩
  · have E : Hid (orI c d = c) := if_neg hc
    have hc' : (c == 0) = false := by simpa using hc
    go_enter Try.func82, Try.ntmps82
    go_wp2_with fail
    refine wp_loop_rounds 3 ?_
    rw [rounds_succ]
    go_wp2
    go_returns
    exact ⟨retI E.out.symm, belowB⟩
theorem orI_step (x y : Int) (a b : List Int) : cmpL (x :: a) (y :: b) = orI (cmpI x y) (cmpL a b) := by
  show (if x = y then cmpL a b else if x < y then -1 else 1) = _
  unfold orI cmpI
  by_cases h : x = y
  · rw [if_pos h, if_pos h, if_pos rfl]
  · rw [if_neg h, if_neg h]; split <;> rfl
theorem orI_assoc (a b c : Int) : orI (orI a b) c = orI a (orI b c) := by unfold orI; by_cases h : a = 0 <;> simp [h]
theorem orI_zero (a : Int) : orI a 0 = a := by unfold orI; by_cases h : a = 0 <;> simp [h]
theorem cmpA_or (a b : Arr) : cmpA a b = orI (orI (orI (orI (orI (orI (orI (orI (cmpI (a.a1 + a.b1) (b.a1 + b.b1)) (cmpI a.a1 b.a1)) (cmpI a.a2 b.a2)) (cmpI a.b1 b.b1)) (cmpI a.b2 b.b2)) (cmpI a.k0 b.k0)) (cmpI a.k1 b.k1)) (cmpI a.k2 b.k2)) (cmpI a.k3 b.k3) := by
  unfold cmpA Arr.key
  simp only [orI_step, orI_assoc]
  rw [show cmpL [] [] = 0 from rfl, orI_zero]
def arrV (a : Arr) : Value := .agg #[.int .i64 a.k0, .int .i64 a.k1, .int .i64 a.k2, .int .i64 a.k3, .int .i64 a.a1, .int .i64 a.a2, .int .i64 a.b1, .int .i64 a.b2, .int .i64 a.n]
def okA (a : Arr) : Prop := -35184372088832 ≤ a.a1 ∧ a.a1 ≤ 35184372088832 ∧ -35184372088832 ≤ a.b1 ∧ a.b1 ≤ 35184372088832
set_option maxHeartbeats 6400000 in
set_option maxRecDepth 1000000 in
theorem qcompare0 (x y r : Nat → Int) (N M : Int) (w : World) (a1 : -35184372088832 ≤ x 0 ∧ x 0 ≤ 35184372088832) (a2 : -35184372088832 ≤ x 2 ∧ x 2 ≤ 35184372088832) (b1 : -35184372088832 ≤ y 0 ∧ y 0 ≤ 35184372088832) (b2 : -35184372088832 ≤ y 2 ∧ y 2 ≤ 35184372088832)
    (h0 : r 0 = cmpI (x 0 + x 2) (y 0 + y 2)) (hr : ∀ k, r (k + 1) = orI (r k) (cmpI (x k) (y k))) :
    Calls Try.prog 55 #[.agg #[.int .i64 (x 4), .int .i64 (x 5), .int .i64 (x 6), .int .i64 (x 7), .int .i64 (x 0), .int .i64 (x 1), .int .i64 (x 2), .int .i64 (x 3), .int .i64 N], .agg #[.int .i64 (y 4), .int .i64 (y 5), .int .i64 (y 6), .int .i64 (y 7), .int .i64 (y 0), .int .i64 (y 1), .int .i64 (y 2), .int .i64 (y 3), .int .i64 M]] w fun e w' => e = .returned (.int .i64 (r 8)) ∧ Steps w w' := by
  have cp : ∀ w', Calls Try.prog 81 #[.int .i64 (x 0 + x 2), .int .i64 (y 0 + y 2)] w' fun e w2 => e = .returned (.int .i64 (r 0)) ∧ Steps w' w2 := fun w' => by rw [h0]; exact ccmp64 _ _ w'
  have HR := Hid.mk_ hr
  clear h0 hr
  have cA1 : ∀ k, k < 4 → (#[.int .i64 (x 4), .int .i64 (x 5), .int .i64 (x 6), .int .i64 (x 7), .int .i64 (x 0), .int .i64 (x 1), .int .i64 (x 2), .int .i64 (x 3), .int .i64 N] : Array Value)[4 + k]? = some (.int .i64 (x k)) := fun k hk => by rcases (show k = 0 ∨ k = 1 ∨ k = 2 ∨ k = 3 by omega) with rfl | rfl | rfl | rfl <;> rfl
  have cA2 : ∀ k, k < 4 → (#[.int .i64 (x 4), .int .i64 (x 5), .int .i64 (x 6), .int .i64 (x 7), .int .i64 (x 0), .int .i64 (x 1), .int .i64 (x 2), .int .i64 (x 3), .int .i64 N] : Array Value)[k]? = some (.int .i64 (x (4 + k))) := fun k hk => by rcases (show k = 0 ∨ k = 1 ∨ k = 2 ∨ k = 3 by omega) with rfl | rfl | rfl | rfl <;> rfl
  have cB1 : ∀ k, k < 4 → (#[.int .i64 (y 4), .int .i64 (y 5), .int .i64 (y 6), .int .i64 (y 7), .int .i64 (y 0), .int .i64 (y 1), .int .i64 (y 2), .int .i64 (y 3), .int .i64 M] : Array Value)[4 + k]? = some (.int .i64 (y k)) := fun k hk => by rcases (show k = 0 ∨ k = 1 ∨ k = 2 ∨ k = 3 by omega) with rfl | rfl | rfl | rfl <;> rfl
  have cB2 : ∀ k, k < 4 → (#[.int .i64 (y 4), .int .i64 (y 5), .int .i64 (y 6), .int .i64 (y 7), .int .i64 (y 0), .int .i64 (y 1), .int .i64 (y 2), .int .i64 (y 3), .int .i64 M] : Array Value)[k]? = some (.int .i64 (y (4 + k))) := fun k hk => by rcases (show k = 0 ∨ k = 1 ∨ k = 2 ∨ k = 3 by omega) with rfl | rfl | rfl | rfl <;> rfl
  go_enter Try.func55, Try.ntmps55
  go_wp2_with fail
  refine (cp _).mono ?_
  rintro e w1 ⟨rfl, hb1⟩
  have st : Steps _ w1 := hb1
  have B : Below w.heap.size w w1 := belowA st
  have na : Blk w1 (w.heap.size) 71 #[.int .i64 (x 4), .int .i64 (x 5), .int .i64 (x 6), .int .i64 (x 7), .int .i64 (x 0), .int .i64 (x 1), .int .i64 (x 2), .int .i64 (x 3), .int .i64 N] := Blk.stepsK st
  have nb : Blk w1 (w.heap.size + 1) 71 #[.int .i64 (y 4), .int .i64 (y 5), .int .i64 (y 6), .int .i64 (y 7), .int .i64 (y 0), .int .i64 (y 1), .int .i64 (y 2), .int .i64 (y 3), .int .i64 M] := Blk.stepsK st
  have oa := na
  clear na
  have ob := nb
  clear nb
  clear st
  clear a1 a2 b1 b2 cp
  obtain ⟨CA, hCA⟩ : ∃ c, (#[.int .i64 (x 4), .int .i64 (x 5), .int .i64 (x 6), .int .i64 (x 7), .int .i64 (x 0), .int .i64 (x 1), .int .i64 (x 2), .int .i64 (x 3), .int .i64 N] : Array Value) = c := ⟨_, rfl⟩
  rw [hCA] at oa cA1 cA2
  clear hCA
  obtain ⟨CB, hCB⟩ : ∃ c, (#[.int .i64 (y 4), .int .i64 (y 5), .int .i64 (y 6), .int .i64 (y 7), .int .i64 (y 0), .int .i64 (y 1), .int .i64 (y 2), .int .i64 (y 3), .int .i64 M] : Array Value) = c := ⟨_, rfl⟩
  rw [hCB] at ob cB1 cB2
  clear hCB
  go_wp2_with fail
  go_loopw [5, 23] (fun cc kk wr => ∃ k : Nat, k ≤ 4 ∧ kk = .int .i64 k ∧ cc = .int .i64 (r (k)) ∧ Blk wr (w.heap.size) 71 CA ∧ Blk wr (w.heap.size + 1) 71 CB ∧ Below w.heap.size w wr) (fun _ kk _ => (4 - (intOf kk).toNat))
  case atStart => exact ⟨0, by omega, rfl, rfl, ownK, ownK, belowB⟩
  case round =>
    obtain ⟨k, hk, rfl, rfl, za, zb, zB⟩ := hrel
    clear oa ob B
    have oa := za
    have ob := zb
    have B := zB
    clear za zb zB
    rcases Nat.lt_or_ge k 4 with h4 | h4
    · have hA := cA1 k h4
      have hB := cB1 k h4
      have hn := HR.out k
      obtain ⟨xk, hx⟩ : ∃ z, x k = z := ⟨_, rfl⟩
      obtain ⟨yk, hy⟩ : ∃ z, y k = z := ⟨_, rfl⟩
      rw [hx] at hA hn
      rw [hy] at hB hn
      obtain ⟨d, hd⟩ : ∃ z, cmpI xk yk = z := ⟨_, rfl⟩
      rw [hd] at hn
      obtain ⟨c, hc⟩ : ∃ z, r k = z := ⟨_, rfl⟩
      rw [hc] at hn ⊢
      obtain ⟨e, he⟩ : ∃ z, orI c d = z := ⟨_, rfl⟩
      rw [he] at hn
      have cpk : ∀ w', Calls Try.prog 81 #[.int .i64 xk, .int .i64 yk] w' fun e w2 => e = .returned (.int .i64 d) ∧ Steps w' w2 := fun w' => by rw [← hd]; exact ccmp64 _ _ w'
      have cok : ∀ g w', g < w'.heap.size → w'.cell? ⟨g, 0, none⟩ = some (.int .i64 c) → w'.cell? ⟨g, 1, none⟩ = some (.int .i64 d) → Calls Try.prog 82 #[.slice (some ⟨g, 0, none⟩) 2 2] w' fun u w2 => u = .returned (.int .i64 e) ∧ Steps w' w2 := fun g w' h1 h2 h3 => by rw [← he]; exact cor _ _ g w' h1 h2 h3
      have HN := Hid.mk_ hn
      have hlt : decide ((k : Int) < 4) = true := decide_eq_true (by omega)
      clear hn hx hy hd hc he
      go_wp2_with fail
      refine Reg.wp_chain_n (fun N0 => fun D v W => Below w.heap.size w W ∧ Blk W (w.heap.size) 71 CA ∧ Blk W (w.heap.size + 1) 71 CB ∧ (D 10 = true → ∃ g : Nat, v 10 = .slice (some ⟨g, 0, none⟩) 2 2 ∧ N0 ≤ g ∧ Blk W g 3 #[.int .i64 c, .int .i64 d]) ∧ N0 ≤ W.heap.size)
        (Reg.inl [9, 10, 11]) (Reg.gv [(9, fun x => x = .int .i64 d), (11, fun x => x = .int .i64 e), (10, fun x => ∃ g : Nat, x = .slice (some ⟨g, 0, none⟩) 2 2)]) Reg.None_ (fun _ => Reg.Any) (fun _ _ => False) (Reg.pl [(11, [(10, some 36)]), (13, [(10, some 36)])]) (Reg.pl [])
        (by kernel_rfl) (by kernel_rfl) (by kernel_rfl) (Reg.gv_some _ (fun p hp => by simp only [List.mem_cons, List.not_mem_nil, or_false] at hp; rcases hp with rfl | rfl | rfl; exact ⟨_, rfl⟩; exact ⟨_, rfl⟩; exact ⟨_, 0, rfl⟩)) (fun N0 hN0 => ⟨fun v => ?_, (fun D v v' W hv hj => ?_), fun _ _ _ _ _ _ _ _ _ _ _ _ _ => Reg.none_, fun _ _ _ _ h => h.elim, fun ops' Q' hops hQ => ?_⟩)
      · exact ⟨(by first | with_reducible exact Below.drew B | with_reducible exact Below.drew (belowN B _) | (repeat' first | with_reducible assumption | with_reducible exact Below.refl _ _ | with_reducible refine Below.alloc ?_ ?_ _ | with_reducible refine Below.drew ?_ | with_reducible refine belowN ?_ _ | with_reducible refine Below.setCell ?_ ?_ _ | go_size)), (show Blk _ _ _ CA from (by first | with_reducible exact oa | (repeat' first | with_reducible assumption | (with_reducible refine Blk.new' ?_; first | with_reducible rfl | (simp only [World.size_alloc, World.size_setCell, World.size_drew]; done)) | with_reducible refine Blk.alloc ?_ _ | with_reducible refine Blk.drew ?_ | with_reducible refine Blk.drewN ?_ _ | with_reducible apply Blk.both | with_reducible refine Blk.far' ?_ ?_ | (show _ ≠ _; omega)))), (show Blk _ _ _ CB from (by first | with_reducible exact ob | (repeat' first | with_reducible assumption | (with_reducible refine Blk.new' ?_; first | with_reducible rfl | (simp only [World.size_alloc, World.size_setCell, World.size_drew]; done)) | with_reducible refine Blk.alloc ?_ _ | with_reducible refine Blk.drew ?_ | with_reducible refine Blk.drewN ?_ _ | with_reducible apply Blk.both | with_reducible refine Blk.far' ?_ ?_ | (show _ ≠ _; omega)))), (fun h => by cases h), (Nat.le_of_eq hN0.out)⟩
      · obtain ⟨B, oa, ob, pa10, zN0⟩ := hj
        exact ⟨B, oa, ob, (fun h => hv 10 h ▸ pa10 h), zN0⟩
      have ia : w.heap.size < N0 := by have h := oa.lt; have e := hN0.out; (try simp only [World.size_alloc, World.size_setCell, World.size_drew, World.heap_drewN] at e); omega
      have ib : w.heap.size + 1 < N0 := by have h := ob.lt; have e := hN0.out; (try simp only [World.size_alloc, World.size_setCell, World.size_drew, World.heap_drewN] at e); omega
      have uN0 : w.heap.size ≤ N0 := by have h := Below.size B; have e := hN0.out; (try simp only [World.size_alloc, World.size_setCell, World.size_drew, World.heap_drewN] at e); (try simp only [World.size_alloc, World.size_setCell, World.size_drew, World.heap_drewN] at h); omega
      clear B oa ob hN0
      apply Reg.RC_pure (hc := rfl) (hst := rfl) (hw := rfl) (t := 26) (hd := rfl) (ht := Nat.le_of_ble_eq_true rfl)
      · intro D v W hc hj hf K hK
        go_step
        exact hK.out
      · rfl
      apply Reg.RC_pure (hc := rfl) (hst := rfl) (hw := rfl) (t := 27) (hd := rfl) (ht := Nat.le_of_ble_eq_true rfl)
      · intro D v W hc hj hf K hK
        go_step
        exact hK.out
      · rfl
      apply Reg.RC_pure (hc := rfl) (hst := rfl) (hw := rfl) (t := 28) (hd := rfl) (ht := Nat.le_of_ble_eq_true rfl)
      · intro D v W hc hj hf K hK
        go_step
        exact hK.out
      · rfl
      apply Reg.RC_pure (hc := rfl) (hst := rfl) (hw := rfl) (t := 29) (hd := rfl) (ht := Nat.le_of_ble_eq_true rfl)
      · intro D v W hc hj hf K hK
        go_step
        exact hK.out
      · rfl
      apply Reg.RC_pure (hc := rfl) (hst := rfl) (hw := rfl) (t := 30) (hd := rfl) (ht := Nat.le_of_ble_eq_true rfl)
      · intro D v W hc hj hf K hK
        obtain ⟨B, oa, ob, pa10, zN0⟩ := hj
        have ca0 : World.cell? W ⟨w.heap.size, 4 + k, none⟩ = some (.int .i64 xk) := oa.c _ hA
        go_step
        exact hK.out
      · rfl
      apply Reg.RC_pure (hc := rfl) (hst := rfl) (hw := rfl) (t := 31) (hd := rfl) (ht := Nat.le_of_ble_eq_true rfl)
      · intro D v W hc hj hf K hK
        go_step
        exact hK.out
      · rfl
      apply Reg.RC_pure (hc := rfl) (hst := rfl) (hw := rfl) (t := 32) (hd := rfl) (ht := Nat.le_of_ble_eq_true rfl)
      · intro D v W hc hj hf K hK
        go_step
        exact hK.out
      · rfl
      apply Reg.RC_pure (hc := rfl) (hst := rfl) (hw := rfl) (t := 33) (hd := rfl) (ht := Nat.le_of_ble_eq_true rfl)
      · intro D v W hc hj hf K hK
        go_step
        exact hK.out
      · rfl
      apply Reg.RC_pure (hc := rfl) (hst := rfl) (hw := rfl) (t := 34) (hd := rfl) (ht := Nat.le_of_ble_eq_true rfl)
      · intro D v W hc hj hf K hK
        obtain ⟨B, oa, ob, pa10, zN0⟩ := hj
        have cb0 : World.cell? W ⟨w.heap.size + 1, 4 + k, none⟩ = some (.int .i64 yk) := ob.c _ hB
        go_step
        exact hK.out
      · rfl
      refine Reg.RC_call rfl (by intro t ht; cases ht; exact Nat.le_of_ble_eq_true rfl) rfl (fun D v W hc hj hf K hK => ?_) (fun x hx => ?_)
      · obtain ⟨B, oa, ob, pa10, zN0⟩ := hj
        go_step
        refine (cpk _).mono ?_
        rintro e W' ⟨rfl, hb⟩
        have st : Steps W W' := hb
        exact hK.out _ _ Reg.any ⟨below_steps B (Nat.le_refl _) st, oa.steps st, ob.steps st, (fun h => let ⟨g, h1, h2, h3⟩ := pa10 h; ⟨g, h1, h2, h3.steps st⟩), (Nat.le_trans zN0 st.size)⟩ Reg.none_ rfl
      have hx : x = .int .i64 d := hx
      subst hx
      refine Reg.RC_at (b := ⟨#[_,_,_,_,_,_,_,_,_,_,_,_,_,_,_,_,_,_,_,_,_,_,_,_,_,_,_,_,_,_,_,_,_,_,_,_,_,_,_,_,_,_,_,_,_,_,_,_,_,_,_,_,_,_,_,_], []⟩) rfl ?_
      refine Reg.RC_call rfl (by intro t ht; cases ht; exact Nat.le_of_ble_eq_true rfl) rfl (fun D v W hc hj hf K hK => ?_) (fun x hx => ?_)
      · obtain ⟨B, oa, ob, pa10, zN0⟩ := hj
        go_step
        exact hK.out _ _ Reg.any ⟨Below.alloc B B.size _, oa.alloc _, ob.alloc _, (fun _ => ⟨W.heap.size, rfl, zN0, Blk.new W _ _⟩), (Nat.le_trans zN0 (by rw [World.size_alloc]; exact Nat.le_succ _))⟩ Reg.none_ ⟨_, rfl⟩
      obtain ⟨gS, hx⟩ : ∃ g : Nat, x = .slice (some ⟨g, 0, none⟩) 2 2 := hx
      subst hx
      refine Reg.RC_at (b := ⟨#[_,_,_,_,_,_,_,_,_,_,_,_,_,_,_,_,_,_,_,_,_,_,_,_,_,_,_,_,_,_,_,_,_,_,_,_,_,_,_,_,_,_,_,_,_,_,_,_,_,_,_,_,_,_,_,_], []⟩) rfl ?_
      refine Reg.RC_call rfl (by intro t ht; cases ht; exact Nat.le_of_ble_eq_true rfl) rfl (fun D v W hc hj hf K hK => ?_) (fun x hx => ?_)
      · obtain ⟨B, oa, ob, pa10, zN0⟩ := hj
        obtain ⟨hd, he, -⟩ := hf (10, some 36) (.head _) rfl
        obtain ⟨g, h1, h2, oS⟩ := pa10 hd
        obtain rfl : gS = g := Reg.slc_eq ((show v 10 = Value.slice (some ⟨gS, 0, none⟩) 2 2 from he).symm.trans h1)
        clear he h1 h2
        go_step
        refine (cok _ _ oS.lt (oS.c 0 rfl) (oS.c 1 rfl)).mono ?_
        rintro e W' ⟨rfl, hb⟩
        have st : Steps W W' := hb
        exact hK.out _ _ Reg.any ⟨below_steps B (Nat.le_refl _) st, oa.steps st, ob.steps st, (fun h => let ⟨g, h1, h2, h3⟩ := pa10 h; ⟨g, h1, h2, h3.steps st⟩), (Nat.le_trans zN0 st.size)⟩ Reg.none_ rfl
      have hx : x = .int .i64 e := hx
      subst hx
      refine Reg.RC_at (b := ⟨#[_,_,_,_,_,_,_,_,_,_,_,_,_,_,_,_,_,_,_,_,_,_,_,_,_,_,_,_,_,_,_,_,_,_,_,_,_,_,_,_,_,_,_,_,_,_,_,_,_,_,_,_,_,_,_,_], []⟩) rfl ?_
      apply Reg.RC_pure (hc := rfl) (hst := rfl) (hw := rfl) (t := 5) (hd := rfl) (ht := Nat.le_of_ble_eq_true rfl)
      · intro D v W hc hj hf K hK
        go_step
        exact hK.out
      · rfl
      refine Reg.RC_end (fun D v W hd hj hf => ?_)
      obtain ⟨B, oa, ob, pa10, zN0⟩ := hj
      obtain ⟨-, he, -⟩ := hf (10, some 36) (.head _) rfl
      obtain ⟨g, h1, hSn, h3⟩ := pa10 (hd 10 (by decide))
      obtain rfl : gS = g := Reg.slc_eq ((show v 10 = Value.slice (some ⟨gS, 0, none⟩) 2 2 from he).symm.trans h1)
      have oS : Blk W gS 3 #[.int .i64 c, .int .i64 d] := h3
      have lowS : w.heap.size ≤ gS := Nat.le_trans uN0 hSn
      have saS : w.heap.size ≠ gS := by have := ia; have := hSn; omega
      have sbS : w.heap.size + 1 ≠ gS := by have := ib; have := hSn; omega
      have he10 := h1
      clear he h1 h3 pa10 hSn
      clear he10 zN0 uN0
      clear hd hf ia ib
      refine hQ _ _ ?_
      clear hQ hops Q' ops'
      clear oS
      repeat' (first | go_values | go_skip | go_guarded | go_step | go_upon)
      go_roundw
      case rel => exact ⟨k + 1, by omega, by go_num, by rw [HN.out], ownK, ownK, belowB⟩
      case measure => simp [intOf]; omega
    · obtain rfl : k = 4 := by omega
      rw [show ((4 : Nat) : Int) = 4 from rfl]
      go_wp2_with fail
      go_loopw [5, 39] (fun cc kk wr => ∃ k : Nat, k ≤ 4 ∧ kk = .int .i64 k ∧ cc = .int .i64 (r (4 + k)) ∧ Blk wr (w.heap.size) 71 CA ∧ Blk wr (w.heap.size + 1) 71 CB ∧ Below w.heap.size w wr) (fun _ kk _ => (4 - (intOf kk).toNat))
      case atStart => exact ⟨0, by omega, rfl, rfl, ownK, ownK, belowB⟩
      case round =>
        obtain ⟨k, hk, rfl, rfl, za, zb, zB⟩ := hrel
        clear oa ob B
        have oa := za
        have ob := zb
        have B := zB
        clear za zb zB
        rcases Nat.lt_or_ge k 4 with h4 | h4
        · have hA := cA2 k h4
          have hB := cB2 k h4
          have hn := HR.out (4 + k)
          obtain ⟨xk, hx⟩ : ∃ z, x (4 + k) = z := ⟨_, rfl⟩
          obtain ⟨yk, hy⟩ : ∃ z, y (4 + k) = z := ⟨_, rfl⟩
          rw [hx] at hA hn
          rw [hy] at hB hn
          obtain ⟨d, hd⟩ : ∃ z, cmpI xk yk = z := ⟨_, rfl⟩
          rw [hd] at hn
          obtain ⟨c, hc⟩ : ∃ z, r (4 + k) = z := ⟨_, rfl⟩
          rw [hc] at hn ⊢
          obtain ⟨e, he⟩ : ∃ z, orI c d = z := ⟨_, rfl⟩
          rw [he] at hn
          have cpk : ∀ w', Calls Try.prog 83 #[.int .i64 xk, .int .i64 yk] w' fun e w2 => e = .returned (.int .i64 d) ∧ Steps w' w2 := fun w' => by rw [← hd]; exact ccmp _ _ w'
          have cok : ∀ g w', g < w'.heap.size → w'.cell? ⟨g, 0, none⟩ = some (.int .i64 c) → w'.cell? ⟨g, 1, none⟩ = some (.int .i64 d) → Calls Try.prog 82 #[.slice (some ⟨g, 0, none⟩) 2 2] w' fun u w2 => u = .returned (.int .i64 e) ∧ Steps w' w2 := fun g w' h1 h2 h3 => by rw [← he]; exact cor _ _ g w' h1 h2 h3
          have HN := Hid.mk_ hn
          have hlt : decide ((k : Int) < 4) = true := decide_eq_true (by omega)
          clear hn hx hy hd hc he
          go_wp2_with fail
          refine Reg.wp_chain_n (fun N0 => fun D v W => Below w.heap.size w W ∧ Blk W (w.heap.size) 71 CA ∧ Blk W (w.heap.size + 1) 71 CB ∧ (D 10 = true → ∃ g : Nat, v 10 = .slice (some ⟨g, 0, none⟩) 2 2 ∧ N0 ≤ g ∧ Blk W g 3 #[.int .i64 c, .int .i64 d]) ∧ N0 ≤ W.heap.size)
            (Reg.inl [9, 10, 11]) (Reg.gv [(9, fun x => x = .int .i64 d), (11, fun x => x = .int .i64 e), (10, fun x => ∃ g : Nat, x = .slice (some ⟨g, 0, none⟩) 2 2)]) Reg.None_ (fun _ => Reg.Any) (fun _ _ => False) (Reg.pl [(11, [(10, some 52)]), (13, [(10, some 52)])]) (Reg.pl [])
            (by kernel_rfl) (by kernel_rfl) (by kernel_rfl) (Reg.gv_some _ (fun p hp => by simp only [List.mem_cons, List.not_mem_nil, or_false] at hp; rcases hp with rfl | rfl | rfl; exact ⟨_, rfl⟩; exact ⟨_, rfl⟩; exact ⟨_, 0, rfl⟩)) (fun N0 hN0 => ⟨fun v => ?_, (fun D v v' W hv hj => ?_), fun _ _ _ _ _ _ _ _ _ _ _ _ _ => Reg.none_, fun _ _ _ _ h => h.elim, fun ops' Q' hops hQ => ?_⟩)
          · exact ⟨(by first | with_reducible exact Below.drew B | with_reducible exact Below.drew (belowN B _) | (repeat' first | with_reducible assumption | with_reducible exact Below.refl _ _ | with_reducible refine Below.alloc ?_ ?_ _ | with_reducible refine Below.drew ?_ | with_reducible refine belowN ?_ _ | with_reducible refine Below.setCell ?_ ?_ _ | go_size)), (show Blk _ _ _ CA from (by first | with_reducible exact oa | (repeat' first | with_reducible assumption | (with_reducible refine Blk.new' ?_; first | with_reducible rfl | (simp only [World.size_alloc, World.size_setCell, World.size_drew]; done)) | with_reducible refine Blk.alloc ?_ _ | with_reducible refine Blk.drew ?_ | with_reducible refine Blk.drewN ?_ _ | with_reducible apply Blk.both | with_reducible refine Blk.far' ?_ ?_ | (show _ ≠ _; omega)))), (show Blk _ _ _ CB from (by first | with_reducible exact ob | (repeat' first | with_reducible assumption | (with_reducible refine Blk.new' ?_; first | with_reducible rfl | (simp only [World.size_alloc, World.size_setCell, World.size_drew]; done)) | with_reducible refine Blk.alloc ?_ _ | with_reducible refine Blk.drew ?_ | with_reducible refine Blk.drewN ?_ _ | with_reducible apply Blk.both | with_reducible refine Blk.far' ?_ ?_ | (show _ ≠ _; omega)))), (fun h => by cases h), (Nat.le_of_eq hN0.out)⟩
          · obtain ⟨B, oa, ob, pa10, zN0⟩ := hj
            exact ⟨B, oa, ob, (fun h => hv 10 h ▸ pa10 h), zN0⟩
          have ia : w.heap.size < N0 := by have h := oa.lt; have e := hN0.out; (try simp only [World.size_alloc, World.size_setCell, World.size_drew, World.heap_drewN] at e); omega
          have ib : w.heap.size + 1 < N0 := by have h := ob.lt; have e := hN0.out; (try simp only [World.size_alloc, World.size_setCell, World.size_drew, World.heap_drewN] at e); omega
          have uN0 : w.heap.size ≤ N0 := by have h := Below.size B; have e := hN0.out; (try simp only [World.size_alloc, World.size_setCell, World.size_drew, World.heap_drewN] at e); (try simp only [World.size_alloc, World.size_setCell, World.size_drew, World.heap_drewN] at h); omega
          clear B oa ob hN0
          apply Reg.RC_pure (hc := rfl) (hst := rfl) (hw := rfl) (t := 42) (hd := rfl) (ht := Nat.le_of_ble_eq_true rfl)
          · intro D v W hc hj hf K hK
            go_step
            exact hK.out
          · rfl
          apply Reg.RC_pure (hc := rfl) (hst := rfl) (hw := rfl) (t := 43) (hd := rfl) (ht := Nat.le_of_ble_eq_true rfl)
          · intro D v W hc hj hf K hK
            go_step
            exact hK.out
          · rfl
          apply Reg.RC_pure (hc := rfl) (hst := rfl) (hw := rfl) (t := 44) (hd := rfl) (ht := Nat.le_of_ble_eq_true rfl)
          · intro D v W hc hj hf K hK
            go_step
            exact hK.out
          · rfl
          apply Reg.RC_pure (hc := rfl) (hst := rfl) (hw := rfl) (t := 45) (hd := rfl) (ht := Nat.le_of_ble_eq_true rfl)
          · intro D v W hc hj hf K hK
            go_step
            exact hK.out
          · rfl
          apply Reg.RC_pure (hc := rfl) (hst := rfl) (hw := rfl) (t := 46) (hd := rfl) (ht := Nat.le_of_ble_eq_true rfl)
          · intro D v W hc hj hf K hK
            obtain ⟨B, oa, ob, pa10, zN0⟩ := hj
            have ca0 : World.cell? W ⟨w.heap.size, k, none⟩ = some (.int .i64 xk) := oa.c _ hA
            go_step
            exact hK.out
          · rfl
          apply Reg.RC_pure (hc := rfl) (hst := rfl) (hw := rfl) (t := 47) (hd := rfl) (ht := Nat.le_of_ble_eq_true rfl)
          · intro D v W hc hj hf K hK
            go_step
            exact hK.out
          · rfl
          apply Reg.RC_pure (hc := rfl) (hst := rfl) (hw := rfl) (t := 48) (hd := rfl) (ht := Nat.le_of_ble_eq_true rfl)
          · intro D v W hc hj hf K hK
            go_step
            exact hK.out
          · rfl
          apply Reg.RC_pure (hc := rfl) (hst := rfl) (hw := rfl) (t := 49) (hd := rfl) (ht := Nat.le_of_ble_eq_true rfl)
          · intro D v W hc hj hf K hK
            go_step
            exact hK.out
          · rfl
          apply Reg.RC_pure (hc := rfl) (hst := rfl) (hw := rfl) (t := 50) (hd := rfl) (ht := Nat.le_of_ble_eq_true rfl)
          · intro D v W hc hj hf K hK
            obtain ⟨B, oa, ob, pa10, zN0⟩ := hj
            have cb0 : World.cell? W ⟨w.heap.size + 1, k, none⟩ = some (.int .i64 yk) := ob.c _ hB
            go_step
            exact hK.out
          · rfl
          refine Reg.RC_call rfl (by intro t ht; cases ht; exact Nat.le_of_ble_eq_true rfl) rfl (fun D v W hc hj hf K hK => ?_) (fun x hx => ?_)
          · obtain ⟨B, oa, ob, pa10, zN0⟩ := hj
            go_step
            refine (cpk _).mono ?_
            rintro e W' ⟨rfl, hb⟩
            have st : Steps W W' := hb
            exact hK.out _ _ Reg.any ⟨below_steps B (Nat.le_refl _) st, oa.steps st, ob.steps st, (fun h => let ⟨g, h1, h2, h3⟩ := pa10 h; ⟨g, h1, h2, h3.steps st⟩), (Nat.le_trans zN0 st.size)⟩ Reg.none_ rfl
          have hx : x = .int .i64 d := hx
          subst hx
          refine Reg.RC_at (b := ⟨#[_,_,_,_,_,_,_,_,_,_,_,_,_,_,_,_,_,_,_,_,_,_,_,_,_,_,_,_,_,_,_,_,_,_,_,_,_,_,_,_,_,_,_,_,_,_,_,_,_,_,_,_,_,_,_,_], []⟩) rfl ?_
          refine Reg.RC_call rfl (by intro t ht; cases ht; exact Nat.le_of_ble_eq_true rfl) rfl (fun D v W hc hj hf K hK => ?_) (fun x hx => ?_)
          · obtain ⟨B, oa, ob, pa10, zN0⟩ := hj
            go_step
            exact hK.out _ _ Reg.any ⟨Below.alloc B B.size _, oa.alloc _, ob.alloc _, (fun _ => ⟨W.heap.size, rfl, zN0, Blk.new W _ _⟩), (Nat.le_trans zN0 (by rw [World.size_alloc]; exact Nat.le_succ _))⟩ Reg.none_ ⟨_, rfl⟩
          obtain ⟨gS, hx⟩ : ∃ g : Nat, x = .slice (some ⟨g, 0, none⟩) 2 2 := hx
          subst hx
          refine Reg.RC_at (b := ⟨#[_,_,_,_,_,_,_,_,_,_,_,_,_,_,_,_,_,_,_,_,_,_,_,_,_,_,_,_,_,_,_,_,_,_,_,_,_,_,_,_,_,_,_,_,_,_,_,_,_,_,_,_,_,_,_,_], []⟩) rfl ?_
          refine Reg.RC_call rfl (by intro t ht; cases ht; exact Nat.le_of_ble_eq_true rfl) rfl (fun D v W hc hj hf K hK => ?_) (fun x hx => ?_)
          · obtain ⟨B, oa, ob, pa10, zN0⟩ := hj
            obtain ⟨hd, he, -⟩ := hf (10, some 52) (.head _) rfl
            obtain ⟨g, h1, h2, oS⟩ := pa10 hd
            obtain rfl : gS = g := Reg.slc_eq ((show v 10 = Value.slice (some ⟨gS, 0, none⟩) 2 2 from he).symm.trans h1)
            clear he h1 h2
            go_step
            refine (cok _ _ oS.lt (oS.c 0 rfl) (oS.c 1 rfl)).mono ?_
            rintro e W' ⟨rfl, hb⟩
            have st : Steps W W' := hb
            exact hK.out _ _ Reg.any ⟨below_steps B (Nat.le_refl _) st, oa.steps st, ob.steps st, (fun h => let ⟨g, h1, h2, h3⟩ := pa10 h; ⟨g, h1, h2, h3.steps st⟩), (Nat.le_trans zN0 st.size)⟩ Reg.none_ rfl
          have hx : x = .int .i64 e := hx
          subst hx
          refine Reg.RC_at (b := ⟨#[_,_,_,_,_,_,_,_,_,_,_,_,_,_,_,_,_,_,_,_,_,_,_,_,_,_,_,_,_,_,_,_,_,_,_,_,_,_,_,_,_,_,_,_,_,_,_,_,_,_,_,_,_,_,_,_], []⟩) rfl ?_
          apply Reg.RC_pure (hc := rfl) (hst := rfl) (hw := rfl) (t := 5) (hd := rfl) (ht := Nat.le_of_ble_eq_true rfl)
          · intro D v W hc hj hf K hK
            go_step
            exact hK.out
          · rfl
          refine Reg.RC_end (fun D v W hd hj hf => ?_)
          obtain ⟨B, oa, ob, pa10, zN0⟩ := hj
          obtain ⟨-, he, -⟩ := hf (10, some 52) (.head _) rfl
          obtain ⟨g, h1, hSn, h3⟩ := pa10 (hd 10 (by decide))
          obtain rfl : gS = g := Reg.slc_eq ((show v 10 = Value.slice (some ⟨gS, 0, none⟩) 2 2 from he).symm.trans h1)
          have oS : Blk W gS 3 #[.int .i64 c, .int .i64 d] := h3
          have lowS : w.heap.size ≤ gS := Nat.le_trans uN0 hSn
          have saS : w.heap.size ≠ gS := by have := ia; have := hSn; omega
          have sbS : w.heap.size + 1 ≠ gS := by have := ib; have := hSn; omega
          have he10 := h1
          clear he h1 h3 pa10 hSn
          clear he10 zN0 uN0
          clear hd hf ia ib
          refine hQ _ _ ?_
          clear hQ hops Q' ops'
          clear oS
          repeat' (first | go_values | go_skip | go_guarded | go_step | go_upon)
          go_roundw
          case rel => exact ⟨k + 1, by omega, by go_num, by rw [show 4 + (k + 1) = 4 + k + 1 from by omega, HN.out], ownK, ownK, belowB⟩
          case measure => simp [intOf]; omega
        · obtain rfl : k = 4 := by omega
          rw [show ((4 : Nat) : Int) = 4 from rfl]
          go_wp2
          go_returns
          exact ⟨rfl, belowB⟩
def arrF (a : Arr) (i : Nat) : Int := match i with | 0 => a.a1 | 1 => a.a2 | 2 => a.b1 | 3 => a.b2 | 4 => a.k0 | 5 => a.k1 | 6 => a.k2 | _ => a.k3
def arrR (x y : Nat → Int) : Nat → Int
  | 0 => cmpI (x 0 + x 2) (y 0 + y 2)
  | k + 1 => orI (arrR x y k) (cmpI (x k) (y k))
theorem qcompare (a b : Arr) (w : World) (ha : okA a) (hb : okA b) : Calls Try.prog 55 #[arrV a, arrV b] w fun e w' => e = .returned (.int .i64 (cmpA a b)) ∧ Steps w w' := by
  rw [cmpA_or]
  exact qcompare0 (arrF a) (arrF b) (arrR (arrF a) (arrF b)) a.n b.n w ⟨ha.1, ha.2.1⟩ ha.2.2 ⟨hb.1, hb.2.1⟩ hb.2.2 rfl (fun _ => rfl)
end Go.Proofs.Ytibdehlmflaodaa
