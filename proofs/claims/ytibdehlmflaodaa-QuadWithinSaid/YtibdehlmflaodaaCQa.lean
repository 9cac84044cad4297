import Derived.Test.YtibdehlmflaodaaCUe
namespace Go.Proofs.Ytibdehlmflaodaa
open Go.RowKit
def PCells (w : World) (b o : Nat) (l : List (Int × Int)) : Prop := ∀ t, t < l.length → w.cell? ⟨b, o + t * 2, none⟩ = some (.int .i64 (l.getD t (0, 0)).1) ∧ w.cell? ⟨b, o + t * 2 + 1, none⟩ = some (.int .i64 (l.getD t (0, 0)).2)
def Pts (w : World) (v : Value) (l : List (Int × Int)) : Prop :=
  (∀ k, -9223372036854775808 ≤ (l.getD k (0, 0)).1 ∧ (l.getD k (0, 0)).1 ≤ 9223372036854775807 ∧ -9223372036854775808 ≤ (l.getD k (0, 0)).2 ∧ (l.getD k (0, 0)).2 ≤ 9223372036854775807) ∧
  ∃ ao cap, v = .slice ao l.length cap ∧ l.length ≤ cap ∧ (l ≠ [] → ∃ b o, ao = some ⟨b, o, none⟩ ∧ b < w.heap.size ∧ PCells w b o l)
theorem Pts.steps {w w' : World} {v : Value} {l : List (Int × Int)} (h : Pts w v l) (hs : Steps w w') : Pts w' v l := by
  obtain ⟨h0, ao, cap, rfl, h1, h2⟩ := h
  refine ⟨h0, ao, cap, rfl, h1, fun hn => ?_⟩
  obtain ⟨b, o, rfl, hb, hc⟩ := h2 hn
  exact ⟨b, o, rfl, Nat.lt_of_lt_of_le hb hs.size, fun t ht => ⟨(hs.cell (p := ⟨b, o + t * 2, none⟩) hb).trans (hc t ht).1, (hs.cell (p := ⟨b, o + t * 2 + 1, none⟩) hb).trans (hc t ht).2⟩⟩
theorem Pts.shape {w : World} {v : Value} {l : List (Int × Int)} (h : Pts w v l) : ∃ ao cap, v = .slice ao l.length cap := by obtain ⟨_, ao, cap, e, _⟩ := h; exact ⟨ao, cap, e⟩
theorem Pts.cells {w : World} {ao : Option Addr} {n cap : Nat} {l : List (Int × Int)} (h : Pts w (.slice ao n cap) l) : n = l.length ∧ n ≤ cap ∧ (0 < n → ∃ b o, ao = some ⟨b, o, none⟩ ∧ b < w.heap.size ∧ PCells w b o l) := by
  obtain ⟨_, ao', cap', e, h1, h2⟩ := h
  injection e with e1 e2 e3
  subst e1 e2 e3
  refine ⟨rfl, h1, fun hp => h2 ?_⟩
  rintro rfl
  cases hp
def okP (p : Int × Int) : Prop := -1048576 ≤ p.1 ∧ p.1 ≤ 1048576 ∧ -1048576 ≤ p.2 ∧ p.2 ≤ 1048576
instance (p : Int × Int) : Decidable (okP p) := by unfold okP; infer_instance
def chkP (l : List (Int × Int)) : Int := if 200 < l.length then 4 else if ∀ p ∈ l, okP p then 0 else 8
theorem chk_all {l : List (Int × Int)} (h : ∀ k, k < l.length → okP (l.getD k (0, 0))) : ∀ p ∈ l, okP p := by
  intro p hp
  obtain ⟨k, hk, e⟩ := List.getElem_of_mem hp
  have := h k hk
  simp [List.getD, hk, e] at this
  exact this
theorem chk_not {l : List (Int × Int)} {k : Nat} (hk : k < l.length) (h : ¬ okP (l.getD k (0, 0))) : ¬ ∀ p ∈ l, okP p := by
  intro ha
  apply h
  simp only [List.getD, List.getElem?_eq_getElem hk, Option.getD_some]
  exact ha _ (List.getElem_mem hk)
end Go.Proofs.Ytibdehlmflaodaa
namespace Go.Proofs.Ytibdehlmflaodaa
open Go.RowKit
theorem max_step (m y : Int) : (if m < y then y else m) = max m y := by split <;> omega
theorem run_max4 {P : Program} (ts : Array TypeId) (t : TypeId) (x y z u : Int) (w : World) : (Builtin.max_ ts t #[.int .i64 x, .int .i64 y, .int .i64 z, .int .i64 u]).run P w = .ok (.int .i64 (max (max (max x y) z) u)) w := by
  rw [← max_step, ← max_step, ← max_step]
  by_cases h1 : x < y <;> simp only [h1, if_true, if_false] <;> (first | (by_cases h2 : y < z <;> simp [Builtin.max_, Builtin.max2, go_sem, h1, h2] <;> split <;> simp_all) | (by_cases h2 : x < z <;> simp [Builtin.max_, Builtin.max2, go_sem, h1, h2] <;> split <;> simp_all))
set_option maxHeartbeats 3200000 in
set_option maxRecDepth 1000000 in
theorem qcheckP {v : Value} {l : List (Int × Int)} (w : World) (hv : Pts w v l) (hl : l.length ≤ 1000) :
    Calls Try.prog 10 #[v] w fun e w' => e = .returned (.int .i64 (chkP l)) ∧ Steps w w' := by
  have hbd := hv.1
  obtain ⟨ao, cap, rfl⟩ := hv.shape
  obtain ⟨-, h1, h2⟩ := hv.cells
  obtain ⟨n, hn⟩ : ∃ n, l.length = n := ⟨_, rfl⟩
  have H := Hid.mk_ hn
  have HBD := Hid.mk_ hbd
  rw [hn] at h1 h2 hl ⊢
  clear hv hn hbd
  by_cases hg : 200 < n
  · have E : Hid (chkP l = 4) := if_pos (by rw [H.out]; exact hg)
    go_enter Try.func10, Try.ntmps10
    go_wp2
    go_returns
    exact ⟨retI E.out.symm, belowB⟩
  · have E : Hid (chkP l = if ∀ p ∈ l, okP p then 0 else 8) := if_neg (by rw [H.out]; exact hg)
    go_enter Try.func10, Try.ntmps10
    go_wp2
    go_loopw [4, 10] (fun _ kk wr => ∃ k : Nat, k ≤ n ∧ kk = .int .i64 k ∧ (∀ t, t < k → okP (l.getD t (0, 0))) ∧ Below w.heap.size w wr) (fun _ kk _ => (n - (intOf kk).toNat))
    case atStart => exact ⟨0, Nat.zero_le _, rfl, (fun _ h => by cases h), Below.refl _ _⟩
    case round =>
      obtain ⟨k, hk, rfl, hall, hb⟩ := hrel
      have HB := Hid.mk_ hb
      have HA := Hid.mk_ hall
      have zb := hb.size
      rcases Nat.lt_or_ge k n with h3 | h3
      · obtain ⟨b, o, rfl, hbb, hc⟩ := h2 (by omega)
        obtain ⟨bx1, bx2, by1, by2⟩ := HBD.out k
        obtain ⟨x, hx⟩ : ∃ x, (l.getD k (0, 0)).1 = x := ⟨_, rfl⟩
        obtain ⟨y, hy⟩ : ∃ x, (l.getD k (0, 0)).2 = x := ⟨_, rfl⟩
        rw [hx] at bx1 bx2
        rw [hy] at by1 by2
        have c1 : wr.cell? ⟨b, o + k * 2, none⟩ = some (.int .i64 x) := by rw [← hx]; exact (hb.cell (p := ⟨b, o + k * 2, none⟩) hbb).trans (hc k (by rw [H.out]; omega)).1
        have c2 : wr.cell? ⟨b, o + k * 2 + 1, none⟩ = some (.int .i64 y) := by rw [← hy]; exact (hb.cell (p := ⟨b, o + k * 2 + 1, none⟩) hbb).trans (hc k (by rw [H.out]; omega)).2
        have HX := Hid.mk_ (And.intro hx hy)
        clear hc h2 hall hx hy hb
        obtain ⟨nx, hnx⟩ : ∃ z, wrap64 (-x) = z := ⟨_, rfl⟩
        obtain ⟨ny, hny⟩ : ∃ z, wrap64 (-y) = z := ⟨_, rfl⟩
        obtain ⟨M, hM⟩ : ∃ M, max (max (max x nx) y) ny = M := ⟨_, rfl⟩
        obtain ⟨mm, hmm⟩ : ∃ z, (if y < x then y else x) = z := ⟨_, rfl⟩
        have hmx : ∀ w' : World, (Builtin.max_ #[2, 2, 2, 2] 2 #[.int .i64 x, .int .i64 nx, .int .i64 y, .int .i64 ny]).run Try.prog w' = .ok (.int .i64 M) w' := fun w' => by rw [← hM]; exact run_max4 _ _ _ _ _ _ w'
        have F : Hid (okP (x, y) ↔ ¬ 1048576 < M ∧ ¬ mm < -1048576) := by
          show _ ↔ _
          rw [← hM, ← hmm, ← hnx, ← hny]
          unfold okP wrap64
          dsimp only
          constructor
          · rintro ⟨q1, q2, q3, q4⟩; split <;> omega
          · rintro ⟨q1, q2⟩; split at q2 <;> omega
        clear hM
        have bad : ¬ okP (x, y) → Hid (chkP l = 8) := fun hq => by
          show chkP l = 8
          rw [E.out, if_neg]
          refine chk_not (k := k) (by rw [H.out]; exact h3) ?_
          have e : l.getD k (0, 0) = (x, y) := Prod.ext HX.out.1 HX.out.2
          rw [e]; exact hq
        by_cases a1 : 1048576 < M
        · have BB := bad (fun h => (F.out.1 h).1 a1)
          clear bad
          go_wp2
          go_returns
          exact ⟨retI BB.out.symm, HB.out.alloc zb _⟩
        by_cases a2 : mm < -1048576
        · have BB := bad (fun h => (F.out.1 h).2 a2)
          clear bad
          go_wp2
          go_returns
          exact ⟨retI BB.out.symm, HB.out.alloc zb _⟩
        have HQ := Hid.mk_ (F.out.2 ⟨a1, a2⟩)
        have hq := HQ.out
        unfold okP at hq
        dsimp only at hq
        have e1 : nx = -x := by rw [← hnx]; unfold wrap64; omega
        have e2 : ny = -y := by rw [← hny]; unfold wrap64; omega
        rw [e1, e2] at hmx
        clear hq e1 e2 hnx hny
        clear bad F
        go_wp2
        go_roundw
        case rel =>
          refine ⟨k + 1, by omega, by go_num, fun t ht => ?_, HB.out.alloc zb _⟩
          rcases Nat.lt_or_ge t k with h4 | h4
          · exact HA.out t h4
          · obtain rfl : t = k := by omega
            have e : l.getD t (0, 0) = (x, y) := Prod.ext HX.out.1 HX.out.2
            rw [e]; exact HQ.out
        case measure => simp [intOf]; omega
      · have hkn : k = n := by omega
        subst hkn
        clear h2 hb
        go_wp2
        go_returns
        refine ⟨retI ?_, HB.out⟩
        rw [E.out, if_pos (chk_all (fun t ht => HA.out t (by rw [H.out] at ht; exact ht)))]
end Go.Proofs.Ytibdehlmflaodaa
