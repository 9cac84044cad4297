/- QuadWithin: for any points and any indices the law returns true: At has the four indices, the elements of the code lie where they must, and the code is that of its points. Conditions: none. -/
import Derived.Test.YtibdehlmflaodaaRows
import Derived.Test.YtibdehlmflaodaaCGluP
import Derived.Test.YtibdehlmflaodaaCPc
namespace Go.Proofs.Ytibdehlmflaodaa
open Go.ChangeShapes Go.WideShapes Go.ChangeAt Go.RowKit Go.Joins
set_option maxHeartbeats 6400000 in
set_option maxRecDepth 1000000 in
theorem within_long {v : Value} {l : PL} (k : Nat → Int) (w : World) (hv : Pts w v l) (hl : 40 < l.length) :
    Calls Try.prog 7 #[v, .agg #[.int .i64 (k 0), .int .i64 (k 1), .int .i64 (k 2), .int .i64 (k 3)]] w fun e w' => e = .returned (.bool true) ∧ Below w.heap.size w w' := by
  obtain ⟨ao, cap, rfl⟩ := hv.shape
  obtain ⟨n, hln⟩ : ∃ n, l.length = n := ⟨_, rfl⟩
  rw [hln] at hl ⊢
  clear hv hln
  have g1 : (40 : Int) < (n : Int) := by omega
  go_enter Try.func7, Try.ntmps7
  go_wp2_with fail
  refine (lalive20 _).mono ?_
  rintro e w1 ⟨rfl, hs1⟩
  have B : Below w.heap.size w w1 := belowA hs1
  clear hs1
  go_wp2_with fail
  go_returns
  exact ⟨rfl, belowB⟩
theorem within_walk {v : Value} {l : PL} (k : Nat → Int) (w : World) (hv : Pts w v l) (hb : ∀ i, -9223372036854775808 ≤ k i ∧ k i ≤ 9223372036854775807) :
    Calls Try.prog 7 #[v, .agg #[.int .i64 (k 0), .int .i64 (k 1), .int .i64 (k 2), .int .i64 (k 3)]] w fun e w' => e = .returned (.bool true) ∧ Below w.heap.size w w' := by
  rcases Nat.lt_or_ge 40 l.length with g | g
  · exact within_long k w hv g
  · rcases codeS_cases k g with h | ⟨ho, hw, hc, h⟩
    · rcases h with (h | h) | h
      · exact within_bad k 8 w hv g hb h (.inl (.inl rfl))
      · exact within_bad k 2 w hv g hb h (.inl (.inr rfl))
      · exact within_bad k 18 w hv g hb h (.inr rfl)
    · exact within_ok k w hv g hb ho hw hc h
namespace quadWithin
theorem own : ownKnob Try.prog.godebug = none := by kernel_rfl
set_option maxRecDepth 100000 in
theorem lifted (os : Os) (started : os.Started) (H : Type) (enc : TypeId × Value → H) :
    ReturnsInHanded {} Try.checked os 7 .any (Rows.quadWithinSpec.pre6 enc Try.prog Try.f7 Rows.quadWithinRow.domain false) (Rows.quadWithinSpec.post enc Try.prog Try.f7 false true false false) := by
  refine returnsInHanded_of_change (C := Try.checked) own started (by kernel_rfl) Try.func7
    (ChangeSpec.witness6 (enc := enc) (C := Try.checked) false ⟨#[], #[.slice none 0 0, .agg #[.int .i64 0, .int .i64 0, .int .i64 0, .int .i64 0]], []⟩ 8 (by kernel_rfl) (by kernel_rfl) (by kernel_rfl) (by kernel_rfl)) ?_
  intro W base args ds gs before hval0 hW hcnd _
  have hval : ∀ (j : Nat) t v, Try.f7.params[j]? = some t → args[j]? = some v → Value.okWide Try.prog W .any base t v := hval0
  have hW' := hW
  obtain ⟨p, q, hA0, hV, rfl, hfz, hnd⟩ := hW
  have hA : DataW.TrodAll enc Try.prog W 0 (fun _ => true) true Try.f7.params.toList args.toList ds p := hA0
  have hS := hA
  rw [Try.params7] at hA hval
  obtain ⟨v0, v1, d0, d1, p0, p1, rfl, rfl, rfl, h0, h1⟩ := trodAll_two hA
  obtain ⟨rfl, rfl⟩ := trodVars_none hV
  obtain ⟨l, hl⟩ := open_pts (hval 0 22 v0 rfl rfl) h0
  obtain ⟨k, rfl, hk⟩ := open_at4 (hval 1 23 v1 rfl rfl) h1
  clear hA0 hval0
  refine (within_walk k W hl hk).mono fun e W' ⟨he, hb⟩ => ?_
  subst he
  exact ⟨_, rfl, post_below (pv := []) hW' (fun _ _ _ => (trodAll_cons_mk (shut_bool Try.underlying4 _) trodAll_mk0)) (fun sp hs => trodAll_stays kids sfull hb (by decide) hS (fun p hp => hs p (List.mem_append_left _ hp))) (fun _ _ => rfl) rfl
    hb (ok_one (by kernel_rfl) rfl (okWide_bool_mk Try.underlying4 _))⟩
theorem over : Rows.quadWithinRow.holds Try.pinned (OpenSpec.ofChange Rows.quadWithinSpec) :=
  OpenClaim.holds_of_wide 7 Try.f7 rfl rfl rfl rfl rfl rfl rfl ⟨rfl, rfl, rfl, rfl, rfl⟩ rfl rfl rfl rfl rfl (by kernel_rfl) Try.func7 (by kernel_rfl)
    (of_decide_eq_true (by kernel_rfl)) (by unfold Func.isWrapper; first | (rw [if_pos (by decide +kernel)]; kernel_rfl) | (rw [if_neg (by decide +kernel)]; exact ⟨rfl, rfl⟩))
    (fun os started H enc _ => lifted os started H enc)
theorem proved : Rows.QuadWithinSaid :=
  over
end quadWithin
theorem quadWithin_holds : Rows.QuadWithinSaid := quadWithin.proved
#print axioms quadWithin_holds
end Go.Proofs.Ytibdehlmflaodaa
