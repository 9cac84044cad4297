import Derived.Test.YtibdehlmflaodaaCTl
import Derived.Test.YtibdehlmflaodaaCNd
namespace Go.Proofs.Ytibdehlmflaodaa
open Go.RowKit
set_option maxHeartbeats 1600000 in
set_option maxRecDepth 1000000 in
theorem wfrom (z : Int) (w : World) (z0 : -9223372036854775808 ≤ z) (z1 : z ≤ 9223372036854775807) :
    Calls Try.prog 89 #[.int .i64 z] w fun e w' => ∃ v, e = .returned v ∧ Num w' v z ∧ Steps w w' := by
  have hz : fits z := fits_small (by unfold absN; omega)
  rcases Int.lt_or_le z 0 with h1 | h1
  · have hd : decide (z < 0) = true := by simp [h1]
    have HZ : Hid (zv true (lval [(-z) % 4294967296, (-z) / 4294967296]) = z) := by show zv _ _ = z; simp only [zv, lval, if_true, Bool.false_eq_true, if_false]; omega
    have HE := Hid.mk_ (And.intro (errN_fits hz) (clipN_fits hz))
    clear hz
    obtain ⟨m, hm⟩ : ∃ m, -z = m := ⟨_, rfl⟩
    have hw : IntKind.u64.wrap (-IntKind.u64.wrap z) = m := by simp only [IntKind.wrap_u64]; omega
    rw [hm] at HZ
    have m0 : 0 ≤ m ∧ m ≤ 9223372036854775808 := by omega
    clear hm
    have cm : Calls Try.prog 76 #[.bool true, .slice (some ⟨w.heap.size + 1, 0, none⟩) 2 2] ((w.alloc (.cells #[.bool false, .slice none 0 0] 26)).alloc (.cells #[.int .u32 (m % 4294967296), .int .u32 (m / 4294967296)] 136)) (fun e w' => ∃ v, e = .returned (.tuple #[v, .int .i64 0]) ∧ Num w' v z ∧ Steps ((w.alloc (.cells #[.bool false, .slice none 0 0] 26)).alloc (.cells #[.int .u32 (m % 4294967296), .int .u32 (m / 4294967296)] 136)) w') := by
      have L : Lim ((w.alloc (.cells #[.bool false, .slice none 0 0] 26)).alloc (.cells #[.int .u32 (m % 4294967296), .int .u32 (m / 4294967296)] 136)) (.slice (some ⟨w.heap.size + 1, 0, none⟩) 2 2) [m % 4294967296, m / 4294967296] := Lim.of_blk' (l := [m % 4294967296, m / 4294967296]) (Blk.new1 w _ _ _) (by simp only [lok_cons]; refine ⟨⟨by omega, by omega⟩, ⟨by omega, by omega⟩, lok_nil⟩)
      have C := wmadeN true _ L (by unfold few; simp)
      rw [HZ.out, HE.out.1, HE.out.2] at C
      exact C
    go_enter Try.func89, Try.ntmps89
    go_wp2_with fail
    refine (cm).mono ?_
    rintro e w1 ⟨v1, rfl, hv1, hb1⟩
    have st : Steps _ w1 := hb1
    have Bn : Below w.heap.size w w1 := belowA st
    have nr : Blk w1 (w.heap.size) 26 #[.bool false, .slice none 0 0] := Blk.stepsA st
    clear st
    have B := Bn
    clear Bn
    have or := nr
    clear nr
    have cr0 := or.q0
    have cr1 := or.q1
    have fr := or.fr
    have lr := or.lt
    obtain ⟨bb, ao, n, c, rfl⟩ := hv1.shape
    have HV := Hid.mk_ hv1
    clear hv1
    go_wp2
    refine bodyPost_ret (by simp [results, Try.results89, go_sem, cr0, cr1, fr, lr]; rfl) rfl ?_
    exact ⟨_, rfl, (HV.out.put2 or).steps ((Below.refl _ _).alloc (Nat.le_refl _) _), belowB⟩
  · have hd : decide (z < 0) = false := by simp; omega
    have HZ : Hid (zv false (lval [z % 4294967296, z / 4294967296]) = z) := by show zv _ _ = z; simp only [zv, lval, if_true, Bool.false_eq_true, if_false]; omega
    have HE := Hid.mk_ (And.intro (errN_fits hz) (clipN_fits hz))
    clear hz
    have cm : Calls Try.prog 76 #[.bool false, .slice (some ⟨w.heap.size + 1, 0, none⟩) 2 2] ((w.alloc (.cells #[.bool false, .slice none 0 0] 26)).alloc (.cells #[.int .u32 (z % 4294967296), .int .u32 (z / 4294967296)] 136)) (fun e w' => ∃ v, e = .returned (.tuple #[v, .int .i64 0]) ∧ Num w' v z ∧ Steps ((w.alloc (.cells #[.bool false, .slice none 0 0] 26)).alloc (.cells #[.int .u32 (z % 4294967296), .int .u32 (z / 4294967296)] 136)) w') := by
      have L : Lim ((w.alloc (.cells #[.bool false, .slice none 0 0] 26)).alloc (.cells #[.int .u32 (z % 4294967296), .int .u32 (z / 4294967296)] 136)) (.slice (some ⟨w.heap.size + 1, 0, none⟩) 2 2) [z % 4294967296, z / 4294967296] := Lim.of_blk' (l := [z % 4294967296, z / 4294967296]) (Blk.new1 w _ _ _) (by simp only [lok_cons]; refine ⟨⟨by omega, by omega⟩, ⟨by omega, by omega⟩, lok_nil⟩)
      have C := wmadeN false _ L (by unfold few; simp)
      rw [HZ.out, HE.out.1, HE.out.2] at C
      exact C
    go_enter Try.func89, Try.ntmps89
    go_wp2_with fail
    refine (cm).mono ?_
    rintro e w1 ⟨v1, rfl, hv1, hb1⟩
    have st : Steps _ w1 := hb1
    have Bn : Below w.heap.size w w1 := belowA st
    have nr : Blk w1 (w.heap.size) 26 #[.bool false, .slice none 0 0] := Blk.stepsA st
    clear st
    have B := Bn
    clear Bn
    have or := nr
    clear nr
    have cr0 := or.q0
    have cr1 := or.q1
    have fr := or.fr
    have lr := or.lt
    obtain ⟨bb, ao, n, c, rfl⟩ := hv1.shape
    have HV := Hid.mk_ hv1
    clear hv1
    go_wp2
    refine bodyPost_ret (by simp [results, Try.results89, go_sem, cr0, cr1, fr, lr]; rfl) rfl ?_
    exact ⟨_, rfl, (HV.out.put2 or).steps ((Below.refl _ _).alloc (Nat.le_refl _) _), belowB⟩
end Go.Proofs.Ytibdehlmflaodaa
namespace Go.Proofs.Ytibdehlmflaodaa
open Go.RowKit
end Go.Proofs.Ytibdehlmflaodaa
