import Derived.Deep.Slices
import Derived.Test.YtibdehlmflaodaaCGlue
import Derived.Test.YtibdehlmflaodaaCVa
/- Quads, and lists of quads, as arguments. -/
namespace Go.Proofs.Ytibdehlmflaodaa
open Go.ChangeShapes Go.WideShapes Go.ChangeAt Go.RowKit Go.Joins
def Lens (cs : Array Value) (la lb : Nat → Nat) : Prop := ∀ i, i < 4 → (∃ a c, cs[4 + i * 4 + 1]? = some (.slice a (la i) c)) ∧ ∃ a c, cs[4 + i * 4 + 3]? = some (.slice a (lb i) c)
def Few4 (r : Nat → Option Rat) (la lb : Nat → Nat) : Prop := ∀ i, i < 4 → ∀ q, r i = some q → absN q.num ≤ bp (la i) ∧ (q.den : Int) ≤ bp (lb i)
theorem raw_fb {w : World} {gx gy : Bool} {sa sb : Value} {la lb : List Int} (ha : Lim w sa la) (hb : Lim w sb lb) : ∃ o, FB w (.agg #[.bool gx, sa, .bool gy, sb]) o ∧ ∀ q, o = some q → absN q.num ≤ bp la.length ∧ (q.den : Int) ≤ bp lb.length := by
  rcases raw_cases (gx := gx) (gy := gy) ha hb with ⟨r, h, h1, h2⟩ | h
  · exact ⟨some r, h, fun q e => by cases e; exact ⟨h1, h2⟩⟩
  · exact ⟨none, h, fun q e => by cases e⟩
section
variable {H : Type} {enc : TypeId × Value → H} {W : World} {base : Nat} {held : Bool} {n : Nat}
theorem cells4 : Try.prog.cellsOf 23 = 4 := by kernel_rfl
theorem cells16 : Try.prog.cellsOf 29 = 16 := by kernel_rfl
theorem cells20 : Try.prog.cellsOf 31 = 20 := by kernel_rfl
theorem cells1 : Try.prog.cellsOf 3 = 1 := by kernel_rfl
def f4 {α : Type} (a b c d : α) (i : Nat) : α := match i with | 0 => a | 1 => b | 2 => c | _ => d
theorem lt4 {i : Nat} (h : i < 4) : i = 0 ∨ i = 1 ∨ i = 2 ∨ i = 3 := by omega
set_option maxRecDepth 100000 in
set_option maxHeartbeats 1000000 in
theorem open_quad {cs : List Value} {y : DataW H × List MemPlace} (h : DataW.trod enc Try.prog W base (fun _ => true) held n 31 cs = some y) :
    ∃ r la lb, QX W cs.toArray r ∧ Lens cs.toArray la lb ∧ Few4 r la lb := by
  obtain ⟨xs, m, _, _, hc, hl, hf⟩ := DataW.trod_struct Try.underlying31 h
  rw [cells20] at hc
  have h0 := hf 0 _ rfl
  have h1 := hf 1 _ rfl
  match xs, hl, cs, hc with
  | [x0, x1], _, [c0, c1, c2, c3, c4, c5, c6, c7, c8, c9, c10, c11, c12, c13, c14, c15, c16, c17, c18, c19], _ =>
    simp [cells4, cells16] at h0 h1
    obtain ⟨ys, k, _, _, _, hyl, hy⟩ := DataW.trod_array Try.underlying23 h0
    obtain ⟨zs, j, _, _, _, hzl, hz⟩ := DataW.trod_array Try.underlying29 h1
    match ys, hyl, zs, hzl with
    | [y0, y1, y2, y3], _, [z0, z1, z2, z3], _ =>
      have p0 := hy 0 (by omega)
      have p1 := hy 1 (by omega)
      have p2 := hy 2 (by omega)
      have p3 := hy 3 (by omega)
      have q0 := hz 0 (by omega)
      have q1 := hz 1 (by omega)
      have q2 := hz 2 (by omega)
      have q3 := hz 3 (by omega)
      simp [cells1] at p0 p1 p2 p3
      simp [cellsF] at q0 q1 q2 q3
      obtain ⟨i0, e0, _, _⟩ := DataW.trod_int Try.underlying3 p0
      obtain ⟨i1, e1, _, _⟩ := DataW.trod_int Try.underlying3 p1
      obtain ⟨i2, e2, _, _⟩ := DataW.trod_int Try.underlying3 p2
      obtain ⟨i3, e3, _, _⟩ := DataW.trod_int Try.underlying3 p3
      simp only [List.cons.injEq, and_true] at e0 e1 e2 e3
      obtain ⟨gx0, sa0, gy0, sb0, la0, lb0, f0, l00, l01⟩ := open_frac q0
      obtain ⟨gx1, sa1, gy1, sb1, la1, lb1, f1, l10, l11⟩ := open_frac q1
      obtain ⟨gx2, sa2, gy2, sb2, la2, lb2, f2, l20, l21⟩ := open_frac q2
      obtain ⟨gx3, sa3, gy3, sb3, la3, lb3, f3, l30, l31⟩ := open_frac q3
      simp only [List.cons.injEq, and_true] at f0 f1 f2 f3
      obtain ⟨rfl, rfl, rfl, rfl⟩ := f0
      obtain ⟨rfl, rfl, rfl, rfl⟩ := f1
      obtain ⟨rfl, rfl, rfl, rfl⟩ := f2
      obtain ⟨rfl, rfl, rfl, rfl⟩ := f3
      subst e0 e1 e2 e3
      obtain ⟨o0, b0, s0⟩ := raw_fb (gx := gx0) (gy := gy0) l00 l01
      obtain ⟨o1, b1, s1⟩ := raw_fb (gx := gx1) (gy := gy1) l10 l11
      obtain ⟨o2, b2, s2⟩ := raw_fb (gx := gx2) (gy := gy2) l20 l21
      obtain ⟨o3, b3, s3⟩ := raw_fb (gx := gx3) (gy := gy3) l30 l31
      obtain ⟨_, _, rfl⟩ := l00.shape
      obtain ⟨_, _, rfl⟩ := l01.shape
      obtain ⟨_, _, rfl⟩ := l10.shape
      obtain ⟨_, _, rfl⟩ := l11.shape
      obtain ⟨_, _, rfl⟩ := l20.shape
      obtain ⟨_, _, rfl⟩ := l21.shape
      obtain ⟨_, _, rfl⟩ := l30.shape
      obtain ⟨_, _, rfl⟩ := l31.shape
      refine ⟨f4 o0 o1 o2 o3, f4 la0.length la1.length la2.length la3.length, f4 lb0.length lb1.length lb2.length lb3.length, ⟨rfl, by simp [Value.oneCell'], rfl, fun i hi => ?_⟩, fun i hi => ?_, fun i hi => ?_⟩
      · rcases lt4 hi with rfl | rfl | rfl | rfl
        · exact ⟨_, _, _, _, _, _, _, _, rfl, rfl, rfl, rfl, b0⟩
        · exact ⟨_, _, _, _, _, _, _, _, rfl, rfl, rfl, rfl, b1⟩
        · exact ⟨_, _, _, _, _, _, _, _, rfl, rfl, rfl, rfl, b2⟩
        · exact ⟨_, _, _, _, _, _, _, _, rfl, rfl, rfl, rfl, b3⟩
      · rcases lt4 hi with rfl | rfl | rfl | rfl <;> exact ⟨⟨_, _, rfl⟩, _, _, rfl⟩
      · rcases lt4 hi with rfl | rfl | rfl | rfl
        · exact s0
        · exact s1
        · exact s2
        · exact s3
set_option maxRecDepth 100000 in
theorem open_quadArg {r0 : Reach} {b0 : Nat} {v : Value} {d : DataW H} {p : List MemPlace} (hv : Value.okWide Try.prog W r0 b0 31 v) (h : DataW.Trod enc Try.prog W base (fun _ => true) held 31 v d p) :
    ∃ cs r la lb, v = .agg cs ∧ QX W cs r ∧ Lens cs la lb ∧ Few4 r la lb := by
  obtain ⟨cs, rfl, _⟩ := okWide_struct Try.underlying31 hv
  obtain ⟨fuel, hf⟩ := h
  obtain ⟨r, la, lb, h1, h2, h3⟩ := open_quad hf
  have e : (Value.cells (.agg cs)).toList.toArray = cs := by simp [Value.cells]
  rw [e] at h1 h2
  exact ⟨cs, r, la, lb, rfl, h1, h2, h3⟩
set_option maxRecDepth 100000 in
theorem open_quads {r0 : Reach} {b0 : Nat} {v : Value} {d : DataW H} {p : List MemPlace} (hv : Value.okWide Try.prog W r0 b0 45 v) (h : DataW.Trod enc Try.prog W base (fun _ => true) held 45 v d p) :
    ∃ (n : Nat) (CS : Nat → Array Value) (R : Nat → Nat → Option Rat) (LA LB : Nat → Nat → Nat), QSl W v n CS R ∧ ∀ t, t < n → Lens (CS t) (LA t) (LB t) ∧ Few4 (R t) (LA t) (LB t) := by
  obtain ⟨a0, len0, cap0, rfl⟩ := okWide_slice Try.underlying45 hv
  obtain ⟨fuel, hf⟩ := h
  replace hf : DataW.trod enc Try.prog W base (fun _ => true) held fuel 45 [.slice a0 len0 cap0] = some (d, p) := hf
  rcases Deep.open_slice Try.underlying45 hf with ⟨e, _⟩ | ⟨a, len, cap, m, n, D, Pl, e, _, hle, _, hm, _, hx⟩
  · simp only [List.cons.injEq, and_true] at e
    rw [e]
    exact ⟨0, fun _ => #[], fun _ _ => none, fun _ _ => 0, fun _ _ => 0, ⟨fun t ht => by omega, none, 0, rfl, Nat.le_refl _, fun h => by omega⟩, fun t ht => by omega⟩
  · simp only [List.cons.injEq, and_true] at e
    rw [e]
    rw [if_pos rfl] at hm
    have hz : ∀ t, t < len → ∃ z : Array Value × (Nat → Option Rat) × (Nat → Nat) × (Nat → Nat), (∀ j, j < 20 → W.cell? ((a.add (t * 20)).add j) = z.1[j]?) ∧ QX W z.1 z.2.1 ∧ Lens z.1 z.2.2.1 z.2.2.2 ∧ Few4 z.2.1 z.2.2.1 z.2.2.2 := fun t ht => by
      obtain ⟨cs', h1, h2⟩ := hx t (by omega)
      rw [cells20] at h1
      obtain ⟨_, hlen, hcell⟩ := World.cells?_some h1
      obtain ⟨r, la, lb, q1, q2, q3⟩ := open_quad h2
      exact ⟨(cs'.toArray, r, la, lb), fun j hj => by rw [hcell j hj]; simp, q1, q2, q3⟩
    obtain ⟨z, hz⟩ := Deep.choose_lt hz
    refine ⟨len, fun t => (z t).1, fun t => (z t).2.1, fun t => (z t).2.2.1, fun t => (z t).2.2.2, ⟨fun t ht => (hz t ht).2.1, some a, cap, rfl, hle, fun hp => ?_⟩, fun t ht => (hz t ht).2.2⟩
    obtain ⟨b, off, spot⟩ := a
    obtain ⟨c0, q0, -, -⟩ := hz 0 hp
    have hs0 : (z 0).1.size = 20 := q0.1
    have e0 := c0 0 (by omega)
    have hspot : spot = none := by
      have h0 : W.cell? (((⟨b, off, spot⟩ : Addr).add (0 * 20)).add 0) = some ((z 0).1[0]'(by omega)) := by rw [e0]; simp [hs0]
      simpa [Addr.add] using World.cell?_spot h0
    subst hspot
    refine ⟨b, off, rfl, ?_, fun t ht j hj => ?_⟩
    · have h0 : W.cell? (((⟨b, off, none⟩ : Addr).add (0 * 20)).add 0) = some ((z 0).1[0]'(by omega)) := by rw [e0]; simp [hs0]
      rw [Go.WideShapes.add_plain, Go.WideShapes.add_plain] at h0
      exact cell_lt h0
    · have h0 := (hz t ht).1 j hj
      rw [Go.WideShapes.add_plain, Go.WideShapes.add_plain] at h0
      exact h0
end
end Go.Proofs.Ytibdehlmflaodaa
