import Derived.Test.YtibdehlmflaodaaCQs
namespace Go.Proofs.Ytibdehlmflaodaa
open Go.RowKit
theorem QF.qn {w : World} {cs : Array Value} {a : Arr} (hn : 0 < a.n) (h : QF w cs (kA a) (rA a)) : QN w (.agg cs) a := by
  obtain ⟨hs, -, hk, hf⟩ := h
  obtain ⟨l⟩ := cs
  replace hs : l.length = 20 := by simpa using hs
  match l, hs with
  | [x0, x1, x2, x3, x4, x5, x6, x7, x8, x9, x10, x11, x12, x13, x14, x15, x16, x17, x18, x19], _ =>
    obtain ⟨a1, a2, a3, a4, a5, a6, a7, a8, p0, p1, p2, p3, f0⟩ := hf 0 (by omega)
    obtain ⟨b1, b2, b3, b4, b5, b6, b7, b8, p4, p5, p6, p7, f1⟩ := hf 1 (by omega)
    obtain ⟨c1, c2, c3, c4, c5, c6, c7, c8, p8, p9, p10, p11, f2⟩ := hf 2 (by omega)
    obtain ⟨d1, d2, d3, d4, d5, d6, d7, d8, p12, p13, p14, p15, f3⟩ := hf 3 (by omega)
    have k0 := hk 0 (by omega)
    have k1 := hk 1 (by omega)
    have k2 := hk 2 (by omega)
    have k3 := hk 3 (by omega)
    replace k0 : some x0 = some _ := k0
    injection k0 with k0
    replace k1 : some x1 = some _ := k1
    injection k1 with k1
    replace k2 : some x2 = some _ := k2
    injection k2 with k2
    replace k3 : some x3 = some _ := k3
    injection k3 with k3
    replace p0 : some x4 = some _ := p0
    injection p0 with p0
    replace p1 : some x5 = some _ := p1
    injection p1 with p1
    replace p2 : some x6 = some _ := p2
    injection p2 with p2
    replace p3 : some x7 = some _ := p3
    injection p3 with p3
    replace p4 : some x8 = some _ := p4
    injection p4 with p4
    replace p5 : some x9 = some _ := p5
    injection p5 with p5
    replace p6 : some x10 = some _ := p6
    injection p6 with p6
    replace p7 : some x11 = some _ := p7
    injection p7 with p7
    replace p8 : some x12 = some _ := p8
    injection p8 with p8
    replace p9 : some x13 = some _ := p9
    injection p9 with p9
    replace p10 : some x14 = some _ := p10
    injection p10 with p10
    replace p11 : some x15 = some _ := p11
    injection p11 with p11
    replace p12 : some x16 = some _ := p12
    injection p12 with p12
    replace p13 : some x17 = some _ := p13
    injection p13 with p13
    replace p14 : some x18 = some _ := p14
    injection p14 with p14
    replace p15 : some x19 = some _ := p15
    injection p15 with p15
    subst k0 k1 k2 k3 p0 p1 p2 p3 p4 p5 p6 p7 p8 p9 p10 p11 p12 p13 p14 p15
    exact ⟨_, _, _, _, _, _, _, _, _, _, _, _, _, _, _, _, rfl, f0.num2 hn, f1.num2 hn, f2.num2 hn, f3.num2 hn⟩
end Go.Proofs.Ytibdehlmflaodaa
