import Derived.Test.YtibdehlmflaodaaCQq
namespace Go.Proofs.Ytibdehlmflaodaa
open Go.RowKit
def FoundC (wr : World) (g : Nat) (ff : Value) : Option Arr → Prop
  | none => ff = .bool false ∧ Blk wr g 31 #[.int .i64 0, .int .i64 0, .int .i64 0, .int .i64 0, .bool false, .slice none 0 0, .bool false, .slice none 0 0, .bool false, .slice none 0 0, .bool false, .slice none 0 0, .bool false, .slice none 0 0, .bool false, .slice none 0 0, .bool false, .slice none 0 0, .bool false, .slice none 0 0]
  | some x => ff = .bool true ∧ ∃ cs, Blk wr g 31 cs ∧ QF wr cs (kA x) (rA x)
theorem FoundC.steps {w w' : World} {g : Nat} {ff : Value} {o : Option Arr} (h : FoundC w g ff o) (s : Steps w w') : FoundC w' g ff o := by
  cases o with
  | none => exact ⟨h.1, h.2.steps s⟩
  | some x => obtain ⟨e, cs, h1, h2⟩ := h; exact ⟨e, cs, h1.steps s, h2.steps s⟩
theorem FoundC.lt {w : World} {g : Nat} {ff : Value} {o : Option Arr} (h : FoundC w g ff o) : g < w.heap.size := by
  cases o with
  | none => exact h.2.lt
  | some x => obtain ⟨e, cs, h1, h2⟩ := h; exact h1.lt
def IsQ (x : Value) : Prop := ∃ cs : Array Value, x = .agg cs ∧ cs.size = 20 ∧ cs.all (·.oneCell') = true
def GQ (k : Nat → Int) (r : Nat → Rat) (x : Value) (W : World) : Prop := ∃ cs, x = .agg cs ∧ QF W cs k r
theorem GQ.keeps {k : Nat → Int} {r : Nat → Rat} (x : Value) (W W' : World) (kp : Keeps W W') (h : GQ k r x W) : GQ k r x W' := by obtain ⟨cs, e, h⟩ := h; exact ⟨cs, e, h.keeps kp⟩
theorem GQ.get {k : Nat → Int} {r : Nat → Rat} {cs : Array Value} {W : World} (h : GQ k r (.agg cs) W) : QF W cs k r := by obtain ⟨cs', e, h⟩ := h; injection e with e; subst e; exact h
theorem load_bigG {P : Program} {ops : Array Oper} {rest : List Oper} {o : Oper} {a : Act} {w : World} {Q : Exit → Act → World → Prop} (hw : Region.wanted o (yielded ops a.tmps) = true) (ty : TypeId) (x : Operand) (ho : o.op = .load ty x) (g : Nat) (hx : a.eval x = .pointer (some ⟨g, 0, none⟩)) (t : TypeId) (cs : Array Value) (d : TypeDesc) (hg : Blk w g t cs)
    (hu : P.underlying ty = some d) (hd : (match d with | .struct _ | .array _ _ => true | _ => false) = true) (hi : (P.info? ty).map (·.size) = some cs.size)
    (h : wpList P ops Q rest (a.put o.dst (.agg cs)) w) : wpList P ops Q (o :: rest) a w := by
  unfold wpList
  rw [if_pos hw]
  exact .inl (wp_load_row ty x ho g hx t cs (0, 0) d hg hu hd hi h)
theorem isQ_z : IsQ (.agg #[.int .i64 0, .int .i64 0, .int .i64 0, .int .i64 0, .bool false, .slice none 0 0, .bool false, .slice none 0 0, .bool false, .slice none 0 0, .bool false, .slice none 0 0, .bool false, .slice none 0 0, .bool false, .slice none 0 0, .bool false, .slice none 0 0, .bool false, .slice none 0 0]) := ⟨_, rfl, rfl, by simp [Value.oneCell']⟩
theorem agg_inj {x y : Array Value} (h : Value.agg x = .agg y) : x = y := by injection h
theorem QF.noU {w : World} {cs : Array Value} {k : Nat → Int} {r : Nat → Rat} (h : QF w cs k r) : noU32 cs = true := by
  obtain ⟨hs, -, hk, hf⟩ := h
  unfold noU32
  rw [List.all_eq_true]
  intro x hx
  obtain ⟨j, hj, e⟩ := List.getElem_of_mem hx
  have hj20 : j < 20 := by simpa [hs] using hj
  have e2 : cs[j]? = some x := by rw [← e]; simp at hj ⊢
  have key : ∀ i, i < 4 → ∀ m, m < 4 → cs[4 + i * 4 + m]? = some x → (match x with | .int .u32 _ => false | _ => true) = true := fun i hi m hm h => by
    obtain ⟨a1, a2, a3, a4, a5, a6, a7, a8, c0, c1, c2, c3, -⟩ := hf i hi
    rcases (show m = 0 ∨ m = 1 ∨ m = 2 ∨ m = 3 by omega) with rfl | rfl | rfl | rfl
    · rw [Nat.add_zero, c0] at h; injection h with h; subst h; rfl
    · rw [c1] at h; injection h with h; subst h; rfl
    · rw [c2] at h; injection h with h; subst h; rfl
    · rw [c3] at h; injection h with h; subst h; rfl
  rcases Nat.lt_or_ge j 4 with g | g
  · rw [hk j g] at e2; injection e2 with e2; subst e2; rfl
  · refine key ((j - 4) / 4) (by omega) ((j - 4) % 4) (by omega) ?_
    rw [show 4 + (j - 4) / 4 * 4 + (j - 4) % 4 = j by omega]; exact e2
set_option maxHeartbeats 6400000 in
set_option maxRecDepth 1000000 in
theorem rcode {v : Value} {l : PL} (k0 k1 k2 k3 : Nat) (K : Nat → Nat) (hK : at4 k0 k1 k2 k3 = K) (w : World) (h : Pts w v l) (hl : l.length ≤ 1000) (hk : ∀ i, K i < l.length) (hp : ∀ i, okp (pt l (K i)).1 (pt l (K i)).2) (hw : 0 < wid l K) :
    Calls Try.prog 33 #[v, .agg #[.int .i64 k0, .int .i64 k1, .int .i64 k2, .int .i64 k3]] w fun e w' => ∃ cs, e = .returned (.agg cs) ∧ QF w' cs (kA (bestOf l K)) (rA (bestOf l K)) ∧ Steps w w' := by
  have hK4 : ∀ i, i < 4 → (#[.int .i64 k0, .int .i64 k1, .int .i64 k2, .int .i64 k3] : Array Value)[i]? = some (.int .i64 (K i : Nat)) := fun i hi => by rw [← hK]; rcases (show i = 0 ∨ i = 1 ∨ i = 2 ∨ i = 3 by omega) with rfl | rfl | rfl | rfl <;> rfl
  have wi := fun w' (hs : Steps w w') => rwidest k0 k1 k2 k3 K hK w' (h.steps hs) hk hp
  have qar := fun (x : P4) w' (hs : Steps w w') (hn : (arrOf l K x).n ≠ 0) => rarrOf (K := K) x w' (h.steps hs) hk hp hn
  have hnum : ∀ x, NumOk (arrOf l K x) ∧ ∀ i, i < 4 → 0 ≤ kA (arrOf l K x) i ∧ kA (arrOf l K x) i ≤ 1000000 := fun x => by
    refine ⟨arr4_num _ _ _ _ (hp _) (hp _) (hp _) (hp _), fun i hi => ?_⟩
    have b : ∀ j, (0 : Int) ≤ (K j : Nat) ∧ ((K j : Nat) : Int) ≤ 1000000 := fun j => by have := hk j; omega
    rcases (show i = 0 ∨ i = 1 ∨ i = 2 ∨ i = 3 by omega) with rfl | rfl | rfl | rfl
    · exact b x.1
    · exact b x.2.1
    · exact b x.2.2.1
    · exact b x.2.2.2
  have HALL := bestU_all l K hw
  obtain ⟨N, hN⟩ : ∃ N, wid l K = N := ⟨_, rfl⟩
  rw [hN] at wi HALL hw
  obtain ⟨ao, cap, rfl⟩ := h.shape
  have hat0 : ∀ a, a < l.length → ∃ b o, ao = some ⟨b, o, none⟩ ∧ b < w.heap.size ∧ w.cell? ⟨b, o + a * 2, none⟩ = some (.int .i64 (pt l a).1) ∧ w.cell? ⟨b, o + a * 2 + 1, none⟩ = some (.int .i64 (pt l a).2) := fun a ha => h.at ha
  have hlen2 := h.cells
  obtain ⟨len, hlen⟩ : ∃ n, l.length = n := ⟨_, rfl⟩
  rw [hlen] at hat0 hk hlen2 wi qar ⊢
  replace hlen2 : len ≤ cap := hlen2.2.1
  clear h hK hlen hN hl
  obtain ⟨b0, o0, rfl, hb0, -, -⟩ := hat0 _ (hk 0)
  have hat : ∀ a, a < len → w.cell? ⟨b0, o0 + a * 2, none⟩ = some (.int .i64 (pt l a).1) ∧ w.cell? ⟨b0, o0 + a * 2 + 1, none⟩ = some (.int .i64 (pt l a).2) := fun a ha => by
    obtain ⟨b, o, e, -, h1, h2⟩ := hat0 a ha
    injection e with e
    injection e with e1 e2
    subst e1 e2
    exact ⟨h1, h2⟩
  clear hat0
  go_enter Try.func33, Try.ntmps33
  have k00 := hK4 0 (by omega)
  go_wp2_with fail
  refine (wi _ belowB).mono ?_
  rintro e w1 ⟨rfl, hs1⟩
  have B : Below w.heap.size w w1 := belowA hs1
  have oa : Blk w1 (w.heap.size) 23 #[.int .i64 k0, .int .i64 k1, .int .i64 k2, .int .i64 k3] := Blk.stepsK hs1
  have or : Blk w1 (w.heap.size + 1) 31 #[.int .i64 0, .int .i64 0, .int .i64 0, .int .i64 0, .bool false, .slice none 0 0, .bool false, .slice none 0 0, .bool false, .slice none 0 0, .bool false, .slice none 0 0, .bool false, .slice none 0 0, .bool false, .slice none 0 0, .bool false, .slice none 0 0, .bool false, .slice none 0 0] := Blk.stepsK hs1
  have zz := B.size
  have z0 := or.lt
  clear wi hs1 k00
  dsimp only
  go_wp2_with fail
  obtain ⟨g, hg⟩ : ∃ g, w1.heap.size = g := ⟨_, rfl⟩
  have oga : Blk (w1.alloc (.cells #[.int .i64 0, .int .i64 0, .int .i64 0, .int .i64 0, .bool false, .slice none 0 0, .bool false, .slice none 0 0, .bool false, .slice none 0 0, .bool false, .slice none 0 0, .bool false, .slice none 0 0, .bool false, .slice none 0 0, .bool false, .slice none 0 0, .bool false, .slice none 0 0] 31)) g 31 #[.int .i64 0, .int .i64 0, .int .i64 0, .int .i64 0, .bool false, .slice none 0 0, .bool false, .slice none 0 0, .bool false, .slice none 0 0, .bool false, .slice none 0 0, .bool false, .slice none 0 0, .bool false, .slice none 0 0, .bool false, .slice none 0 0, .bool false, .slice none 0 0] := Blk.new' hg
  rw [hg]
  have hgz : w.heap.size + 1 < g := by omega
  clear hg z0
  go_loopw [7, 8] (fun ff zz wr => ∃ a : Nat, a ≤ 4 ∧ zz = .int .i64 a ∧ Blk wr (w.heap.size) 23 #[.int .i64 k0, .int .i64 k1, .int .i64 k2, .int .i64 k3] ∧ Blk wr (w.heap.size + 1) 31 #[.int .i64 0, .int .i64 0, .int .i64 0, .int .i64 0, .bool false, .slice none 0 0, .bool false, .slice none 0 0, .bool false, .slice none 0 0, .bool false, .slice none 0 0, .bool false, .slice none 0 0, .bool false, .slice none 0 0, .bool false, .slice none 0 0, .bool false, .slice none 0 0] ∧ Below w.heap.size w wr ∧ FoundC wr g ff (bestU l K N a 0 0)) (fun _ zz _ => 4 - (intOf zz).toNat)
  case atStart => exact ⟨0, by omega, rfl, ownK, ownK, belowB, by rw [bestU_0]; exact ⟨rfl, oga⟩⟩
  case round =>
    obtain ⟨a, ha, rfl, za, zr, zB, hF⟩ := hrel
    clear oa or B oga
    rcases Nat.lt_or_ge a 4 with a4 | a4
    · have hla : decide ((a : Int) < 4) = true := decide_eq_true (by omega)
      go_wp2_with fail
      go_loopw [7, 9] (fun ff zz wr => ∃ b : Nat, b ≤ 4 ∧ zz = .int .i64 b ∧ Blk wr (w.heap.size) 23 #[.int .i64 k0, .int .i64 k1, .int .i64 k2, .int .i64 k3] ∧ Blk wr (w.heap.size + 1) 31 #[.int .i64 0, .int .i64 0, .int .i64 0, .int .i64 0, .bool false, .slice none 0 0, .bool false, .slice none 0 0, .bool false, .slice none 0 0, .bool false, .slice none 0 0, .bool false, .slice none 0 0, .bool false, .slice none 0 0, .bool false, .slice none 0 0, .bool false, .slice none 0 0] ∧ Below w.heap.size w wr ∧ FoundC wr g ff (bestU l K N a b 0)) (fun _ zz _ => 4 - (intOf zz).toNat)
      case atStart => exact ⟨0, by omega, rfl, za, zr, zB, hF⟩
      case round =>
        clear za zr zB hF
        obtain ⟨b, hb, rfl, oa, or, B, hF⟩ := hrel
        rcases Nat.lt_or_ge b 4 with b4 | b4
        · have hlb : decide ((b : Int) < 4) = true := decide_eq_true (by omega)
          by_cases e1 : a = b
          · have HU := Hid.mk_ (bestU_ab l K N a4 b4 e1)
            have q1 : ((a : Int) == (b : Int)) = true := by simp [e1]
            clear e1
            go_wp2_with fail
            refine Reg.wp_chain (fun D v W => Steps wr W) (Reg.inl []) (Reg.gv []) Reg.None_ (fun _ => Reg.Any) (fun _ _ => False) (Reg.pl []) (Reg.pl [])
              (by kernel_rfl) (by kernel_rfl) (by kernel_rfl) (Reg.gv_some _ (by intro p hp; cases hp)) (fun _ => (Below.refl _ _).drew) (fun _ _ _ _ _ h => h) (fun _ _ _ _ _ _ _ _ _ _ _ _ _ => Reg.none_) (fun _ _ _ _ h => h.elim) (fun ops' Q' hops hQ => ?_)
            apply Reg.RC_pure (hc := rfl) (hst := rfl) (hw := rfl) (t := 23) (hd := rfl) (ht := Nat.le_of_ble_eq_true rfl)
            · intro D v W hc hj hf K' hK'
              go_step
              exact hK'.out
            · rfl
            apply Reg.RC_pure (hc := rfl) (hst := rfl) (hw := rfl) (t := 24) (hd := rfl) (ht := Nat.le_of_ble_eq_true rfl)
            · intro D v W hc hj hf K' hK'
              go_step
              exact hK'.out
            · rfl
            apply Reg.RC_pure (hc := rfl) (hst := rfl) (hw := rfl) (t := 25) (hd := rfl) (ht := Nat.le_of_ble_eq_true rfl)
            · intro D v W hc hj hf K' hK'
              go_step
              exact hK'.out
            · rfl
            apply Reg.RC_pure (hc := rfl) (hst := rfl) (hw := rfl) (t := 26) (hd := rfl) (ht := Nat.le_of_ble_eq_true rfl)
            · intro D v W hc hj hf K' hK'
              go_step
              exact hK'.out
            · rfl
            refine Reg.RC_skip rfl (by rw [hops]; rfl) (Reg.RC_at (b := ⟨#[_,_,_,_,_,_,_,_,_,_,_,_,_,_,_,_,_,_,_,_,_,_,_,_,_,_,_,_,_,_,_,_,_,_,_,_,_,_,_,_,_,_,_,_,_,_,_,_,_,_,_,_,_,_,_,_,_,_,_,_,_,_,_,_,_,_,_,_,_,_,_,_,_,_,_,_,_,_,_,_,_,_,_,_], _⟩) rfl ?_)
            refine Reg.RC_skip rfl (by rw [hops]; rfl) (Reg.RC_at (b := ⟨#[_,_,_,_,_,_,_,_,_,_,_,_,_,_,_,_,_,_,_,_,_,_,_,_,_,_,_,_,_,_,_,_,_,_,_,_,_,_,_,_,_,_,_,_,_,_,_,_,_,_,_,_,_,_,_,_,_,_,_,_,_,_,_,_,_,_,_,_,_,_,_,_,_,_,_,_,_,_,_,_,_,_,_,_], _⟩) rfl ?_)
            refine Reg.RC_skip rfl (by rw [hops]; rfl) (Reg.RC_at (b := ⟨#[_,_,_,_,_,_,_,_,_,_,_,_,_,_,_,_,_,_,_,_,_,_,_,_,_,_,_,_,_,_,_,_,_,_,_,_,_,_,_,_,_,_,_,_,_,_,_,_,_,_,_,_,_,_,_,_,_,_,_,_,_,_,_,_,_,_,_,_,_,_,_,_,_,_,_,_,_,_,_,_,_,_,_,_], _⟩) rfl ?_)
            refine Reg.RC_skip rfl (by rw [hops]; rfl) (Reg.RC_at (b := ⟨#[_,_,_,_,_,_,_,_,_,_,_,_,_,_,_,_,_,_,_,_,_,_,_,_,_,_,_,_,_,_,_,_,_,_,_,_,_,_,_,_,_,_,_,_,_,_,_,_,_,_,_,_,_,_,_,_,_,_,_,_,_,_,_,_,_,_,_,_,_,_,_,_,_,_,_,_,_,_,_,_,_,_,_,_], _⟩) rfl ?_)
            refine Reg.RC_skip rfl (by rw [hops]; rfl) (Reg.RC_at (b := ⟨#[_,_,_,_,_,_,_,_,_,_,_,_,_,_,_,_,_,_,_,_,_,_,_,_,_,_,_,_,_,_,_,_,_,_,_,_,_,_,_,_,_,_,_,_,_,_,_,_,_,_,_,_,_,_,_,_,_,_,_,_,_,_,_,_,_,_,_,_,_,_,_,_,_,_,_,_,_,_,_,_,_,_,_,_], _⟩) rfl ?_)
            refine Reg.RC_skip rfl (by rw [hops]; rfl) (Reg.RC_at (b := ⟨#[_,_,_,_,_,_,_,_,_,_,_,_,_,_,_,_,_,_,_,_,_,_,_,_,_,_,_,_,_,_,_,_,_,_,_,_,_,_,_,_,_,_,_,_,_,_,_,_,_,_,_,_,_,_,_,_,_,_,_,_,_,_,_,_,_,_,_,_,_,_,_,_,_,_,_,_,_,_,_,_,_,_,_,_], _⟩) rfl ?_)
            refine Reg.RC_skip rfl (by rw [hops]; rfl) (Reg.RC_at (b := ⟨#[_,_,_,_,_,_,_,_,_,_,_,_,_,_,_,_,_,_,_,_,_,_,_,_,_,_,_,_,_,_,_,_,_,_,_,_,_,_,_,_,_,_,_,_,_,_,_,_,_,_,_,_,_,_,_,_,_,_,_,_,_,_,_,_,_,_,_,_,_,_,_,_,_,_,_,_,_,_,_,_,_,_,_,_], _⟩) rfl ?_)
            refine Reg.RC_skip rfl (by rw [hops]; rfl) (Reg.RC_at (b := ⟨#[_,_,_,_,_,_,_,_,_,_,_,_,_,_,_,_,_,_,_,_,_,_,_,_,_,_,_,_,_,_,_,_,_,_,_,_,_,_,_,_,_,_,_,_,_,_,_,_,_,_,_,_,_,_,_,_,_,_,_,_,_,_,_,_,_,_,_,_,_,_,_,_,_,_,_,_,_,_,_,_,_,_,_,_], _⟩) rfl ?_)
            refine Reg.RC_skip rfl (by rw [hops]; rfl) (Reg.RC_at (b := ⟨#[_,_,_,_,_,_,_,_,_,_,_,_,_,_,_,_,_,_,_,_,_,_,_,_,_,_,_,_,_,_,_,_,_,_,_,_,_,_,_,_,_,_,_,_,_,_,_,_,_,_,_,_,_,_,_,_,_,_,_,_,_,_,_,_,_,_,_,_,_,_,_,_,_,_,_,_,_,_,_,_,_,_,_,_], _⟩) rfl ?_)
            refine Reg.RC_skip rfl (by rw [hops]; rfl) (Reg.RC_at (b := ⟨#[_,_,_,_,_,_,_,_,_,_,_,_,_,_,_,_,_,_,_,_,_,_,_,_,_,_,_,_,_,_,_,_,_,_,_,_,_,_,_,_,_,_,_,_,_,_,_,_,_,_,_,_,_,_,_,_,_,_,_,_,_,_,_,_,_,_,_,_,_,_,_,_,_,_,_,_,_,_,_,_,_,_,_,_], _⟩) rfl ?_)
            refine Reg.RC_skip rfl (by rw [hops]; rfl) (Reg.RC_at (b := ⟨#[_,_,_,_,_,_,_,_,_,_,_,_,_,_,_,_,_,_,_,_,_,_,_,_,_,_,_,_,_,_,_,_,_,_,_,_,_,_,_,_,_,_,_,_,_,_,_,_,_,_,_,_,_,_,_,_,_,_,_,_,_,_,_,_,_,_,_,_,_,_,_,_,_,_,_,_,_,_,_,_,_,_,_,_], _⟩) rfl ?_)
            refine Reg.RC_skip rfl (by rw [hops]; rfl) (Reg.RC_at (b := ⟨#[_,_,_,_,_,_,_,_,_,_,_,_,_,_,_,_,_,_,_,_,_,_,_,_,_,_,_,_,_,_,_,_,_,_,_,_,_,_,_,_,_,_,_,_,_,_,_,_,_,_,_,_,_,_,_,_,_,_,_,_,_,_,_,_,_,_,_,_,_,_,_,_,_,_,_,_,_,_,_,_,_,_,_,_], _⟩) rfl ?_)
            refine Reg.RC_skip rfl (by rw [hops]; rfl) (Reg.RC_at (b := ⟨#[_,_,_,_,_,_,_,_,_,_,_,_,_,_,_,_,_,_,_,_,_,_,_,_,_,_,_,_,_,_,_,_,_,_,_,_,_,_,_,_,_,_,_,_,_,_,_,_,_,_,_,_,_,_,_,_,_,_,_,_,_,_,_,_,_,_,_,_,_,_,_,_,_,_,_,_,_,_,_,_,_,_,_,_], _⟩) rfl ?_)
            refine Reg.RC_skip rfl (by rw [hops]; rfl) (Reg.RC_at (b := ⟨#[_,_,_,_,_,_,_,_,_,_,_,_,_,_,_,_,_,_,_,_,_,_,_,_,_,_,_,_,_,_,_,_,_,_,_,_,_,_,_,_,_,_,_,_,_,_,_,_,_,_,_,_,_,_,_,_,_,_,_,_,_,_,_,_,_,_,_,_,_,_,_,_,_,_,_,_,_,_,_,_,_,_,_,_], _⟩) rfl ?_)
            refine Reg.RC_skip rfl (by rw [hops]; rfl) (Reg.RC_at (b := ⟨#[_,_,_,_,_,_,_,_,_,_,_,_,_,_,_,_,_,_,_,_,_,_,_,_,_,_,_,_,_,_,_,_,_,_,_,_,_,_,_,_,_,_,_,_,_,_,_,_,_,_,_,_,_,_,_,_,_,_,_,_,_,_,_,_,_,_,_,_,_,_,_,_,_,_,_,_,_,_,_,_,_,_,_,_], _⟩) rfl ?_)
            apply Reg.RC_pure (hc := rfl) (hst := rfl) (hw := rfl) (t := 42) (hd := rfl) (ht := Nat.le_of_ble_eq_true rfl)
            · intro D v W hc hj hf K' hK'
              go_step
              exact hK'.out
            · rfl
            refine Reg.RC_end (fun D v w9 hd s9 hf => ?_)
            clear hd hf
            replace B := below_steps B (Nat.le_refl _) s9
            replace oa := oa.steps s9
            replace or := or.steps s9
            replace hF := hF.steps s9
            clear s9
            refine hQ _ _ ?_
            clear hQ hops Q' ops'
            repeat' (first | go_values | go_skip | go_guarded | go_step | go_upon)
            go_wp2
            go_roundw
            case rel => exact ⟨b + 1, by omega, by go_num, ownK, ownK, belowB, by rw [← HU.out]; exact hF⟩
            case measure => simp [intOf]; omega
          have q1 : ((a : Int) == (b : Int)) = false := by simp; omega
          have ap : ∀ w', Calls Try.prog 59 #[.agg #[.int .i64 (pt l (K a)).1, .int .i64 (pt l (K a)).2], .agg #[.int .i64 (pt l (K b)).1, .int .i64 (pt l (K b)).2]] w' fun e w2 => e = .returned (.int .i64 (dst l K a b)) ∧ Steps w' w2 := fun w' => by
            have := rapart (pt l (K a)).1 (pt l (K a)).2 (pt l (K b)).1 (pt l (K b)).2 w' (hp a) (hp b)
            rwa [show sqd ((pt l (K b)).1, (pt l (K b)).2) ((pt l (K a)).1, (pt l (K a)).2) = dst l K a b from sqd_symm _ _] at this
          have hA := hK4 a a4
          have hB := hK4 b b4
          have hia := hk a
          have hib := hk b
          obtain ⟨xa, ya⟩ := hat _ hia
          obtain ⟨xb, yb⟩ := hat _ hib
          obtain ⟨x1, hx1⟩ : ∃ z, (pt l (K a)).1 = z := ⟨_, rfl⟩
          obtain ⟨y1, hy1⟩ : ∃ z, (pt l (K a)).2 = z := ⟨_, rfl⟩
          obtain ⟨x2, hx2⟩ : ∃ z, (pt l (K b)).1 = z := ⟨_, rfl⟩
          obtain ⟨y2, hy2⟩ : ∃ z, (pt l (K b)).2 = z := ⟨_, rfl⟩
          rw [hx1] at xa ap
          rw [hy1] at ya ap
          rw [hx2] at xb ap
          rw [hy2] at yb ap
          clear hx1 hy1 hx2 hy2
          obtain ⟨ia, hIA⟩ : ∃ z, K a = z := ⟨_, rfl⟩
          obtain ⟨ib, hIB⟩ : ∃ z, K b = z := ⟨_, rfl⟩
          rw [hIA] at xa ya hA hia
          rw [hIB] at xb yb hB hib
          obtain ⟨dd, hdd⟩ : ∃ z, dst l K a b = z := ⟨_, rfl⟩
          rw [hdd] at ap
          by_cases e0 : dd = N
          · subst e0
            go_wp2_with fail
            refine Reg.wp_chain (fun D v W => Steps wr W) (Reg.inl [16]) (Reg.gv [(16, fun z_ => z_ = .int .i64 dd)]) Reg.None_ (fun _ => Reg.Any) (fun _ _ => False) (Reg.pl []) (Reg.pl [])
              (by kernel_rfl) (by kernel_rfl) (by kernel_rfl) (Reg.gv_some _ (by intro p hp; simp only [List.mem_cons, List.not_mem_nil, or_false] at hp; rcases hp with rfl; exact ⟨_, rfl⟩)) (fun _ => (Below.refl _ _).drew) (fun _ _ _ _ _ h => h) (fun _ _ _ _ _ _ _ _ _ _ _ _ _ => Reg.none_) (fun _ _ _ _ h => h.elim) (fun ops' Q' hops hQ => ?_)
            apply Reg.RC_pure (hc := rfl) (hst := rfl) (hw := rfl) (t := 23) (hd := rfl) (ht := Nat.le_of_ble_eq_true rfl)
            · intro D v W hc hj hf K' hK'
              go_step
              exact hK'.out
            · rfl
            apply Reg.RC_pure (hc := rfl) (hst := rfl) (hw := rfl) (t := 24) (hd := rfl) (ht := Nat.le_of_ble_eq_true rfl)
            · intro D v W hc hj hf K' hK'
              go_step
              exact hK'.out
            · rfl
            apply Reg.RC_pure (hc := rfl) (hst := rfl) (hw := rfl) (t := 25) (hd := rfl) (ht := Nat.le_of_ble_eq_true rfl)
            · intro D v W hc hj hf K' hK'
              go_step
              exact hK'.out
            · rfl
            apply Reg.RC_pure (hc := rfl) (hst := rfl) (hw := rfl) (t := 26) (hd := rfl) (ht := Nat.le_of_ble_eq_true rfl)
            · intro D v W hc hj hf K' hK'
              go_step
              exact hK'.out
            · rfl
            apply Reg.RC_pure (hc := rfl) (hst := rfl) (hw := by rw [hops]; rfl) (t := 27) (hd := rfl) (ht := Nat.le_of_ble_eq_true rfl)
            · intro D v W hc hj hf K' hK'
              go_step
              exact hK'.out
            · rfl
            apply Reg.RC_pure (hc := rfl) (hst := rfl) (hw := by rw [hops]; rfl) (t := 28) (hd := rfl) (ht := Nat.le_of_ble_eq_true rfl)
            · intro D v W hc hj hf K' hK'
              go_step
              exact hK'.out
            · rfl
            apply Reg.RC_pure (hc := rfl) (hst := rfl) (hw := by rw [hops]; rfl) (t := 29) (hd := rfl) (ht := Nat.le_of_ble_eq_true rfl)
            · intro D v W hc hj hf K' hK'
              go_step
              exact hK'.out
            · rfl
            apply Reg.RC_pure (hc := rfl) (hst := rfl) (hw := by rw [hops]; rfl) (t := 30) (hd := rfl) (ht := Nat.le_of_ble_eq_true rfl)
            · intro D v W hc hj hf K' hK'
              have c0 : World.cell? W ⟨w.heap.size, a, none⟩ = some (.int .i64 ia) := (oa.steps hj).c _ hA
              go_step
              exact hK'.out
            · rfl
            apply Reg.RC_pure (hc := rfl) (hst := rfl) (hw := by rw [hops]; rfl) (t := 31) (hd := rfl) (ht := Nat.le_of_ble_eq_true rfl)
            · intro D v W hc hj hf K' hK'
              go_step
              exact hK'.out
            · rfl
            apply Reg.RC_pure (hc := rfl) (hst := rfl) (hw := by rw [hops]; rfl) (t := 32) (hd := rfl) (ht := Nat.le_of_ble_eq_true rfl)
            · intro D v W hc hj hf K' hK'
              have c0 : World.cell? W ⟨b0, o0 + ia * 2, none⟩ = _ := ((below_steps B (Nat.le_refl _) hj).cell (p := ⟨b0, o0 + ia * 2, none⟩) hb0).trans xa
              have c1 : World.cell? W ⟨b0, o0 + ia * 2 + 1, none⟩ = _ := ((below_steps B (Nat.le_refl _) hj).cell (p := ⟨b0, o0 + ia * 2 + 1, none⟩) hb0).trans ya
              go_step
              exact hK'.out
            · rfl
            apply Reg.RC_pure (hc := rfl) (hst := rfl) (hw := by rw [hops]; rfl) (t := 33) (hd := rfl) (ht := Nat.le_of_ble_eq_true rfl)
            · intro D v W hc hj hf K' hK'
              go_step
              exact hK'.out
            · rfl
            apply Reg.RC_pure (hc := rfl) (hst := rfl) (hw := by rw [hops]; rfl) (t := 34) (hd := rfl) (ht := Nat.le_of_ble_eq_true rfl)
            · intro D v W hc hj hf K' hK'
              go_step
              exact hK'.out
            · rfl
            apply Reg.RC_pure (hc := rfl) (hst := rfl) (hw := by rw [hops]; rfl) (t := 35) (hd := rfl) (ht := Nat.le_of_ble_eq_true rfl)
            · intro D v W hc hj hf K' hK'
              go_step
              exact hK'.out
            · rfl
            apply Reg.RC_pure (hc := rfl) (hst := rfl) (hw := by rw [hops]; rfl) (t := 36) (hd := rfl) (ht := Nat.le_of_ble_eq_true rfl)
            · intro D v W hc hj hf K' hK'
              have c0 : World.cell? W ⟨w.heap.size, b, none⟩ = some (.int .i64 ib) := (oa.steps hj).c _ hB
              go_step
              exact hK'.out
            · rfl
            apply Reg.RC_pure (hc := rfl) (hst := rfl) (hw := by rw [hops]; rfl) (t := 37) (hd := rfl) (ht := Nat.le_of_ble_eq_true rfl)
            · intro D v W hc hj hf K' hK'
              go_step
              exact hK'.out
            · rfl
            apply Reg.RC_pure (hc := rfl) (hst := rfl) (hw := by rw [hops]; rfl) (t := 38) (hd := rfl) (ht := Nat.le_of_ble_eq_true rfl)
            · intro D v W hc hj hf K' hK'
              have c0 : World.cell? W ⟨b0, o0 + ib * 2, none⟩ = _ := ((below_steps B (Nat.le_refl _) hj).cell (p := ⟨b0, o0 + ib * 2, none⟩) hb0).trans xb
              have c1 : World.cell? W ⟨b0, o0 + ib * 2 + 1, none⟩ = _ := ((below_steps B (Nat.le_refl _) hj).cell (p := ⟨b0, o0 + ib * 2 + 1, none⟩) hb0).trans yb
              go_step
              exact hK'.out
            · rfl
            refine Reg.RC_call rfl (by intro t ht; cases ht; exact Nat.le_of_ble_eq_true rfl) (by rw [hops]; rfl) (fun D v W hc hj hf K' hK' => ?_) ?_
            · go_step
              refine (ap _).mono ?_
              rintro e W2 ⟨rfl, hs⟩
              exact hK'.out _ W2 Reg.any (below_steps hj (Nat.le_refl _) hs) Reg.none_ rfl
            rintro _ rfl
            refine Reg.RC_at (b := ⟨#[_,_,_,_,_,_,_,_,_,_,_,_,_,_,_,_,_,_,_,_,_,_,_,_,_,_,_,_,_,_,_,_,_,_,_,_,_,_,_,_,_,_,_,_,_,_,_,_,_,_,_,_,_,_,_,_,_,_,_,_,_,_,_,_,_,_,_,_,_,_,_,_,_,_,_,_,_,_,_,_,_,_,_,_], _⟩) rfl ?_
            apply Reg.RC_pure (hc := rfl) (hst := rfl) (hw := by rw [hops]; rfl) (t := 40) (hd := rfl) (ht := Nat.le_of_ble_eq_true rfl)
            · intro D v W hc hj hf K' hK'
              go_step
              exact hK'.out
            · rfl
            apply Reg.RC_pure (hc := rfl) (hst := rfl) (hw := by rw [hops]; rfl) (t := 41) (hd := rfl) (ht := Nat.le_of_ble_eq_true rfl)
            · intro D v W hc hj hf K' hK'
              go_step
              exact hK'.out
            · rfl
            apply Reg.RC_pure (hc := rfl) (hst := rfl) (hw := rfl) (t := 42) (hd := rfl) (ht := Nat.le_of_ble_eq_true rfl)
            · intro D v W hc hj hf K' hK'
              go_step
              exact hK'.out
            · rfl
            refine Reg.RC_end (fun D v w9 hd s9 hf => ?_)
            clear hd hf
            replace B := below_steps B (Nat.le_refl _) s9
            replace oa := oa.steps s9
            replace or := or.steps s9
            replace hF := hF.steps s9
            clear s9
            refine hQ _ _ ?_
            clear hQ hops Q' ops'
            clear ap xa ya xb yb
            repeat' (first | go_values | go_skip | go_guarded | go_step | go_upon)
            go_wp2_with fail
            go_loopw [7, 10] (fun ff zz wr => ∃ c : Nat, c ≤ 4 ∧ zz = .int .i64 c ∧ Blk wr (w.heap.size) 23 #[.int .i64 k0, .int .i64 k1, .int .i64 k2, .int .i64 k3] ∧ Blk wr (w.heap.size + 1) 31 #[.int .i64 0, .int .i64 0, .int .i64 0, .int .i64 0, .bool false, .slice none 0 0, .bool false, .slice none 0 0, .bool false, .slice none 0 0, .bool false, .slice none 0 0, .bool false, .slice none 0 0, .bool false, .slice none 0 0, .bool false, .slice none 0 0, .bool false, .slice none 0 0] ∧ Below w.heap.size w wr ∧ FoundC wr g ff (bestU l K dd a b c)) (fun _ zz _ => 4 - (intOf zz).toNat)
            case atStart => exact ⟨0, by omega, rfl, ownK, ownK, belowB, hF⟩
            case round =>
              clear oa or B hF
              obtain ⟨c, hc, rfl, oa, or, B, hF⟩ := hrel
              rcases Nat.lt_or_ge c 4 with c4 | c4
              · have hlc : decide ((c : Int) < 4) = true := decide_eq_true (by omega)
                by_cases e2 : a = c
                · have HU := Hid.mk_ (bestU_c l K dd a4 b4 c4 (fun h => h.2.1 e2))
                  have q2 : ((c : Int) == (a : Int)) = true := by simp [e2]
                  clear e2
                  go_wp2
                  go_roundw
                  case rel => exact ⟨c + 1, by omega, by go_num, ownK, ownK, belowB, by rw [HU.out]; exact hF⟩
                  case measure => simp [intOf]; omega
                have q2 : ((c : Int) == (a : Int)) = false := by simp; omega
                by_cases e3 : b = c
                · have HU := Hid.mk_ (bestU_c l K dd a4 b4 c4 (fun h => h.2.2 e3))
                  have q3 : ((c : Int) == (b : Int)) = true := by simp [e3]
                  clear e3
                  go_wp2
                  go_roundw
                  case rel => exact ⟨c + 1, by omega, by go_num, ownK, ownK, belowB, by rw [HU.out]; exact hF⟩
                  case measure => simp [intOf]; omega
                have q3 : ((c : Int) == (b : Int)) = false := by simp; omega
                obtain ⟨d, hd⟩ : ∃ d, 6 - a - b - c = d := ⟨_, rfl⟩
                have hdI : (6 : Int) - a - b - c = (d : Int) := by omega
                have d4 : d < 4 := by omega
                have hXn : (arrOf l K (a, b, c, d)).n = dd := hdd
                have qarX : ∀ w', Steps w w' → Calls Try.prog 60 #[.slice (some ⟨b0, o0, none⟩) len cap, ordV K (a, b, c, d)] w' fun e w2 => ∃ cs, e = .returned (.agg cs) ∧ QF w2 cs (kA (arrOf l K (a, b, c, d))) (rA (arrOf l K (a, b, c, d))) ∧ Steps w' w2 := fun w' hs => qar (a, b, c, d) w' hs (by rw [hXn]; omega)
                have okX := hnum (a, b, c, d)
                have hC := hK4 c c4
                have hD := hK4 d d4
                unfold ordV at qarX
                dsimp only at qarX
                rw [hIA, hIB] at qarX
                have HXX := bestU_v l K dd a4 b4 c4 ⟨e1, e2, e3⟩ hd hXn
                obtain ⟨ic, hIC⟩ : ∃ z, K c = z := ⟨_, rfl⟩
                obtain ⟨id_, hID⟩ : ∃ z, K d = z := ⟨_, rfl⟩
                rw [hIC] at hC qarX
                rw [hID] at hD qarX
                obtain ⟨X, hX⟩ : ∃ z, arrOf l K (a, b, c, d) = z := ⟨_, rfl⟩
                rw [hX] at hXn qarX okX HXX
                have hP0 := oa.lt
                have hP1 := or.lt
                have hwr := B.size
                have qa := qarX
                clear qarX hd hdd hX hIC hID
                have HX := HXX
                clear HXX
                cases ho : bestU l K dd a b c with
                | none =>
                  rw [ho] at hF HX
                  obtain ⟨rfl, og⟩ := hF
                  dsimp only at HX
                  replace HX := Hid.mk_ HX
                  obtain ⟨CS, hCS⟩ : ∃ c, (#[.int .i64 0, .int .i64 0, .int .i64 0, .int .i64 0, .bool false, .slice none 0 0, .bool false, .slice none 0 0, .bool false, .slice none 0 0, .bool false, .slice none 0 0, .bool false, .slice none 0 0, .bool false, .slice none 0 0, .bool false, .slice none 0 0, .bool false, .slice none 0 0] : Array Value) = c := ⟨_, rfl⟩
                  have og2 : Blk wr g 31 CS := by rw [← hCS]; exact og
                  have HCS := Hid.mk_ hCS
                  clear og hCS
                  have og := og2
                  clear og2
                  have hPg := og.lt
                  go_wp2_with fail
                  refine Reg.wp_chain (fun D v W => Below w.heap.size w W ∧ Keeps wr W ∧ wr.heap.size ≤ W.heap.size ∧ Blk W (w.heap.size) 23 #[.int .i64 k0, .int .i64 k1, .int .i64 k2, .int .i64 k3] ∧ Blk W (w.heap.size + 1) 31 #[.int .i64 0, .int .i64 0, .int .i64 0, .int .i64 0, .bool false, .slice none 0 0, .bool false, .slice none 0 0, .bool false, .slice none 0 0, .bool false, .slice none 0 0, .bool false, .slice none 0 0, .bool false, .slice none 0 0, .bool false, .slice none 0 0, .bool false, .slice none 0 0] ∧ Blk W g 31 CS ∧ (D 20 = true → ∃ p : Nat, v 20 = .pointer (some ⟨p, 0, none⟩) ∧ wr.heap.size ≤ p ∧ p < W.heap.size ∧ (D 21 = false → Blk W p 31 #[.int .i64 0, .int .i64 0, .int .i64 0, .int .i64 0, .bool false, .slice none 0 0, .bool false, .slice none 0 0, .bool false, .slice none 0 0, .bool false, .slice none 0 0, .bool false, .slice none 0 0, .bool false, .slice none 0 0, .bool false, .slice none 0 0, .bool false, .slice none 0 0]) ∧ (D 21 = true → D 19 = true ∧ ∃ cs, v 19 = .agg cs ∧ Blk W p 31 cs))) (Reg.inl [19, 20, 21]) (Reg.gv [(19, IsQ), (20, IsPtr)]) (gw [(19, GQ (kA X) (rA X))]) (fun _ => Keeps) (fun _ _ => False) (Reg.pl [(21, [(19, some 74), (20, some 11)]), (22, [(19, some 74), (20, some 11)])]) (Reg.pl [(19, [21]), (20, [21])])
                    (by kernel_rfl) (by kernel_rfl) (by kernel_rfl) (Reg.gv_some _ (by intro p hp; simp only [List.mem_cons, List.not_mem_nil, or_false] at hp; rcases hp with rfl | rfl <;> first | exact ⟨_, isQ_z⟩ | exact ⟨_, 0, rfl⟩))
                    (fun _ => ⟨belowB, keepsB, Nat.le_refl _, ownK, ownK, ownK, (fun h => by cases h)⟩)
                    (fun D v v' W hv hj => by obtain ⟨j0, jk, jn, oa, or, og, ja⟩ := hj; exact ⟨j0, jk, jn, oa, or, og, fun hd => by obtain ⟨p, e1, e2, e3, e4, e5⟩ := ja hd; exact ⟨p, (hv 20 hd) ▸ e1, e2, e3, e4, fun h => by obtain ⟨q1, cs, q2, q3⟩ := e5 h; exact ⟨q1, cs, (hv 19 q1) ▸ q2, q3⟩⟩⟩)
                    (fun _ _ _ _ _ _ _ _ _ _ _ hk hg => gw_keeps _ (by intro p hp; simp only [List.mem_cons, List.not_mem_nil, or_false] at hp; rcases hp with rfl; exact GQ.keeps) hk hg) (fun _ _ _ _ h => h.elim) (fun ops' Q' hops hQ => ?_)
                  apply Reg.RC_pure (hc := rfl) (hst := rfl) (hw := rfl) (t := 55) (hd := rfl) (ht := Nat.le_of_ble_eq_true rfl)
                  · intro D v W hc hj hf K' hK'
                    go_step
                    exact hK'.out
                  · rfl
                  apply Reg.RC_pure (hc := rfl) (hst := rfl) (hw := rfl) (t := 56) (hd := rfl) (ht := Nat.le_of_ble_eq_true rfl)
                  · intro D v W hc hj hf K' hK'
                    go_step
                    exact hK'.out
                  · rfl
                  apply Reg.RC_pure (hc := rfl) (hst := rfl) (hw := rfl) (t := 57) (hd := rfl) (ht := Nat.le_of_ble_eq_true rfl)
                  · intro D v W hc hj hf K' hK'
                    go_step
                    exact hK'.out
                  · rfl
                  apply Reg.RC_pure (hc := rfl) (hst := rfl) (hw := rfl) (t := 58) (hd := rfl) (ht := Nat.le_of_ble_eq_true rfl)
                  · intro D v W hc hj hf K' hK'
                    obtain ⟨j0, jk, jn, oa, or, og, ja⟩ := hj
                    have c0 : World.cell? W ⟨w.heap.size, a, none⟩ = some (.int .i64 ia) := oa.c _ hA
                    go_step
                    exact hK'.out
                  · rfl
                  apply Reg.RC_pure (hc := rfl) (hst := rfl) (hw := rfl) (t := 59) (hd := rfl) (ht := Nat.le_of_ble_eq_true rfl)
                  · intro D v W hc hj hf K' hK'
                    go_step
                    exact hK'.out
                  · rfl
                  apply Reg.RC_pure (hc := rfl) (hst := rfl) (hw := rfl) (t := 60) (hd := rfl) (ht := Nat.le_of_ble_eq_true rfl)
                  · intro D v W hc hj hf K' hK'
                    go_step
                    exact hK'.out
                  · rfl
                  apply Reg.RC_pure (hc := rfl) (hst := rfl) (hw := rfl) (t := 61) (hd := rfl) (ht := Nat.le_of_ble_eq_true rfl)
                  · intro D v W hc hj hf K' hK'
                    obtain ⟨j0, jk, jn, oa, or, og, ja⟩ := hj
                    have c0 : World.cell? W ⟨w.heap.size, b, none⟩ = some (.int .i64 ib) := oa.c _ hB
                    go_step
                    exact hK'.out
                  · rfl
                  apply Reg.RC_pure (hc := rfl) (hst := rfl) (hw := rfl) (t := 62) (hd := rfl) (ht := Nat.le_of_ble_eq_true rfl)
                  · intro D v W hc hj hf K' hK'
                    go_step
                    exact hK'.out
                  · rfl
                  apply Reg.RC_pure (hc := rfl) (hst := rfl) (hw := rfl) (t := 63) (hd := rfl) (ht := Nat.le_of_ble_eq_true rfl)
                  · intro D v W hc hj hf K' hK'
                    go_step
                    exact hK'.out
                  · rfl
                  apply Reg.RC_pure (hc := rfl) (hst := rfl) (hw := rfl) (t := 64) (hd := rfl) (ht := Nat.le_of_ble_eq_true rfl)
                  · intro D v W hc hj hf K' hK'
                    obtain ⟨j0, jk, jn, oa, or, og, ja⟩ := hj
                    have c0 : World.cell? W ⟨w.heap.size, c, none⟩ = some (.int .i64 ic) := oa.c _ hC
                    go_step
                    exact hK'.out
                  · rfl
                  apply Reg.RC_pure (hc := rfl) (hst := rfl) (hw := rfl) (t := 65) (hd := rfl) (ht := Nat.le_of_ble_eq_true rfl)
                  · intro D v W hc hj hf K' hK'
                    go_step
                    exact hK'.out
                  · rfl
                  apply Reg.RC_pure (hc := rfl) (hst := rfl) (hw := rfl) (t := 66) (hd := rfl) (ht := Nat.le_of_ble_eq_true rfl)
                  · intro D v W hc hj hf K' hK'
                    go_step
                    exact hK'.out
                  · rfl
                  apply Reg.RC_pure (hc := rfl) (hst := rfl) (hw := rfl) (t := 67) (hd := rfl) (ht := Nat.le_of_ble_eq_true rfl)
                  · intro D v W hc hj hf K' hK'
                    go_step
                    exact hK'.out
                  · rfl
                  apply Reg.RC_pure (hc := rfl) (hst := rfl) (hw := rfl) (t := 68) (hd := rfl) (ht := Nat.le_of_ble_eq_true rfl)
                  · intro D v W hc hj hf K' hK'
                    go_step
                    exact hK'.out
                  · rfl
                  apply Reg.RC_pure (hc := rfl) (hst := rfl) (hw := rfl) (t := 69) (hd := rfl) (ht := Nat.le_of_ble_eq_true rfl)
                  · intro D v W hc hj hf K' hK'
                    go_step
                    exact hK'.out
                  · rfl
                  apply Reg.RC_pure (hc := rfl) (hst := rfl) (hw := rfl) (t := 70) (hd := rfl) (ht := Nat.le_of_ble_eq_true rfl)
                  · intro D v W hc hj hf K' hK'
                    go_step
                    exact hK'.out
                  · rfl
                  apply Reg.RC_pure (hc := rfl) (hst := rfl) (hw := rfl) (t := 71) (hd := rfl) (ht := Nat.le_of_ble_eq_true rfl)
                  · intro D v W hc hj hf K' hK'
                    go_step
                    exact hK'.out
                  · rfl
                  apply Reg.RC_pure (hc := rfl) (hst := rfl) (hw := rfl) (t := 72) (hd := rfl) (ht := Nat.le_of_ble_eq_true rfl)
                  · intro D v W hc hj hf K' hK'
                    obtain ⟨j0, jk, jn, oa, or, og, ja⟩ := hj
                    have c0 : World.cell? W ⟨w.heap.size, d, none⟩ = some (.int .i64 id_) := oa.c _ hD
                    go_step
                    exact hK'.out
                  · rfl
                  apply Reg.RC_pure (hc := rfl) (hst := rfl) (hw := rfl) (t := 73) (hd := rfl) (ht := Nat.le_of_ble_eq_true rfl)
                  · intro D v W hc hj hf K' hK'
                    go_step
                    exact hK'.out
                  · rfl
                  refine Reg.RC_call rfl (by intro t ht; cases ht; exact Nat.le_of_ble_eq_true rfl) rfl (fun D v W hc hj hf K' hK' => ?_) ?_
                  · obtain ⟨j0, jk, jn, oa, or, og, ja⟩ := hj
                    have hst : D 21 = false := hc.2 21 (by decide)
                    go_step
                    refine (qa _ j0).mono ?_
                    rintro e W2 ⟨cs, rfl, hq, hs⟩
                    exact hK'.out _ W2 (Keeps.steps hs) ⟨below_steps j0 (Nat.le_refl _) hs, jk.then_ hs, Nat.le_trans jn hs.size, oa.steps hs, or.steps hs, og.steps hs, fun hd => by obtain ⟨p, e1, e2, e3, e4, e5⟩ := ja hd; exact ⟨p, e1, e2, Nat.lt_of_lt_of_le e3 hs.size, fun h => (e4 h).steps hs, fun h => Bool.noConfusion (hst.symm.trans h)⟩⟩ ⟨_, rfl, hq⟩ ⟨_, rfl, hq.1, hq.2.1⟩
                  rintro _ ⟨cs, rfl, hsz, hone⟩
                  refine Reg.RC_at (b := ⟨#[_,_,_,_,_,_,_,_,_,_,_,_,_,_,_,_,_,_,_,_,_,_,_,_,_,_,_,_,_,_,_,_,_,_,_,_,_,_,_,_,_,_,_,_,_,_,_,_,_,_,_,_,_,_,_,_,_,_,_,_,_,_,_,_,_,_,_,_,_,_,_,_,_,_,_,_,_,_,_,_,_,_,_,_], _⟩) rfl ?_
                  refine Reg.RC_call rfl (by intro t ht; cases ht; exact Nat.le_of_ble_eq_true rfl) rfl (fun D v W hc hj hf K' hK' => ?_) ?_
                  · obtain ⟨j0, jk, jn, oa, or, og, ja⟩ := hj
                    have hst : D 21 = false := hc.2 21 (by decide)
                    go_step
                    have hs : ∀ o : Obj, Steps W (W.alloc o) := fun o => (Below.refl _ _).alloc (Nat.le_refl _) o
                    exact hK'.out _ _ (Keeps.steps (hs _)) ⟨below_steps j0 (Nat.le_refl _) (hs _), jk.then_ (hs _), Nat.le_trans jn (hs _).size, oa.steps (hs _), or.steps (hs _), og.steps (hs _), fun _ => ⟨W.heap.size, rfl, jn, by rw [World.size_alloc]; omega, fun _ => Blk.new _ _ _, fun h => Bool.noConfusion (hst.symm.trans h)⟩⟩ trivial ⟨_, rfl⟩
                  rintro _ ⟨p, rfl⟩
                  refine Reg.RC_at (b := ⟨#[_,_,_,_,_,_,_,_,_,_,_,_,_,_,_,_,_,_,_,_,_,_,_,_,_,_,_,_,_,_,_,_,_,_,_,_,_,_,_,_,_,_,_,_,_,_,_,_,_,_,_,_,_,_,_,_,_,_,_,_,_,_,_,_,_,_,_,_,_,_,_,_,_,_,_,_,_,_,_,_,_,_,_,_], _⟩) rfl ?_
                  refine Reg.RC_call rfl (by intro t ht; cases ht) rfl (fun D v W hc hj hf K' hK' => ?_) (fun _ _ => Reg.RC_at (b := ⟨#[_,_,_,_,_,_,_,_,_,_,_,_,_,_,_,_,_,_,_,_,_,_,_,_,_,_,_,_,_,_,_,_,_,_,_,_,_,_,_,_,_,_,_,_,_,_,_,_,_,_,_,_,_,_,_,_,_,_,_,_,_,_,_,_,_,_,_,_,_,_,_,_,_,_,_,_,_,_,_,_,_,_,_,_], _⟩) rfl ?_)
                  · obtain ⟨j0, jk, jn, oa, or, og, ja⟩ := hj
                    have f := hf (19, some 74) (.head _) rfl
                    have f2 := hf (20, some 11) (.tail _ (.head _)) rfl
                    obtain ⟨p', e1, e2, e3, e4, -⟩ := ja f2.1
                    obtain rfl : p = p' := Reg.ptr_eq ((show v 20 = .pointer (some ⟨p, 0, none⟩) from f2.2.1).symm.trans e1)
                    have hb := e4 hc.1
                    have r := RowTo.mk_ (cs := cs) hb
                    have z1 := oa.lt
                    have n1 : ∀ q, q < wr.heap.size → q ≠ p := fun q hq => by omega
                    refine wp_store_row 31 (.tmp 11) (.tmp 74) rfl p cs rfl rfl 31 #[.int .i64 0, .int .i64 0, .int .i64 0, .int .i64 0, .bool false, .slice none 0 0, .bool false, .slice none 0 0, .bool false, .slice none 0 0, .bool false, .slice none 0 0, .bool false, .slice none 0 0, .bool false, .slice none 0 0, .bool false, .slice none 0 0, .bool false, .slice none 0 0] hb (by rw [hsz]; kernel_rfl) hsz.symm hone ?_
                    exact hK'.out undef _ (r.keeps rfl) ⟨r.below j0 (Nat.le_trans hwr e2), jk.trans (r.keeps rfl), Nat.le_trans jn (Nat.le_of_eq r.only.1.symm), r.far oa (n1 _ hP0), r.far or (n1 _ hP1), r.far og (n1 _ hPg), fun _ => ⟨p, f2.2.1, e2, Nat.lt_of_lt_of_le e3 (Nat.le_of_eq r.only.1.symm), (fun h => Bool.noConfusion h), fun _ => ⟨f.1, cs, f.2.1, r.blk⟩⟩⟩ trivial trivial
                  refine Reg.RC_end (fun D v w9 hd hj hf => ?_)
                  obtain ⟨j0, jk, jn, oa, or, og, ja⟩ := hj
                  have f := hf (19, some 74) (.head _) rfl
                  have f2 := hf (20, some 11) (.tail _ (.head _)) rfl
                  obtain ⟨p', e1, e2, e3, -, e5⟩ := ja f2.1
                  obtain rfl : p = p' := Reg.ptr_eq ((show v 20 = .pointer (some ⟨p, 0, none⟩) from f2.2.1).symm.trans e1)
                  obtain ⟨-, cs', e6, op⟩ := e5 (hd 21 (by decide))
                  obtain rfl : cs = cs' := agg_inj ((show v 19 = .agg cs from f.2.1).symm.trans e6)
                  have hq : QF w9 cs (kA X) (rA X) := GQ.get f.2.2
                  have B := j0
                  have kp := jk
                  have np : ∀ q, q < wr.heap.size → q ≠ p := fun q hq => by omega
                  clear f f2 ja e1 e2 e5 e6 hd hf j0 jk
                  refine hQ _ _ ?_
                  clear hQ hops Q' ops'
                  go_wp2_with (first | (refine load_big rfl 31 (.tmp 11) rfl (p) rfl 31 cs _ op Try.underlying31 rfl (by rw [hsz]; kernel_rfl) ?_) | (refine store_big rfl 31 (.tmp 6) (.tmp 82) rfl g cs rfl rfl 31 CS og (by rw [hsz]; kernel_rfl) (by rw [← HCS.out, hsz]; rfl) hone (fun w8 r8 => ?_)))
                  go_roundw
                  case rel => exact ⟨c + 1, by omega, by go_num, r8.far oa (by omega), r8.far or (by omega), r8.below B (by omega), by rw [HX.out]; exact ⟨rfl, cs, r8.blk, hq.keeps (r8.keeps (by rw [← HCS.out]; rfl))⟩⟩
                  case measure => simp [intOf]; omega
                | some x =>
                  rw [ho] at hF HX
                  obtain ⟨rfl, CS, og, hqc⟩ := hF
                  dsimp only at HX
                  replace HX := Hid.mk_ HX
                  have hPg := og.lt
                  obtain ⟨hxn, px, hpx⟩ := bestU_n l K dd ho
                  have okx := hnum px
                  rw [← hpx] at okx
                  have hcs := hqc.1
                  have hcsu : noU32 CS = true := QF.noU hqc
                  go_wp2_with fail
                  refine Reg.wp_chain (fun D v W => Below w.heap.size w W ∧ Keeps wr W ∧ wr.heap.size ≤ W.heap.size ∧ Blk W (w.heap.size) 23 #[.int .i64 k0, .int .i64 k1, .int .i64 k2, .int .i64 k3] ∧ Blk W (w.heap.size + 1) 31 #[.int .i64 0, .int .i64 0, .int .i64 0, .int .i64 0, .bool false, .slice none 0 0, .bool false, .slice none 0 0, .bool false, .slice none 0 0, .bool false, .slice none 0 0, .bool false, .slice none 0 0, .bool false, .slice none 0 0, .bool false, .slice none 0 0, .bool false, .slice none 0 0] ∧ Blk W g 31 CS ∧ (D 20 = true → ∃ p : Nat, v 20 = .pointer (some ⟨p, 0, none⟩) ∧ wr.heap.size ≤ p ∧ p < W.heap.size ∧ (D 21 = false → Blk W p 31 #[.int .i64 0, .int .i64 0, .int .i64 0, .int .i64 0, .bool false, .slice none 0 0, .bool false, .slice none 0 0, .bool false, .slice none 0 0, .bool false, .slice none 0 0, .bool false, .slice none 0 0, .bool false, .slice none 0 0, .bool false, .slice none 0 0, .bool false, .slice none 0 0]) ∧ (D 21 = true → D 19 = true ∧ ∃ cs, v 19 = .agg cs ∧ Blk W p 31 cs))) (Reg.inl [19, 20, 21]) (Reg.gv [(19, IsQ), (20, IsPtr)]) (gw [(19, GQ (kA X) (rA X))]) (fun _ => Keeps) (fun _ _ => False) (Reg.pl [(21, [(19, some 74), (20, some 11)]), (22, [(19, some 74), (20, some 11)])]) (Reg.pl [(19, [21]), (20, [21])])
                    (by kernel_rfl) (by kernel_rfl) (by kernel_rfl) (Reg.gv_some _ (by intro p hp; simp only [List.mem_cons, List.not_mem_nil, or_false] at hp; rcases hp with rfl | rfl <;> first | exact ⟨_, isQ_z⟩ | exact ⟨_, 0, rfl⟩))
                    (fun _ => ⟨belowB, keepsB, Nat.le_refl _, ownK, ownK, ownK, (fun h => by cases h)⟩)
                    (fun D v v' W hv hj => by obtain ⟨j0, jk, jn, oa, or, og, ja⟩ := hj; exact ⟨j0, jk, jn, oa, or, og, fun hd => by obtain ⟨p, e1, e2, e3, e4, e5⟩ := ja hd; exact ⟨p, (hv 20 hd) ▸ e1, e2, e3, e4, fun h => by obtain ⟨q1, cs, q2, q3⟩ := e5 h; exact ⟨q1, cs, (hv 19 q1) ▸ q2, q3⟩⟩⟩)
                    (fun _ _ _ _ _ _ _ _ _ _ _ hk hg => gw_keeps _ (by intro p hp; simp only [List.mem_cons, List.not_mem_nil, or_false] at hp; rcases hp with rfl; exact GQ.keeps) hk hg) (fun _ _ _ _ h => h.elim) (fun ops' Q' hops hQ => ?_)
                  apply Reg.RC_pure (hc := rfl) (hst := rfl) (hw := rfl) (t := 55) (hd := rfl) (ht := Nat.le_of_ble_eq_true rfl)
                  · intro D v W hc hj hf K' hK'
                    go_step
                    exact hK'.out
                  · rfl
                  apply Reg.RC_pure (hc := rfl) (hst := rfl) (hw := rfl) (t := 56) (hd := rfl) (ht := Nat.le_of_ble_eq_true rfl)
                  · intro D v W hc hj hf K' hK'
                    go_step
                    exact hK'.out
                  · rfl
                  apply Reg.RC_pure (hc := rfl) (hst := rfl) (hw := rfl) (t := 57) (hd := rfl) (ht := Nat.le_of_ble_eq_true rfl)
                  · intro D v W hc hj hf K' hK'
                    go_step
                    exact hK'.out
                  · rfl
                  apply Reg.RC_pure (hc := rfl) (hst := rfl) (hw := rfl) (t := 58) (hd := rfl) (ht := Nat.le_of_ble_eq_true rfl)
                  · intro D v W hc hj hf K' hK'
                    obtain ⟨j0, jk, jn, oa, or, og, ja⟩ := hj
                    have c0 : World.cell? W ⟨w.heap.size, a, none⟩ = some (.int .i64 ia) := oa.c _ hA
                    go_step
                    exact hK'.out
                  · rfl
                  apply Reg.RC_pure (hc := rfl) (hst := rfl) (hw := rfl) (t := 59) (hd := rfl) (ht := Nat.le_of_ble_eq_true rfl)
                  · intro D v W hc hj hf K' hK'
                    go_step
                    exact hK'.out
                  · rfl
                  apply Reg.RC_pure (hc := rfl) (hst := rfl) (hw := rfl) (t := 60) (hd := rfl) (ht := Nat.le_of_ble_eq_true rfl)
                  · intro D v W hc hj hf K' hK'
                    go_step
                    exact hK'.out
                  · rfl
                  apply Reg.RC_pure (hc := rfl) (hst := rfl) (hw := rfl) (t := 61) (hd := rfl) (ht := Nat.le_of_ble_eq_true rfl)
                  · intro D v W hc hj hf K' hK'
                    obtain ⟨j0, jk, jn, oa, or, og, ja⟩ := hj
                    have c0 : World.cell? W ⟨w.heap.size, b, none⟩ = some (.int .i64 ib) := oa.c _ hB
                    go_step
                    exact hK'.out
                  · rfl
                  apply Reg.RC_pure (hc := rfl) (hst := rfl) (hw := rfl) (t := 62) (hd := rfl) (ht := Nat.le_of_ble_eq_true rfl)
                  · intro D v W hc hj hf K' hK'
                    go_step
                    exact hK'.out
                  · rfl
                  apply Reg.RC_pure (hc := rfl) (hst := rfl) (hw := rfl) (t := 63) (hd := rfl) (ht := Nat.le_of_ble_eq_true rfl)
                  · intro D v W hc hj hf K' hK'
                    go_step
                    exact hK'.out
                  · rfl
                  apply Reg.RC_pure (hc := rfl) (hst := rfl) (hw := rfl) (t := 64) (hd := rfl) (ht := Nat.le_of_ble_eq_true rfl)
                  · intro D v W hc hj hf K' hK'
                    obtain ⟨j0, jk, jn, oa, or, og, ja⟩ := hj
                    have c0 : World.cell? W ⟨w.heap.size, c, none⟩ = some (.int .i64 ic) := oa.c _ hC
                    go_step
                    exact hK'.out
                  · rfl
                  apply Reg.RC_pure (hc := rfl) (hst := rfl) (hw := rfl) (t := 65) (hd := rfl) (ht := Nat.le_of_ble_eq_true rfl)
                  · intro D v W hc hj hf K' hK'
                    go_step
                    exact hK'.out
                  · rfl
                  apply Reg.RC_pure (hc := rfl) (hst := rfl) (hw := rfl) (t := 66) (hd := rfl) (ht := Nat.le_of_ble_eq_true rfl)
                  · intro D v W hc hj hf K' hK'
                    go_step
                    exact hK'.out
                  · rfl
                  apply Reg.RC_pure (hc := rfl) (hst := rfl) (hw := rfl) (t := 67) (hd := rfl) (ht := Nat.le_of_ble_eq_true rfl)
                  · intro D v W hc hj hf K' hK'
                    go_step
                    exact hK'.out
                  · rfl
                  apply Reg.RC_pure (hc := rfl) (hst := rfl) (hw := rfl) (t := 68) (hd := rfl) (ht := Nat.le_of_ble_eq_true rfl)
                  · intro D v W hc hj hf K' hK'
                    go_step
                    exact hK'.out
                  · rfl
                  apply Reg.RC_pure (hc := rfl) (hst := rfl) (hw := rfl) (t := 69) (hd := rfl) (ht := Nat.le_of_ble_eq_true rfl)
                  · intro D v W hc hj hf K' hK'
                    go_step
                    exact hK'.out
                  · rfl
                  apply Reg.RC_pure (hc := rfl) (hst := rfl) (hw := rfl) (t := 70) (hd := rfl) (ht := Nat.le_of_ble_eq_true rfl)
                  · intro D v W hc hj hf K' hK'
                    go_step
                    exact hK'.out
                  · rfl
                  apply Reg.RC_pure (hc := rfl) (hst := rfl) (hw := rfl) (t := 71) (hd := rfl) (ht := Nat.le_of_ble_eq_true rfl)
                  · intro D v W hc hj hf K' hK'
                    go_step
                    exact hK'.out
                  · rfl
                  apply Reg.RC_pure (hc := rfl) (hst := rfl) (hw := rfl) (t := 72) (hd := rfl) (ht := Nat.le_of_ble_eq_true rfl)
                  · intro D v W hc hj hf K' hK'
                    obtain ⟨j0, jk, jn, oa, or, og, ja⟩ := hj
                    have c0 : World.cell? W ⟨w.heap.size, d, none⟩ = some (.int .i64 id_) := oa.c _ hD
                    go_step
                    exact hK'.out
                  · rfl
                  apply Reg.RC_pure (hc := rfl) (hst := rfl) (hw := rfl) (t := 73) (hd := rfl) (ht := Nat.le_of_ble_eq_true rfl)
                  · intro D v W hc hj hf K' hK'
                    go_step
                    exact hK'.out
                  · rfl
                  refine Reg.RC_call rfl (by intro t ht; cases ht; exact Nat.le_of_ble_eq_true rfl) rfl (fun D v W hc hj hf K' hK' => ?_) ?_
                  · obtain ⟨j0, jk, jn, oa, or, og, ja⟩ := hj
                    have hst : D 21 = false := hc.2 21 (by decide)
                    go_step
                    refine (qa _ j0).mono ?_
                    rintro e W2 ⟨cs, rfl, hq, hs⟩
                    exact hK'.out _ W2 (Keeps.steps hs) ⟨below_steps j0 (Nat.le_refl _) hs, jk.then_ hs, Nat.le_trans jn hs.size, oa.steps hs, or.steps hs, og.steps hs, fun hd => by obtain ⟨p, e1, e2, e3, e4, e5⟩ := ja hd; exact ⟨p, e1, e2, Nat.lt_of_lt_of_le e3 hs.size, fun h => (e4 h).steps hs, fun h => Bool.noConfusion (hst.symm.trans h)⟩⟩ ⟨_, rfl, hq⟩ ⟨_, rfl, hq.1, hq.2.1⟩
                  rintro _ ⟨cs, rfl, hsz, hone⟩
                  refine Reg.RC_at (b := ⟨#[_,_,_,_,_,_,_,_,_,_,_,_,_,_,_,_,_,_,_,_,_,_,_,_,_,_,_,_,_,_,_,_,_,_,_,_,_,_,_,_,_,_,_,_,_,_,_,_,_,_,_,_,_,_,_,_,_,_,_,_,_,_,_,_,_,_,_,_,_,_,_,_,_,_,_,_,_,_,_,_,_,_,_,_], _⟩) rfl ?_
                  refine Reg.RC_call rfl (by intro t ht; cases ht; exact Nat.le_of_ble_eq_true rfl) rfl (fun D v W hc hj hf K' hK' => ?_) ?_
                  · obtain ⟨j0, jk, jn, oa, or, og, ja⟩ := hj
                    have hst : D 21 = false := hc.2 21 (by decide)
                    go_step
                    have hs : ∀ o : Obj, Steps W (W.alloc o) := fun o => (Below.refl _ _).alloc (Nat.le_refl _) o
                    exact hK'.out _ _ (Keeps.steps (hs _)) ⟨below_steps j0 (Nat.le_refl _) (hs _), jk.then_ (hs _), Nat.le_trans jn (hs _).size, oa.steps (hs _), or.steps (hs _), og.steps (hs _), fun _ => ⟨W.heap.size, rfl, jn, by rw [World.size_alloc]; omega, fun _ => Blk.new _ _ _, fun h => Bool.noConfusion (hst.symm.trans h)⟩⟩ trivial ⟨_, rfl⟩
                  rintro _ ⟨p, rfl⟩
                  refine Reg.RC_at (b := ⟨#[_,_,_,_,_,_,_,_,_,_,_,_,_,_,_,_,_,_,_,_,_,_,_,_,_,_,_,_,_,_,_,_,_,_,_,_,_,_,_,_,_,_,_,_,_,_,_,_,_,_,_,_,_,_,_,_,_,_,_,_,_,_,_,_,_,_,_,_,_,_,_,_,_,_,_,_,_,_,_,_,_,_,_,_], _⟩) rfl ?_
                  refine Reg.RC_call rfl (by intro t ht; cases ht) rfl (fun D v W hc hj hf K' hK' => ?_) (fun _ _ => Reg.RC_at (b := ⟨#[_,_,_,_,_,_,_,_,_,_,_,_,_,_,_,_,_,_,_,_,_,_,_,_,_,_,_,_,_,_,_,_,_,_,_,_,_,_,_,_,_,_,_,_,_,_,_,_,_,_,_,_,_,_,_,_,_,_,_,_,_,_,_,_,_,_,_,_,_,_,_,_,_,_,_,_,_,_,_,_,_,_,_,_], _⟩) rfl ?_)
                  · obtain ⟨j0, jk, jn, oa, or, og, ja⟩ := hj
                    have f := hf (19, some 74) (.head _) rfl
                    have f2 := hf (20, some 11) (.tail _ (.head _)) rfl
                    obtain ⟨p', e1, e2, e3, e4, -⟩ := ja f2.1
                    obtain rfl : p = p' := Reg.ptr_eq ((show v 20 = .pointer (some ⟨p, 0, none⟩) from f2.2.1).symm.trans e1)
                    have hb := e4 hc.1
                    have r := RowTo.mk_ (cs := cs) hb
                    have z1 := oa.lt
                    have n1 : ∀ q, q < wr.heap.size → q ≠ p := fun q hq => by omega
                    refine wp_store_row 31 (.tmp 11) (.tmp 74) rfl p cs rfl rfl 31 #[.int .i64 0, .int .i64 0, .int .i64 0, .int .i64 0, .bool false, .slice none 0 0, .bool false, .slice none 0 0, .bool false, .slice none 0 0, .bool false, .slice none 0 0, .bool false, .slice none 0 0, .bool false, .slice none 0 0, .bool false, .slice none 0 0, .bool false, .slice none 0 0] hb (by rw [hsz]; kernel_rfl) hsz.symm hone ?_
                    exact hK'.out undef _ (r.keeps rfl) ⟨r.below j0 (Nat.le_trans hwr e2), jk.trans (r.keeps rfl), Nat.le_trans jn (Nat.le_of_eq r.only.1.symm), r.far oa (n1 _ hP0), r.far or (n1 _ hP1), r.far og (n1 _ hPg), fun _ => ⟨p, f2.2.1, e2, Nat.lt_of_lt_of_le e3 (Nat.le_of_eq r.only.1.symm), (fun h => Bool.noConfusion h), fun _ => ⟨f.1, cs, f.2.1, r.blk⟩⟩⟩ trivial trivial
                  refine Reg.RC_end (fun D v w9 hd hj hf => ?_)
                  obtain ⟨j0, jk, jn, oa, or, og, ja⟩ := hj
                  have f := hf (19, some 74) (.head _) rfl
                  have f2 := hf (20, some 11) (.tail _ (.head _)) rfl
                  obtain ⟨p', e1, e2, e3, -, e5⟩ := ja f2.1
                  obtain rfl : p = p' := Reg.ptr_eq ((show v 20 = .pointer (some ⟨p, 0, none⟩) from f2.2.1).symm.trans e1)
                  obtain ⟨-, cs', e6, op⟩ := e5 (hd 21 (by decide))
                  obtain rfl : cs = cs' := agg_inj ((show v 19 = .agg cs from f.2.1).symm.trans e6)
                  have hq : QF w9 cs (kA X) (rA X) := GQ.get f.2.2
                  have B := j0
                  have kp := jk
                  have np : ∀ q, q < wr.heap.size → q ≠ p := fun q hq => by omega
                  clear f f2 ja e1 e2 e5 e6 hd hf j0 jk
                  refine hQ _ _ ?_
                  clear hQ hops Q' ops'
                  have bf := rbefA w9 hq (hqc.keeps kp) okX.1 okx.1 (by omega) (by rw [hXn, hxn]) okX.2 okx.2
                  go_upto_region 16 with fail
                  refine wp_region_lit ?_
                  repeat' (first | (refine load_bigG rfl 31 (.tmp 11) rfl (p) rfl 31 cs _ op Try.underlying31 rfl (by rw [hsz]; kernel_rfl) ?_) | (refine load_bigG rfl 31 (.tmp 6) rfl (g) rfl 31 CS _ og Try.underlying31 rfl (by rw [hcs]; kernel_rfl) ?_) | go_values | go_skip | go_guarded | go_step | go_upon)
                  refine bf.mono ?_
                  rintro e w7 ⟨rfl, s7⟩
                  replace B := below_steps B (Nat.le_refl _) s7
                  replace oa := oa.steps s7
                  replace or := or.steps s7
                  replace og := og.steps s7
                  replace op := op.steps s7
                  replace hq := hq.steps s7
                  replace hqc := (hqc.keeps kp).steps s7
                  clear bf s7 kp
                  cases hb : decide (cmpA X x < 0)
                  · dsimp only
                    go_wp2
                    go_roundw
                    case rel => exact ⟨c + 1, by omega, by go_num, ownK, ownK, belowB, by rw [HX.out, if_neg (of_decide_eq_false hb)]; exact ⟨rfl, CS, og, hqc⟩⟩
                    case measure => simp [intOf]; omega
                  · dsimp only
                    go_wp2_with (first | (refine load_big rfl 31 (.tmp 11) rfl (p) rfl 31 cs _ op Try.underlying31 rfl (by rw [hsz]; kernel_rfl) ?_) | (refine store_big rfl 31 (.tmp 6) (.tmp 82) rfl g cs rfl rfl 31 CS og (by rw [hsz]; kernel_rfl) (by rw [hcs, hsz]) hone (fun w8 r8 => ?_)))
                    go_roundw
                    case rel => exact ⟨c + 1, by omega, by go_num, r8.far oa (by omega), r8.far or (by omega), r8.below B (by omega), by rw [HX.out, if_pos (of_decide_eq_true hb)]; exact ⟨rfl, cs, r8.blk, hq.keeps (r8.keeps hcsu)⟩⟩
                    case measure => simp [intOf]; omega
              · obtain rfl : c = 4 := by omega
                have HU := Hid.mk_ (bestU_b l K dd a4 b4)
                go_wp2
                go_roundw
                case rel => exact ⟨b + 1, by omega, by go_num, ownK, ownK, belowB, by rw [← HU.out]; exact hF⟩
                case measure => simp [intOf]; omega
          · have HU := Hid.mk_ ((bestU_skip l K N a4 b4 (by rw [hdd]; exact e0) 4 (by omega)).symm.trans (bestU_b l K N a4 b4))
            have qd : (dd != N) = true := by simpa using e0
            clear hdd hIA hIB
            go_wp2_with fail
            refine Reg.wp_chain (fun D v W => Steps wr W) (Reg.inl [16]) (Reg.gv [(16, fun z_ => z_ = .int .i64 dd)]) Reg.None_ (fun _ => Reg.Any) (fun _ _ => False) (Reg.pl []) (Reg.pl [])
              (by kernel_rfl) (by kernel_rfl) (by kernel_rfl) (Reg.gv_some _ (by intro p hp; simp only [List.mem_cons, List.not_mem_nil, or_false] at hp; rcases hp with rfl; exact ⟨_, rfl⟩)) (fun _ => (Below.refl _ _).drew) (fun _ _ _ _ _ h => h) (fun _ _ _ _ _ _ _ _ _ _ _ _ _ => Reg.none_) (fun _ _ _ _ h => h.elim) (fun ops' Q' hops hQ => ?_)
            apply Reg.RC_pure (hc := rfl) (hst := rfl) (hw := rfl) (t := 23) (hd := rfl) (ht := Nat.le_of_ble_eq_true rfl)
            · intro D v W hc hj hf K' hK'
              go_step
              exact hK'.out
            · rfl
            apply Reg.RC_pure (hc := rfl) (hst := rfl) (hw := rfl) (t := 24) (hd := rfl) (ht := Nat.le_of_ble_eq_true rfl)
            · intro D v W hc hj hf K' hK'
              go_step
              exact hK'.out
            · rfl
            apply Reg.RC_pure (hc := rfl) (hst := rfl) (hw := rfl) (t := 25) (hd := rfl) (ht := Nat.le_of_ble_eq_true rfl)
            · intro D v W hc hj hf K' hK'
              go_step
              exact hK'.out
            · rfl
            apply Reg.RC_pure (hc := rfl) (hst := rfl) (hw := rfl) (t := 26) (hd := rfl) (ht := Nat.le_of_ble_eq_true rfl)
            · intro D v W hc hj hf K' hK'
              go_step
              exact hK'.out
            · rfl
            apply Reg.RC_pure (hc := rfl) (hst := rfl) (hw := by rw [hops]; rfl) (t := 27) (hd := rfl) (ht := Nat.le_of_ble_eq_true rfl)
            · intro D v W hc hj hf K' hK'
              go_step
              exact hK'.out
            · rfl
            apply Reg.RC_pure (hc := rfl) (hst := rfl) (hw := by rw [hops]; rfl) (t := 28) (hd := rfl) (ht := Nat.le_of_ble_eq_true rfl)
            · intro D v W hc hj hf K' hK'
              go_step
              exact hK'.out
            · rfl
            apply Reg.RC_pure (hc := rfl) (hst := rfl) (hw := by rw [hops]; rfl) (t := 29) (hd := rfl) (ht := Nat.le_of_ble_eq_true rfl)
            · intro D v W hc hj hf K' hK'
              go_step
              exact hK'.out
            · rfl
            apply Reg.RC_pure (hc := rfl) (hst := rfl) (hw := by rw [hops]; rfl) (t := 30) (hd := rfl) (ht := Nat.le_of_ble_eq_true rfl)
            · intro D v W hc hj hf K' hK'
              have c0 : World.cell? W ⟨w.heap.size, a, none⟩ = some (.int .i64 ia) := (oa.steps hj).c _ hA
              go_step
              exact hK'.out
            · rfl
            apply Reg.RC_pure (hc := rfl) (hst := rfl) (hw := by rw [hops]; rfl) (t := 31) (hd := rfl) (ht := Nat.le_of_ble_eq_true rfl)
            · intro D v W hc hj hf K' hK'
              go_step
              exact hK'.out
            · rfl
            apply Reg.RC_pure (hc := rfl) (hst := rfl) (hw := by rw [hops]; rfl) (t := 32) (hd := rfl) (ht := Nat.le_of_ble_eq_true rfl)
            · intro D v W hc hj hf K' hK'
              have c0 : World.cell? W ⟨b0, o0 + ia * 2, none⟩ = _ := ((below_steps B (Nat.le_refl _) hj).cell (p := ⟨b0, o0 + ia * 2, none⟩) hb0).trans xa
              have c1 : World.cell? W ⟨b0, o0 + ia * 2 + 1, none⟩ = _ := ((below_steps B (Nat.le_refl _) hj).cell (p := ⟨b0, o0 + ia * 2 + 1, none⟩) hb0).trans ya
              go_step
              exact hK'.out
            · rfl
            apply Reg.RC_pure (hc := rfl) (hst := rfl) (hw := by rw [hops]; rfl) (t := 33) (hd := rfl) (ht := Nat.le_of_ble_eq_true rfl)
            · intro D v W hc hj hf K' hK'
              go_step
              exact hK'.out
            · rfl
            apply Reg.RC_pure (hc := rfl) (hst := rfl) (hw := by rw [hops]; rfl) (t := 34) (hd := rfl) (ht := Nat.le_of_ble_eq_true rfl)
            · intro D v W hc hj hf K' hK'
              go_step
              exact hK'.out
            · rfl
            apply Reg.RC_pure (hc := rfl) (hst := rfl) (hw := by rw [hops]; rfl) (t := 35) (hd := rfl) (ht := Nat.le_of_ble_eq_true rfl)
            · intro D v W hc hj hf K' hK'
              go_step
              exact hK'.out
            · rfl
            apply Reg.RC_pure (hc := rfl) (hst := rfl) (hw := by rw [hops]; rfl) (t := 36) (hd := rfl) (ht := Nat.le_of_ble_eq_true rfl)
            · intro D v W hc hj hf K' hK'
              have c0 : World.cell? W ⟨w.heap.size, b, none⟩ = some (.int .i64 ib) := (oa.steps hj).c _ hB
              go_step
              exact hK'.out
            · rfl
            apply Reg.RC_pure (hc := rfl) (hst := rfl) (hw := by rw [hops]; rfl) (t := 37) (hd := rfl) (ht := Nat.le_of_ble_eq_true rfl)
            · intro D v W hc hj hf K' hK'
              go_step
              exact hK'.out
            · rfl
            apply Reg.RC_pure (hc := rfl) (hst := rfl) (hw := by rw [hops]; rfl) (t := 38) (hd := rfl) (ht := Nat.le_of_ble_eq_true rfl)
            · intro D v W hc hj hf K' hK'
              have c0 : World.cell? W ⟨b0, o0 + ib * 2, none⟩ = _ := ((below_steps B (Nat.le_refl _) hj).cell (p := ⟨b0, o0 + ib * 2, none⟩) hb0).trans xb
              have c1 : World.cell? W ⟨b0, o0 + ib * 2 + 1, none⟩ = _ := ((below_steps B (Nat.le_refl _) hj).cell (p := ⟨b0, o0 + ib * 2 + 1, none⟩) hb0).trans yb
              go_step
              exact hK'.out
            · rfl
            refine Reg.RC_call rfl (by intro t ht; cases ht; exact Nat.le_of_ble_eq_true rfl) (by rw [hops]; rfl) (fun D v W hc hj hf K' hK' => ?_) ?_
            · go_step
              refine (ap _).mono ?_
              rintro e W2 ⟨rfl, hs⟩
              exact hK'.out _ W2 Reg.any (below_steps hj (Nat.le_refl _) hs) Reg.none_ rfl
            rintro _ rfl
            refine Reg.RC_at (b := ⟨#[_,_,_,_,_,_,_,_,_,_,_,_,_,_,_,_,_,_,_,_,_,_,_,_,_,_,_,_,_,_,_,_,_,_,_,_,_,_,_,_,_,_,_,_,_,_,_,_,_,_,_,_,_,_,_,_,_,_,_,_,_,_,_,_,_,_,_,_,_,_,_,_,_,_,_,_,_,_,_,_,_,_,_,_], _⟩) rfl ?_
            apply Reg.RC_pure (hc := rfl) (hst := rfl) (hw := by rw [hops]; rfl) (t := 40) (hd := rfl) (ht := Nat.le_of_ble_eq_true rfl)
            · intro D v W hc hj hf K' hK'
              go_step
              exact hK'.out
            · rfl
            apply Reg.RC_pure (hc := rfl) (hst := rfl) (hw := by rw [hops]; rfl) (t := 41) (hd := rfl) (ht := Nat.le_of_ble_eq_true rfl)
            · intro D v W hc hj hf K' hK'
              go_step
              exact hK'.out
            · rfl
            apply Reg.RC_pure (hc := rfl) (hst := rfl) (hw := rfl) (t := 42) (hd := rfl) (ht := Nat.le_of_ble_eq_true rfl)
            · intro D v W hc hj hf K' hK'
              go_step
              exact hK'.out
            · rfl
            refine Reg.RC_end (fun D v w9 hd s9 hf => ?_)
            clear hd hf
            replace B := below_steps B (Nat.le_refl _) s9
            replace oa := oa.steps s9
            replace or := or.steps s9
            replace hF := hF.steps s9
            clear s9
            refine hQ _ _ ?_
            clear hQ hops Q' ops'
            repeat' (first | go_values | go_skip | go_guarded | go_step | go_upon)
            go_wp2
            go_roundw
            case rel => exact ⟨b + 1, by omega, by go_num, ownK, ownK, belowB, by rw [← HU.out]; exact hF⟩
            case measure => simp [intOf]; omega
        · obtain rfl : b = 4 := by omega
          have HU := Hid.mk_ (bestU_a l K N a4)
          go_wp2
          go_roundw
          case rel => exact ⟨a + 1, by omega, by go_num, ownK, ownK, belowB, by rw [← HU.out]; exact hF⟩
          case measure => simp [intOf]; omega
    · obtain rfl : a = 4 := by omega
      rw [HALL] at hF
      obtain ⟨rfl, cs, og, hq⟩ := hF
      have hsz := hq.1
      have hone := hq.2.1
      have hi : (Try.prog.info? 31).map (·.size) = some cs.size := by rw [hsz]; kernel_rfl
      go_wp2_with (first | (refine load_big rfl 31 (.tmp 6) rfl (g) rfl 31 cs _ og Try.underlying31 rfl hi ?_) | (refine store_big rfl 31 (.tmp 4) (.tmp 83) rfl (w.heap.size + 1) cs rfl rfl 31 #[.int .i64 0, .int .i64 0, .int .i64 0, .int .i64 0, .bool false, .slice none 0 0, .bool false, .slice none 0 0, .bool false, .slice none 0 0, .bool false, .slice none 0 0, .bool false, .slice none 0 0, .bool false, .slice none 0 0, .bool false, .slice none 0 0, .bool false, .slice none 0 0] zr hi hsz.symm hone (fun w8 r8 => ?_)))
      refine bodyPost_ret (results_row1 rfl _ _ (w.heap.size + 1) rfl r8.blk Try.underlying31 rfl hi) rfl ?_
      exact ⟨cs, rfl, hq.keeps (r8.keeps rfl), r8.below zB (by omega)⟩
end Go.Proofs.Ytibdehlmflaodaa
