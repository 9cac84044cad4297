import Derived.Test.YtibdehlmflaodaaGreatNVe
import Derived.Test.YtibdehlmflaodaaGreatNQx
import Derived.Test.YtibdehlmflaodaaGreatNTz
import Derived.Test.YtibdehlmflaodaaGreatNQj
/- Lists of quads that a function collects. -/
set_option linter.unusedVariables false
set_option linter.unusedSimpArgs false
namespace Go.Proofs.YtibdehlmflaodaaGreat
open Go.RowKit
def QAs (w : World) (v : Value) (qa : List Arr) : Prop := ∃ ao cap, v = .slice ao qa.length cap ∧ qa.length ≤ cap ∧ ∃ CS : Nat → Array Value, (∀ t, t < qa.length → QF w (CS t) (kA (qa.getD t noArr)) (rA (qa.getD t noArr))) ∧
 (0 < qa.length → ∃ b o, ao = some ⟨b, o, none⟩ ∧ b < w.heap.size ∧ QCells w b o qa.length CS)
theorem QAs.steps {w w' : World} {v : Value} {qa : List Arr} (h : QAs w v qa) (s : Steps w w') : QAs w' v qa := by
 obtain ⟨ao, cap, e, hc, CS, h1, h2⟩ := h
 refine ⟨ao, cap, e, hc, CS, fun t ht => (h1 t ht).steps s, fun hn => ?_⟩
 obtain ⟨b, o, e2, hb, h3⟩ := h2 hn
 exact ⟨b, o, e2, Nat.lt_of_lt_of_le hb s.size, fun t ht j hj => (s.cell (p := ⟨b, _, none⟩) hb).trans (h3 t ht j hj)⟩
theorem QAs.nil (w : World) : QAs w (.slice none 0 0) [] := ⟨none, 0, rfl, Nat.le_refl _, fun _ => #[], fun t ht => (by cases ht), fun h => (by cases h)⟩
theorem QAs.shape {w : World} {v : Value} {qa : List Arr} (h : QAs w v qa) : ∃ ao cap, v = .slice ao qa.length cap := by obtain ⟨ao, cap, e, _⟩ := h; exact ⟨ao, cap, e⟩
theorem QF.qx {w : World} {cs : Array Value} {k : Nat → Int} {r : Nat → Rat} (h : QF w cs k r) : QX w cs (fun i => some (r i)) := by
 refine ⟨h.1, h.2.1, h.noU, fun i hi => ?_⟩
 obtain ⟨a1, a2, a3, a4, a5, a6, a7, a8, c0, c1, c2, c3, f⟩ := h.2.2.2 i hi
 exact ⟨a1, a2, a3, a4, a5, a6, a7, a8, c0, c1, c2, c3, f⟩
def flat (l : List (Array Value)) : List Value := l.flatMap (·.toList)
theorem flat_snoc (l : List (Array Value)) (c : Array Value) : flat (l ++ [c]) = flat l ++ c.toList := by unfold flat; simp
theorem flat_get : ∀ (l : List (Array Value)) (t j : Nat), (∀ c ∈ l, c.size = 20) → t < l.length → j < 20 → (flat l)[t * 20 + j]? = (l.getD t #[])[j]?
 | [], t, j, _, ht, _ => by cases ht
 | c :: l, 0, j, hs, _, hj => by
  have h0 : c.size = 20 := hs c (List.mem_cons.2 (.inl rfl))
  show (c.toList ++ flat l)[0 * 20 + j]? = _
  rw [List.getElem?_append_left (by simp; omega), show 0 * 20 + j = j by omega]
  simp [List.getD]
 | c :: l, t + 1, j, hs, ht, hj => by
  have h0 : c.size = 20 := hs c (List.mem_cons.2 (.inl rfl))
  have ih := flat_get l t j (fun x hx => hs x (List.mem_cons.2 (.inr hx))) (by simpa using ht) hj
  show (c.toList ++ flat l)[(t + 1) * 20 + j]? = _
  rw [List.getElem?_append_right (by simp; omega)]
  rw [show (t + 1) * 20 + j - c.toList.length = t * 20 + j by simp; omega, ih]
  simp [List.getD]
def Coll (w : World) (base : Nat) (ow : Value) (qa : List Arr) : Prop := ∃ cs : List (Array Value), RowU w base 33 20 ow qa.length (flat cs) ∧ cs.length = qa.length ∧ ∀ t, t < qa.length → QF w (cs.getD t #[]) (kA (qa.getD t noArr)) (rA (qa.getD t noArr))
theorem Coll.nil (w : World) (base : Nat) : Coll w base (.slice none 0 0) [] := ⟨[], RowU.nil _ _ _ _, rfl, fun t ht => (by cases ht)⟩
theorem Coll.keep {w w' : World} {base : Nat} {ow : Value} {qa : List Arr} (h : Coll w base ow qa) (hk : ∀ g, ow.ownBlock = some g → w'.heap[g]? = w.heap[g]?) (kp : Keeps w w') : Coll w' base ow qa := by
 obtain ⟨cs, h1, h2, h3⟩ := h
 exact ⟨cs, h1.keep hk, h2, fun t ht => (h3 t ht).keeps kp⟩
theorem Coll.lt {w : World} {base : Nat} {ow : Value} {qa : List Arr} (h : Coll w base ow qa) : ∀ g, ow.ownBlock = some g → base ≤ g ∧ g < w.heap.size := by obtain ⟨cs, h1, _⟩ := h; exact h1.lt
theorem Coll.steps {w w' : World} {base : Nat} {ow : Value} {qa : List Arr} (h : Coll w base ow qa) (s : Steps w w') : Coll w' base ow qa := h.keep (fun g hg => s.block g (h.lt g hg).2) (Keeps.steps s)
theorem Coll.len {w : World} {base : Nat} {ow : Value} {qa : List Arr} (h : Coll w base ow qa) : ∃ a c, ow = .slice a qa.length c := by obtain ⟨cs, h1, _⟩ := h; exact h1.len
theorem Coll.qas {w : World} {base : Nat} {ow : Value} {qa : List Arr} (h : Coll w base ow qa) : QAs w ow qa := by
 obtain ⟨cs, h1, h2, h3⟩ := h
 rcases h1.own.2 with ⟨rfl, h0⟩ | ⟨g, cap, cur, rfl, g1, g2, g3, g4, g5, g6⟩
 ·
  have : qa = [] := List.eq_nil_of_length_eq_zero h0
  subst this
  exact QAs.nil w
 ·
  refine ⟨_, cap, rfl, g3, fun t => cs.getD t #[], h3, fun _ => ⟨g, 0, rfl, (Array.getElem?_eq_some_iff.1 g2).1, fun t ht j hj => ?_⟩⟩
  have hs : ∀ c ∈ cs, c.size = 20 := fun c hc => by
   obtain ⟨i, hi, e⟩ := List.getElem_of_mem hc
   have := (h3 i (by omega)).1
   rw [List.getD, List.getElem?_eq_getElem hi, Option.getD_some, e] at this
   exact this
  have e := flat_get cs t j hs (by omega) hj
  have hq := (h3 t ht).1
  have hv : (cs.getD t #[])[j]? = some ((cs.getD t #[])[j]'(by omega)) := by rw [Array.getElem?_eq_getElem]
  have c := h1.own.cells (g := g) rfl (t * 20 + j) _ (e.trans hv)
  rw [Addr.add_lit] at c
  rw [← Nat.add_assoc] at c
  rw [c, hv]
theorem Coll.snoc {w w' : World} {base : Nat} {ow v' : Value} {qa : List Arr} {a : Arr} {c : Array Value} {xs : List Value} {cs : List (Array Value)} (h1 : RowU w' base 33 20 v' (qa.length + 1) (flat cs ++ c.toList)) (h2 : cs.length = qa.length) (h3 : ∀ t, t < qa.length → QF w' (cs.getD t #[]) (kA (qa.getD t noArr)) (rA (qa.getD t noArr)))
  (hq : QF w' c (kA a) (rA a)) : Coll w' base v' (qa ++ [a]) := by
 refine ⟨cs ++ [c], by rw [flat_snoc]; simpa using h1, by simp [h2], fun t ht => ?_⟩
 simp only [List.length_append, List.length_cons, List.length_nil] at ht
 rcases Nat.lt_or_ge t qa.length with g | g
 ·
  have e1 : (cs ++ [c]).getD t #[] = cs.getD t #[] := by simp [List.getD, List.getElem?_append_left (show t < cs.length by omega)]
  have e2 : (qa ++ [a]).getD t noArr = qa.getD t noArr := by simp [List.getD, List.getElem?_append_left g]
  rw [e1, e2]; exact h3 t g
 ·
  obtain rfl : t = qa.length := by omega
  have e1 : (cs ++ [c]).getD qa.length #[] = c := by simp [List.getD, ← h2]
  have e2 : (qa ++ [a]).getD qa.length noArr = a := by simp [List.getD]
  rw [e1, e2]; exact hq
theorem infoQ2 : ∃ ie z, Tryz.prog.info? 33 = some ie ∧ ie.size = 20 ∧ ie.bytes ≤ 1000 ∧ ie.zero = some z ∧ z.cells.size = 20 ∧ noU32 z.cells = true := by
 obtain ⟨ie, z, h1, h2, h3, h4⟩ := infoQ
 have h5 : ((Tryz.prog.info? 33).map (fun i => decide (i.bytes ≤ 1000))) = some true := by kernel_rfl
 rw [h1] at h5
 simp only [Option.map_some, Option.some.injEq, decide_eq_true_eq] at h5
 exact ⟨ie, z, h1, h2, h5, h3, by rw [h4]; rfl, by rw [h4]; rfl⟩
section
variable {ops : Array Oper} {rest : List Oper} {o : Oper} {a : Act} {w : World} {Q : Exit → Act → World → Prop}
theorem wp_app_quad {K : Act → World → Prop} (s x : Operand) (ho : o.op = .call { callee := .builtin .append, args := #[s, x], argTypes := #[38, 38] })
  (base : Nat) (v : Value) (qa : List Arr) (A : Arr) (c : Array Value) (hs : a.eval s = v) (hown : Coll w base v qa) (g : Nat) (hx : a.eval x = .slice (some ⟨g, 0, none⟩) 1 1) (hb : Blk w g 33 c) (hq : QF w c (kA A) (rA A)) (hn : qa.length ≤ 100000) (hbase : base ≤ w.heap.size)
  (h : ∀ v' w', Coll w' base v' (qa ++ [A]) → w.grownBy w' v.ownBlock → Keeps w w' → K (a.put o.dst v') w') : o.wp Tryz.prog a w K Q := by
 obtain ⟨ie, z, h1, h2, h3, h4, h5, h6⟩ := infoQ2
 obtain ⟨cs, r1, r2, r3⟩ := hown
 have hc20 := hq.1
 have hone := hq.2.1
 have hbytes : ((qa.length + 1) + (qa.length + 1) / 4 + 192) * ie.bytes ≤ 281474976710656 :=
  Nat.le_trans (Nat.mul_le_mul (show (qa.length + 1) + (qa.length + 1) / 4 + 192 ≤ 200000 by omega) h3) (by omega)
 refine wp_append_U w s x 38 ho base 33 ie z 20 ie.bytes Tryz.underlying38 h1 h4 h2 rfl h5 h6 (by omega) v qa.length (flat cs) hs r1 ⟨g, 0, none⟩ 1 1 c.toList hx (by omega) (by simp [hc20]) (fun j u hj => ?_) (fun u hu => ?_) (by simpa using hq.noU) (by unfold maxLen; omega) hbytes hbase (fun v' w' hr hg => ?_)
 ·
  have hcj := hb.cell j
  rw [show (⟨g, 0, none⟩ : Addr).add j = ⟨g, 0 + j, none⟩ from Addr.add_lit .., Nat.zero_add, hcj]
  simpa using hj
 · exact (Array.all_eq_true_iff_forall_mem.1 hone) u (by simpa using hu)
 ·
  have kp := r1.keeps hg
  exact h v' w' (Coll.snoc (w := w) (ow := v) (xs := []) hr r2 (fun t ht => (r3 t ht).keeps kp) (hq.keeps kp)) hg kp
theorem app_quad (hgd : o.guard = none) (s x : Operand) (ho : o.op = .call { callee := .builtin .append, args := #[s, x], argTypes := #[38, 38] })
  (base : Nat) (v : Value) (qa : List Arr) (A : Arr) (c : Array Value) (hs : a.eval s = v) (hown : Coll w base v qa) (g : Nat) (hx : a.eval x = .slice (some ⟨g, 0, none⟩) 1 1) (hb : Blk w g 33 c) (hq : QF w c (kA A) (rA A)) (hn : qa.length ≤ 100000) (hbase : base ≤ w.heap.size)
  (h : ∀ v' w', Coll w' base v' (qa ++ [A]) → w.grownBy w' v.ownBlock → Keeps w w' → wpList Tryz.prog ops Q rest (a.put o.dst v') w') : wpList Tryz.prog ops Q (o :: rest) a w :=
 wpList_plain hgd fun _ hK => wp_app_quad s x ho base v qa A c hs hown g hx hb hq hn hbase fun v' w' h1 h2 h3 => hK _ _ (h v' w' h1 h2 h3)
theorem quad1 (hgd : o.guard = none) (x : Operand) (ho : o.op = .buildSlice 38 1 #[(0, x)]) (C : Array Value) (hx : a.eval x = .agg C) (h : C.size = 20)
  (hk : wpList Tryz.prog ops Q rest (a.put o.dst (.slice (some ⟨w.heap.size, 0, none⟩) 1 1)) (w.alloc (.cells C 33))) : wpList Tryz.prog ops Q (o :: rest) a w :=
 wpList_plain hgd fun _ hK => wp_quad1 x ho C hx h (hK _ _ hk)
end
def allS (l : PL) (most : Int) : Int × List Arr :=
 if chkP l ≠ 0 then (chkP l, []) else if most < 0 ∨ 12 < most then (2, []) else (0, qs l (fours (min most (l.length : Int)).toNat))
theorem qs_pref {l : PL} (n i : Nat) : (qs l ((fours n).take i)).length ≤ (fours n).length := by
 have := qs_len l ((fours n).take i)
 rw [List.length_take] at this
 omega
theorem K4_lt {n m : Nat} {x : P4} (h : good4 n x = true) (hm : n ≤ m) (i : Nat) : K4 x i < m := by
 have := good4_iff h
 unfold K4 at4
 split <;> omega
end Go.Proofs.YtibdehlmflaodaaGreat
