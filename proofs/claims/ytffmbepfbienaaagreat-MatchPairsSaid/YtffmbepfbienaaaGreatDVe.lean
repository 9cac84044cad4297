import Derived.Test.YtffmbepfbienaaaGreatDVc
import Derived.Test.YtffmbepfbienaaaGreatDRowU
set_option linter.unusedVariables false
set_option linter.unusedSimpArgs false
namespace Go.Proofs.YtffmbepfbienaaaGreat
open Go.RowKit
def IntsR (w : World) (v : Value) (l : List Int) : Prop := ∃ ao cap, v = .slice ao l.length cap ∧ l.length ≤ cap ∧ (l ≠ [] → ∃ b o, ao = some ⟨b, o, none⟩ ∧ b < w.heap.size ∧ ∀ t, t < l.length → w.cell? ⟨b, o + t, none⟩ = some (.int .i64 (l.getD t 0)))
theorem IntsR.steps {w w' : World} {v : Value} {l : List Int} (h : IntsR w v l) (s : Steps w w') : IntsR w' v l := by
 obtain ⟨ao, cap, e, hc, h2⟩ := h
 refine ⟨ao, cap, e, hc, fun hn => ?_⟩
 obtain ⟨b, o, e2, hb, h3⟩ := h2 hn
 exact ⟨b, o, e2, Nat.lt_of_lt_of_le hb s.size, fun t ht => (s.cell (p := ⟨b, _, none⟩) hb).trans (h3 t ht)⟩
theorem IntsR.nil (w : World) : IntsR w (.slice none 0 0) [] := ⟨none, 0, rfl, Nat.le_refl _, fun h => absurd rfl h⟩
theorem IntsR.shape {w : World} {v : Value} {l : List Int} (h : IntsR w v l) : ∃ ao cap, v = .slice ao l.length cap := by obtain ⟨ao, cap, e, _⟩ := h; exact ⟨ao, cap, e⟩
def ints (l : List Int) : List Value := l.map (.int .i64)
theorem ints_snoc (l : List Int) (x : Int) : ints (l ++ [x]) = ints l ++ [.int .i64 x] := by unfold ints; simp
theorem RowU.ints {w : World} {base n : Nat} {e : TypeId} {v : Value} {l : List Int} (h : RowU w base e 1 v n (ints l)) : IntsR w v l := by
 have hn : n = l.length := by have := h.own.1; unfold Go.Proofs.YtffmbepfbienaaaGreat.ints at this; simpa using this.symm
 subst hn
 rcases h.own.2 with ⟨rfl, h0⟩ | ⟨g, cap, cur, rfl, h1, h2, h3, h4, h5, h6⟩
 ·
  have : l = [] := List.eq_nil_of_length_eq_zero h0
  subst this
  exact IntsR.nil w
 ·
  refine ⟨_, cap, rfl, h3, fun _ => ⟨g, 0, rfl, (Array.getElem?_eq_some_iff.1 h2).1, fun t ht => ?_⟩⟩
  have c := h.own.cells (g := g) rfl t (.int .i64 (l.getD t 0)) (by unfold Go.Proofs.YtffmbepfbienaaaGreat.ints; simp [List.getD, ht])
  rw [Addr.add_lit] at c
  exact c
section
variable {ops : Array Oper} {rest : List Oper} {o : Oper} {a : Act} {w : World} {Q : Exit → Act → World → Prop}
theorem infoI : ∃ ie z, Tryz.prog.info? 3 = some ie ∧ ie.size = 1 ∧ ie.bytes = 8 ∧ ie.zero = some z ∧ z.cells = #[.int .i64 0] := by
 obtain ⟨ie, hie⟩ : ∃ ie, Tryz.prog.info? 3 = some ie := Option.isSome_iff_exists.1 (by kernel_rfl)
 have h1 : (Tryz.prog.info? 3).map (·.size) = some 1 := by kernel_rfl
 have h2 : ((Tryz.prog.info? 3).bind (·.zero)).map (·.cells) = some #[.int .i64 0] := by kernel_rfl
 have h3 : (Tryz.prog.info? 3).map (·.bytes) = some 8 := by kernel_rfl
 rw [hie] at h1 h2 h3
 simp only [Option.map_some, Option.some.injEq, Option.bind_some] at h1 h2 h3
 obtain ⟨z, hz, e⟩ := Option.map_eq_some_iff.1 h2
 exact ⟨ie, z, hie, h1, h3, hz, e⟩
theorem app_int (hgd : o.guard = none) (s x : Operand) (ho : o.op = .call { callee := .builtin .append, args := #[s, x], argTypes := #[46, 46] })
  (base n : Nat) (v : Value) (l : List Int) (hs : a.eval s = v) (hown : RowU w base 3 1 v n (ints l)) (g : Nat) (y : Int) (hx : a.eval x = .slice (some ⟨g, 0, none⟩) 1 1) (hb : Blk w g 3 #[.int .i64 y]) (hn : n ≤ 100000) (hbase : base ≤ w.heap.size)
  (h : ∀ v' w', RowU w' base 3 1 v' (n + 1) (ints (l ++ [y])) → w.grownBy w' v.ownBlock → wpList Tryz.prog ops Q rest (a.put o.dst v') w') : wpList Tryz.prog ops Q (o :: rest) a w := by
 obtain ⟨ie, z, h1, h2, h3, h4, h5⟩ := infoI
 refine wpList_plain hgd fun K hK => ?_
 refine wp_append_U w s x 46 ho base 3 ie z 1 8 Tryz.underlying46 h1 h4 h2 h3 (by rw [h5]; rfl) (by rw [h5]; rfl) (by omega) v n (ints l) hs hown ⟨g, 0, none⟩ 1 1 [.int .i64 y] hx (by omega) rfl (fun j u hj => ?_) (fun u hu => ?_) rfl (by unfold maxLen; omega) (by omega) hbase (fun v' w' hr hg => hK _ _ (h v' w' ?_ hg))
 ·
  have hc := hb.cell j
  rw [show (⟨g, 0, none⟩ : Addr).add j = ⟨g, 0 + j, none⟩ from Addr.add_lit .., Nat.zero_add, hc]
  simpa using hj
 ·
  simp only [List.mem_cons, List.not_mem_nil, or_false] at hu
  rw [hu]; rfl
 · rw [ints_snoc]; exact hr
end
def findS (n : Nat) (R : Nat → Nat → Option Rat) (q : Nat → Option Rat) (o : Option Rat) : List Int × Int :=
 if 500 < n then ([], 4) else if wholeL R n && wholeQ q 4 then (if limB o then (found R q (rq (fun _ => o) 0) n, 0) else ([], 2)) else ([], 8)
theorem RowU.len {w : World} {base : Nat} {e : TypeId} {size n : Nat} {v : Value} {xs : List Value} (h : RowU w base e size v n xs) : ∃ a c, v = .slice a n c := by
 rcases h.own.2 with ⟨rfl, rfl⟩ | ⟨g, cap, cur, rfl, _⟩
 · exact ⟨_, _, rfl⟩
 · exact ⟨_, _, rfl⟩
theorem RowU.below {w w' w0 : World} {base n size : Nat} {e : TypeId} {v : Value} {xs : List Value} (h : RowU w base e size v n xs) (hg : w.grownBy w' v.ownBlock) (hb : Below w0.heap.size w0 w) (hle : w0.heap.size ≤ base) : Below w0.heap.size w0 w' :=
 hb.grown hg hb.size fun k hk => Nat.le_trans hle (h.lt k hk).1
theorem RowU.blk {w w' : World} {base n b size : Nat} {e t : TypeId} {v : Value} {xs : List Value} {cs : Array Value} (h : RowU w base e size v n xs) (hg : w.grownBy w' v.ownBlock) (hb : Blk w b t cs) (hlt : b < base) : Blk w' b t cs :=
 (hg.block b hb.lt fun e1 => by have := (h.lt b e1.symm).1; omega).trans hb
end Go.Proofs.YtffmbepfbienaaaGreat
