import Derived.Test.YtibdehlmflaodaaGreatNTz
import Derived.Deep.DeepAppendWide
/- Rows of the call's own whose cells are no limbs: what is appended, and what stays. -/
set_option linter.unusedVariables false
set_option linter.unusedSimpArgs false
namespace Go.Proofs.YtibdehlmflaodaaGreat
open Go.RowKit
structure RowU (w : World) (base : Nat) (e : TypeId) (size : Nat) (v : Value) (n : Nat) (xs : List Value) : Prop where
 own : w.ownsRow base e size v n xs
 noU : ∀ g cur, v.ownBlock = some g → w.heap[g]? = some (.cells cur e (0, 0)) → noU32 cur = true
theorem RowU.nil (w : World) (base : Nat) (e : TypeId) (size : Nat) : RowU w base e size (.slice none 0 0) 0 [] := ⟨World.ownsRow_nil w base e size, fun _ _ h => by cases h⟩
theorem noU32_arr {a b : Array Value} : noU32 (a ++ b) = (noU32 a && noU32 b) := by unfold noU32; simp
theorem noU32_mem {l : List Value} : noU32 l.toArray = true ↔ ∀ u ∈ l, plainV u = true := by unfold noU32; simp [List.all_eq_true]; rfl
theorem noU32_zero {z : Array Value} (h : noU32 z = true) (n : Nat) : noU32 (Builtin.zeroCells z n) = true := by
 have h' : ∀ u ∈ z.toList, plainV u = true := noU32_mem.1 (by simpa using h)
 unfold noU32
 rw [List.all_eq_true]
 intro v hv
 unfold Builtin.zeroCells at hv
 rw [Array.toList_map, List.mem_map] at hv
 obtain ⟨i, hi, rfl⟩ := hv
 have hi' : i < n * z.size := by simpa using hi
 have hz : 0 < z.size := by rcases Nat.eq_zero_or_pos z.size with h0 | h0; (rw [h0] at hi'; omega); exact h0
 have hm : i % z.size < z.size := Nat.mod_lt _ hz
 rw [getElem!_pos z _ hm]
 exact h' _ (by simp)
theorem take_sub {l : List Value} {n : Nat} (h : ∀ u ∈ l, plainV u = true) : ∀ u ∈ l.take n, plainV u = true := fun u hu => h u (List.mem_of_mem_take hu)
theorem drop_sub {l : List Value} {n : Nat} (h : ∀ u ∈ l, plainV u = true) : ∀ u ∈ l.drop n, plainV u = true := fun u hu => h u (List.mem_of_mem_drop hu)
section
variable {P : Program} (w : World)
theorem run_append_U (base : Nat) (t ty e : TypeId) (i : TypeInfo) (z : Value) (size bytes : Nat) (ht : P.underlying t = some (.slice e)) (hi : P.info? e = some i) (hz : i.zero = some z)
  (hsize : i.size = size) (hby : i.bytes = bytes) (hzs : z.cells.size = size) (hzu : noU32 z.cells = true) (hsz : 0 < size)
  (v : Value) (n : Nat) (xs : List Value) (hown : RowU w base e size v n xs)
  (a : Addr) (m c : Nat) (news : List Value) (hm : 0 < m) (hl : news.length = m * size) (hnews : ∀ j u, news[j]? = some u → w.cell? (a.add j) = some u) (h1 : ∀ u ∈ news, u.oneCell' = true) (hnu : noU32 news.toArray = true)
  (h63 : n + m ≤ maxLen) (hbytes : ((n + m) + (n + m) / 4 + 192) * bytes ≤ 281474976710656) (hbase : base ≤ w.heap.size) :
  ∃ v' w', (Builtin.append_ #[t, t] ty #[v, .slice (some a) m c]).run P w = .ok v' w' ∧ RowU w' base e size v' (n + m) (xs ++ news) ∧ w.grownBy w' v.ownBlock := by
 obtain ⟨v', w', hr, h2, h3, -⟩ := run_append_own_wide (P := P) w base t ty e i z size bytes ht hi hz hsize hby hzs hsz v n xs hown.own a m c news hl hnews h1 h63 hbytes hbase
 refine ⟨v', w', hr, ⟨h2, ?_⟩, h3⟩
 subst hsize
 subst hby
 intro g' cur' hv' hc'
 have hnu' := noU32_mem.1 hnu
 have h63' : n + m ≤ 9223372036854775807 := by simp only [maxLen] at h63; omega
 rcases hown.own.2 with ⟨rfl, rfl⟩ | ⟨g, cap, cur, rfl, hbg, hg, hnc, hcm, hcs, htake⟩
 ·
  rw [run_append_nil (P := P) w t ty e i z ht hi hz a m c news hl hnews hm (by omega) (by simp only [Nat.zero_add] at hbytes; exact Nat.le_trans (Nat.mul_le_mul_right _ (by omega)) hbytes)] at hr
  injection hr with e1 e2
  subst e1 e2
  injection hv' with hv'
  have hv2 : w.heap.size = g' := hv'
  subst hv2
  have hx := heap_alloc_new w.drew (.cells (news.toArray ++ Builtin.zeroCells z.cells (grownCap w m 0 e - m)) e)
  rw [show w.drew.heap.size = w.heap.size from rfl] at hx
  rw [hx] at hc'
  injection hc' with hc'
  injection hc' with hc'
  rw [← hc', noU32_arr, hnu, noU32_zero hzu]; rfl
 ·
  have hcu := hown.noU g cur rfl hg
  have hcu' : ∀ u ∈ cur.toList, plainV u = true := noU32_mem.1 (by simpa using hcu)
  by_cases hroom : n + m ≤ cap
  ·
   have hfit : n * i.size + news.length ≤ cur.size := by rw [hl, hcs, ← Nat.add_mul]; exact Nat.mul_le_mul_right _ hroom
   rw [run_append_room (P := P) w t ty e i ht hi g n cap cur hg a m c news hl hnews h1 hroom hfit] at hr
   injection hr with e1 e2
   subst e1 e2
   injection hv' with hv'
   have hv2 : g = g' := hv'
   subst hv2
   rw [setRow_heap w g cur _ e _ hg] at hc'
   injection hc' with hc'
   injection hc' with hc'
   rw [← hc', noU32_mem]
   intro u hu
   simp only [List.mem_append] at hu
   rcases hu with (hu | hu) | hu
   · exact take_sub hcu' u hu
   · exact hnu' u hu
   · exact drop_sub hcu' u hu
  ·
   have holds : ∀ j u, xs[j]? = some u → w.cell? ((⟨g, 0, none⟩ : Addr).add j) = some u := hown.own.cells (g := g) rfl
   rw [run_append_grow (P := P) w t ty e i z ht hi hz ⟨g, 0, none⟩ n cap xs hown.own.1 holds a m c news hl hnews (by omega) (by omega) (growslice_fits_wide (by omega) hbytes)] at hr
   injection hr with e1 e2
   subst e1 e2
   injection hv' with hv'
   have hv2 : w.heap.size = g' := hv'
   subst hv2
   have hx := heap_alloc_new w.drew (.cells (xs.toArray ++ news.toArray ++ Builtin.zeroCells z.cells (grownCap w (n + m) cap e - (n + m))) e)
   rw [show w.drew.heap.size = w.heap.size from rfl] at hx
   rw [hx] at hc'
   injection hc' with hc'
   injection hc' with hc'
   have hxs : noU32 xs.toArray = true := by rw [← htake, noU32_mem]; exact take_sub hcu'
   rw [← hc', noU32_arr, noU32_arr, hxs, hnu, noU32_zero hzu]; rfl
theorem wp_append_U {o : Oper} {a : Act} {K : Act → World → Prop} {Q : Exit → Act → World → Prop} (s x : Operand) (t : TypeId)
  (ho : o.op = .call { callee := .builtin .append, args := #[s, x], argTypes := #[t, t] })
  (base : Nat) (e : TypeId) (i : TypeInfo) (z : Value) (size bytes : Nat) (ht : P.underlying t = some (.slice e)) (hi : P.info? e = some i) (hz : i.zero = some z)
  (hsize : i.size = size) (hby : i.bytes = bytes) (hzs : z.cells.size = size) (hzu : noU32 z.cells = true) (hsz : 0 < size)
  (v : Value) (n : Nat) (xs : List Value) (hs : a.eval s = v) (hown : RowU w base e size v n xs)
  (ad : Addr) (m c : Nat) (news : List Value) (hx : a.eval x = .slice (some ad) m c) (hm : 0 < m) (hl : news.length = m * size) (hnews : ∀ j u, news[j]? = some u → w.cell? (ad.add j) = some u) (h1 : ∀ u ∈ news, u.oneCell' = true) (hnu : noU32 news.toArray = true)
  (h63 : n + m ≤ maxLen) (hbytes : ((n + m) + (n + m) / 4 + 192) * bytes ≤ 281474976710656) (hbase : base ≤ w.heap.size)
  (h : ∀ v' w', RowU w' base e size v' (n + m) (xs ++ news) → w.grownBy w' v.ownBlock → K (a.put o.dst v') w') : o.wp P a w K Q := by
 obtain ⟨v', w', hr, h2, h3⟩ := run_append_U (P := P) w base t o.type e i z size bytes ht hi hz hsize hby hzs hzu hsz v n xs hown ad m c news hm hl hnews h1 hnu h63 hbytes hbase
 unfold Oper.wp execOp
 simp only [ho, resolve, invoke, builtin, Sem.run_bind, Sem.run_pure, Result.andThen_ok, List.map_toArray, List.map_cons, List.map_nil, hs, hx, hr]
 exact h v' w' h2 h3
end
theorem RowU.drew {w : World} {base : Nat} {e : TypeId} {size n : Nat} {v : Value} {xs : List Value} (h : RowU w base e size v n xs) : RowU w.drew base e size v n xs := ⟨h.own.drew, h.noU⟩
theorem RowU.keep {w w' : World} {base : Nat} {e : TypeId} {size n : Nat} {v : Value} {xs : List Value} (h : RowU w base e size v n xs) (hk : ∀ g, v.ownBlock = some g → w'.heap[g]? = w.heap[g]?) : RowU w' base e size v n xs := by
 refine ⟨⟨h.own.1, ?_⟩, fun g cur hv hc => h.noU g cur hv ((hk g hv).symm.trans hc)⟩
 rcases h.own.2 with a | ⟨g, cap, cur, rfl, hbg, hg, r⟩
 · exact .inl a
 · exact .inr ⟨g, cap, cur, rfl, hbg, (hk g rfl).trans hg, r⟩
theorem RowU.lt {w : World} {base : Nat} {e : TypeId} {size n : Nat} {v : Value} {xs : List Value} (h : RowU w base e size v n xs) : ∀ g, v.ownBlock = some g → base ≤ g ∧ g < w.heap.size := by
 intro g hg
 rcases h.own.2 with ⟨rfl, _⟩ | ⟨g', cap, cur, rfl, hbg, hh, _⟩
 · cases hg
 · cases hg; exact ⟨hbg, Blk.lt (w := w) (t := e) (cs := cur) hh⟩
theorem RowU.steps {w w' : World} {base : Nat} {e : TypeId} {size n : Nat} {v : Value} {xs : List Value} (h : RowU w base e size v n xs) (hs : Steps w w') : RowU w' base e size v n xs := h.keep fun g hg => hs.block g (h.lt g hg).2
theorem RowU.alloc {w : World} {base : Nat} {e : TypeId} {size n : Nat} {v : Value} {xs : List Value} (h : RowU w base e size v n xs) (o : Obj) : RowU (w.alloc o) base e size v n xs := h.steps ((Below.refl _ _).alloc (Nat.le_refl _) o)
theorem RowU.keeps {w w' : World} {base : Nat} {e : TypeId} {size n : Nat} {v : Value} {xs : List Value} (h : RowU w base e size v n xs) (hg : w.grownBy w' v.ownBlock) : Keeps w w' := by
 intro x l hl
 obtain ⟨h0, ao, cap, rfl, h1, h3, h2⟩ := hl
 refine ⟨h0, ao, cap, rfl, h1, h3, fun hn => ?_⟩
 obtain ⟨b, o, rfl, hb, hc⟩ := h2 hn
 have hne : v.ownBlock ≠ some b := by
  intro e1
  rcases h.own.2 with ⟨rfl, _⟩ | ⟨g, cap', cur, rfl, hbg, hh, _⟩
  · cases e1
  ·
   injection e1 with e1
   have e2 : g = b := e1
   subst e2
   have hp : 0 < l.length := List.length_pos_iff.2 hn
   have hc0 := hc 0 hp
   rw [Blk.cell (w := w) (t := e) (cs := cur) hh] at hc0
   exact noU32_get (h.noU g cur rfl hh) hc0
 refine ⟨b, o, rfl, Nat.lt_of_lt_of_le hb hg.size, fun t ht => ?_⟩
 have hcell := hc t ht
 unfold World.cell? at hcell ⊢
 rw [hg.block b hb (Ne.symm hne)]; exact hcell
end Go.Proofs.YtibdehlmflaodaaGreat
