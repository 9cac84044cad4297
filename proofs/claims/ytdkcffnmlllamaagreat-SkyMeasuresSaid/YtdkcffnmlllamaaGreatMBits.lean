import Derived.Test.YtdkcffnmlllamaaGreatProg
import Derived.WalkKit
import Derived.Handy
import Derived.WalkSpells
import Derived.Laws.MathBits
import Derived.Laws.Externs
import Derived.Shelf.Spec.BitsCarry
import Derived.Lib.Hide
import Derived.Deep.QuietTactic
import Derived.BigQuiet
import Derived.Deep.Draws
import Derived.Deep.RegionHeld3
import Derived.Deep.DeepCutAuto
import Derived.Deep.DeepMust
import Derived.Deep.RegionWith
set_option linter.unusedVariables false
set_option linter.unusedSimpArgs false
namespace Go.Proofs.YtdkcffnmlllamaaGreat
open Go.RowKit
theorem retI {k:IntKind} {a b:Int} (h:a=b):Ending.returned (.int k a) = .returned (.int k b):=by rw[h]
def bor (y:Int):Int:=if 0<y then 1 else 0
theorem len_close (x y:Int) (b:Nat) (hy:y.toNat=x.toNat / 2^b) (hp:0<y) (h:y<256) (hb:b≤56) :
  wrap64 ((b:Int)+wrap64 ((bitLen y.toNat:Nat):Int))=((bitLen x.toNat:Nat):Int):=by
 have l:=bitLen_le8 y.toNat (by omega)
 have s:=bitLen_shift x.toNat b (by omega)
 rw[← hy]at s
 rw[s]
 unfold wrap64
 omega
theorem len_close0 (x:Int) (h:x<256):wrap64 (wrap64 ((bitLen x.toNat:Nat):Int))=((bitLen x.toNat:Nat):Int):=by
 have l:=bitLen_le8 x.toNat (by omega)
 unfold wrap64
 omega
def hi64 (t:Int):Int:=t / 18446744073709551616
def lo64 (t:Int):Int:=t%18446744073709551616
def cmpI (a b:Int):Int:=if a=b then 0 else if a<b then -1 else 1
theorem cmpI_neg {a b:Int} : cmpI a b<0↔a<b:=by unfold cmpI; split<;>(try split)<;>omega
theorem cmpI_pos {a b:Int} : 0<cmpI a b↔b<a:=by unfold cmpI; split<;>(try split)<;>omega
theorem cmpI_le {a b:Int} : cmpI a b≤0↔a≤b:=by unfold cmpI; split<;>(try split)<;>omega
def dn (t d:Int):Int:=max (-4611686018427387904) (min (t / d) 4611686018427387904)
def upq (t d:Int):Int:= - dn (-t) d
def md (lo hi:Int):Int×Int×Int:=if lo < -2305843009213693952∨2305843009213693952<hi then(0,0,16)else(lo,hi,0)
def V (lo hi:Int):Prop:=lo≤hi∧-2305843009213693952≤lo∧hi≤2305843009213693952
instance (lo hi:Int):Decidable (V lo hi):=by unfold V; infer_instance
def ifV (p:Prop) [Decidable p] (t:Int×Int×Int):Int×Int×Int:=if p then t else(0,0,8)
def G3 (w:World) (t:Int×Int×Int) (e:Ending) (w':World):Prop:=
 e = .returned (.tuple #[.agg #[.int .i64 t.1,.int .i64 t.2.1],.int .i64 t.2.2])∧Below w.heap.size w w'
theorem blk {W w1:World} (hb:Below W.heap.size W w1) {b:Nat} (h:b<W.heap.size):(∀o,w1.cell? ⟨b,o,none⟩=W.cell? ⟨b,o,none⟩)∧(∀o,w1.frozen? ⟨b,o,none⟩=W.frozen? ⟨b,o,none⟩):=
 ⟨fun o=>hb.cell (p:=⟨b,o,none⟩) h,fun o=>hb.frozen (p:=⟨b,o,none⟩) h⟩
def Steps (W W':World):Prop:=Below W.heap.size W W'
theorem below_steps {n:Nat} {w W W':World} (h:Below n w W) (hn:n≤w.heap.size) (hs:Steps W W'):Below n w W':=h.trans (hs.mono (Nat.le_trans hn h.size))
def Blk (w:World) (g:Nat) (t:TypeId) (cs:Array Value):Prop:=w.heap[g]? = some (.cells cs t (0,0))
section
variable {w w':World} {g:Nat} {t:TypeId} {cs:Array Value}
theorem Blk.lt (h:Blk w g t cs):g<w.heap.size:=by
 rcases Nat.lt_or_ge g w.heap.size with hlt | hge
 · exact hlt
 · unfold Blk at h; rw[Array.getElem?_eq_none hge]at h; cases h
theorem Blk.cell (h:Blk w g t cs) (i:Nat):w.cell? ⟨g,i,none⟩=cs[i]? :=cell_of_row w g i cs t (0,0) h
theorem Blk.c (h:Blk w g t cs) (i:Nat) {v:Value} (hv:cs[i]? = some v):w.cell? ⟨g,i,none⟩=some v:=(h.cell i).trans hv
theorem Blk.fr (h:Blk w g t cs) (i:Nat):w.frozen? ⟨g,i,none⟩=false:=by
 unfold Blk at h
 simp[World.frozen?,h]
theorem Blk.new (w:World) (t:TypeId) (cs:Array Value):Blk (w.alloc (.cells cs t)) w.heap.size t cs:=heap_alloc_new w _
theorem Blk.new1 (w:World) (o:Obj) (t:TypeId) (cs:Array Value):Blk ((w.alloc o).alloc (.cells cs t)) (w.heap.size+1) t cs:=by
 have h:=Blk.new (w.alloc o) t cs
 rwa[World.size_alloc]at h
theorem Blk.drew (h:Blk w g t cs):Blk w.drew g t cs:=h
theorem Blk.drewN (h:Blk w g t cs) (n:Nat):Blk (w.drewN n) g t cs:=h
theorem Blk.alloc (h:Blk w g t cs) (o:Obj):Blk (w.alloc o) g t cs:=(Below.heap_alloc w o g h.lt).trans h
theorem Blk.set_ (h:Blk w g t cs) (i:Nat) (u:Value):Blk (w.setCell ⟨g,i,none⟩ u) g t (cs.setIfInBounds i u):=by
 unfold Blk at h⊢
 simp[World.setCell,Array.getElem?_modify,h]
theorem Blk.far (h:Blk w g t cs) {p:Addr} (hp:g≠p.block) (u:Value):Blk (w.setCell p u) g t cs:=(Below.heap_setCell w p u g hp).trans h
theorem Blk.steps (h:Blk w g t cs) (hs:Steps w w'):Blk w' g t cs:=(hs.block g h.lt).trans h
end
def isqrt (n:Int):Int:=(Nat.sqrt n.toNat:Nat)
theorem belowN {B:Nat} {a w:World} (h:Below B a w) (n:Nat):Below B a (w.drewN n):=⟨h.os,h.tape,h.output,h.size,h.block⟩
section
variable {w w':World} {g:Nat} {t:TypeId} {cs cs':Array Value}
theorem Blk.new' (h:w.heap.size=g):Blk (w.alloc (.cells cs t)) g t cs:=h▸Blk.new w t cs
theorem Blk.set2 {i:Nat} {u:Value} (h:Blk w g t cs) (e:cs.setIfInBounds i u=cs'):Blk (w.setCell ⟨g,i,none⟩ u) g t cs':=e▸h.set_ i u
theorem Blk.both {x y u v:Value} (h:Blk w g t #[x,y]):Blk ((w.setCell ⟨g,0,none⟩ u).setCell ⟨g,1,none⟩ v) g t #[u,v]:=(h.set_ 0 u).set_ 1 v
theorem Blk.far' {b i:Nat} {u:Value} (h:Blk w g t cs) (hne:g≠b):Blk (w.setCell ⟨b,i,none⟩ u) g t cs:=h.far (p:=⟨b,i,none⟩) hne u
theorem Blk.ne_ {g':Nat} {t':TypeId} (h:Blk w g t cs) (h':Blk w g' t' cs') (hne:t≠t'):g≠g':=by
 rintro rfl
 unfold Blk at h h'
 rw[h]at h'
 injection h' with h'
 injection h' with _ ht
 exact hne ht
end
/-- the same three with the usual proofs filled in: merge.py puts them in the place of the long words (a claim's size) -/
theorem ownB {w:World} {g:Nat} {t:TypeId} {cs:Array Value} (h:Blk w g t cs:=by (repeat' first | with_reducible assumption | (with_reducible refine Blk.new' ?_; first | with_reducible rfl | (simp only[World.size_alloc,World.size_setCell,World.size_drew]; done)) | with_reducible refine Blk.alloc ?_ _ | with_reducible refine Blk.drew ?_ | with_reducible refine Blk.drewN ?_ _ | with_reducible apply Blk.both | with_reducible refine Blk.far' ?_ ?_ | (show _≠_; omega))):Blk w g t cs:=h
theorem Blk.stepsA {w w':World} {g:Nat} {t:TypeId} {cs:Array Value} (st:Steps w w') (h:Blk w g t cs:=by (repeat' first | with_reducible assumption | (with_reducible refine Blk.new' ?_; first | with_reducible rfl | (simp only[World.size_alloc,World.size_setCell,World.size_drew]; done)) | with_reducible refine Blk.alloc ?_ _ | with_reducible refine Blk.drew ?_ | with_reducible refine Blk.drewN ?_ _ | with_reducible apply Blk.both | with_reducible refine Blk.far' ?_ ?_ | (show _≠_; omega))):Blk w' g t cs:=h.steps st
theorem belowB {n:Nat} {w w':World} (h:Below n w w':=by (repeat' first | with_reducible assumption | with_reducible exact Below.refl _ _ | with_reducible refine Below.alloc ?_ ?_ _ | with_reducible refine Below.drew ?_ | with_reducible refine belowN ?_ _ | with_reducible refine Below.setCell ?_ ?_ _ | go_size)):Below n w w':=h
theorem belowA {w W W':World} (st:Steps W W') (h:Below w.heap.size w W:=by (repeat' first | with_reducible assumption | with_reducible exact Below.refl _ _ | with_reducible refine Below.alloc ?_ ?_ _ | with_reducible refine Below.drew ?_ | with_reducible refine belowN ?_ _ | with_reducible refine Below.setCell ?_ ?_ _ | go_size)):Below w.heap.size w W':=below_steps h (Nat.le_refl _) st
theorem Blk.q0 {w:World} {g:Nat} {t:TypeId} {a0:Value} {l:List Value} (h:Blk w g t (List.toArray (a0::l))):w.cell? ⟨g,0,none⟩=some a0:=h.c 0 rfl
theorem Blk.q1 {w:World} {g:Nat} {t:TypeId} {a0 a1:Value} {l:List Value} (h:Blk w g t (List.toArray (a0::a1::l))):w.cell? ⟨g,1,none⟩=some a1:=h.c 1 rfl
theorem Blk.q2 {w:World} {g:Nat} {t:TypeId} {a0 a1 a2:Value} {l:List Value} (h:Blk w g t (List.toArray (a0::a1::a2::l))):w.cell? ⟨g,2,none⟩=some a2:=h.c 2 rfl
theorem Blk.q3 {w:World} {g:Nat} {t:TypeId} {a0 a1 a2 a3:Value} {l:List Value} (h:Blk w g t (List.toArray (a0::a1::a2::a3::l))):w.cell? ⟨g,3,none⟩=some a3:=h.c 3 rfl
theorem Blk.q4 {w:World} {g:Nat} {t:TypeId} {a0 a1 a2 a3 a4:Value} {l:List Value} (h:Blk w g t (List.toArray (a0::a1::a2::a3::a4::l))):w.cell? ⟨g,4,none⟩=some a4:=h.c 4 rfl
theorem Blk.q5 {w:World} {g:Nat} {t:TypeId} {a0 a1 a2 a3 a4 a5:Value} {l:List Value} (h:Blk w g t (List.toArray (a0::a1::a2::a3::a4::a5::l))):w.cell? ⟨g,5,none⟩=some a5:=h.c 5 rfl
theorem Blk.q6 {w:World} {g:Nat} {t:TypeId} {a0 a1 a2 a3 a4 a5 a6:Value} {l:List Value} (h:Blk w g t (List.toArray (a0::a1::a2::a3::a4::a5::a6::l))):w.cell? ⟨g,6,none⟩=some a6:=h.c 6 rfl
theorem Blk.q7 {w:World} {g:Nat} {t:TypeId} {a0 a1 a2 a3 a4 a5 a6 a7:Value} {l:List Value} (h:Blk w g t (List.toArray (a0::a1::a2::a3::a4::a5::a6::a7::l))):w.cell? ⟨g,7,none⟩=some a7:=h.c 7 rfl
theorem Blk.q8 {w:World} {g:Nat} {t:TypeId} {a0 a1 a2 a3 a4 a5 a6 a7 a8:Value} {l:List Value} (h:Blk w g t (List.toArray (a0::a1::a2::a3::a4::a5::a6::a7::a8::l))):w.cell? ⟨g,8,none⟩=some a8:=h.c 8 rfl
theorem Blk.stq {w0 w w':World} {g:Nat} {t:TypeId} {cs:Array Value} (_o:Blk w0 g t cs) (st:Steps w w') (h:Blk w g t cs:=by (repeat' first | with_reducible assumption | (with_reducible refine Blk.new' ?_; first | with_reducible rfl | (simp only[World.size_alloc,World.size_setCell,World.size_drew]; done)) | with_reducible refine Blk.alloc ?_ _ | with_reducible refine Blk.drew ?_ | with_reducible refine Blk.drewN ?_ _ | with_reducible apply Blk.both | with_reducible refine Blk.far' ?_ ?_ | (show _≠_; omega))):Blk w' g t cs:=h.steps st
theorem Blk.r1 {w:World} {g:Nat} {t:TypeId} {a0 a1:Value} {l:List Value} (h:Blk w g t (List.toArray (a0::a1::l))):w.cell? ⟨g,0,none⟩=some a0∧w.cell? ⟨g,1,none⟩=some a1:=⟨h.c 0 rfl,h.c 1 rfl⟩
theorem Blk.s1 {w:World} {g:Nat} {t:TypeId} {a0 a1:Value} {l:List Value} (h:Blk w g t (List.toArray (a0::a1::l))):w.cell? ⟨g,0,none⟩=some a0∧w.cell? ⟨g,1,none⟩=some a1∧(∀i,w.frozen? ⟨g,i,none⟩=false)∧g<w.heap.size:=⟨h.c 0 rfl,h.c 1 rfl,h.fr,h.lt⟩
theorem Blk.r2 {w:World} {g:Nat} {t:TypeId} {a0 a1 a2:Value} {l:List Value} (h:Blk w g t (List.toArray (a0::a1::a2::l))):w.cell? ⟨g,0,none⟩=some a0∧w.cell? ⟨g,1,none⟩=some a1∧w.cell? ⟨g,2,none⟩=some a2:=⟨h.c 0 rfl,h.c 1 rfl,h.c 2 rfl⟩
theorem Blk.s2 {w:World} {g:Nat} {t:TypeId} {a0 a1 a2:Value} {l:List Value} (h:Blk w g t (List.toArray (a0::a1::a2::l))):w.cell? ⟨g,0,none⟩=some a0∧w.cell? ⟨g,1,none⟩=some a1∧w.cell? ⟨g,2,none⟩=some a2∧(∀i,w.frozen? ⟨g,i,none⟩=false)∧g<w.heap.size:=⟨h.c 0 rfl,h.c 1 rfl,h.c 2 rfl,h.fr,h.lt⟩
theorem Blk.r3 {w:World} {g:Nat} {t:TypeId} {a0 a1 a2 a3:Value} {l:List Value} (h:Blk w g t (List.toArray (a0::a1::a2::a3::l))):w.cell? ⟨g,0,none⟩=some a0∧w.cell? ⟨g,1,none⟩=some a1∧w.cell? ⟨g,2,none⟩=some a2∧w.cell? ⟨g,3,none⟩=some a3:=⟨h.c 0 rfl,h.c 1 rfl,h.c 2 rfl,h.c 3 rfl⟩
theorem Blk.s3 {w:World} {g:Nat} {t:TypeId} {a0 a1 a2 a3:Value} {l:List Value} (h:Blk w g t (List.toArray (a0::a1::a2::a3::l))):w.cell? ⟨g,0,none⟩=some a0∧w.cell? ⟨g,1,none⟩=some a1∧w.cell? ⟨g,2,none⟩=some a2∧w.cell? ⟨g,3,none⟩=some a3∧(∀i,w.frozen? ⟨g,i,none⟩=false)∧g<w.heap.size:=⟨h.c 0 rfl,h.c 1 rfl,h.c 2 rfl,h.c 3 rfl,h.fr,h.lt⟩
theorem Blk.r4 {w:World} {g:Nat} {t:TypeId} {a0 a1 a2 a3 a4:Value} {l:List Value} (h:Blk w g t (List.toArray (a0::a1::a2::a3::a4::l))):w.cell? ⟨g,0,none⟩=some a0∧w.cell? ⟨g,1,none⟩=some a1∧w.cell? ⟨g,2,none⟩=some a2∧w.cell? ⟨g,3,none⟩=some a3∧w.cell? ⟨g,4,none⟩=some a4:=⟨h.c 0 rfl,h.c 1 rfl,h.c 2 rfl,h.c 3 rfl,h.c 4 rfl⟩
theorem Blk.s4 {w:World} {g:Nat} {t:TypeId} {a0 a1 a2 a3 a4:Value} {l:List Value} (h:Blk w g t (List.toArray (a0::a1::a2::a3::a4::l))):w.cell? ⟨g,0,none⟩=some a0∧w.cell? ⟨g,1,none⟩=some a1∧w.cell? ⟨g,2,none⟩=some a2∧w.cell? ⟨g,3,none⟩=some a3∧w.cell? ⟨g,4,none⟩=some a4∧(∀i,w.frozen? ⟨g,i,none⟩=false)∧g<w.heap.size:=⟨h.c 0 rfl,h.c 1 rfl,h.c 2 rfl,h.c 3 rfl,h.c 4 rfl,h.fr,h.lt⟩
theorem Blk.r5 {w:World} {g:Nat} {t:TypeId} {a0 a1 a2 a3 a4 a5:Value} {l:List Value} (h:Blk w g t (List.toArray (a0::a1::a2::a3::a4::a5::l))):w.cell? ⟨g,0,none⟩=some a0∧w.cell? ⟨g,1,none⟩=some a1∧w.cell? ⟨g,2,none⟩=some a2∧w.cell? ⟨g,3,none⟩=some a3∧w.cell? ⟨g,4,none⟩=some a4∧w.cell? ⟨g,5,none⟩=some a5:=⟨h.c 0 rfl,h.c 1 rfl,h.c 2 rfl,h.c 3 rfl,h.c 4 rfl,h.c 5 rfl⟩
theorem Blk.s5 {w:World} {g:Nat} {t:TypeId} {a0 a1 a2 a3 a4 a5:Value} {l:List Value} (h:Blk w g t (List.toArray (a0::a1::a2::a3::a4::a5::l))):w.cell? ⟨g,0,none⟩=some a0∧w.cell? ⟨g,1,none⟩=some a1∧w.cell? ⟨g,2,none⟩=some a2∧w.cell? ⟨g,3,none⟩=some a3∧w.cell? ⟨g,4,none⟩=some a4∧w.cell? ⟨g,5,none⟩=some a5∧(∀i,w.frozen? ⟨g,i,none⟩=false)∧g<w.heap.size:=⟨h.c 0 rfl,h.c 1 rfl,h.c 2 rfl,h.c 3 rfl,h.c 4 rfl,h.c 5 rfl,h.fr,h.lt⟩
theorem Blk.r6 {w:World} {g:Nat} {t:TypeId} {a0 a1 a2 a3 a4 a5 a6:Value} {l:List Value} (h:Blk w g t (List.toArray (a0::a1::a2::a3::a4::a5::a6::l))):w.cell? ⟨g,0,none⟩=some a0∧w.cell? ⟨g,1,none⟩=some a1∧w.cell? ⟨g,2,none⟩=some a2∧w.cell? ⟨g,3,none⟩=some a3∧w.cell? ⟨g,4,none⟩=some a4∧w.cell? ⟨g,5,none⟩=some a5∧w.cell? ⟨g,6,none⟩=some a6:=⟨h.c 0 rfl,h.c 1 rfl,h.c 2 rfl,h.c 3 rfl,h.c 4 rfl,h.c 5 rfl,h.c 6 rfl⟩
theorem Blk.s6 {w:World} {g:Nat} {t:TypeId} {a0 a1 a2 a3 a4 a5 a6:Value} {l:List Value} (h:Blk w g t (List.toArray (a0::a1::a2::a3::a4::a5::a6::l))):w.cell? ⟨g,0,none⟩=some a0∧w.cell? ⟨g,1,none⟩=some a1∧w.cell? ⟨g,2,none⟩=some a2∧w.cell? ⟨g,3,none⟩=some a3∧w.cell? ⟨g,4,none⟩=some a4∧w.cell? ⟨g,5,none⟩=some a5∧w.cell? ⟨g,6,none⟩=some a6∧(∀i,w.frozen? ⟨g,i,none⟩=false)∧g<w.heap.size:=⟨h.c 0 rfl,h.c 1 rfl,h.c 2 rfl,h.c 3 rfl,h.c 4 rfl,h.c 5 rfl,h.c 6 rfl,h.fr,h.lt⟩
theorem Blk.r7 {w:World} {g:Nat} {t:TypeId} {a0 a1 a2 a3 a4 a5 a6 a7:Value} {l:List Value} (h:Blk w g t (List.toArray (a0::a1::a2::a3::a4::a5::a6::a7::l))):w.cell? ⟨g,0,none⟩=some a0∧w.cell? ⟨g,1,none⟩=some a1∧w.cell? ⟨g,2,none⟩=some a2∧w.cell? ⟨g,3,none⟩=some a3∧w.cell? ⟨g,4,none⟩=some a4∧w.cell? ⟨g,5,none⟩=some a5∧w.cell? ⟨g,6,none⟩=some a6∧w.cell? ⟨g,7,none⟩=some a7:=⟨h.c 0 rfl,h.c 1 rfl,h.c 2 rfl,h.c 3 rfl,h.c 4 rfl,h.c 5 rfl,h.c 6 rfl,h.c 7 rfl⟩
theorem Blk.s7 {w:World} {g:Nat} {t:TypeId} {a0 a1 a2 a3 a4 a5 a6 a7:Value} {l:List Value} (h:Blk w g t (List.toArray (a0::a1::a2::a3::a4::a5::a6::a7::l))):w.cell? ⟨g,0,none⟩=some a0∧w.cell? ⟨g,1,none⟩=some a1∧w.cell? ⟨g,2,none⟩=some a2∧w.cell? ⟨g,3,none⟩=some a3∧w.cell? ⟨g,4,none⟩=some a4∧w.cell? ⟨g,5,none⟩=some a5∧w.cell? ⟨g,6,none⟩=some a6∧w.cell? ⟨g,7,none⟩=some a7∧(∀i,w.frozen? ⟨g,i,none⟩=false)∧g<w.heap.size:=⟨h.c 0 rfl,h.c 1 rfl,h.c 2 rfl,h.c 3 rfl,h.c 4 rfl,h.c 5 rfl,h.c 6 rfl,h.c 7 rfl,h.fr,h.lt⟩
theorem Blk.s8 {w:World} {g:Nat} {t:TypeId} {a0 a1 a2 a3 a4 a5 a6 a7 a8:Value} {l:List Value} (h:Blk w g t (List.toArray (a0::a1::a2::a3::a4::a5::a6::a7::a8::l))):w.cell? ⟨g,0,none⟩=some a0∧w.cell? ⟨g,1,none⟩=some a1∧w.cell? ⟨g,2,none⟩=some a2∧w.cell? ⟨g,3,none⟩=some a3∧w.cell? ⟨g,4,none⟩=some a4∧w.cell? ⟨g,5,none⟩=some a5∧w.cell? ⟨g,6,none⟩=some a6∧w.cell? ⟨g,7,none⟩=some a7∧w.cell? ⟨g,8,none⟩=some a8∧(∀i,w.frozen? ⟨g,i,none⟩=false)∧g<w.heap.size:=⟨h.c 0 rfl,h.c 1 rfl,h.c 2 rfl,h.c 3 rfl,h.c 4 rfl,h.c 5 rfl,h.c 6 rfl,h.c 7 rfl,h.c 8 rfl,h.fr,h.lt⟩
theorem Blk.s12 {w:World} {g:Nat} {t:TypeId} {a0 a1 a2 a3 a4 a5 a6 a7 a8 a9 a10 a11 a12:Value} {l:List Value} (h:Blk w g t (List.toArray (a0::a1::a2::a3::a4::a5::a6::a7::a8::a9::a10::a11::a12::l))):w.cell? ⟨g,0,none⟩=some a0∧w.cell? ⟨g,1,none⟩=some a1∧w.cell? ⟨g,2,none⟩=some a2∧w.cell? ⟨g,3,none⟩=some a3∧w.cell? ⟨g,4,none⟩=some a4∧w.cell? ⟨g,5,none⟩=some a5∧w.cell? ⟨g,6,none⟩=some a6∧w.cell? ⟨g,7,none⟩=some a7∧w.cell? ⟨g,8,none⟩=some a8∧w.cell? ⟨g,9,none⟩=some a9∧w.cell? ⟨g,10,none⟩=some a10∧w.cell? ⟨g,11,none⟩=some a11∧w.cell? ⟨g,12,none⟩=some a12∧(∀i,w.frozen? ⟨g,i,none⟩=false)∧g<w.heap.size:=⟨h.c 0 rfl,h.c 1 rfl,h.c 2 rfl,h.c 3 rfl,h.c 4 rfl,h.c 5 rfl,h.c 6 rfl,h.c 7 rfl,h.c 8 rfl,h.c 9 rfl,h.c 10 rfl,h.c 11 rfl,h.c 12 rfl,h.fr,h.lt⟩
theorem Blk.s13 {w:World} {g:Nat} {t:TypeId} {a0 a1 a2 a3 a4 a5 a6 a7 a8 a9 a10 a11 a12 a13:Value} {l:List Value} (h:Blk w g t (List.toArray (a0::a1::a2::a3::a4::a5::a6::a7::a8::a9::a10::a11::a12::a13::l))):w.cell? ⟨g,0,none⟩=some a0∧w.cell? ⟨g,1,none⟩=some a1∧w.cell? ⟨g,2,none⟩=some a2∧w.cell? ⟨g,3,none⟩=some a3∧w.cell? ⟨g,4,none⟩=some a4∧w.cell? ⟨g,5,none⟩=some a5∧w.cell? ⟨g,6,none⟩=some a6∧w.cell? ⟨g,7,none⟩=some a7∧w.cell? ⟨g,8,none⟩=some a8∧w.cell? ⟨g,9,none⟩=some a9∧w.cell? ⟨g,10,none⟩=some a10∧w.cell? ⟨g,11,none⟩=some a11∧w.cell? ⟨g,12,none⟩=some a12∧w.cell? ⟨g,13,none⟩=some a13∧(∀i,w.frozen? ⟨g,i,none⟩=false)∧g<w.heap.size:=⟨h.c 0 rfl,h.c 1 rfl,h.c 2 rfl,h.c 3 rfl,h.c 4 rfl,h.c 5 rfl,h.c 6 rfl,h.c 7 rfl,h.c 8 rfl,h.c 9 rfl,h.c 10 rfl,h.c 11 rfl,h.c 12 rfl,h.c 13 rfl,h.fr,h.lt⟩
theorem bA (w:World) {W W':World} (st:Steps W W') (h:Below w.heap.size w W:=by (repeat' first | with_reducible assumption | with_reducible exact Below.refl _ _ | with_reducible refine Below.alloc ?_ ?_ _ | with_reducible refine Below.drew ?_ | with_reducible refine belowN ?_ _ | with_reducible refine Below.setCell ?_ ?_ _ | go_size)):Below w.heap.size w W':=below_steps h (Nat.le_refl _) st
theorem bS {a W W2:World} (h:Below a.heap.size a W) (hs:Steps W W2):Below a.heap.size a W2:=below_steps h (Nat.le_refl _) hs
end Go.Proofs.YtdkcffnmlllamaaGreat
