import Derived.Test.YtffmbepfbienaaaGreatProg
import Derived.Handy
import Derived.WalkSpells
import Derived.Shelf.Spec.BitsCarry
import Derived.Lib.Hide
import Derived.BigQuiet
import Derived.Deep.RegionHeld3
import Derived.Deep.DeepCutAuto
import Derived.Laws.AppendOwnNone
set_option linter.unusedVariables false
set_option linter.unusedSimpArgs false
open Go.Value renaming slice->Ex,bool->Ez,int->Ey
open Go.IntKind renaming i64->Ew
open Go renaming World->Ef,Value->Ei,TypeId->Em,undef->En
open Nat renaming le_refl->Ep,lt_or_ge->Er
open Go.World renaming size_alloc->Et
namespace Go.Proofs.YtffmbepfbienaaaGreat
open Go.RowKit
theorem D6 {p:Prop} (h:p:=by omega):p:=h
theorem D7 {p:Prop} (h:p:=by kernel_rfl):p:=h
theorem D8 {p:Prop} (h:p:=by decide):p:=h
theorem D9 {p:Prop} (h:p:=by simp):p:=h
theorem E6 {p:Prop} (h:p:=by rw[World.size_alloc]; omega):p:=h
theorem E7 {p:Prop} (h:p):Hid p:=h
theorem E8 {a b:Prop} (h:a) (k:b):a/\b:=⟨h,k⟩
theorem E9 {c:Prop} {h:Decidable c} (k:c) {α:Sort _} {t e:α}:ite c t e=t:=if_pos k
theorem E_ {c:Prop} {h:Decidable c} (k:¬c) {α:Sort _} {t e:α}:ite c t e=e:=if_neg k
theorem E' {p:Prop} [Decidable p] (h:p):decide p=true:=decide_eq_true h
theorem Ea {p:Prop} [Decidable p] (h:¬p):decide p=false:=decide_eq_false h
theorem Ec {n m:Nat} (h:Nat.ble n m=true):n<=m:=Nat.le_of_ble_eq_true h
abbrev Zz:Array Ei:=#[Ey Ew 0,Ey Ew 0,Ey Ew 0,Ey Ew 0,Ez false,Ex none 0 0,Ez false,Ex none 0 0,Ez false,Ex none 0 0,Ez false,Ex none 0 0,Ez false,Ex none 0 0,Ez false,Ex none 0 0,Ez false,Ex none 0 0,Ez false,Ex none 0 0]
abbrev W_:Array Ei:=#[Ez false,Ex none 0 0,Ez false,Ex none 0 0,Ez false,Ex none 0 0,Ez false,Ex none 0 0,Ez false,Ex none 0 0,Ez false,Ex none 0 0,Ez false,Ex none 0 0,Ez false,Ex none 0 0]
abbrev jN:Array Ei:=#[Ez false,Ex none 0 0,Ez false,Ex none 0 0]
abbrev Up:Array Ei:=#[Ey Ew 0,Ey Ew 0,Ey Ew 0,Ey Ew 0,Ey Ew 0,Ey Ew 0,Ey Ew 0,Ey Ew 0,Ey Ew 0]
abbrev Dx:Array Ei:=#[Ez false,Ex none 0 0,Ez false,Ex none 0 0,Ey Ew 0,Ey Ew 0,Ez false,Ex none 0 0,Ez false,Ex none 0 0,Ez false,Ex none 0 0,Ez false,Ex none 0 0]
variable {a b:Int} {l:List Ei} {i n:Nat} {a0 a1 bg bh bi dl g8 gz gK gN gQ gX a2 a3 a4 a5 a6 a7 a8 a9 u:Ei} {W W':Ef}
theorem yE {k:IntKind} (h:a=b):Ending.returned (Ey k a) = .returned (Ey k b):=by rw[h]
def DV (y:Int):Int:=if 0<y then 1 else 0
theorem Zi (x y:Int) (b:Nat) (E:y.toNat=x.toNat / 2^b) (H:0<y) (h:y<256) (I:b<=56) :
  wrap64 ((b:Int)+wrap64 ((bitLen y.toNat:Nat):Int))=((bitLen x.toNat:Nat):Int):=by
 have l:=bitLen_le8 y.toNat D6;have s:=bitLen_shift x.toNat b D6;rw[<- E]at s;rw[s];unfold wrap64;omega
theorem Jr (x:Int) (h:x<256):wrap64 (wrap64 ((bitLen x.toNat:Nat):Int))=((bitLen x.toNat:Nat):Int):=by
 have l:=bitLen_le8 x.toNat D6;unfold wrap64;omega
def Dy (t:Int):Int:=t / 18446744073709551616
def Dz (t:Int):Int:=t%18446744073709551616
def zM (a b:Int):Int:=if a=b then 0 else if a<b then -1 else 1
theorem Uq : zM a b<0↔a<b:=by unfold zM; split<;>(try split)<;>omega
theorem Ur : 0<zM a b↔b<a:=by unfold zM; split<;>(try split)<;>omega
def dn (t d:Int):Int:=max (-4611686018427387904) (min (t / d) 4611686018427387904)
def DW (t d:Int):Int:= - dn (-t) d
def md (H E:Int):Int×Int×Int:=if H < -2305843009213693952\/2305843009213693952<E then(0,0,16)else(H,E,0)
def V (H E:Int):Prop:=H<=E/\-2305843009213693952<=H/\E<=2305843009213693952
instance (lo E:Int):Decidable (V lo E):=by unfold V; infer_instance
def DX (p:Prop) [Decidable p] (t:Int×Int×Int):Int×Int×Int:=if p then t else(0,0,8)
def G3 (w:Ef) (t:Int×Int×Int) (e:Ending) (w':Ef):Prop:=
 e = .returned (.tuple #[.agg #[Ey Ew t.1,Ey Ew t.2.1],Ey Ew t.2.2])/\Below w.heap.size w w'
theorem bI {E:Ef} (H:Below W.heap.size W E) {b:Nat} (h:b<W.heap.size):(∀o,E.cell? ⟨b,o,none⟩=W.cell? ⟨b,o,none⟩)/\(∀o,E.frozen? ⟨b,o,none⟩=W.frozen? ⟨b,o,none⟩):=
 ⟨fun o=>H.cell (p:=⟨b,o,none⟩) h,fun o=>H.frozen (p:=⟨b,o,none⟩) h⟩
def zf (W W':Ef):Prop:=Below W.heap.size W W'
theorem zA {w:Ef} (h:Below n w W) (E:n<=w.heap.size) (H:zf W W'):Below n w W':=h.trans (H.mono (Nat.le_trans E h.size))
def ai (w:Ef) (g:Nat) (t:Em) (cs:Array Ei):Prop:=w.heap[g]? = some (.cells cs t (0,0))
section
variable {w w':Ef} {g:Nat} {t:Em} {cs:Array Ei}
theorem ai.lt (h:ai w g t cs):g<w.heap.size:=by
 rcases Er g w.heap.size with E | H
 . exact E
 . unfold ai at h; rw[Array.getElem?_eq_none H]at h; cases h
theorem ai.cell (h:ai w g t cs) (i:Nat):w.cell? ⟨g,i,none⟩=cs[i]? :=cell_of_row w g i cs t (0,0) h
theorem ai.c (h:ai w g t cs) (i:Nat) {v:Ei} (hv:cs[i]? = some v):w.cell? ⟨g,i,none⟩=some v:=(h.cell i).trans hv
theorem ai.fr (h:ai w g t cs) (i:Nat):w.frozen? ⟨g,i,none⟩=false:=by
 unfold ai at h;simp[World.frozen?,h]
theorem ai.new (w:Ef) (t:Em) (cs:Array Ei):ai (w.alloc (.cells cs t)) w.heap.size t cs:=heap_alloc_new w _
theorem ai.eh (w:Ef) (o:Obj) (t:Em) (cs:Array Ei):ai ((w.alloc o).alloc (.cells cs t)) (w.heap.size+1) t cs:=by
 have h:=ai.new (w.alloc o) t cs
 rwa[Et]at h
theorem ai.drew (h:ai w g t cs):ai w.drew g t cs:=h
theorem ai.drewN (h:ai w g t cs) (n:Nat):ai (w.drewN n) g t cs:=h
theorem ai.alloc (h:ai w g t cs) (o:Obj):ai (w.alloc o) g t cs:=(Below.heap_alloc w o g h.lt).trans h
theorem ai.bH (h:ai w g t cs) (i:Nat) (u:Ei):ai (w.setCell ⟨g,i,none⟩ u) g t (cs.setIfInBounds i u):=by
 unfold ai at h|-;simp[World.setCell,Array.getElem?_modify,h]
theorem ai.bc (h:ai w g t cs) {p:Addr} (E:g≠p.block) (u:Ei):ai (w.setCell p u) g t cs:=(Below.heap_setCell w p u g E).trans h
theorem ai.ae (h:ai w g t cs) (E:zf w w'):ai w' g t cs:=(E.block g h.lt).trans h
end
def Dm (n:Int):Int:=(Nat.sqrt n.toNat:Nat)
theorem yS {B:Nat} {a w:Ef} (h:Below B a w) (n:Nat):Below B a (w.drewN n):=⟨h.os,h.tape,h.output,h.size,h.block⟩
section
variable {w w':Ef} {g:Nat} {t:Em} {cs cs':Array Ei}
theorem ai.bK (h:w.heap.size=g):ai (w.alloc (.cells cs t)) g t cs:=h▸ai.new w t cs
theorem ai.aW (h:ai w g t cs) (e:cs.setIfInBounds i u=cs'):ai (w.setCell ⟨g,i,none⟩ u) g t cs':=e▸h.bH i u
theorem ai.both {x y v:Ei} (h:ai w g t #[x,y]):ai ((w.setCell ⟨g,0,none⟩ u).setCell ⟨g,1,none⟩ v) g t #[u,v]:=(h.bH 0 u).bH 1 v
theorem ai.aK {b:Nat} (h:ai w g t cs) (E:g≠b):ai (w.setCell ⟨b,i,none⟩ u) g t cs:=h.bc (p:=⟨b,i,none⟩) E u
end
/-- the same three with the usual proofs filled in: merge.py puts them in the place of the long words (a claim's size) -/
theorem Qa {w:World} {g:Nat} {t:TypeId} {cs:Array Value} (h:ai w g t cs:=by (repeat' first | with_reducible assumption | (with_reducible refine ai.bK ?_; first | with_reducible rfl | (simp only[World.size_alloc,World.size_setCell,World.size_drew]; done)) | with_reducible refine ai.alloc ?_ _ | with_reducible refine ai.drew ?_ | with_reducible refine ai.drewN ?_ _ | with_reducible apply ai.both | with_reducible refine ai.aK ?_ ?_ | (show _≠_; omega))):ai w g t cs:=h
theorem ai.aw {w w':World} {g:Nat} {t:TypeId} {cs:Array Value} (st:zf w w') (h:ai w g t cs:=by (repeat' first | with_reducible assumption | (with_reducible refine ai.bK ?_; first | with_reducible rfl | (simp only[World.size_alloc,World.size_setCell,World.size_drew]; done)) | with_reducible refine ai.alloc ?_ _ | with_reducible refine ai.drew ?_ | with_reducible refine ai.drewN ?_ _ | with_reducible apply ai.both | with_reducible refine ai.aK ?_ ?_ | (show _≠_; omega))):ai w' g t cs:=h.ae st
theorem zh {w w':World} (h:Below n w w':=by (repeat' first | with_reducible assumption | with_reducible exact Below.refl _ _ | with_reducible refine Below.alloc ?_ ?_ _ | with_reducible refine Below.drew ?_ | with_reducible refine yS ?_ _ | with_reducible refine Below.setCell ?_ ?_ _ | go_size)):Below n w w':=h
theorem yI {w:World} (st:zf W W') (h:Below w.heap.size w W:=by (repeat' first | with_reducible assumption | with_reducible exact Below.refl _ _ | with_reducible refine Below.alloc ?_ ?_ _ | with_reducible refine Below.drew ?_ | with_reducible refine yS ?_ _ | with_reducible refine Below.setCell ?_ ?_ _ | go_size)):Below w.heap.size w W':=zA h (Nat.le_refl _) st
theorem ai.q0 {w:Ef} {g:Nat} {t:Em} (h:ai w g t (List.toArray (a0::l))):w.cell? ⟨g,0,none⟩=some a0:=h.c 0 rfl
theorem ai.q1 {w:Ef} {g:Nat} {t:Em} (h:ai w g t (List.toArray (a0::a1::l))):w.cell? ⟨g,1,none⟩=some a1:=h.c 1 rfl
theorem ai.q2 {w:Ef} {g:Nat} {t:Em} (h:ai w g t (List.toArray (a0::a1::a2::l))):w.cell? ⟨g,2,none⟩=some a2:=h.c 2 rfl
theorem ai.q3 {w:Ef} {g:Nat} {t:Em} (h:ai w g t (List.toArray (a0::a1::a2::a3::l))):w.cell? ⟨g,3,none⟩=some a3:=h.c 3 rfl
theorem ai.q4 {w:Ef} {g:Nat} {t:Em} (h:ai w g t (List.toArray (a0::a1::a2::a3::a4::l))):w.cell? ⟨g,4,none⟩=some a4:=h.c 4 rfl
theorem ai.q5 {w:Ef} {g:Nat} {t:Em} (h:ai w g t (List.toArray (a0::a1::a2::a3::a4::a5::l))):w.cell? ⟨g,5,none⟩=some a5:=h.c 5 rfl
theorem ai.q6 {w:Ef} {g:Nat} {t:Em} (h:ai w g t (List.toArray (a0::a1::a2::a3::a4::a5::a6::l))):w.cell? ⟨g,6,none⟩=some a6:=h.c 6 rfl
theorem ai.q7 {w:Ef} {g:Nat} {t:Em} (h:ai w g t (List.toArray (a0::a1::a2::a3::a4::a5::a6::a7::l))):w.cell? ⟨g,7,none⟩=some a7:=h.c 7 rfl
theorem ai.q8 {w:Ef} {g:Nat} {t:Em} (h:ai w g t (List.toArray (a0::a1::a2::a3::a4::a5::a6::a7::a8::l))):w.cell? ⟨g,8,none⟩=some a8:=h.c 8 rfl
theorem ai.q9 {w:Ef} {g:Nat} {t:Em} (h:ai w g t (List.toArray (a0::a1::a2::a3::a4::a5::a6::a7::a8::a9::l))):w.cell? ⟨g,9,none⟩=some a9:=h.c 9 rfl
theorem ai.fJ {w:Ef} {g:Nat} {t:Em} (h:ai w g t (List.toArray (a0::a1::a2::a3::a4::a5::a6::a7::a8::a9::bg::l))):w.cell? ⟨g,10,none⟩=some bg:=h.c 10 rfl
theorem ai.fL {w:Ef} {g:Nat} {t:Em} (h:ai w g t (List.toArray (a0::a1::a2::a3::a4::a5::a6::a7::a8::a9::bg::bh::l))):w.cell? ⟨g,11,none⟩=some bh:=h.c 11 rfl
theorem ai.fR {w:Ef} {g:Nat} {t:Em} (h:ai w g t (List.toArray (a0::a1::a2::a3::a4::a5::a6::a7::a8::a9::bg::bh::bi::l))):w.cell? ⟨g,12,none⟩=some bi:=h.c 12 rfl
theorem ai.fD {w:Ef} {g:Nat} {t:Em} (h:ai w g t (List.toArray (a0::a1::a2::a3::a4::a5::a6::a7::a8::a9::bg::bh::bi::dl::l))):w.cell? ⟨g,13,none⟩=some dl:=h.c 13 rfl
theorem ai.fX {w:Ef} {g:Nat} {t:Em} (h:ai w g t (List.toArray (a0::a1::a2::a3::a4::a5::a6::a7::a8::a9::bg::bh::bi::dl::g8::l))):w.cell? ⟨g,14,none⟩=some g8:=h.c 14 rfl
theorem ai.fW {w:Ef} {g:Nat} {t:Em} (h:ai w g t (List.toArray (a0::a1::a2::a3::a4::a5::a6::a7::a8::a9::bg::bh::bi::dl::g8::gz::l))):w.cell? ⟨g,15,none⟩=some gz:=h.c 15 rfl
theorem ai.fK {w:Ef} {g:Nat} {t:Em} (h:ai w g t (List.toArray (a0::a1::a2::a3::a4::a5::a6::a7::a8::a9::bg::bh::bi::dl::g8::gz::gK::l))):w.cell? ⟨g,16,none⟩=some gK:=h.c 16 rfl
theorem ai.fZ {w:Ef} {g:Nat} {t:Em} (h:ai w g t (List.toArray (a0::a1::a2::a3::a4::a5::a6::a7::a8::a9::bg::bh::bi::dl::g8::gz::gK::gN::l))):w.cell? ⟨g,17,none⟩=some gN:=h.c 17 rfl
theorem ai.fU {w:Ef} {g:Nat} {t:Em} (h:ai w g t (List.toArray (a0::a1::a2::a3::a4::a5::a6::a7::a8::a9::bg::bh::bi::dl::g8::gz::gK::gN::gQ::l))):w.cell? ⟨g,18,none⟩=some gQ:=h.c 18 rfl
theorem ai.gh {w:Ef} {g:Nat} {t:Em} (h:ai w g t (List.toArray (a0::a1::a2::a3::a4::a5::a6::a7::a8::a9::bg::bh::bi::dl::g8::gz::gK::gN::gQ::gX::l))):w.cell? ⟨g,19,none⟩=some gX:=h.c 19 rfl
theorem ai.fT {w:Ef} {g:Nat} {t:Em} {E:Ei} (h:ai w g t (List.toArray (a0::a1::a2::a3::a4::a5::a6::a7::a8::a9::bg::bh::bi::dl::g8::gz::gK::gN::gQ::gX::E::l))):w.cell? ⟨g,20,none⟩=some E:=h.c 20 rfl
theorem ai.aM {E w w':World} {g:Nat} {t:TypeId} {cs:Array Value} (H:ai E g t cs) (st:zf w w') (h:ai w g t cs:=by (repeat' first | with_reducible assumption | (with_reducible refine ai.bK ?_; first | with_reducible rfl | (simp only[World.size_alloc,World.size_setCell,World.size_drew]; done)) | with_reducible refine ai.alloc ?_ _ | with_reducible refine ai.drew ?_ | with_reducible refine ai.drewN ?_ _ | with_reducible apply ai.both | with_reducible refine ai.aK ?_ ?_ | (show _≠_; omega))):ai w' g t cs:=h.ae st
theorem ai.r1 {w:Ef} {g:Nat} {t:Em} (h:ai w g t (List.toArray (a0::a1::l))):w.cell? ⟨g,0,none⟩=some a0/\w.cell? ⟨g,1,none⟩=some a1:=⟨h.c 0 rfl,h.c 1 rfl⟩
theorem ai.s1 {w:Ef} {g:Nat} {t:Em} (h:ai w g t (List.toArray (a0::a1::l))):w.cell? ⟨g,0,none⟩=some a0/\w.cell? ⟨g,1,none⟩=some a1/\(∀i,w.frozen? ⟨g,i,none⟩=false)/\g<w.heap.size:=⟨h.c 0 rfl,h.c 1 rfl,h.fr,h.lt⟩
theorem ai.r2 {w:Ef} {g:Nat} {t:Em} (h:ai w g t (List.toArray (a0::a1::a2::l))):w.cell? ⟨g,0,none⟩=some a0/\w.cell? ⟨g,1,none⟩=some a1/\w.cell? ⟨g,2,none⟩=some a2:=⟨h.c 0 rfl,h.c 1 rfl,h.c 2 rfl⟩
theorem ai.s2 {w:Ef} {g:Nat} {t:Em} (h:ai w g t (List.toArray (a0::a1::a2::l))):w.cell? ⟨g,0,none⟩=some a0/\w.cell? ⟨g,1,none⟩=some a1/\w.cell? ⟨g,2,none⟩=some a2/\(∀i,w.frozen? ⟨g,i,none⟩=false)/\g<w.heap.size:=⟨h.c 0 rfl,h.c 1 rfl,h.c 2 rfl,h.fr,h.lt⟩
theorem ai.r3 {w:Ef} {g:Nat} {t:Em} (h:ai w g t (List.toArray (a0::a1::a2::a3::l))):w.cell? ⟨g,0,none⟩=some a0/\w.cell? ⟨g,1,none⟩=some a1/\w.cell? ⟨g,2,none⟩=some a2/\w.cell? ⟨g,3,none⟩=some a3:=⟨h.c 0 rfl,h.c 1 rfl,h.c 2 rfl,h.c 3 rfl⟩
theorem ai.s3 {w:Ef} {g:Nat} {t:Em} (h:ai w g t (List.toArray (a0::a1::a2::a3::l))):w.cell? ⟨g,0,none⟩=some a0/\w.cell? ⟨g,1,none⟩=some a1/\w.cell? ⟨g,2,none⟩=some a2/\w.cell? ⟨g,3,none⟩=some a3/\(∀i,w.frozen? ⟨g,i,none⟩=false)/\g<w.heap.size:=⟨h.c 0 rfl,h.c 1 rfl,h.c 2 rfl,h.c 3 rfl,h.fr,h.lt⟩
theorem ai.r4 {w:Ef} {g:Nat} {t:Em} (h:ai w g t (List.toArray (a0::a1::a2::a3::a4::l))):w.cell? ⟨g,0,none⟩=some a0/\w.cell? ⟨g,1,none⟩=some a1/\w.cell? ⟨g,2,none⟩=some a2/\w.cell? ⟨g,3,none⟩=some a3/\w.cell? ⟨g,4,none⟩=some a4:=⟨h.c 0 rfl,h.c 1 rfl,h.c 2 rfl,h.c 3 rfl,h.c 4 rfl⟩
theorem ai.s4 {w:Ef} {g:Nat} {t:Em} (h:ai w g t (List.toArray (a0::a1::a2::a3::a4::l))):w.cell? ⟨g,0,none⟩=some a0/\w.cell? ⟨g,1,none⟩=some a1/\w.cell? ⟨g,2,none⟩=some a2/\w.cell? ⟨g,3,none⟩=some a3/\w.cell? ⟨g,4,none⟩=some a4/\(∀i,w.frozen? ⟨g,i,none⟩=false)/\g<w.heap.size:=⟨h.c 0 rfl,h.c 1 rfl,h.c 2 rfl,h.c 3 rfl,h.c 4 rfl,h.fr,h.lt⟩
theorem ai.r5 {w:Ef} {g:Nat} {t:Em} (h:ai w g t (List.toArray (a0::a1::a2::a3::a4::a5::l))):w.cell? ⟨g,0,none⟩=some a0/\w.cell? ⟨g,1,none⟩=some a1/\w.cell? ⟨g,2,none⟩=some a2/\w.cell? ⟨g,3,none⟩=some a3/\w.cell? ⟨g,4,none⟩=some a4/\w.cell? ⟨g,5,none⟩=some a5:=⟨h.c 0 rfl,h.c 1 rfl,h.c 2 rfl,h.c 3 rfl,h.c 4 rfl,h.c 5 rfl⟩
theorem ai.s5 {w:Ef} {g:Nat} {t:Em} (h:ai w g t (List.toArray (a0::a1::a2::a3::a4::a5::l))):w.cell? ⟨g,0,none⟩=some a0/\w.cell? ⟨g,1,none⟩=some a1/\w.cell? ⟨g,2,none⟩=some a2/\w.cell? ⟨g,3,none⟩=some a3/\w.cell? ⟨g,4,none⟩=some a4/\w.cell? ⟨g,5,none⟩=some a5/\(∀i,w.frozen? ⟨g,i,none⟩=false)/\g<w.heap.size:=⟨h.c 0 rfl,h.c 1 rfl,h.c 2 rfl,h.c 3 rfl,h.c 4 rfl,h.c 5 rfl,h.fr,h.lt⟩
theorem ai.r6 {w:Ef} {g:Nat} {t:Em} (h:ai w g t (List.toArray (a0::a1::a2::a3::a4::a5::a6::l))):w.cell? ⟨g,0,none⟩=some a0/\w.cell? ⟨g,1,none⟩=some a1/\w.cell? ⟨g,2,none⟩=some a2/\w.cell? ⟨g,3,none⟩=some a3/\w.cell? ⟨g,4,none⟩=some a4/\w.cell? ⟨g,5,none⟩=some a5/\w.cell? ⟨g,6,none⟩=some a6:=⟨h.c 0 rfl,h.c 1 rfl,h.c 2 rfl,h.c 3 rfl,h.c 4 rfl,h.c 5 rfl,h.c 6 rfl⟩
theorem ai.s6 {w:Ef} {g:Nat} {t:Em} (h:ai w g t (List.toArray (a0::a1::a2::a3::a4::a5::a6::l))):w.cell? ⟨g,0,none⟩=some a0/\w.cell? ⟨g,1,none⟩=some a1/\w.cell? ⟨g,2,none⟩=some a2/\w.cell? ⟨g,3,none⟩=some a3/\w.cell? ⟨g,4,none⟩=some a4/\w.cell? ⟨g,5,none⟩=some a5/\w.cell? ⟨g,6,none⟩=some a6/\(∀i,w.frozen? ⟨g,i,none⟩=false)/\g<w.heap.size:=⟨h.c 0 rfl,h.c 1 rfl,h.c 2 rfl,h.c 3 rfl,h.c 4 rfl,h.c 5 rfl,h.c 6 rfl,h.fr,h.lt⟩
theorem ai.r7 {w:Ef} {g:Nat} {t:Em} (h:ai w g t (List.toArray (a0::a1::a2::a3::a4::a5::a6::a7::l))):w.cell? ⟨g,0,none⟩=some a0/\w.cell? ⟨g,1,none⟩=some a1/\w.cell? ⟨g,2,none⟩=some a2/\w.cell? ⟨g,3,none⟩=some a3/\w.cell? ⟨g,4,none⟩=some a4/\w.cell? ⟨g,5,none⟩=some a5/\w.cell? ⟨g,6,none⟩=some a6/\w.cell? ⟨g,7,none⟩=some a7:=⟨h.c 0 rfl,h.c 1 rfl,h.c 2 rfl,h.c 3 rfl,h.c 4 rfl,h.c 5 rfl,h.c 6 rfl,h.c 7 rfl⟩
theorem ai.s7 {w:Ef} {g:Nat} {t:Em} (h:ai w g t (List.toArray (a0::a1::a2::a3::a4::a5::a6::a7::l))):w.cell? ⟨g,0,none⟩=some a0/\w.cell? ⟨g,1,none⟩=some a1/\w.cell? ⟨g,2,none⟩=some a2/\w.cell? ⟨g,3,none⟩=some a3/\w.cell? ⟨g,4,none⟩=some a4/\w.cell? ⟨g,5,none⟩=some a5/\w.cell? ⟨g,6,none⟩=some a6/\w.cell? ⟨g,7,none⟩=some a7/\(∀i,w.frozen? ⟨g,i,none⟩=false)/\g<w.heap.size:=⟨h.c 0 rfl,h.c 1 rfl,h.c 2 rfl,h.c 3 rfl,h.c 4 rfl,h.c 5 rfl,h.c 6 rfl,h.c 7 rfl,h.fr,h.lt⟩
theorem ai.r8 {w:Ef} {g:Nat} {t:Em} (h:ai w g t (List.toArray (a0::a1::a2::a3::a4::a5::a6::a7::a8::l))):w.cell? ⟨g,0,none⟩=some a0/\w.cell? ⟨g,1,none⟩=some a1/\w.cell? ⟨g,2,none⟩=some a2/\w.cell? ⟨g,3,none⟩=some a3/\w.cell? ⟨g,4,none⟩=some a4/\w.cell? ⟨g,5,none⟩=some a5/\w.cell? ⟨g,6,none⟩=some a6/\w.cell? ⟨g,7,none⟩=some a7/\w.cell? ⟨g,8,none⟩=some a8:=⟨h.c 0 rfl,h.c 1 rfl,h.c 2 rfl,h.c 3 rfl,h.c 4 rfl,h.c 5 rfl,h.c 6 rfl,h.c 7 rfl,h.c 8 rfl⟩
theorem ai.s8 {w:Ef} {g:Nat} {t:Em} (h:ai w g t (List.toArray (a0::a1::a2::a3::a4::a5::a6::a7::a8::l))):w.cell? ⟨g,0,none⟩=some a0/\w.cell? ⟨g,1,none⟩=some a1/\w.cell? ⟨g,2,none⟩=some a2/\w.cell? ⟨g,3,none⟩=some a3/\w.cell? ⟨g,4,none⟩=some a4/\w.cell? ⟨g,5,none⟩=some a5/\w.cell? ⟨g,6,none⟩=some a6/\w.cell? ⟨g,7,none⟩=some a7/\w.cell? ⟨g,8,none⟩=some a8/\(∀i,w.frozen? ⟨g,i,none⟩=false)/\g<w.heap.size:=⟨h.c 0 rfl,h.c 1 rfl,h.c 2 rfl,h.c 3 rfl,h.c 4 rfl,h.c 5 rfl,h.c 6 rfl,h.c 7 rfl,h.c 8 rfl,h.fr,h.lt⟩
theorem ai.s9 {w:Ef} {g:Nat} {t:Em} (h:ai w g t (List.toArray (a0::a1::a2::a3::a4::a5::a6::a7::a8::a9::l))):w.cell? ⟨g,0,none⟩=some a0/\w.cell? ⟨g,1,none⟩=some a1/\w.cell? ⟨g,2,none⟩=some a2/\w.cell? ⟨g,3,none⟩=some a3/\w.cell? ⟨g,4,none⟩=some a4/\w.cell? ⟨g,5,none⟩=some a5/\w.cell? ⟨g,6,none⟩=some a6/\w.cell? ⟨g,7,none⟩=some a7/\w.cell? ⟨g,8,none⟩=some a8/\w.cell? ⟨g,9,none⟩=some a9/\(∀i,w.frozen? ⟨g,i,none⟩=false)/\g<w.heap.size:=⟨h.c 0 rfl,h.c 1 rfl,h.c 2 rfl,h.c 3 rfl,h.c 4 rfl,h.c 5 rfl,h.c 6 rfl,h.c 7 rfl,h.c 8 rfl,h.c 9 rfl,h.fr,h.lt⟩
theorem ai.eV {w:Ef} {g:Nat} {t:Em} (h:ai w g t (List.toArray (a0::a1::a2::a3::a4::a5::a6::a7::a8::a9::bg::l))):w.cell? ⟨g,0,none⟩=some a0/\w.cell? ⟨g,1,none⟩=some a1/\w.cell? ⟨g,2,none⟩=some a2/\w.cell? ⟨g,3,none⟩=some a3/\w.cell? ⟨g,4,none⟩=some a4/\w.cell? ⟨g,5,none⟩=some a5/\w.cell? ⟨g,6,none⟩=some a6/\w.cell? ⟨g,7,none⟩=some a7/\w.cell? ⟨g,8,none⟩=some a8/\w.cell? ⟨g,9,none⟩=some a9/\w.cell? ⟨g,10,none⟩=some bg:=⟨h.c 0 rfl,h.c 1 rfl,h.c 2 rfl,h.c 3 rfl,h.c 4 rfl,h.c 5 rfl,h.c 6 rfl,h.c 7 rfl,h.c 8 rfl,h.c 9 rfl,h.c 10 rfl⟩
theorem ai.eT {w:Ef} {g:Nat} {t:Em} (h:ai w g t (List.toArray (a0::a1::a2::a3::a4::a5::a6::a7::a8::a9::bg::bh::l))):w.cell? ⟨g,0,none⟩=some a0/\w.cell? ⟨g,1,none⟩=some a1/\w.cell? ⟨g,2,none⟩=some a2/\w.cell? ⟨g,3,none⟩=some a3/\w.cell? ⟨g,4,none⟩=some a4/\w.cell? ⟨g,5,none⟩=some a5/\w.cell? ⟨g,6,none⟩=some a6/\w.cell? ⟨g,7,none⟩=some a7/\w.cell? ⟨g,8,none⟩=some a8/\w.cell? ⟨g,9,none⟩=some a9/\w.cell? ⟨g,10,none⟩=some bg/\w.cell? ⟨g,11,none⟩=some bh:=⟨h.c 0 rfl,h.c 1 rfl,h.c 2 rfl,h.c 3 rfl,h.c 4 rfl,h.c 5 rfl,h.c 6 rfl,h.c 7 rfl,h.c 8 rfl,h.c 9 rfl,h.c 10 rfl,h.c 11 rfl⟩
theorem ai.eU {w:Ef} {g:Nat} {t:Em} (h:ai w g t (List.toArray (a0::a1::a2::a3::a4::a5::a6::a7::a8::a9::bg::bh::bi::l))):w.cell? ⟨g,0,none⟩=some a0/\w.cell? ⟨g,1,none⟩=some a1/\w.cell? ⟨g,2,none⟩=some a2/\w.cell? ⟨g,3,none⟩=some a3/\w.cell? ⟨g,4,none⟩=some a4/\w.cell? ⟨g,5,none⟩=some a5/\w.cell? ⟨g,6,none⟩=some a6/\w.cell? ⟨g,7,none⟩=some a7/\w.cell? ⟨g,8,none⟩=some a8/\w.cell? ⟨g,9,none⟩=some a9/\w.cell? ⟨g,10,none⟩=some bg/\w.cell? ⟨g,11,none⟩=some bh/\w.cell? ⟨g,12,none⟩=some bi:=⟨h.c 0 rfl,h.c 1 rfl,h.c 2 rfl,h.c 3 rfl,h.c 4 rfl,h.c 5 rfl,h.c 6 rfl,h.c 7 rfl,h.c 8 rfl,h.c 9 rfl,h.c 10 rfl,h.c 11 rfl,h.c 12 rfl⟩
theorem ai.dA {w:Ef} {g:Nat} {t:Em} (h:ai w g t (List.toArray (a0::a1::a2::a3::a4::a5::a6::a7::a8::a9::bg::bh::bi::dl::l))):w.cell? ⟨g,0,none⟩=some a0/\w.cell? ⟨g,1,none⟩=some a1/\w.cell? ⟨g,2,none⟩=some a2/\w.cell? ⟨g,3,none⟩=some a3/\w.cell? ⟨g,4,none⟩=some a4/\w.cell? ⟨g,5,none⟩=some a5/\w.cell? ⟨g,6,none⟩=some a6/\w.cell? ⟨g,7,none⟩=some a7/\w.cell? ⟨g,8,none⟩=some a8/\w.cell? ⟨g,9,none⟩=some a9/\w.cell? ⟨g,10,none⟩=some bg/\w.cell? ⟨g,11,none⟩=some bh/\w.cell? ⟨g,12,none⟩=some bi/\w.cell? ⟨g,13,none⟩=some dl:=⟨h.c 0 rfl,h.c 1 rfl,h.c 2 rfl,h.c 3 rfl,h.c 4 rfl,h.c 5 rfl,h.c 6 rfl,h.c 7 rfl,h.c 8 rfl,h.c 9 rfl,h.c 10 rfl,h.c 11 rfl,h.c 12 rfl,h.c 13 rfl⟩
theorem ai.dT {w:Ef} {g:Nat} {t:Em} (h:ai w g t (List.toArray (a0::a1::a2::a3::a4::a5::a6::a7::a8::a9::bg::bh::bi::dl::g8::gz::l))):w.cell? ⟨g,0,none⟩=some a0/\w.cell? ⟨g,1,none⟩=some a1/\w.cell? ⟨g,2,none⟩=some a2/\w.cell? ⟨g,3,none⟩=some a3/\w.cell? ⟨g,4,none⟩=some a4/\w.cell? ⟨g,5,none⟩=some a5/\w.cell? ⟨g,6,none⟩=some a6/\w.cell? ⟨g,7,none⟩=some a7/\w.cell? ⟨g,8,none⟩=some a8/\w.cell? ⟨g,9,none⟩=some a9/\w.cell? ⟨g,10,none⟩=some bg/\w.cell? ⟨g,11,none⟩=some bh/\w.cell? ⟨g,12,none⟩=some bi/\w.cell? ⟨g,13,none⟩=some dl/\w.cell? ⟨g,14,none⟩=some g8/\w.cell? ⟨g,15,none⟩=some gz:=⟨h.c 0 rfl,h.c 1 rfl,h.c 2 rfl,h.c 3 rfl,h.c 4 rfl,h.c 5 rfl,h.c 6 rfl,h.c 7 rfl,h.c 8 rfl,h.c 9 rfl,h.c 10 rfl,h.c 11 rfl,h.c 12 rfl,h.c 13 rfl,h.c 14 rfl,h.c 15 rfl⟩
theorem ai.fj {w:Ef} {g:Nat} {t:Em} (h:ai w g t (List.toArray (a0::a1::a2::a3::a4::a5::a6::a7::a8::a9::bg::bh::bi::dl::g8::gz::gK::gN::gQ::gX::l))):w.cell? ⟨g,0,none⟩=some a0/\w.cell? ⟨g,1,none⟩=some a1/\w.cell? ⟨g,2,none⟩=some a2/\w.cell? ⟨g,3,none⟩=some a3/\w.cell? ⟨g,4,none⟩=some a4/\w.cell? ⟨g,5,none⟩=some a5/\w.cell? ⟨g,6,none⟩=some a6/\w.cell? ⟨g,7,none⟩=some a7/\w.cell? ⟨g,8,none⟩=some a8/\w.cell? ⟨g,9,none⟩=some a9/\w.cell? ⟨g,10,none⟩=some bg/\w.cell? ⟨g,11,none⟩=some bh/\w.cell? ⟨g,12,none⟩=some bi/\w.cell? ⟨g,13,none⟩=some dl/\w.cell? ⟨g,14,none⟩=some g8/\w.cell? ⟨g,15,none⟩=some gz/\w.cell? ⟨g,16,none⟩=some gK/\w.cell? ⟨g,17,none⟩=some gN/\w.cell? ⟨g,18,none⟩=some gQ/\w.cell? ⟨g,19,none⟩=some gX/\(∀i,w.frozen? ⟨g,i,none⟩=false)/\g<w.heap.size:=⟨h.c 0 rfl,h.c 1 rfl,h.c 2 rfl,h.c 3 rfl,h.c 4 rfl,h.c 5 rfl,h.c 6 rfl,h.c 7 rfl,h.c 8 rfl,h.c 9 rfl,h.c 10 rfl,h.c 11 rfl,h.c 12 rfl,h.c 13 rfl,h.c 14 rfl,h.c 15 rfl,h.c 16 rfl,h.c 17 rfl,h.c 18 rfl,h.c 19 rfl,h.fr,h.lt⟩
theorem bA (w:World) {W W':World} (st:zf W W') (h:Below w.heap.size w W:=by (repeat' first | with_reducible assumption | with_reducible exact Below.refl _ _ | with_reducible refine Below.alloc ?_ ?_ _ | with_reducible refine Below.drew ?_ | with_reducible refine yS ?_ _ | with_reducible refine Below.setCell ?_ ?_ _ | go_size)):Below w.heap.size w W':=zA h (Nat.le_refl _) st
theorem bS {a E:Ef} (h:Below a.heap.size a W) (H:zf W E):Below a.heap.size a E:=zA h (Ep _) H
end Go.Proofs.YtffmbepfbienaaaGreat
/- Limbs of 32 bits: lists of whole numbers, their values, and what is canonical. -/
namespace Go.Proofs.YtffmbepfbienaaaGreat
variable {n:Int} {l m:List Int}
def zj:List Int->Int
 | []=>0
 | x::l=>x+4294967296*zj l
def yv (l:List Int):Prop:=∀x∈l,0<=x/\x<4294967296
def Y4:Nat->Int->List Int
 | 0,_=> []
 | k+1,n=>n%4294967296::Y4 k (n / 4294967296)
def bp (k:Nat):Int:=((4294967296^k:Nat):Int)
theorem kD:bp 0=1:=rfl
theorem xx (k:Nat):bp (k+1)=4294967296*bp k:=by unfold bp; rw[Nat.pow_succ]; omega
theorem xO (k:Nat):1<=bp k:=by have:=Nat.one_le_pow k 4294967296 D6; unfold bp; omega
theorem Jo (i j:Nat):bp (i+j)=bp i*bp j:=by unfold bp; rw[Nat.pow_add]; simp
theorem kE {i j:Nat} (h:i<=j):bp i<=bp j:=by
 unfold bp; have:=Nat.pow_le_pow_right (show 0<4294967296 by omega) h; omega
theorem z6:yv []:=fun _ h=>by cases h
theorem zZ {x:Int} : yv (x::l)↔(0<=x/\x<4294967296)/\yv l:=by simp[yv]
theorem xj : yv (l++m)↔yv l/\yv m:=by
 unfold yv; constructor
 . intro h; exact⟨fun x E=>h x (List.mem_append_left _ E),fun x E=>h x (List.mem_append_right _ E)⟩
 .
  rintro ⟨I,H⟩ x E
  rcases List.mem_append.1 E with h | h
  . exact I x h
  . exact H x h
theorem z8 (h:yv l) (k:Nat):yv (l.take k):=fun x E=>h x (List.mem_of_mem_take E)
theorem xJ (h:yv l) (k:Nat):yv (l.drop k):=fun x E=>h x (List.mem_of_mem_drop E)
theorem zG (h:yv l):0<=zj l:=by
 induction l with
 | nil=>exact Int.le_refl _
 | cons x l ih=>obtain⟨H,E⟩:=zZ.1 h; have:=ih E; simp only[zj]; omega
theorem yO (h:yv l):zj l<bp l.length:=by
 induction l with
 | nil=>exact(by decide:(0:Int)<1)
 | cons x l ih=>obtain⟨H,E⟩:=zZ.1 h; have:=ih E; simp only[zj,List.length_cons,xx]; omega
theorem xQ (l m:List Int):zj (l++m)=zj l+bp l.length*zj m:=by
 induction l with
 | nil=>simp[zj,kD]
 | cons x l ih=>
  simp only[List.cons_append,zj,List.length_cons,xx,ih];rw[Int.mul_add,Int.mul_assoc]; omega
theorem yV (l:List Int) (x:Int):zj (l ++ [x])=zj l+bp l.length*x:=by
 rw[xQ]; simp[zj]
theorem Z' (k:Nat):zj (List.replicate k 0)=0:=by
 induction k with
 | zero=>rfl
 | succ k ih=>simp[List.replicate_succ,zj,ih]
theorem Ya (k:Nat) (n:Int):(Y4 k n).length=k:=by
 induction k generalizing n with
 | zero=>rfl
 | succ k ih=>simp[Y4,ih]
theorem XB (k:Nat) (n:Int):yv (Y4 k n):=by
 induction k generalizing n with
 | zero=>exact z6
 | succ k ih=>rw[Y4,zZ]; exact⟨by omega,ih _⟩
theorem Yb {k:Nat} (h0:0<=n) (E:n<bp k):zj (Y4 k n)=n:=by
 induction k generalizing n with
 | zero=>rw[kD]at E; simp only[Y4,zj]; omega
 | succ k ih=>
  rw[xx]at E;simp only[Y4,zj];rw[ih D6 D6]; omega
def zS:List Int->List Int
 | []=> []
 | x::l=>match zS l with
  | []=>if x=0 then []else [x]
  | y::t=>x::y::t
theorem yi (x:Int) (l:List Int):zS (x::l)=if zS l = []then(if x=0 then []else [x])else x::zS l:=by
 rw[zS]; cases zS l<;>simp
theorem kR (l:List Int):zj (zS l)=zj l:=by
 induction l with
 | nil=>rfl
 | cons x l ih=>
  rw[yi]
  split
  . rename_i h; rw[h]at ih; simp only[zj]at ih|-; split<;>simp[zj]<;>omega
  . simp only[zj,ih]
theorem vj (h:yv l):yv (zS l):=by
 induction l with
 | nil=>exact h
 | cons x l ih=>
  obtain⟨E,H⟩:=zZ.1 h;rw[yi]
  split
  .
   split
   . exact z6
   . exact zZ.2 ⟨E,z6⟩
  . exact zZ.2 ⟨E,ih H⟩
theorem vw (l:List Int):(zS l).length<=l.length:=by
 induction l with
 | nil=>exact Ep _
 | cons x l ih=>rw[yi]; split<;>(try split)<;>simp<;>omega
theorem Zy (l:List Int):zS (zS l)=zS l:=by
 induction l with
 | nil=>rfl
 | cons x l ih=>
  rw[yi]
  split
  .
   rename_i h
   split
   . rfl
   . rename_i hx; rw[yi]; simp[zS,hx]
  . rename_i h; rw[yi,ih,E_ h]
theorem Jp (hc:zS l=l) (h:l≠ []):l.getLast h≠0:=by
 induction l with
 | nil=>exact absurd rfl h
 | cons x l ih=>
  rw[yi]at hc
  split at hc
  .
   rename_i hl
   split at hc
   . cases hc
   .
    rename_i hx
    injection hc with _ hc
    subst hc;simpa using hx
  .
   rename_i hl
   injection hc with _ hc
   have E:l≠ []:=fun e=>hl (hc.trans e);rw[List.getLast_cons E];exact ih hc E
theorem kN (h:l≠ []) (E:l.getLast h≠0):zS l=l:=by
 induction l with
 | nil=>exact absurd rfl h
 | cons x l ih=>
  rw[yi]
  by_cases hne:l = []
  . subst hne; rw[List.getLast_singleton]at E; simp[zS,E]
  .
   rw[List.getLast_cons hne]at E;have:=ih hne E;rw[this,E_ hne]
theorem ZM (l:List Int):zS (l ++ [0])=zS l:=by
 induction l with
 | nil=>simp[zS]
 | cons x l ih=>rw[List.cons_append,yi,yi,ih]
theorem Vx (h1:yv l) (h2:yv m) (H:zS l=l) (E:zS m=m) (hv:zj l=zj m):l=m:=by
 induction l generalizing m with
 | nil=>
  cases m with
  | nil=>rfl
  | cons y m=>
   exfalso
   obtain⟨g1,I⟩:=zZ.1 h2;have gm:=zG I;simp only[zj]at hv;have hy:y=0:=D6
   have hm:zj m=0:=D6
   have key:∀k:List Int,yv k->zj k=0->zS k = []:=by
    intro k
    induction k with
    | nil=>intro _ _; rfl
    | cons z k ih=>
     intro Y M;obtain⟨q1,q2⟩:=zZ.1 Y;have:=zG q2;simp only[zj]at M;rw[yi,ih q2 D6,E9 rfl,E9 D6]
   rw[yi,key m I hm,E9 rfl,E9 hy]at E
   cases E
 | cons x l ih=>
  obtain⟨f1,T⟩:=zZ.1 h1;have gl:=zG T
  cases m with
  | nil=>
   exfalso
   simp only[zj]at hv;have hx:x=0:=D6
   have hl:zj l=0:=D6
   have key:∀k:List Int,yv k->zj k=0->zS k = []:=by
    intro k
    induction k with
    | nil=>intro _ _; rfl
    | cons z k ih=>
     intro Y M;obtain⟨q1,q2⟩:=zZ.1 Y;have:=zG q2;simp only[zj]at M;rw[yi,ih q2 D6,E9 rfl,E9 D6]
   rw[yi,key l T hl,E9 rfl,E9 hx]at H
   cases H
  | cons y m=>
   obtain⟨g1,I⟩:=zZ.1 h2;simp only[zj]at hv;have Z:x=y:=D6
   have X:zj l=zj m:=D6
   have cl:zS l=l:=by
    rw[yi]at H
    split at H
    .
     rename_i h
     split at H
     . cases H
     . injection H with _ H; subst H; rfl
    . injection H
   have cm:zS m=m:=by
    rw[yi]at E
    split at E
    .
     rename_i h
     split at E
     . cases E
     . injection E with _ E; subst E; rfl
    . injection E
   rw[Z,ih T I cl cm X]
def zp (n:Int):List Int:=zS (Y4 n.toNat n)
theorem Bv (n:Nat):(n:Int)<bp n:=by
 unfold bp;have:=Nat.lt_pow_self (show 1<4294967296 by omega) (n:=n);omega
theorem xr (n:Int):yv (zp n):=vj (XB _ _)
theorem zE (h:0<=n):zj (zp n)=n:=by
 unfold zp;rw[kR];obtain⟨m,rfl⟩:=Int.eq_ofNat_of_zero_le h;exact Yb h (Bv m)
theorem xR (n:Int):zS (zp n)=zp n:=Zy _
theorem yj (h:yv l):zp (zj l)=zS l:=
 Vx (xr _) (vj h) (xR _) (Zy _) (by rw[zE (zG h),kR])
theorem zY (h:0<=n):zp n = []↔n=0:=by
 constructor
 . intro e; have:=zE h; rw[e]at this; exact this.symm
 . rintro rfl; rfl
theorem xl (h:0<=n) (k:Nat):(zp n).length<=k↔n<bp k:=by
 constructor
 .
  intro e;have E:=yO (xr n);rw[zE h]at E;have:=kE e;omega
 .
  intro e;have E:zp n=zS (Y4 k n):=by rw[<- yj (XB k n),Yb h e]
  rw[E];have:=vw (Y4 k n);rw[Ya]at this;exact this
theorem Vy (I:yv l) (E:yv m) (M:zS m=m) (h:l.length<m.length):zj l<zj m:=by
 have a:=yO I;have H:zp (zj m)=m:=(yj E).trans M;have b:=xl (zG E) l.length;rw[H]at b
 rcases Int.lt_or_le (zj m) (bp l.length)with c | c
 . have:=b.2 c; omega
 . omega
end Go.Proofs.YtffmbepfbienaaaGreat
/- Limbs: what one round of each loop on zp does to the values. -/
namespace Go.Proofs.YtffmbepfbienaaaGreat
variable {c q r s t x:Int} {A B l xs:List Int} {k:Nat}
theorem yp (l:List Int) (k:Nat):zj (l.take (k+1))=zj (l.take k)+bp k*l.getD k 0:=by
 rcases Er k l.length with h | h
 .
  rw[List.take_succ_eq_append_getElem h,yV,List.length_take,Nat.min_eq_left D6];simp[List.getD,h]
 .
  rw[List.take_of_length_le D6,List.take_of_length_le h];simp[List.getD,h]
theorem yG (l:List Int) (k:Nat):zj (l.drop k)=l.getD k 0+4294967296*zj (l.drop (k+1)):=by
 rcases Er k l.length with h | h
 .
  rw[List.drop_eq_getElem_cons h];simp[zj,List.getD,h]
 .
  rw[List.drop_of_length_le h,List.drop_of_length_le D6];simp[zj,List.getD,h]
theorem yH (l:List Int) (k:Nat) (h:k<=l.length):zj l=zj (l.take k)+bp k*zj (l.drop k):=by
 have:=xQ (l.take k) (l.drop k);rw[List.take_append_drop,List.length_take,Nat.min_eq_left h]at this;exact this
theorem zI (h:yv l) (k:Nat):0<=l.getD k 0/\l.getD k 0<4294967296:=by
 rcases Er k l.length with g | g
 .
  simp only[List.getD,List.getElem?_eq_getElem g,Option.getD_some];exact h _ (List.getElem_mem g)
 . simp[List.getD,g]
theorem zX (h:yv l) (h0:0<=x) (E:x<4294967296):yv (l ++ [x]):=
 xj.2 ⟨h,zZ.2 ⟨⟨h0,E⟩,z6⟩⟩
theorem WZ (h:yv l) (i:Nat) (h0:0<=x) (E:x<4294967296):yv (l.set i x):=by
 intro y H
 rcases List.mem_or_eq_of_mem_set H with g | g
 . exact h y g
 . subst g; exact⟨h0,E⟩
theorem vz (k:Nat) (s:Int):bp k*(s%4294967296)+bp (k+1)*(s / 4294967296)=bp k*s:=by
 rw[xx,Int.mul_comm 4294967296 (bp k),Int.mul_assoc,<- Int.mul_add]
 congr 1
 omega
theorem qr (E:xs.length=k) (h:zj xs+bp k*c=zj (A.take k)+zj (B.take k)) (H:s=A.getD k 0+B.getD k 0+c) :
  zj (xs ++ [s%4294967296])+bp (k+1)*(s / 4294967296)=zj (A.take (k+1))+zj (B.take (k+1)):=by
 rw[yV,E,yp,yp];have:=vz k s;rw[H]at this|-;rw[Int.mul_add,Int.mul_add]at this;omega
theorem q_ {c':Int} (E:xs.length=k) (h:zj xs=zj (A.take k)-zj (B.take k)+bp k*c) (ht:t=A.getD k 0-B.getD k 0-c) (H:x=t+4294967296*c') :
  zj (xs ++ [x])=zj (A.take (k+1))-zj (B.take (k+1))+bp (k+1)*c':=by
 rw[yV,E,yp,yp,xx,H,ht];rw[Int.mul_add,Int.mul_sub,Int.mul_sub,<- Int.mul_assoc,Int.mul_comm (bp k) 4294967296];omega
theorem jC {U V:List Int} {b b':Int} (T:xs.length=k) (h:zj xs=zj (U.take k)-q*zj (V.take k)+bp k*(c+b))
  (E:s=c+q*V.getD k 0) (ht:t=U.getD k 0-s%4294967296-b) (H:x=t+4294967296*b') :
  zj (xs ++ [x])=zj (U.take (k+1))-q*zj (V.take (k+1))+bp (k+1)*(s / 4294967296+b'):=by
 rw[yV,T,yp,yp,h,H,ht];have e:=vz k s;have X:bp k*s=bp k*c+bp k*(q*V.getD k 0):=by rw[E,Int.mul_add]
 have I:q*(zj (V.take k)+bp k*V.getD k 0)=q*zj (V.take k)+bp k*(q*V.getD k 0):=by
  rw[Int.mul_add,<- Int.mul_assoc,Int.mul_comm q (bp k),Int.mul_assoc]
 have M:bp k*(4294967296*b')=bp (k+1)*b':=by rw[xx,<- Int.mul_assoc,Int.mul_comm (bp k) 4294967296]
 rw[I,Int.mul_add (bp (k+1)),Int.mul_add (bp k) c b,Int.mul_add,Int.mul_sub,Int.mul_sub,M];omega
theorem Yc {A d:Int} (h:A=d*q+r):x+4294967296*A=d*((r*4294967296+x) / d+4294967296*q)+(r*4294967296+x)%d:=by
 have:=Int.mul_ediv_add_emod (r*4294967296+x) d;rw[Int.mul_add,<- Int.mul_assoc d 4294967296 q,Int.mul_comm d 4294967296,Int.mul_assoc,h];omega
theorem X9 {O:List Int} (E:xs.length=k) (h:zj xs+bp k*c=zj (O.take k)+x*zj (B.take k)) (H:s=c+(x*B.getD k 0+O.getD k 0)) :
  zj (xs ++ [s%4294967296])+bp (k+1)*(s / 4294967296)=zj (O.take (k+1))+x*zj (B.take (k+1)):=by
 rw[yV,E,yp,yp];have e:=vz k s;have M:bp k*s=bp k*c+(bp k*(x*B.getD k 0)+bp k*O.getD k 0):=by rw[H,Int.mul_add,Int.mul_add]
 have I:x*(zj (B.take k)+bp k*B.getD k 0)=x*zj (B.take k)+bp k*(x*B.getD k 0):=by
  rw[Int.mul_add,<- Int.mul_assoc,Int.mul_comm x (bp k),Int.mul_assoc]
 rw[I];omega
theorem Y5 {n:Nat} {U V u v:Int} (I:U<(u+1)*bp n) (E:v*bp n<=V) (h0:0<=q) (h:q*V<=U):q*v<=u:=by
 have M:q*(v*bp n)<=q*V:=Int.mul_le_mul_of_nonneg_left E h0;have H:(q*v)*bp n<(u+1)*bp n:=by rw[Int.mul_assoc]; omega
 have:=Int.lt_of_mul_lt_mul_right H (by have:=xO n; omega);omega
theorem jM {A D:Int} (h:A=D*q+r) (h0:0<=r) (E:r<D):A / D=q/\A%D=r:=by
 subst h
 constructor
 . rw[Int.add_comm,Int.add_mul_ediv_left _ _ D6,Int.ediv_eq_zero_of_lt h0 E]; omega
 . rw[Int.add_comm,Int.add_mul_emod_self_left,Int.emod_eq_of_lt h0 E]
theorem XC (M:yv A) (E:yv B) {i:Nat} (Y:i<A.length) (X:i<B.length) (hd:zj (A.drop (i+1))=zj (B.drop (i+1))) (h:A.getD i 0<B.getD i 0):zj A<zj B:=by
 rw[yH A i D6,yH B i D6,yG A i,yG B i,hd];have H:=yO (z8 M i);rw[List.length_take,Nat.min_eq_left D6]at H;have T:=zG (z8 E i)
 have I:bp i*(A.getD i 0+4294967296*zj (B.drop (i+1))+1)<=bp i*(B.getD i 0+4294967296*zj (B.drop (i+1))):=
  Int.mul_le_mul_of_nonneg_left D6 (by have:=xO i; omega)
 rw[Int.mul_add (bp i) (A.getD i 0+_) 1]at I;omega
theorem ye {y:Int} (H:0<=x) (E:0<=y) (h:(zp x).length<(zp y).length):x<y:=by
 have:=Vy (xr x) (xr y) (xR y) h
 rwa[zE H,zE E]at this
end Go.Proofs.YtffmbepfbienaaaGreat
/- Knuth's division: one digit. -/
namespace Go.Proofs.YtffmbepfbienaaaGreat
variable {Q q r t v1:Int} {m:Nat}
theorem vE {l:List Int} (h:l.length=m+1):zj (l.drop m)=l.getD m 0:=by
 rw[yG,List.drop_of_length_le D6]; simp[zj]
theorem Yd {U V:List Int} (M:yv U) (T:yv V) (hU:U.length=m+3) (hV:V.length=m+2) (Z:1<=V.getD (m+1) 0) (iC:zj U<zj V*4294967296) :
  0<=zj U / zj V/\zj U / zj V<4294967296/\zj U / zj V*V.getD (m+1) 0<=U.getD (m+2) 0*4294967296+U.getD (m+1) 0/\
  zj U / zj V*(V.getD (m+1) 0*4294967296+V.getD m 0)<=(U.getD (m+2) 0*4294967296+U.getD (m+1) 0)*4294967296+U.getD m 0/\
  zj U / zj V*zj V<=zj U/\zj U-zj U / zj V*zj V<zj V/\0<zj V:=by
 have iv:=vE (l:=U) (m:=m+2) hU;have H:=yG U (m+1);have dP:=yG U m;have I:=vE (l:=V) (m:=m+1) hV;have Y:=yG V m;rw[iv]at H;rw[H]at dP;rw[I]at Y;have iA:=yH U (m+1) D6;have iu:=yH U m D6;have X:=yH V (m+1) D6;have it:=yH V m D6;have iz:=yO (z8 M (m+1));have iB:=yO (z8 M m);have iE:=zG (z8 T (m+1));have iD:=zG (z8 T m);rw[List.length_take,Nat.min_eq_left D6]at iz iB
 have E:0<zj V:=by
  have h1:bp (m+1)*1<=bp (m+1)*V.getD (m+1) 0:=Int.mul_le_mul_of_nonneg_left Z (by have:=xO (m+1); omega);have:=xO (m+1);rw[I]at X;omega
 have iy:=zG M;have q0:0<=zj U / zj V:=Int.ediv_nonneg iy D6;have q1:zj U / zj V<4294967296:=Int.ediv_lt_of_lt_mul E (by rw[Int.mul_comm]; exact iC);have e:=Int.mul_ediv_add_emod (zj U) (zj V);have m0:=Int.emod_nonneg (zj U) (show zj V≠0 by omega);have m1:=Int.emod_lt_of_pos (zj U) E;rw[Int.mul_comm]at e;have le:zj U / zj V*zj V<=zj U:=D6
 refine⟨q0,q1,?_,?_,le,by omega,E⟩
 .
  refine Y5 (n:=m+1) ?_ ?_ q0 le
  .
   rw[Int.add_mul,Int.one_mul,Int.mul_comm];rw[H]at iA;rw[show U.getD (m+2) 0*4294967296+U.getD (m+1) 0=U.getD (m+1) 0+4294967296*U.getD (m+2) 0 by omega];omega
  .
   rw[Int.mul_comm];rw[I]at X;omega
 .
  refine Y5 (n:=m) ?_ ?_ q0 le
  .
   rw[Int.add_mul,Int.one_mul,Int.mul_comm];rw[dP]at iu;rw[show (U.getD (m+2) 0*4294967296+U.getD (m+1) 0)*4294967296+U.getD m 0=U.getD m 0+4294967296*(U.getD (m+1) 0+4294967296*U.getD (m+2) 0) by omega];omega
  .
   rw[Int.mul_comm];rw[Y]at it;rw[show V.getD (m+1) 0*4294967296+V.getD m 0=V.getD m 0+4294967296*V.getD (m+1) 0 by omega];omega
theorem Jq {E u:Int} (h:q*v1+r=t) (I:Q*(v1*4294967296+E)<=t*4294967296+u) (hv:0<=v1*4294967296+E) (M:r*4294967296+u<q*E):Q<q:=by
 rcases Int.lt_or_le Q q with g | g
 . exact g
 .
  have H:=Int.mul_le_mul_of_nonneg_right g hv;rw[Int.mul_add,Int.mul_add]at H;have T:q*(v1*4294967296)=q*v1*4294967296:=by rw[Int.mul_assoc]
  rw[Int.mul_add]at I;omega
theorem X_ (h:q*v1+r=t) (H:r<v1) (I:Q*v1<=t) (hv:0<v1):Q<=q:=by
 rcases Int.lt_or_le q Q with g | g
 .
  have E:=Int.mul_le_mul_of_nonneg_right (show q+1<=Q by omega) (show 0<=v1 by omega);rw[Int.add_mul]at E;omega
 . exact g
end Go.Proofs.YtffmbepfbienaaaGreat
/- A division of zp: what is ahead of the digits, one digit, and what is behind them. -/
namespace Go.Proofs.YtffmbepfbienaaaGreat
variable {A P Q V:Int} {U:List Int} {j m:Nat}
theorem Ye {l:List Int} {n:Nat} (E:yv l) (H:n<=l.length) (h:zj l<bp n):zj (l.take n)=zj l/\zj (l.drop n)=0:=by
 have s:=yH l n H;have a:=zG (z8 E n);have b:=zG (xJ E n);have p:=xO n
 have z:zj (l.drop n)=0:=by
  rcases Int.lt_or_le 0 (zj (l.drop n))with g | g
  .
   have:=Int.mul_le_mul_of_nonneg_left (show 1<=zj (l.drop n) by omega) (show 0<=bp n by omega);omega
  . omega
 rw[z,Int.mul_zero]at s;exact⟨by omega,z⟩
theorem X' {E L:List Int} (oD:yv E) (lD:E.length=m+2) (M:yv L) (lL:L.length=m+3) (I:zj L=zj E*P) (P0:1<=P) (H:P*Q=4294967296)
  (h0:2147483648<=E.getD (m+1) 0*P) (Z:E.getD (m+1) 0*P<4294967296) :
  zj (L.take (m+2))=zj E*P/\2147483648<=(L.take (m+2)).getD (m+1) 0/\2147483648*bp (m+1)<=zj E*P:=by
 have X:=yH E (m+1) D6;rw[vE lD]at X;have d1:=yO (z8 oD (m+1));have d2:=zG (z8 oD (m+1));rw[List.length_take,Nat.min_eq_left D6]at d1;obtain⟨t,ht⟩:∃t,E.getD (m+1) 0=t:=⟨_,rfl⟩;rw[ht]at X h0 Z;have p:=xO (m+1)
 have tQ:t+1<=Q:=by
  have:t*P<Q*P:=by rw[Int.mul_comm Q P,H]; exact Z
  have:=Int.lt_of_mul_lt_mul_right this D6;omega
 have tP:(t+1)*P<=4294967296:=by
  have:=Int.mul_le_mul_of_nonneg_right tQ (show 0<=P by omega);rw[Int.mul_comm Q P,H]at this;exact this
 have up:zj E*P<bp (m+2):=by
  have Y:zj E*P<=(bp (m+1)*(t+1)-1)*P:=by
   refine Int.mul_le_mul_of_nonneg_right ?_ D6;rw[Int.mul_add,Int.mul_one];omega
  have e2:bp (m+1)*((t+1)*P)<=bp (m+1)*4294967296:=Int.mul_le_mul_of_nonneg_left tP D6;rw[Int.sub_mul,Int.mul_assoc,Int.one_mul]at Y;rw[xx (m+1)];omega
 have lo:2147483648*bp (m+1)<=zj E*P:=by
  have Y:bp (m+1)*t*P<=zj E*P:=Int.mul_le_mul_of_nonneg_right D6 D6;have e2:bp (m+1)*2147483648<=bp (m+1)*(t*P):=Int.mul_le_mul_of_nonneg_left h0 D6;rw[<- Int.mul_assoc]at e2;omega
 have T:=(Ye M (n:=m+2) D6 (by rw[I]; exact up)).1;rw[I]at T;refine⟨T,?_,lo⟩;have lT:(L.take (m+2)).length=m+2:=by rw[List.length_take]; omega
 have g0:=yH (L.take (m+2)) (m+1) D6;rw[vE lT]at g0;have g1:=yO (z8 (z8 M (m+2)) (m+1));rw[List.length_take,lT,Nat.min_eq_left D6]at g1
 rcases Int.lt_or_le ((L.take (m+2)).getD (m+1) 0) 2147483648 with g | g
 .
  exfalso
  have:=Int.mul_le_mul_of_nonneg_left (show (L.take (m+2)).getD (m+1) 0<=2147483647 by omega) (show 0<=bp (m+1) by omega);omega
 . exact g
theorem Yf {K la:Nat} (M:yv U) (lU:U.length=K+(m+2)) (X:la+1=K+(m+2)) (Y:zj U=A*P) (hA:A<bp la) (H:0<=A) (P0:1<=P) (T:P<=2147483648) (E:2147483648*bp (m+1)<=V) :
  zj (U.drop K)<V:=by
 have s:=yH U K D6;have a:=zG (z8 M K);have e1:A*P<=A*2147483648:=Int.mul_le_mul_of_nonneg_left T H;have Z:bp la=bp K*bp (m+1):=by rw[<- Jo]; congr 1; omega
 have p:=xO K;have e3:bp K*(2147483648*bp (m+1))<=bp K*V:=Int.mul_le_mul_of_nonneg_left E D6;have e4:bp K*(2147483648*bp (m+1))=bp K*bp (m+1)*2147483648:=by rw[Int.mul_comm 2147483648,Int.mul_assoc]
 have I:bp K*zj (U.drop K)<bp K*V:=D6
 exact Int.lt_of_mul_lt_mul_left I D6
theorem Y6 (E:yv U) (Y:j+(m+3)<=U.length) (M:V<bp (m+2)) (hd:zj (U.drop (j+1))<V) :
  zj ((U.drop j).take (m+3))<V*4294967296/\zj ((U.drop j).take (m+3))=zj (U.drop j)/\zj (U.drop (j+(m+3)))=0:=by
 have X:=yG U j;have u0:=zI E j;have I:zj (U.drop j)<V*4294967296:=D6
 have H:zj (U.drop j)<bp (m+3):=by rw[xx (m+2)]; omega
 have T:=Ye (xJ E j) (n:=m+3) (by rw[List.length_drop]; omega) H;rw[List.drop_drop]at T;exact⟨by rw[T.1]; exact I,T.1,T.2⟩
theorem Y7 {S qs:List Int} {q:Int} (T:S.length=m+3) (hj:j+(m+3)<=U.length) (H:zj (U.drop (j+(m+3)))=0) (X:zj U+V*(bp (j+1)*zj qs)=A)
  (M:zj S=zj (U.drop j)-q*V) (E:zj S<V) :
  zj (U.take j++(S++U.drop (j+(m+3))))+V*(bp j*zj (q::qs))=A/\zj ((U.take j++(S++U.drop (j+(m+3)))).drop j)<V:=by
 have I:(U.take j).length=j:=by rw[List.length_take]; omega
 have s:=yH U j D6
 constructor
 .
  rw[xQ,xQ,H,I,M,Int.mul_zero,Int.add_zero];simp only[zj];rw[Int.mul_sub,Int.mul_add,Int.mul_add];have Z:bp j*(q*V)=V*(bp j*q):=by rw[Int.mul_comm q V,<- Int.mul_assoc,Int.mul_comm (bp j) V,Int.mul_assoc]
  have Y:V*(bp j*(4294967296*zj qs))=V*(bp (j+1)*zj qs):=by rw[xx,<- Int.mul_assoc (bp j),Int.mul_comm (bp j) 4294967296]
  omega
 .
  rw[List.drop_left' I,xQ,H,Int.mul_zero,Int.add_zero];exact E
theorem Uo (k:Nat) (n:Int):Y4 (k+1) n=Y4 k n ++ [n / bp k%4294967296]:=by
 induction k generalizing n with
 | zero=>simp[Y4,kD]
 | succ k ih=>
  rw[Y4,ih,Y4,List.cons_append]
  congr 3
  rw[xx,Int.ediv_ediv_of_nonneg D6]
theorem Vz {R:List Int} {k:Nat} (H:yv R) (hk:k<R.length) (P0:1<=P) (E:P*Q=4294967296) :
  (R.getD k 0+R.getD (k+1) 0*4294967296) / P%4294967296=zj R / P / bp k%4294967296:=by
 have p:=xO k;have s:=yH R k D6;have a:=zG (z8 H k);have b:=yO (z8 H k);rw[List.length_take,Nat.min_eq_left D6]at b
 have X:zj R / P / bp k=zj R / bp k / P:=by
  rw[Int.ediv_ediv_of_nonneg D6,Int.ediv_ediv_of_nonneg D6,Int.mul_comm]
 have I:zj R / bp k=zj (R.drop k):=by
  rw[s,Int.add_mul_ediv_left _ _ D6,Int.ediv_eq_zero_of_lt a b,Int.zero_add]
 have Y:=yG R k;have e4:=yG R (k+1);rw[X,I,Y,e4];obtain⟨T,M⟩:∃T,zj (R.drop (k+1+1))=T:=⟨_,rfl⟩;rw[M]
 have Z:R.getD k 0+4294967296*(R.getD (k+1) 0+4294967296*T)=(R.getD k 0+R.getD (k+1) 0*4294967296)+P*(Q*(4294967296*T)):=by
  rw[<- Int.mul_assoc P Q,E]; omega
 rw[Z,Int.add_mul_ediv_left _ _ D6,Int.mul_comm Q,Int.mul_assoc,Int.add_mul_emod_self_left]
end Go.Proofs.YtffmbepfbienaaaGreat
/- Slices of zp in memory. -/
namespace Go.Proofs.YtffmbepfbienaaaGreat
section
open Go.RowKit
variable {l:List Int} {be cap g n o:Nat} {ao:Option Addr} {e t:Em} {v:Ei} {w w':Ef}
def zK (l:List Int):List Ei:=l.map (Value.int .u32)
theorem xS (l:List Int) (t:Nat) (h:t<l.length):(zK l)[t]? = some (Ey .u32 (l.getD t 0)):=by simp[zK,List.getD,h]
theorem yF (l:List Int):(zK l).length=l.length:=by simp[zK]
def Cells (w:Ef) (b o:Nat) (l:List Int):Prop:=∀t,t<l.length->w.cell? ⟨b,o+t,none⟩=some (Ey .u32 (l.getD t 0))
def aA (w:Ef) (v:Ei) (l:List Int):Prop:=
 yv l/\∃ao cap,v = Ex ao l.length cap/\l.length<=cap/\(ao=none->cap=0)/\(l≠ []->∃b o,ao=some ⟨b,o,none⟩/\b<w.heap.size/\Cells w b o l)
theorem Cells.below {b:Nat} (h:Cells w b o l) (H:Below w.heap.size w w') (E:b<w.heap.size):Cells w' b o l:=
 fun t ht=>(H.cell (p:=⟨b,o+t,none⟩) E).trans (h t ht)
theorem aA.ae (h:aA w v l) (E:zf w w'):aA w' v l:=by
 obtain⟨h0,ao,cap,rfl,M,T,I⟩:=h;refine⟨h0,ao,cap,rfl,M,T,fun X=> ?_⟩;obtain⟨b,o,rfl,H,hc⟩:=I X;exact⟨b,o,rfl,Nat.lt_of_lt_of_le H E.size,hc.below E H⟩
theorem aA.drew (h:aA w v l):aA w.drew v l:=h
theorem aA.nil (w:Ef):aA w (Ex none 0 0) []:=⟨z6,none,0,rfl,Ep _,fun _=>rfl,fun h=>absurd rfl h⟩
theorem aA.dW {cs:List Ei} (h:ai w g t cs.toArray) (E:yv l) (hc:∀t,t<l.length->cs[o+t]? = some (Ey .u32 (l.getD t 0))) (H:l.length<=cap) :
  aA w (Ex (some ⟨g,o,none⟩) l.length cap) l:=
 ⟨E,_,cap,rfl,H,(nofun),fun _=>⟨g,o,rfl,h.lt,fun t ht=>by rw[h.cell]; simpa using hc t ht⟩⟩
theorem aA.a_ (h:ai w g t (zK l).toArray) (E:yv l):aA w (Ex (some ⟨g,0,none⟩) l.length l.length) l:=
 aA.dW h E (fun t ht=>by rw[Nat.zero_add]; exact xS l t ht) (Ep _)
theorem aA.own (h:w.ownsRow be e 1 v n (zK l)) (T:yv l):aA w v l:=by
 obtain⟨M,E⟩:=h;rw[yF,Nat.mul_one]at M;subst M
 rcases E with⟨rfl,E⟩ | ⟨g,cap,cur,rfl,hg,hh,hn,hm,hs,ht⟩
 .
  obtain rfl:=List.eq_nil_of_length_eq_zero E;exact aA.nil w
 .
  refine⟨T,_,cap,rfl,hn,(nofun),fun _=>⟨g,0,rfl,ai.lt (w:=w) (t:=e) (cs:=cur) hh,fun t H=> ?_⟩⟩;rw[ai.cell (w:=w) (t:=e) (cs:=cur) hh,Nat.zero_add];have I:=xS l t H;rw[<- ht,List.getElem?_take,E9 D6]at I;simpa using I
theorem aA.cells (h:aA w (Ex ao n cap) l):yv l/\n=l.length/\n<=cap/\(0<n->∃b o,ao=some ⟨b,o,none⟩/\b<w.heap.size/\Cells w b o l):=by
 obtain⟨h0,M,E,e,Z,_,T⟩:=h
 injection e with X H Y
 subst X H Y;refine⟨h0,rfl,Z,fun I=>T ?_⟩;rintro rfl
 cases I
theorem aA.take (h:aA w (Ex ao n cap) l) {k:Nat} (hk:k<=l.length):aA w (Ex ao k cap) (l.take k):=by
 have E:ao=none->cap=0:=by
  obtain⟨_,M,I,e,_,E,_⟩:=h
  injection e with T e2 Z
  subst T Z;exact E
 obtain⟨h0,rfl,h1,X⟩:=h.cells;have e:(l.take k).length=k:=by rw[List.length_take]; omega
 refine⟨z8 h0 k,ao,cap,by rw[e],by omega,E,fun hn=> ?_⟩
 have H:0<k:=by
  rcases Nat.eq_zero_or_pos k with rfl | H
  . exact absurd List.take_zero hn
  . exact H
 obtain⟨b,o,rfl,Y,hc⟩:=X D6;refine⟨b,o,rfl,Y,fun t ht=> ?_⟩;rw[e]at ht;rw[hc t D6];simp[List.getD,List.getElem?_take,ht]
theorem aA.ak (h:aA w v l):∃ao cap,v = Ex ao l.length cap:=by obtain⟨_,ao,cap,e,_⟩:=h; exact⟨ao,cap,e⟩
theorem aA.ok (h:aA w v l):yv l:=h.1
theorem aA.one {x:Int} (h0:0<=x) (E:x<4294967296):aA (w.alloc (.cells #[Ey .u32 x] t)) (Ex (some ⟨w.heap.size,0,none⟩) 1 1) [x]:=
 aA.a_ (l:= [x]) (ai.new w t #[Ey .u32 x]) (zZ.2 ⟨⟨h0,E⟩,z6⟩)
theorem Us {size:Nat} {xs:List Ei} (h:w.ownsRow be e size v n xs):∀k,v.ownBlock=some k->be<=k:=by
 intro k E
 rcases h.2 with⟨rfl,_⟩ | ⟨g,cap,cur,rfl,hg,_⟩
 . cases E
 . cases E; exact hg
theorem ym {P:Program} {w:Ef} {ops:Array Oper} {rest:List Oper} {o:Oper} {a:Act} {Q:Exit->Act->Ef->Prop} (T:o.guard=none) (s x:Operand) (t:Em)
  (ho:o.op = .call { callee:= .builtin .append,args:=#[s,x],argTypes:=#[t,t] }) (be:Nat) (e:Em) (i:TypeInfo) (ht:P.underlying t=some (.slice e)) (hi:P.info? e=some i) (hz:i.zero=some (Ey .u32 0))
  (I:i.size=1) (Y:i.bytes=4) (v:Ei) (n:Nat) (l:List Int) (hs:a.eval s=v) (E:w.ownsRow be e 1 v n (zK l)) (y:Ei) (m:List Int) (hx:a.eval x=y) (hy:aA w y m)
  (hb:n+m.length<=1000000000) (M:be<=w.heap.size)
  (h:∀X w',w'.ownsRow be e 1 X (n+m.length) (zK (l++m))->w.grownBy w' v.ownBlock->(∀k,v.ownBlock=some k->be<=k)->wpList P ops Q rest (a.put o.dst X) w'):wpList P ops Q (o::rest) a w:=by
 obtain⟨it,ao,cap,rfl,h1,h3,h2⟩:=hy
 cases ao with
 | none=>
  obtain rfl:=h3 rfl;have hm:m = []:=List.eq_nil_of_length_eq_zero D6;subst hm;refine wpList_append_own_none T s x t ho be e i 1 ht hi v n (zK l) hs E (by simpa using hx) ?_;exact h v w (by simpa using E) (World.grownBy.refl _ _) (Us E)
 | some ad=>
  refine wpList_append_own w T s x t ho be e i (Ey .u32 0) 1 4 ht hi hz I Y rfl D8 v n (zK l) hs E ad m.length cap (zK m) hx (by simp[zK]) ?_ ?_ (by unfold maxLen; omega) D6 M ?_
  .
   intro j u Z
   have H:j<m.length:=by
    have:=(List.getElem?_eq_some_iff.1 Z).1;simpa[zK]using this
   obtain⟨b,o',e1,dP,hc⟩:=h2 (by rintro rfl; cases H)
   cases e1
   rw[xS m j H]at Z
   cases Z
   rw[Addr.add_lit]; exact hc j H
  .
   intro u hu;obtain⟨z,_,rfl⟩:=List.mem_map.1 hu;rfl
  .
   intro X w' h4 h5 _;exact h X w' (by simpa[zK]using h4) h5 (Us E)
theorem xi (xs:List Int) (k m:Nat) (x:Int) (h:xs.length=k):((zK xs++List.replicate (m+1) (Value.int .u32 0)).toArray.setIfInBounds k (Ey .u32 x))=(zK (xs ++ [x])++List.replicate m (Value.int .u32 0)).toArray:=by
 subst h;simp[zK,List.set_append,List.replicate_succ]
end
section
open Go.RowKit
variable {ah:Array Bool} {i:Nat}
section
variable {P:Program} {ops:Array Oper} {Q:Exit->Act->Ef->Prop} {md:Region.Mode}
def xL (ops:Array Oper) (ah:Array Bool):Nat:=((List.range ops.size).filter fun i=> !ah.getD i true).length
theorem Zk (h:i∈Region.ready md ops ah):i<ops.size/\ah.getD i true=false:=by
 unfold Region.ready at h;simp only[List.mem_filter,List.mem_range,Bool.and_eq_true,Bool.not_eq_true']at h;exact⟨h.1,h.2.1⟩
theorem vH (hi:i<ops.size) (h:ah.getD i true=false) :
  xL ops (ah.setIfInBounds i true)+1<=xL ops ah:=by
 have T:i<ah.size:=by
  rcases Er i ah.size with g | g
  . exact g
  . simp[Array.getD,Nat.not_lt.2 g]at h
 unfold xL
 have key:∀l:List Nat,l.Nodup->i∈l->((l.filter fun j=> !(ah.setIfInBounds i true).getD j true).length+1<=(l.filter fun j=> !ah.getD j true).length):=by
  intro l
  induction l with
  | nil=>intro _ H; cases H
  | cons x l ih=>
   intro X H;rw[List.nodup_cons]at X
   have E:∀j,j≠i->(ah.setIfInBounds i true).getD j true=ah.getD j true:=fun j M=>by
    simp[Array.getD_eq_getD_getElem?,Array.getElem?_setIfInBounds_ne (Ne.symm M)]
   by_cases hx:x=i
   .
    subst hx;have Z:(ah.setIfInBounds x true).getD x true=true:=by simp[Array.getD_eq_getD_getElem?,T]
    have Y:(l.filter fun j=> !(ah.setIfInBounds x true).getD j true)=l.filter fun j=> !ah.getD j true:=
     List.filter_congr fun j M=>by rw[E j (fun e=>X.1 (e▸M))]
    simp only[List.filter_cons,Z,h,Y];simp
   .
    have I:i∈l:=by
     cases H with
     | head=>exact absurd rfl hx
     | tail _ H=>exact H
    have:=ih X.2 I;simp only[List.filter_cons,E x hx]
    split
    . simp only[List.length_cons]; omega
    . exact this
 exact key _ List.nodup_range (List.mem_range.2 hi)
theorem vI (h:xL ops ah=0):Region.ready md ops ah = []:=by
 apply List.eq_nil_iff_forall_not_mem.2
 intro i H;obtain⟨I,E⟩:=Zk H
 have:i∈(List.range ops.size).filter fun i=> !ah.getD i true:=by
  rw[List.mem_filter];exact⟨List.mem_range.2 I,by rw[E]; rfl⟩
 unfold xL at h;rw[List.length_eq_zero_iff.1 h]at this
 cases this
theorem Xd (I:Array Bool->Act->Ef->Prop)
  (step:∀ah a w i,I ah a w->i∈Region.ready md ops ah->wpOp P ops Q i (fun a' w'=>I (ah.setIfInBounds i true) a' w') a w)
  (done:∀ah a w,I ah a w->Region.ready md ops ah = []->Q .normal a w) :
  ∀E ah a w,I ah a w->xL ops ah<=E->wpAny P md ops Q E ah a w:=by
 intro E
 induction E with
 | zero=>
  intro ah a w M T;have H:=vI (md:=md) (Nat.le_zero.1 T);exact⟨H,done _ _ _ M H⟩
 | succ E ih=>
  intro ah a w M T;refine⟨fun H=>done _ _ _ M H,fun i X=>wpOp_mono (fun a' w' h=>ih _ a' w' h ?_) (step _ _ _ i M X)⟩;obtain⟨Z,Y⟩:=Zk X;have:=vH (ops:=ops) Z Y;omega
theorem YU {id:Nat} {a:Act} {w:Ef} (E:P.follows .mixedOrders=true) (I:Array Bool->Act->Ef->Prop)
  (start:I (Array.replicate ops.size false) a w.drew)
  (step:∀ah a w i,I ah a w->i∈Region.ready .any ops ah->wpOp P ops Q i (fun a' w'=>I (ah.setIfInBounds i true) a' w') a w)
  (done:∀ah a w,I ah a w->Region.ready .any ops ah = []->Q .normal a w):(Code.region id ops true).wp P Q a w:=
 wp_region_any E (Xd I step done _ _ _ _ start (by
  unfold xL;have:=List.length_filter_le (fun i=> !(Array.replicate ops.size false).getD i true) (List.range ops.size)
  rwa[List.length_range]at this))
end
end
end Go.Proofs.YtffmbepfbienaaaGreat
/- A region that draws its order, walked once in the order of the text: each operation is shown to do its work in whatever world its forerunners leave. -/
namespace Go.Proofs.YtffmbepfbienaaaGreat
open Go.RowKit
variable {a a' b be:Act} {ah:Array Bool} {L:Array Oper} {l rest:List Oper} {g id n:Nat} {D:Nat->Bool} {r:Next} {o:Oper} {ρ:Operand->Ei} {t:Tmp} {v x x0 x1 cN ci dk cy cg dc cZ cn br bl x2 d9 bt ce cx eS ec dt dx ek eW x3 f9 dy er eM ed f8 f7 fd ey em x4 gi g9 gt gk gn fe gj gd gr fl x5 gp ft gI gE gC gG gH gF gJ gB x6 gD gA gL gM gW gP gT gO gR gV x7 ik iq ij ig i4 h9 gZ gY i5 ip x8 i6 ir i8 i7 x9:Ei} {N:Ei->Ef->Prop} {W W' w:Ef} {Φ:Ef->Prop} {d:_}
def JA (P:Program) (o:Oper) (ρ : Operand->Ei) (W:Ef) (bf:List PanicEntry->Ef->Prop) (N:Ei->Ef->Prop):Prop:=
 match (execOp ρ o).run P W with
 | .ok (.value v) W'=>N v W'
 | .ok .skip W'=>N En W'
 | .ok (.enter f args) W'=>Calls P f args W' fun
   | .returned v,W''=>N v W''
   | .panicked c,W''=>bf c W''
   | .outgrown,_=>False
 | .ok (.row row args) W'=>Rows P row args W' N
 | .halt (.panic v) W'=>bf [{ v,recovered:=false }] W'
 | _=>False
namespace aj
def jr (ops:Array Oper) (k:Nat):List Nat:=
 match ops[k]? with
 | none=> []
 | some o=>(o.after.toList.filter (Region.binds .any)).map (·.on)
def yw (ops:Array Oper) (j:Nat):Option Tmp:=(ops[j]?).bind (·.dst)
def DA (ops:Array Oper) (o:Oper):List Tmp:=o.looksAt ops
def at_ (a:Act):Option Tmp->Ei
 | some t=>(a.tmps[t]?).getD En
 | none=>En
def yX (ops:Array Oper) (a:Act) (j:Nat):Ei:=at_ a (yw ops j)
inductive cU (ops:Array Oper):Nat->Nat->Prop
 | one {j k} : j∈jr ops k->cU ops j k
 | more {i j k} : cU ops i j->j∈jr ops k->cU ops i k
def qU (ops:Array Oper):Nat->List (List Nat)
 | 0=> []
 | k+1=>let c:=qU ops k; c ++ [((jr ops k)++(jr ops k).flatMap fun j=>c.getD j []).eraseDups]
def tidy (ops:Array Oper) (n:Nat):Bool:=
 let c:=qU ops ops.size
 let ks:=List.range ops.size
 Region.noSelect ops &&
 (ks.all fun k=>(jr ops k).all fun j=>decide (j<k)) &&
 (ks.all fun k=>match yw ops k with
  | none=>true
  | some t=>decide (t<n)&&ks.all fun j=>j==k||yw ops j != some t) &&
 (ks.all fun k=>match ops[k]? with
  | none=>true
  | some o=>(o.looksAt ops).all fun t=>ks.all fun j=>yw ops j != some t||(c.getD k []).contains j||(c.getD j []).contains k)
def cX (ops:Array Oper) (b9:Nat->Bool) (pre:Nat->List (Nat×Option Tmp)) (post:Nat->List Nat):Bool:=
 let c:=qU ops ops.size
 ((List.range ops.size).all fun k=>((pre k).all fun p=>(c.getD k []).contains p.1&&yw ops p.1==p.2)&&(b9 k||(yw ops k).isSome)&&(post k).all fun j=>(c.getD j []).contains k) &&
 (pre ops.size).all fun p=>decide (p.1<ops.size)&&yw ops p.1==p.2
theorem xz (ops:Array Oper) (n:Nat):(qU ops n).length=n:=by
 induction n with
 | zero=>rfl
 | succ n ih=>simp[qU,ih]
theorem Qm (ops:Array Oper) {n k:Nat} (h:k<n):(qU ops n).getD k []=((jr ops k)++(jr ops k).flatMap fun j=>(qU ops k).getD j []).eraseDups:=by
 induction n with
 | zero=>omega
 | succ n ih=>
  simp only[qU]
  rcases Er k n with E | E
  .
   rw[List.getD_eq_getElem?_getD,List.getElem?_append_left (by rw[xz]; exact E),<- List.getD_eq_getElem?_getD];exact ih E
  .
   obtain rfl:k=n:=D6
   rw[List.getD_eq_getElem?_getD,List.getElem?_append_right (by rw[xz]; omega),xz];simp
theorem jt (ops:Array Oper):∀ (n k j:Nat),j∈(qU ops n).getD k []->cU ops j k:=by
 intro n k
 induction k using Nat.strongRecOn generalizing n with
 | _ k ih=>
  intro j E
  rcases Er k n with I | I
  .
   rw[Qm ops I,List.mem_eraseDups,List.mem_append,List.mem_flatMap]at E
   rcases E with E | ⟨m,M,E⟩
   . exact .one E
   .
    rcases Er m k with H | H
    . exact .more (ih m H k j E) M
    .
     rw[List.getD_eq_getElem?_getD,List.getElem?_eq_none (by rw[xz]; exact H)]at E
     cases E
  .
   rw[List.getD_eq_getElem?_getD,List.getElem?_eq_none (by rw[xz]; exact I)]at E
   cases E
structure Tidy (ops:Array Oper) (n:Nat):Prop where
 eG:∀ (j:Nat) (o:Oper) cs b,ops[j]? = some o->o.op≠ .select cs b
 back:∀j k,j∈jr ops k->j<k
 inb:∀k t,yw ops k=some t->t<n
 once:∀j k t,yw ops j=some t->yw ops k=some t->j=k
 look:∀k o t j,ops[k]? = some o->t∈o.looksAt ops->yw ops j=some t->cU ops j k\/cU ops k j
theorem qY {ops:Array Oper} {k t:Nat} (h:yw ops k=some t):k<ops.size:=by
 rcases Er k ops.size with g | g
 . exact g
 . unfold yw at h; rw[Array.getElem?_eq_none g]at h; cases h
theorem jD {ops:Array Oper} {k:Nat} (h:ops[k]? = some o):k<ops.size:=(Array.getElem?_eq_some_iff.1 h).1
theorem kF {ops:Array Oper} (h:tidy ops n=true):Tidy ops n:=by
 unfold tidy at h;simp only[Bool.and_eq_true,List.all_eq_true,List.mem_range]at h;obtain⟨⟨⟨Y,T⟩,M⟩,X⟩:=h;refine⟨fun j o cs b=>Region.noSelect_spec Y j o cs b,?_,?_,?_,?_⟩
 .
  intro j k E
  rcases Er k ops.size with g | g
  . exact of_decide_eq_true (T k g j E)
  . unfold jr at E; rw[Array.getElem?_eq_none g]at E; cases E
 .
  intro k t H;have:=M k (qY H);rw[H]at this;simp only[Bool.and_eq_true,decide_eq_true_eq]at this;exact this.1
 .
  intro j k t E H;have:=M k (qY H);rw[H]at this;simp only[Bool.and_eq_true,List.all_eq_true,List.mem_range,Bool.or_eq_true,beq_iff_eq,bne_iff_ne]at this
  rcases this.2 j (qY E)with e | e
  . exact e
  . exact absurd E e
 .
  intro k o t j I ht E;have:=X k (jD I);rw[I]at this;simp only[List.all_eq_true,List.mem_range,Bool.or_eq_true,bne_iff_ne,List.contains_iff_mem]at this
  rcases this t ht j (qY E)with(e | e) | e
  . exact absurd E e
  . exact .inl (jt _ _ _ _ e)
  . exact .inr (jt _ _ _ _ e)
theorem cU.lt {ops:Array Oper} {j k:Nat} (T:Tidy ops n) (h:cU ops j k):j<k:=by
 induction h with
 | one h=>exact T.back _ _ h
 | more _ h ih=>have:=T.back _ _ h; omega
theorem cU.trans {ops:Array Oper} {i j k:Nat} (h:cU ops i j) (E:cU ops j k):cU ops i k:=by
 induction E with
 | one E=>exact .more h E
 | more _ E ih=>exact .more ih E
structure eY (ops:Array Oper) (b9:Nat->Bool) (pre:Nat->List (Nat×Option Tmp)) (post:Nat->List Nat):Prop where
 aft:∀k j,k<ops.size->j∈post k->cU ops k j
 fore:∀k p,k<ops.size->p∈pre k->cU ops p.1 k/\yw ops p.1=p.2
 some_:∀k,k<ops.size->b9 k=false->∃t,yw ops k=some t
 fin:∀p,p∈pre ops.size->p.1<ops.size/\yw ops p.1=p.2
theorem kG {ops:Array Oper} {b9:Nat->Bool} {pre:Nat->List (Nat×Option Tmp)} {post:Nat->List Nat} (h:cX ops b9 pre post=true):eY ops b9 pre post:=by
 unfold cX at h;simp only[Bool.and_eq_true,List.all_eq_true,List.mem_range,Bool.or_eq_true,List.contains_iff_mem,beq_iff_eq,decide_eq_true_eq]at h;refine⟨fun k j E T=>jt _ _ _ _ ((h.1 k E).2 j T),fun k p E H=> ?_,fun k E hc=> ?_,fun p H=>h.2 p H⟩
 .
  obtain⟨M,I⟩:=(h.1 k E).1.1 p H;exact⟨jt _ _ _ _ M,I⟩
 .
  rcases(h.1 k E).1.2 with e | e
  . rw[hc]at e; cases e
  . exact Option.isSome_iff_exists.1 e
section
variable (P:Program) (ops:Array Oper) (Q:Exit->Act->Ef->Prop) (J:(Nat->Bool)->(Nat->Ei)->Ef->Prop) (b9:Nat->Bool) (V:Nat->Ei->Prop) (G:Nat->Ei->Ef->Prop) (Sx:Nat->Ef->Ef->Prop) (bf:List PanicEntry->Ef->Prop) (pre:Nat->List (Nat×Option Tmp)) (post:Nat->List Nat)
def aL (k:Nat) (a:Act) (D:Nat->Bool) (v:Nat->Ei) (W:Ef):Prop:=∀p∈pre k,b9 p.1=true->D p.1=true/\v p.1=at_ a p.2/\G p.1 (at_ a p.2) W
def dv (o:Oper) (x:Ei):Ei:=match o.dst with | some _=>x | none=>En
def upd (D:Nat->Bool) (k:Nat):Nat->Bool:=fun j=>j==k||D j
def aT (v:Nat->Ei) (k:Nat) (x:Ei):Nat->Ei:=fun j=>if j=k then x else v j
def bC (k:Nat) (D:Nat->Bool):Prop:=D k=false/\∀j∈post k,D j=false
def bm (k:Nat) (o:Oper) (a:Act) (D:Nat->Bool) (v:Nat->Ei) (W:Ef):Prop:=
 if Region.wanted o (yielded ops a.tmps)=true then JA P o a.eval W bf (fun x W'=>Sx k W W'/\J (upd D k) (aT v k (dv o x)) W'/\G k (dv o x) W'/\V k (dv o x))else J (upd D k) (aT v k En) W/\G k En W/\V k En
def yJ (o:Oper) (a:Act) (x:Ei) (W:Ef):Prop:=
 if Region.wanted o (yielded ops a.tmps)=true then(execOp a.eval o).run P W = .ok (.value x) W\/((execOp a.eval o).run P W = .ok .skip W/\x=En)else x=En
def RC:Nat->List Oper->Act->Prop
 | k,[],a=>∀D v W,(∀j,j<k->D j=b9 j)->J D v W->aL b9 G pre k a D v W->Q .normal a W
 | k,o::rest,a=>
  if b9 k=true then(∀D v W,bC post k D->J D v W->aL b9 G pre k a D v W->bm P ops J V G Sx bf k o a D v W)/\∀x,V k x->RC (k+1) rest (a.put o.dst x)
  else ∃x,(∀D v W,bC post k D->J D v W->aL b9 G pre k a D v W->yJ P ops o a x W)/\RC (k+1) rest (a.put o.dst x)
end
section
variable {P:Program} {ops:Array Oper} {Q:Exit->Act->Ef->Prop} {J:(Nat->Bool)->(Nat->Ei)->Ef->Prop} {b9:Nat->Bool} {V:Nat->Ei->Prop} {G:Nat->Ei->Ef->Prop} {Sx:Nat->Ef->Ef->Prop} {bf:List PanicEntry->Ef->Prop} {pre:Nat->List (Nat×Option Tmp)} {post:Nat->List Nat}
theorem cJ (xs:Nat->Ei) (hx:∀k,V k (xs k)):∀ (l:List Oper) (k:Nat) (a:Act),RC P ops Q J b9 V G Sx bf pre post k l a->
  ∃ (E:Nat->Act) (y:Nat->Ei),E k=a/\(∀i o,l[i]? = some o->E (k+i+1)=(E (k+i)).put o.dst (y (k+i))/\
   (b9 (k+i)=true->y (k+i)=xs (k+i)/\∀D v W,bC post (k+i) D->J D v W->aL b9 G pre (k+i) (E (k+i)) D v W->bm P ops J V G Sx bf (k+i) o (E (k+i)) D v W)/\
   (b9 (k+i)=false->∀D v W,bC post (k+i) D->J D v W->aL b9 G pre (k+i) (E (k+i)) D v W->yJ P ops o (E (k+i)) (y (k+i)) W))/\
   (∀D v W,(∀j,j<k+l.length->D j=b9 j)->J D v W->aL b9 G pre (k+l.length) (E (k+l.length)) D v W->Q .normal (E (k+l.length)) W):=by
 intro l
 induction l with
 | nil=>
  intro k a h;refine⟨fun _=>a,xs,rfl,fun i o H=>by simp at H,?_⟩;exact h
 | cons o rest ih=>
  intro k a h
  have key:∃x,RC P ops Q J b9 V G Sx bf pre post (k+1) rest (a.put o.dst x)/\
    (b9 k=true->x=xs k/\∀D v W,bC post k D->J D v W->aL b9 G pre k a D v W->bm P ops J V G Sx bf k o a D v W)/\
    (b9 k=false->∀D v W,bC post k D->J D v W->aL b9 G pre k a D v W->yJ P ops o a x W):=by
   unfold RC at h
   split at h
   .
    rename_i hc
    exact⟨xs k,h.2 _ (hx k),fun _=>⟨rfl,h.1⟩,fun I=>by rw[hc]at I; cases I⟩
   .
    rename_i hc
    obtain⟨x,h1,h2⟩:=h;exact⟨x,h2,fun I=>absurd I hc,fun _=>h1⟩
  obtain⟨x,Y,T,M⟩:=key;obtain⟨E,y,ht,Z,X⟩:=ih (k+1) _ Y;refine⟨fun i=>if i<=k then a else E i,fun i=>if i<=k then x else y i,by simp,?_,?_⟩
  .
   intro i o' H
   cases i with
   | zero=>
    simp only[List.getElem?_cons_zero,Option.some.injEq]at H;subst H;simp only[Nat.add_zero,Ep,if_true,E_ (show ¬(k+1<=k) by omega),ht];exact⟨trivial,T,M⟩
   | succ i=>
    rw[List.getElem?_cons_succ]at H;have:=Z i o' H;have e:k+1+i=k+(i+1):=D6
    rw[e]at this;simp only[E_ (show ¬(k+(i+1)<=k) by omega),E_ (show ¬(k+(i+1)+1<=k) by omega)];exact this
  .
   have e:k+1+rest.length=k+(o::rest).length:=by simp; omega
   rw[e]at X;simp only[E_ (show ¬(k+(o::rest).length<=k) by simp)];exact X
theorem Zl {ops:Array Oper} (h:Operand.tmp t∈o.op.operands):t∈o.looksAt ops:=
 List.mem_append_left _ (List.mem_filterMap.2 ⟨.tmp t,by simpa using h,rfl⟩)
theorem kS (E:∀cs c,o.op≠ .select cs c) (h:∀t,t∈o.looksAt ops->a.tmps[t]? = b.tmps[t]?):execOp a.eval o=execOp b.eval o:=
 execOp_congr o E fun x H=>by
  cases x with
  | tmp t=>simp only[Act.eval,Array.getD_eq_getD_getElem?,h t (Zl H)]
  | _=>rfl
theorem jP (h:∀t,t∈o.looksAt ops->a.tmps[t]? = b.tmps[t]?):Region.wanted o (yielded ops a.tmps)=Region.wanted o (yielded ops b.tmps):=by
 unfold Region.wanted
 cases hg:o.guard with
 | none=>rfl
 | some gw=>
  obtain⟨g,E⟩:=gw
  have:yielded ops a.tmps g=yielded ops b.tmps g:=by
   unfold yielded
   cases hd:(ops[g]?).bind (·.dst)with
   | none=>rfl
   | some t=>
    have:=h t (List.mem_append_right _ (by simp[hg,hd]));simp[this]
  simp only[this]
theorem dE {K:Act->Ef->Prop} (h:JA P o a.eval W bf N) (H:∀x W',N x W'->K (a.put o.dst x) W')
  (M:∀c W',bf c W'->Q (.panic c) a W'):o.wp P a W K Q:=by
 unfold JA at h;unfold Oper.wp
 split at h
 . rename_i heq; rw[heq,Oper.upon_value]; exact H _ _ h
 . rename_i heq; rw[heq,Oper.upon_skip]; exact H _ _ h
 .
  rename_i heq
  rw[heq,Oper.upon_enter];refine Calls.mono h fun e I E=> ?_
  cases e with
  | returned v=>exact H _ _ E
  | panicked c=>exact M _ _ E
  | outgrown=>exact E.elim
 . rename_i heq; rw[heq,Oper.upon_row]; exact Rows.mono h fun v I E=>H _ _ E
 . rename_i heq; rw[heq,Oper.upon_panic]; exact M _ _ h
 . exact h.elim
theorem Zm {d:Option Tmp} (h:d≠some t):(a.put d v).tmps[t]? = a.tmps[t]? :=by
 cases d with
 | none=>rfl
 | some d=>
  have:d≠t:=fun e=>h (e▸rfl);simp[Act.put,Array.getElem?_setIfInBounds_ne this]
theorem qB (h:t<a.tmps.size):(a.put (some t) v).tmps[t]? = some v:=by
 simp[Act.put,h]
theorem Yk (a:Act) (d:Option Tmp) (v:Ei):(a.put d v).tmps.size=a.tmps.size:=by cases d<;>simp[Act.put]
theorem je (a:Act) (d:Option Tmp) (v:Ei):(a.put d v).defers=a.defers:=by cases d<;>rfl
def done (b9:Nat->Bool) (ah:Array Bool):Nat->Bool:=fun j=>b9 j&&ah.getD j false
structure Inv (P:Program) (ops:Array Oper) (J:(Nat->Bool)->(Nat->Ei)->Ef->Prop) (b9:Nat->Bool) (V:Nat->Ei->Prop) (G:Nat->Ei->Ef->Prop) (pre:Nat->List (Nat×Option Tmp)) (post:Nat->List Nat) (be:Act) (ah:Array Bool) (a:Act) (W:Ef):Prop where
 j:J (done b9 ah) (yX ops a) W
 n:ah.size=ops.size
 closed:∀k,ah.getD k false=true->∀i∈jr ops k,ah.getD i false=true
 defs:a.defers=be.defers
 size:a.tmps.size=be.tmps.size
 old:∀t,(∀k,ah.getD k false=true->yw ops k≠some t)->a.tmps[t]? = be.tmps[t]?
 call:∀k,ah.getD k false=true->b9 k=true->G k (yX ops a k) W/\V k (yX ops a k)
 pur:∀k o t,ah.getD k false=true->b9 k=false->ops[k]? = some o->yw ops k=some t->∃b:Act,
  (∀u j,cU ops j k->yw ops j=some u->b.tmps[u]? = a.tmps[u]?)/\(∀u,u∈o.looksAt ops->(∀j,cU ops j k->yw ops j≠some u)->b.tmps[u]? = be.tmps[u]?)/\
  (∀D v W,bC post k D->J D v W->aL b9 G pre k a D v W->yJ P ops o b (yX ops a k) W)/\∃D v W,bC post k D/\J D v W/\aL b9 G pre k a D v W
theorem Inv.ei (I:Inv P ops J b9 V G pre post be ah a W) {j k:Nat} (h:cU ops j k) (E:ah.getD k false=true):ah.getD j false=true:=by
 induction h with
 | one h=>exact I.closed _ E _ h
 | more _ h ih=>exact ih (I.closed _ E _ h)
theorem jf {d:Option Tmp} (h:∀t,d=some t->a.tmps[t]? = b.tmps[t]?):at_ a d=at_ b d:=by
 cases d with
 | none=>rfl
 | some t=>simp only[at_,h t rfl]
theorem yx {k:Nat} {v:Nat->Ei} (h:∀p∈pre k,at_ a p.2=at_ b p.2) (H:aL b9 G pre k a D v W):aL b9 G pre k b D v W:=
 fun p E hc=>h p E▸H p E hc
theorem cO {E:Operand->Ei} (e:execOp ρ o=execOp E o) (h:JA P o ρ W bf N):JA P o E W bf N:=by
 unfold JA at *
 rwa[<- e]
theorem kU (E:∀cs c,o.op≠ .select cs c) (h:∀t,t∈o.looksAt ops->a.tmps[t]? = b.tmps[t]?) (H:yJ P ops o a x W):yJ P ops o b x W:=by
 unfold yJ at *
 rwa[<- jP h,<- kS E h]
theorem cS {k:Nat} {v:Nat->Ei} (H:∀cs c,o.op≠ .select cs c) (h:∀t,t∈o.looksAt ops->a.tmps[t]? = b.tmps[t]?) (E:bm P ops J V G Sx bf k o a D v W):bm P ops J V G Sx bf k o b D v W:=by
 unfold bm at *;rw[<- jP h]
 split
 . rename_i hw; rw[E9 hw]at E; exact cO (kS H h) E
 . rename_i hw; rwa[E_ hw]at E
theorem Uw {y:Ei} (h:yJ P ops o a x W) (E:yJ P ops o a y W):x=y:=by
 unfold yJ at *
 split at h
 .
  rename_i hw
  rw[E9 hw]at E
  rcases h with h | ⟨h,rfl⟩<;>rcases E with E | ⟨E,rfl⟩<;>rw[h]at E<;>simp at E; try exact E
 .
  rename_i hw
  rw[E_ hw]at E;rw[h,E]
theorem XG {E:Nat->Act} {y:Nat->Ei} (h0:E 0=be) (H:∀i o,ops[i]? = some o->E (i+1)=(E i).put o.dst (y i)) :
  ∀k,k<=ops.size->(E k).tmps.size=be.tmps.size/\(E k).defers=be.defers:=by
 intro k
 induction k with
 | zero=>intro _; rw[h0]; exact⟨rfl,rfl⟩
 | succ k ih=>
  intro X;obtain⟨T,M⟩:=ih D6;obtain⟨o,I⟩:∃o,ops[k]? = some o:=⟨_,Array.getElem?_eq_getElem D6⟩;rw[H k o I];exact⟨(Yk _ _ _).trans T,(je _ _ _).trans M⟩
theorem ZR (T:Tidy ops n) {E:Nat->Act} {y:Nat->Ei} {be:Act} (hn:be.tmps.size=n) (h0:E 0=be) (H:∀i o,ops[i]? = some o->E (i+1)=(E i).put o.dst (y i)) :
  ∀k,k<=ops.size->(∀j t,j<k->yw ops j=some t->(E k).tmps[t]? = some (y j))/\(∀t,(∀j,j<k->yw ops j≠some t)->(E k).tmps[t]? = be.tmps[t]?):=by
 intro k
 induction k with
 | zero=>intro _; rw[h0]; exact⟨fun j t h=>absurd h (Nat.not_lt_zero _),fun _ _=>rfl⟩
 | succ k ih=>
  intro hk;obtain⟨Y,M⟩:=ih D6;obtain⟨o,I⟩:∃o,ops[k]? = some o:=⟨_,Array.getElem?_eq_getElem D6⟩;have hd:yw ops k=o.dst:=by unfold yw; rw[I]; rfl
  have X:=(XG h0 H k D6).1;rw[H k o I];refine⟨fun j t Z ht=> ?_,fun t ht=> ?_⟩
  .
   rcases Er j k with g | g
   .
    rw[Zm,Y j t g ht];intro e;rw[<- hd]at e;have:=T.once j k t ht e;omega
   .
    obtain rfl:j=k:=D6
    rw[hd]at ht;rw[ht,qB];rw[X,hn];exact T.inb j t (hd.trans ht)
  .
   rw[Zm (fun e=>ht k D6 (hd.trans e))];exact M t fun j Z=>ht j D6
theorem qL {i k:Nat} (h:(ah.setIfInBounds i true).getD k false=true):k=i\/ah.getD k false=true:=by
 by_cases e:i=k
 . exact .inl e.symm
 . rw[getD_set_ne false e]at h; exact .inr h
theorem qG {i:Nat} (h:i<ah.size):(ah.setIfInBounds i true).getD i false=true:=by simp[h]
theorem kH {k j:Nat} (E:ops[k]? = some o):j∈jr ops k↔∃e∈o.after,Region.binds .any e=true/\e.on=j:=by
 unfold jr;rw[E];simp[and_assoc]
theorem Kw (S:eY ops b9 pre post) {be:Act} (T:Tidy ops be.tmps.size) {ah:Array Bool} {a:Act} {W:Ef} (I:Inv P ops J b9 V G pre post be ah a W)
  {E:Nat->Act} {y:Nat->Ei} (h0:E 0=be) (hs:∀i o,ops[i]? = some o->E (i+1)=(E i).put o.dst (y i))
  (hc:∀i,i<ops.size->ah.getD i false=true->b9 i=true->y i=yX ops a i)
  (hp:∀i o,ops[i]? = some o->b9 i=false->∀D v W,bC post i D->J D v W->aL b9 G pre i (E i) D v W->yJ P ops o (E i) (y i) W) :
  ∀k,k<ops.size->(∀j,cU ops j k->ah.getD j false=true)->
   (∀o,ops[k]? = some o->∀t,t∈o.looksAt ops->(∀j,cU ops j k->yw ops j=some t->(E k).tmps[t]? = a.tmps[t]?)/\((∀j,cU ops j k->yw ops j≠some t)->(E k).tmps[t]? = be.tmps[t]?))/\
   (∀p∈pre k,at_ (E k) p.2=at_ a p.2)/\(ah.getD k false=true->y k=yX ops a k):=by
 intro k
 induction k using Nat.strongRecOn with
 | _ k ih=>
  intro hk hl
  have sl:∀j t,cU ops j k->yw ops j=some t->(E k).tmps[t]? = a.tmps[t]? :=fun j t H ht=>by
   have Z:=H.lt T;have:=(ih j Z D6 fun i hi=>hl i (hi.trans H)).2.2 (hl j H);rw[(ZR T rfl h0 hs k D6).1 j t Z ht,this];unfold yX at_;simp only[ht];have hb:t<a.tmps.size:=by rw[I.size]; exact T.inb j t ht
   rw[Array.getElem?_eq_getElem hb]; rfl
  have A1:∀o,ops[k]? = some o->∀t,t∈o.looksAt ops->(∀j,cU ops j k->yw ops j=some t->(E k).tmps[t]? = a.tmps[t]?)/\((∀j,cU ops j k->yw ops j≠some t)->(E k).tmps[t]? = be.tmps[t]?):=fun o Y t ht=>
   ⟨fun j H M=>sl j t H M,fun hn=>(ZR T rfl h0 hs k D6).2 t fun j Z M=>by
    rcases T.look k o t j Y ht M with h | h
    . exact hn j h M
    . have:=h.lt T; omega⟩
  have A2:∀p∈pre k,at_ (E k) p.2=at_ a p.2:=fun p hp=>by
   obtain⟨h1,h2⟩:=S.fore k p hk hp;exact jf fun t ht=>sl p.1 t h1 (h2.trans ht)
  refine⟨A1,A2,fun dP=> ?_⟩
  cases hck:b9 k with
  | true=>exact hc k hk dP hck
  | false=>
   obtain⟨t,ht⟩:=S.some_ k hk hck;obtain⟨o,Y⟩:∃o,ops[k]? = some o:=⟨_,Array.getElem?_eq_getElem hk⟩;obtain⟨b,b1,b2,P1,D1,v1,W1,C1,J1,F1⟩:=I.pur k o t dP hck Y ht;have F':aL b9 G pre k (E k) D1 v1 W1:=yx (fun p hp=>(A2 p hp).symm) F1;refine Uw (kU (fun cs c=>T.eG k o cs c Y) (fun u hu=> ?_) (hp k o Y hck D1 v1 W1 C1 J1 F')) (P1 D1 v1 W1 C1 J1 F1)
   by_cases hw:∃j,cU ops j k/\yw ops j=some u
   .
    obtain⟨j,H,X⟩:=hw;exact((A1 o Y u hu).1 j H X).trans (b1 u j H X).symm
   .
    have hn:∀j,cU ops j k->yw ops j≠some u:=fun j H X=>hw ⟨j,H,X⟩;exact((A1 o Y u hu).2 hn).trans (b2 u hu hn).symm
theorem j8 (M:∀v,J (fun _=>false) v W):Inv P ops J b9 V G pre post be (Array.replicate ops.size false) be W:=by
 have H:∀k,(Array.replicate ops.size false).getD k false=true->False:=fun k E=>by
  simp only[Array.getD_eq_getD_getElem?,Array.getElem?_replicate]at E
  split at E<;>cases E
 have I:done b9 (Array.replicate ops.size false)=fun _=>false:=funext fun k=>by
  unfold done
  cases E:(Array.replicate ops.size false).getD k false with
  | true=>exact(H k E).elim
  | false=>simp
 exact⟨I▸M _,by simp,fun k E=>(H k E).elim,rfl,rfl,fun _ _=>rfl,fun k E=>(H k E).elim,fun k _ _ E=>(H k E).elim⟩
theorem cz (ht:tidy ops be.tmps.size=true) (iJ:cX ops b9 pre post=true)
  (hV:∀k,∃x,V k x) (iN:∀D v v' W,(∀j,D j=true->v j=v' j)->J D v W->J D v' W)
  (hG:∀D v k j W W' x,j≠k->b9 j=true->b9 k=true->J D v W->Sx k W W'->G j x W->G j x W')
  (hP:∀a W c,a.defers=be.defers->bf c W->Q (.panic c) a W)
  (h:RC P ops Q J b9 V G Sx bf pre post 0 ops.toList be) :
  ∀ah a W i,Inv P ops J b9 V G pre post be ah a W->i∈Region.ready .any ops ah->wpOp P ops Q i (fun a' W'=>Inv P ops J b9 V G pre post be (ah.setIfInBounds i true) a' W') a W:=by
 have T:=kF ht;have S:=kG iJ;intro ah a W i I hi;obtain⟨iM,o,ho,iO⟩:=mem_ready.1 hi;have iA:i<ops.size:=jD ho;have hd:yw ops i=o.dst:=by unfold yw; rw[ho]; rfl
 have iu:∀j∈jr ops i,ah.getD j false=true:=fun j H=>by
  obtain⟨e,he,hb,rfl⟩:=(kH ho).1 H;exact iO e he hb
 have hl:∀j,cU ops j i->ah.getD j false=true:=fun j H=>by
  cases H with
  | one h=>exact iu j h
  | more h1 h2=>exact I.ei h1 (iu _ h2)
 have iv:¬ah.getD i false=true:=fun hc=>by
  have iW:i<ah.size:=I.n▸iA;simp[iW]at iM hc;rw[iM]at hc; cases hc
 obtain⟨xs,hx,jd⟩:∃xs:Nat->Ei,(∀k,V k (xs k))/\∀k,V k (yX ops a k)->xs k=yX ops a k:=by
  classical
  refine⟨fun k=>if V k (yX ops a k)then yX ops a k else(hV k).choose,fun k=> ?_,fun k E=>by simp only[E9 E]⟩
  by_cases E:V k (yX ops a k)
  . simp only[E9 E]; exact E
  . simp only[E_ E]; exact(hV k).choose_spec
 obtain⟨tr,y,h0,hs,hf⟩:=cJ xs hx ops.toList 0 be h
 have iT:∀i o,ops[i]? = some o->tr (i+1)=(tr i).put o.dst (y i):=fun i o ho=>by
  have:=(hs i o (by simpa using ho)).1;simpa using this
 have iS:∀i,i<ops.size->ah.getD i false=true->b9 i=true->y i=yX ops a i:=fun i hi iU M=>by
  have:=(hs i ops[i] (by simp[hi])).2.1;simp only[Nat.zero_add]at this;exact(this M).1.trans (jd i (I.call i iU M).2)
 have iI:∀i o,ops[i]? = some o->b9 i=false->∀D v W,bC post i D->J D v W->aL b9 G pre i (tr i) D v W->yJ P ops o (tr i) (y i) W:=fun i o ho M=>by
  have:=(hs i o (by simpa using ho)).2.2;simp only[Nat.zero_add]at this;exact this M
 obtain⟨A1,A2,-⟩:=Kw S T I h0 iT iS iI i iA hl
 have A1:∀t,t∈o.looksAt ops->(tr i).tmps[t]? = a.tmps[t]? :=fun t ht=>by
  by_cases hw:∃j,cU ops j i/\yw ops j=some t
  .
   obtain⟨j,H,iz⟩:=hw;exact(A1 o ho t ht).1 j H iz
  .
   rw[(A1 o ho t ht).2 fun j H iz=>hw ⟨j,H,iz⟩,I.old t fun j H iz=> ?_]
   rcases T.look i o t j ho ht iz with h | h
   . exact hw ⟨j,h,iz⟩
   . exact iv (I.ei h H)
 have F:aL b9 G pre i a (done b9 ah) (yX ops a) W:=fun p hp iL=>by
  obtain⟨h1,h2⟩:=S.fore i p iA hp;refine⟨by unfold done; rw[iL,hl p.1 h1]; rfl,by unfold yX; rw[h2],?_⟩;rw[<- h2];exact(I.call p.1 (hl p.1 h1) iL).1
 have F':aL b9 G pre i (tr i) (done b9 ah) (yX ops a) W:=yx (fun p hp=>(A2 p hp).symm) F;have eG:=fun cs c=>T.eG i o cs c ho
 have iC:bC post i (done b9 ah):=by
  refine⟨?_,fun j H=> ?_⟩
  .
   unfold done; cases h:ah.getD i false with
   | true=>exact absurd h iv
   | false=>simp
  .
   unfold done; cases h:ah.getD j false with
   | true=>exact absurd (I.ei (S.aft i j iA H) h) iv
   | false=>simp
 have dC:b9 i=true->done b9 (ah.setIfInBounds i true)=upd (done b9 ah) i:=fun hc=>funext fun j=>by
  unfold done upd
  by_cases e:j=i
  . subst e; simp only[qG (show j<ah.size from I.n▸iA),hc]; simp
  . rw[getD_set_ne false (Ne.symm e)]; simp[e]
 have dP:b9 i=false->done b9 (ah.setIfInBounds i true)=done b9 ah:=fun hc=>funext fun j=>by
  unfold done
  by_cases e:j=i
  . subst e; rw[hc]; simp
  . rw[getD_set_ne false (Ne.symm e)]
 -- what stands, whatever i yields, of the frame behind it
 have bO:∀x k,ah.getD k false=true->∀t,yw ops k=some t->(a.put o.dst x).tmps[t]? = a.tmps[t]? :=fun x k E t Y=>
  Zm fun e=>iv (T.once i k t (hd.trans e) Y▸E)
 have next:∀x W',J (done b9 (ah.setIfInBounds i true)) (yX ops (a.put o.dst x)) W'->(∀k,ah.getD k false=true->b9 k=true->G k (yX ops a k) W'/\V k (yX ops a k))->(b9 i=true->G i (dv o x) W'/\V i (dv o x))->
   (b9 i=false->∀D v W,bC post i D->J D v W->aL b9 G pre i a D v W->yJ P ops o a x W)->Inv P ops J b9 V G pre post be (ah.setIfInBounds i true) (a.put o.dst x) W':=by
  intro x W' H hg jb iR;have vk:∀k,ah.getD k false=true->yX ops (a.put o.dst x) k=yX ops a k:=fun k E=>jf fun t Y=>bO x k E t Y
  have vi:∀t,o.dst=some t->(a.put o.dst x).tmps[t]? = some x:=fun t iP=>by
   rw[iP]; exact qB (by rw[I.size]; exact T.inb i t (hd.trans iP))
  refine⟨H,by simp[I.n],?_,(je _ _ _).trans I.defs,(Yk _ _ _).trans I.size,?_,?_,?_⟩
  .
   intro k E j iQ
   rcases qL E with rfl | E
   . exact getD_set_true (iu j iQ)
   . exact getD_set_true (I.closed k E j iQ)
  .
   intro t iK;rw[Zm fun e=>iK i (qG (I.n▸iA)) (hd.trans e)];exact I.old t fun k E=>iK k (getD_set_true E)
  .
   intro k E X
   rcases qL E with rfl | E
   .
    have:yX ops (a.put o.dst x) k=dv o x:=by
     unfold yX; rw[hd]
     cases hdo:o.dst with
     | none=>simp[at_,dv,hdo]
     | some t=>have:=vi t hdo; rw[hdo]at this; simp[at_,dv,hdo,this]
    rw[this]; exact jb X
   . rw[vk k E]; exact hg k E X
  .
   intro k o' t E X iB Y
   have ag:∀p∈pre k,at_ (a.put o.dst x) p.2=at_ a p.2:=fun p hp=>by
    have iX:k<ops.size:=jD iB;obtain⟨h1,h2⟩:=S.fore k p iX hp
    have iZ:ah.getD p.1 false=true:=by
     rcases qL E with rfl | E
     . exact hl _ h1
     . exact I.ei h1 E
    exact jf fun t iY=>bO x p.1 iZ t (h2.trans iY)
   rcases qL E with rfl | E
   .
    rw[ho]at iB
    injection iB with iB
    subst iB
    have e:yX ops (a.put o.dst x) k=x:=by
     unfold yX; rw[hd];rw[hd]at Y;have:=vi t Y; rw[Y]at this; simp[at_,Y,this]
    refine⟨a,fun u j H iy=>(bO x j (hl j H) u iy).symm,fun u hu hn=>I.old u fun j H iy=> ?_,fun iH iG iD cw iE iF=> ?_,?_⟩
    .
     rcases T.look k o u j ho hu iy with h | h
     . exact hn j h iy
     . exact iv (I.ei h H)
    . rw[e]; exact iR X iH iG iD cw iE (yx ag iF)
    . exact⟨_,_,W,iC,I.j,yx (fun p hp=>(ag p hp).symm) F⟩
   .
    obtain⟨b,b1,b2,P1,D1,v1,W1,c1,j1,f1⟩:=I.pur k o' t E X iB Y;refine⟨b,fun u j H iy=>(b1 u j H iy).trans (bO x j (I.ei H E) u iy).symm,b2,fun iH iG iD cw iE iF=> ?_,D1,v1,W1,c1,j1,yx (fun p hp=>(ag p hp).symm) f1⟩;rw[vk k E];exact P1 iH iG iD cw iE (yx ag iF)
 have vx:∀x j,done b9 ah j=true->aT (yX ops a) i (dv o x) j=yX ops (a.put o.dst x) j:=fun x j H=>by
  unfold done at H;simp only[Bool.and_eq_true]at H;unfold aT;rw[E_ (show ¬j=i from fun e=>iv (e▸H.2))];exact(jf fun t Y=>bO x j H.2 t Y).symm
 have iV:∀x,yX ops (a.put o.dst x) i=dv o x:=fun x=>by
  unfold yX; rw[hd]
  cases hdo:o.dst with
  | none=>simp[at_,dv,hdo]
  | some t=>
   have:=qB (a:=a) (v:=x) (t:=t) (by rw[I.size]; exact T.inb i t (hd.trans hdo));simp[at_,dv,hdo,this]
 have vC:∀x W',b9 i=true->J (upd (done b9 ah) i) (aT (yX ops a) i (dv o x)) W'->J (done b9 (ah.setIfInBounds i true)) (yX ops (a.put o.dst x)) W':=fun x W' hc h=>by
  rw[dC hc];refine iN _ _ _ _ (fun j H=> ?_) h
  by_cases e:j=i
  . subst e; unfold aT; rw[E9 rfl,iV]
  .
   unfold upd at H;simp only[Bool.or_eq_true,beq_iff_eq,e,false_or]at H;exact vx x j H
 have vP:∀x W',b9 i=false->J (done b9 ah) (yX ops a) W'->J (done b9 (ah.setIfInBounds i true)) (yX ops (a.put o.dst x)) W':=fun x W' hc h=>by
  rw[dP hc];refine iN _ _ _ _ (fun j H=> ?_) h;rw[<- vx x j H];unfold aT;rw[E_];intro e;subst e;unfold done at H;rw[hc]at H; cases H
 unfold wpOp;rw[ho]
 cases M:b9 i with
 | true=>
  have hC:=(hs i o (by simpa using ho)).2.1;simp only[Nat.zero_add]at hC;have hC:=cS eG A1 ((hC M).2 _ _ W iC I.j F');unfold bm at hC;simp only
  split
  .
   rename_i hw
   rw[E9 hw]at hC;refine .inl (dE hC (fun x W' hx=>next x W' (vC x W' M hx.2.1) (fun k E X=> ?_) (fun _=>hx.2.2) (fun h=>by rw[M]at h; cases h)) (fun c W' hc=>hP a W' c I.defs hc));exact⟨hG _ _ i k W W' _ (fun e=>iv (e▸E)) X M I.j hx.1 (I.call k E X).1,(I.call k E X).2⟩
  .
   rename_i hw
   rw[E_ hw]at hC;have e:dv o En=En:=by unfold dv; split<;>rfl
   refine next En W (vC En W M (e.symm▸hC.1)) (fun k E X=>I.call k E X) (fun _=> ?_) (fun h=>by rw[M]at h; cases h);rw[e]; exact hC.2
 | false=>
  have hp:=fun D v W cw H hf=>kU eG A1 (iI i o ho M D v W cw H (yx (fun p hp=>(A2 p hp).symm) hf));have Z:=hp _ _ W iC I.j F;unfold yJ at Z;simp only;have nx:=next (y i) W (vP _ W M I.j) (fun k E X=>I.call k E X) (fun h=>by rw[M]at h; cases h) (fun _=>hp)
  split
  .
   rename_i hw
   rw[E9 hw]at Z;refine .inl ?_;unfold Oper.wp
   rcases Z with Z | ⟨Z,hy⟩
   . rw[Z,Oper.upon_value]; exact nx
   . rw[Z,Oper.upon_skip,<- hy]; exact nx
  .
   rename_i hw
   rw[E_ hw]at Z;rw[<- Z]; exact nx
theorem cB (ht:tidy ops be.tmps.size=true) (iv:cX ops b9 pre post=true)
  (hV:∀k,∃x,V k x) (iE:∀D v v' W,(∀j,D j=true->v j=v' j)->J D v W->J D v' W)
  (hG:∀D v k j W W' x,j≠k->b9 j=true->b9 k=true->J D v W->Sx k W W'->G j x W->G j x W')
  (hP:∀a W c,a.defers=be.defers->bf c W->Q (.panic c) a W)
  (h:RC P ops Q J b9 V G Sx bf pre post 0 ops.toList be) :
  ∀ah a W,Inv P ops J b9 V G pre post be ah a W->Region.ready .any ops ah = []->Q .normal a W:=by
 have T:=kF ht;have S:=kG iv;intro ah a W I hr
 -- nothing is left: all are ah
 have all:∀k,k<ops.size->ah.getD k false=true:=by
  intro k
  induction k using Nat.strongRecOn with
  | _ k ih=>
   intro M
   cases hl:ah.getD k false with
   | true=>rfl
   | false=>
    have:k∈Region.ready .any ops ah:=by
     refine mem_ready.2 ⟨?_,ops[k],by simp[M],fun e he hb=> ?_⟩
     .
      have iB:k<ah.size:=I.n▸M;simpa[iB]using hl
     .
      have hm:=(kH (ops:=ops) (k:=k) (j:=e.on) (by simp[M])).2 ⟨e,he,hb,rfl⟩;have:=T.back _ _ hm;exact ih e.on this D6
    rw[hr]at this; cases this
 obtain⟨xs,hx,iC⟩:∃xs:Nat->Ei,(∀k,V k (xs k))/\∀k,V k (yX ops a k)->xs k=yX ops a k:=by
  classical
  refine⟨fun k=>if V k (yX ops a k)then yX ops a k else(hV k).choose,fun k=> ?_,fun k M=>by simp only[E9 M]⟩
  by_cases M:V k (yX ops a k)
  . simp only[E9 M]; exact M
  . simp only[E_ M]; exact(hV k).choose_spec
 obtain⟨tr,y,h0,hs,hf⟩:=cJ xs hx ops.toList 0 be h
 have dP:∀i o,ops[i]? = some o->tr (i+1)=(tr i).put o.dst (y i):=fun i o ho=>by
  have:=(hs i o (by simpa using ho)).1;simpa using this
 have iy:∀i,i<ops.size->ah.getD i false=true->b9 i=true->y i=yX ops a i:=fun i hi iz Z=>by
  have:=(hs i ops[i] (by simp[hi])).2.1;simp only[Nat.zero_add]at this;exact(this Z).1.trans (iC i (I.call i iz Z).2)
 have iD:∀i o,ops[i]? = some o->b9 i=false->∀D v W,bC post i D->J D v W->aL b9 G pre i (tr i) D v W->yJ P ops o (tr i) (y i) W:=fun i o ho Z=>by
  have:=(hs i o (by simpa using ho)).2.2;simp only[Nat.zero_add]at this;exact this Z
 have Y:∀k,k<ops.size->y k=yX ops a k:=fun k M=>(Kw S T I h0 dP iy iD k M fun j X=>all j (by have:=X.lt T; omega)).2.2 (all k M)
 have E:tr ops.size=a:=by
  have hz:=XG h0 dP ops.size (Ep _)
  have iA:∀t,(tr ops.size).tmps[t]? = a.tmps[t]? :=fun t=>by
   obtain⟨s1,s2⟩:=ZR T rfl h0 dP ops.size (Ep _)
   by_cases hw:∃j,j<ops.size/\yw ops j=some t
   .
    obtain⟨j,X,H⟩:=hw;rw[s1 j t X H,Y j X];unfold yX at_;simp only[H];have hb:t<a.tmps.size:=by rw[I.size]; exact T.inb j t H
    rw[Array.getElem?_eq_getElem hb]; rfl
   . rw[s2 t fun j X H=>hw ⟨j,X,H⟩,I.old t fun j X H=>hw ⟨j,qY H,H⟩]
  have:(tr ops.size).tmps=a.tmps:=Array.ext_getElem? iA;have it:(tr ops.size).defers=a.defers:=hz.2.trans I.defs.symm
  cases htr:tr ops.size with
  | mk t1 d1=>
   rw[htr]at this it;simp only at this it;subst this it;rfl
 simp only[Nat.zero_add,Array.length_toList]at hf;rw[E]at hf
 exact hf _ _ W (fun j X=>by unfold done; rw[all j X]; simp) I.j fun p hp iu=>by
  obtain⟨h1,h2⟩:=S.fin p hp;refine⟨by unfold done; rw[iu,all p.1 h1]; rfl,by unfold yX; rw[h2],?_⟩;rw[<- h2];exact(I.call p.1 (all p.1 h1) iu).1
theorem ZN (Z:P.follows .mixedOrders=true) (I:∀v,J (fun _=>false) v w.drew) (ht:tidy ops be.tmps.size=true) (E:cX ops b9 pre post=true)
  (M:∀k,∃x,V k x) (H:∀D v T W,(∀j,D j=true->v j=T j)->J D v W->J D T W)
  (X:∀D v k j W W' x,j≠k->b9 j=true->b9 k=true->J D v W->Sx k W W'->G j x W->G j x W')
  (Y:∀a W c,a.defers=be.defers->bf c W->Q (.panic c) a W)
  (h:RC P ops Q J b9 V G Sx bf pre post 0 ops.toList be):(Code.region id ops true).wp P Q be w:=
 YU Z (Inv P ops J b9 V G pre post be) (j8 I) (cz ht E M H X Y h) (cB ht E M H X Y h)
def j9:Op->Bool
 | .nilCheck _ | .go _ | .defer _ | .send _ _ | .recv _ _ _ | .select _ _=>false
 | .call c=>match c.callee with
  | .builtin .len | .builtin .cap | .builtin .min | .builtin .max | .builtin .append | .builtin .copy=>true
  | _=>false
 | _=>true
theorem GO {s:Sem Ei} {P:Program} (h:Sem.run P (do pure (Next.value (<- s))) W = .ok r W'):(∃v,r = .value v)\/r = .skip:=by
 rw[Sem.run_bind]at h
 cases hs:Sem.run P s W with
 | ok v W1=>
  rw[hs]at h;simp only[Result.andThen_ok,Sem.run_pure,Result.ok.injEq]at h;exact .inl ⟨v,h.1.symm⟩
 | halt x W1=>rw[hs]at h; cases h
theorem Bz {m:Sem Bool} {f:Bool->Ei} {P:Program} (h:Sem.run P (do let b <- m; pure (Next.value (f b))) W = .ok r W'):(∃v,r = .value v)\/r = .skip:=by
 rw[Sem.run_bind]at h
 cases hs:Sem.run P m W with
 | ok v W1=>
  rw[hs]at h;simp only[Result.andThen_ok,Sem.run_pure,Result.ok.injEq]at h;exact .inl ⟨_,h.1.symm⟩
 | halt x W1=>rw[hs]at h; cases h
theorem BA {s:Sem Unit} {P:Program} (h:Sem.run P (do s; pure Next.skip) W = .ok r W'):(∃v,r = .value v)\/r = .skip:=by
 rw[Sem.run_bind]at h
 cases hs:Sem.run P s W with
 | ok v W1=>
  rw[hs]at h;simp only[Result.andThen_ok,Sem.run_pure,Result.ok.injEq]at h;exact .inr h.1.symm
 | halt x W1=>rw[hs]at h; cases h
theorem Xe {P:Program} (E:j9 o.op=true) (h:(execOp ρ o).run P W = .ok r W'):(∃v,r = .value v)\/r = .skip:=by
 obtain⟨dst,Y,M,T,I,H⟩:=o
 cases Y
 case call c=>
  obtain⟨callee,args,X⟩:=c
  cases callee with
  | value f=>cases E
  | invoke x m=>cases E
  | builtin b=>cases b<;>first | (cases E; done) | exact GO h
 all_goals first
  | (cases E; done)
  | exact GO h
  | exact BA h
  | (simp only[execOp,Sem.run_pure,Result.ok.injEq]at h; exact .inl ⟨_,h.1.symm⟩)
  | (simp only[execOp]at h; exact Bz h)
theorem bD {k:Nat} (a':Act) (x:Ei) (hc:b9 k=false) (hst:j9 o.op=true) (hw:Region.wanted o (yielded ops a.tmps)=true)
  (h:∀D v W,bC post k D->J D v W->aL b9 G pre k a D v W->∀K:Act->Ef->Prop,Hid (K a' W)->o.wp P a W K (fun _ _ _=>False)) (t:Tmp) (hd:o.dst=some t) (ht:t<a.tmps.size) (T:a'=a.put o.dst x)
  (H:RC P ops Q J b9 V G Sx bf pre post (k+1) rest a'):RC P ops Q J b9 V G Sx bf pre post k (o::rest) a:=by
 unfold RC;rw[E_ (by rw[hc]; simp)];refine⟨x,fun D v W X Z Y=> ?_,T▸H⟩;have h:=h D v W X Z Y (fun M W'=>M=a'/\W'=W) ⟨rfl,rfl⟩;unfold yJ;rw[E9 hw]
 have I:∀v,a.put o.dst v=a'->v=x:=fun v hv=>by
  rw[T,hd]at hv;have E:=qB (v:=v) ht;rw[hv,qB ht]at E
  injection E with E
  exact E.symm
 unfold Oper.wp at h
 cases H:(execOp a.eval o).run P W with
 | ok r W'=>
  rw[H]at h
  rcases Xe hst H with⟨v,rfl⟩ | rfl
  .
   rw[Oper.upon_value]at h;obtain⟨E,rfl⟩:=h;exact .inl (by rw[I v E])
  .
   rw[Oper.upon_skip]at h;obtain⟨E,rfl⟩:=h;exact .inr ⟨rfl,(I _ E).symm⟩
 | halt r W'=>
  rw[H]at h
  cases r<;>exact h.elim
theorem RP {k:Nat} (hc:b9 k=false) (hst:j9 o.op=true) (hw:Region.wanted o (yielded ops a.tmps)=true)
  (t:Tmp) (hd:o.dst=some t) (ht:Nat.ble (t+1) a.tmps.size=true) (h:∀D v W,bC post k D->J D v W->aL b9 G pre k a D v W->∀K:Act->Ef->Prop,Hid (K a' W)->o.wp P a W K (fun _ _ _=>False)) (H:a'=a.put o.dst x)
  (E:RC P ops Q J b9 V G Sx bf pre post (k+1) rest a'):RC P ops Q J b9 V G Sx bf pre post k (o::rest) a:=bD a' x hc hst hw h t hd (Ec ht) H E
theorem aG {k:Nat} {o:Oper} {a:Act} {x:Ei} (t:Tmp) (E:RC P ops Q J b9 V G Sx bf pre post (k+1) rest a') (hc:b9 k=false:=by exact rfl) (hst:j9 o.op=true:=by exact rfl) (hw:Region.wanted o (yielded ops a.tmps)=true:=by exact rfl) (hd:o.dst=some t:=by exact rfl) (ht:Nat.ble (t+1) a.tmps.size=true:=by exact rfl)
  (h:∀D v W,bC post k D->J D v W->aL b9 G pre k a D v W->∀K:Act->Ef->Prop,Hid (K a' W)->o.wp P a W K (fun _ _ _=>False):=by (intro D T W' hc X M K I; go_step; exact I.out)) (H:a'=a.put o.dst x:=by exact rfl):RC P ops Q J b9 V G Sx bf pre post k (o::rest) a:=RP hc hst hw t hd ht h H E
theorem aS {k:Nat} {o:Oper} {a:Act} {x:Ei} (t:Tmp) (φ : ∀D v W,J D v W->Φ W) (H:RC P ops Q J b9 V G Sx bf pre post (k+1) rest a') (hc:b9 k=false:=by exact rfl) (hst:j9 o.op=true:=by exact rfl) (hw:Region.wanted o (yielded ops a.tmps)=true:=by exact rfl) (hd:o.dst=some t:=by exact rfl) (ht:Nat.ble (t+1) a.tmps.size=true:=by exact rfl)
  (h:∀W,Φ W->∀K:Act->World->Prop,Hid (K a' W)->o.wp P a W K (fun _ _ _=>False):=by (intro W' T K E; go_step; exact E.out)) (I:a'=a.put o.dst x:=by exact rfl):RC P ops Q J b9 V G Sx bf pre post k (o::rest) a:=RP hc hst hw t hd ht (fun D v W _ M _ K E=>h W (φ D v W M) K E) I H
theorem e_ {k:Nat} {o:Oper} {a:Act} {x:Ei} (M:ops=L) (t:Tmp) (φ : ∀D v W,J D v W->Φ W) (H:RC P ops Q J b9 V G Sx bf pre post (k+1) rest a') (hc:b9 k=false:=by exact rfl) (hst:j9 o.op=true:=by exact rfl) (hw:Region.wanted o (yielded L a.tmps)=true:=by exact rfl) (hd:o.dst=some t:=by exact rfl) (ht:Nat.ble (t+1) a.tmps.size=true:=by exact rfl)
  (h:∀W,Φ W->∀K:Act->World->Prop,Hid (K a' W)->o.wp P a W K (fun _ _ _=>False):=by (intro W' X K E; go_step; exact E.out)) (I:a'=a.put o.dst x:=by exact rfl):RC P ops Q J b9 V G Sx bf pre post k (o::rest) a:=RP hc hst (by rw[M]; exact hw) t hd ht (fun D v W _ T _ K E=>h W (φ D v W T) K E) I H
theorem bG {k:Nat} {o:Oper} {a:Act} {x:Ei} (M:ops=L) (t:Tmp) (H:RC P ops Q J b9 V G Sx bf pre post (k+1) rest a') (hc:b9 k=false:=by exact rfl) (hst:j9 o.op=true:=by exact rfl) (hw:Region.wanted o (yielded L a.tmps)=true:=by exact rfl) (hd:o.dst=some t:=by exact rfl) (ht:Nat.ble (t+1) a.tmps.size=true:=by exact rfl)
  (h:∀W,∀K:Act->World->Prop,Hid (K a' W)->o.wp P a W K (fun _ _ _=>False):=by (intro W' K E; go_step; exact E.out)) (I:a'=a.put o.dst x:=by exact rfl):RC P ops Q J b9 V G Sx bf pre post k (o::rest) a:=RP hc hst (by rw[M]; exact hw) t hd ht (fun D v W _ T _ K E=>h W K E) I H
theorem cV {k:Nat} (hc:b9 k=false) (hw:Region.wanted o (yielded ops a.tmps)=false)
  (E:RC P ops Q J b9 V G Sx bf pre post (k+1) rest (a.put o.dst En)):RC P ops Q J b9 V G Sx bf pre post k (o::rest) a:=by
 unfold RC;rw[E_ (by rw[hc]; simp)];refine⟨En,fun D v W _ _ _=> ?_,E⟩;unfold yJ;rw[E_ (by rw[hw]; simp)]
theorem aC {k:Nat} {o:Oper} {rest:List Oper} {a:Act} (hc:b9 k=true) (hb:∀t,o.dst=some t->t<a.tmps.size) (hw:Region.wanted o (yielded ops a.tmps)=true)
  (h:∀D v W,bC post k D->J D v W->aL b9 G pre k a D v W->∀K:Act->Ef->Prop,Hid (∀x W',Sx k W W'->J (upd D k) (aT v k (dv o x)) W'->G k (dv o x) W'->V k (dv o x)->K (a.put o.dst x) W')->o.wp P a W K (fun e _ W'=>match e with | .panic c=>bf c W' | _=>False))
  (T:∀x,V k x->RC P ops Q J b9 V G Sx bf pre post (k+1) rest (a.put o.dst x)):RC P ops Q J b9 V G Sx bf pre post k (o::rest) a:=by
 unfold RC;rw[E9 hc];refine⟨fun D v W cw hj hf=> ?_,T⟩;have h:=h D v W cw hj hf (fun Z W'=>∃x,Z=a.put o.dst x/\Sx k W W'/\J (upd D k) (aT v k (dv o x)) W'/\G k (dv o x) W'/\V k (dv o x)) (fun x W' E X Y h4=>⟨x,rfl,E,X,Y,h4⟩);unfold bm;rw[E9 hw]
 have H:∀u W',(∃x,a.put o.dst u=a.put o.dst x/\Sx k W W'/\J (upd D k) (aT v k (dv o x)) W'/\G k (dv o x) W'/\V k (dv o x))->Sx k W W'/\J (upd D k) (aT v k (dv o u)) W'/\G k (dv o u) W'/\V k (dv o u):=fun u W' ⟨x,hv,E,Y,X⟩=>by
  have:dv o u=dv o x:=by
   unfold dv
   cases hd:o.dst with
   | none=>rfl
   | some t=>
    rw[hd]at hv;have E:=qB (v:=u) (hb t hd);rw[hv,qB (hb t hd)]at E
    injection E with E
    exact E.symm
  rw[this];exact⟨E,Y,X⟩
 unfold Oper.wp at h;unfold JA
 cases T:(execOp a.eval o).run P W with
 | ok r W'=>
  rw[T]at h
  cases r
  case value v=>exact H v W' h
  case skip=>exact H En W' h
  case enter f args=>
   rw[Oper.upon_enter]at h;refine Calls.mono h fun e I M=> ?_
   cases e with
   | returned v=>exact H v I M
   | panicked c=>exact M
   | outgrown=>obtain⟨_,_,M⟩:=M; exact M.elim
  case defer d=>
   rw[Oper.upon_defer]at h;obtain⟨x,h,-⟩:=h;have E:=congrArg Act.defers h;rw[je,je]at E;exact absurd (congrArg List.length E) D9
  case row row args=>
   rw[Oper.upon_row]at h;exact Rows.mono h fun v I M=>H v I M
  all_goals exact h.elim
 | halt r W'=>
  rw[T]at h
  cases r<;>exact h
theorem sk {k:Nat} (H:ops=L) (E:RC P ops Q J b9 V G Sx bf pre post (k+1) rest (a.put o.dst En)) (hc:b9 k=false:=by exact rfl) (hw:Region.wanted o (yielded L a.tmps)=false:=by exact rfl):RC P ops Q J b9 V G Sx bf pre post k (o::rest) a:=cV hc (by rw[H]; exact hw) E
theorem dF {k:Nat} {o:Oper} {rest:List Oper} {a:Act} (h:∀D v W,bC post k D->J D v W->aL b9 G pre k a D v W->∀K:Act->Ef->Prop,Hid (∀x W',Sx k W W'->J (upd D k) (aT v k (dv o x)) W'->G k (dv o x) W'->V k (dv o x)->K (a.put o.dst x) W')->o.wp P a W K (fun e _ W'=>match e with | .panic c=>bf c W' | _=>False))
  (E:∀x,V k x->RC P ops Q J b9 V G Sx bf pre post (k+1) rest (a.put o.dst x)) (hc:b9 k=true:=by exact rfl) (H:∀t,o.dst=some t->t<a.tmps.size:=by (intro t ht; cases ht)) (hw:Region.wanted o (yielded ops a.tmps)=true:=by exact rfl):RC P ops Q J b9 V G Sx bf pre post k (o::rest) a:=aC hc H hw h E
/-- operations that no one asks for, many at once -/
def C4 (b9:Nat->Bool) (L:Array Oper):Nat->Nat->List Oper->Act->Bool
 | 0,_,_,_=>true
 | _+1,_,[],_=>false
 | m+1,k,o::rest,a=> !b9 k&&(!Region.wanted o (yielded L a.tmps)&&C4 b9 L m (k+1) rest (a.put o.dst En))
def BC:Nat->List Oper->Act->Act
 | 0,_,a=>a
 | _+1,[],a=>a
 | m+1,o::rest,a=>BC m rest (a.put o.dst En)
theorem aB {k:Nat} (h:a=b) (E:RC P ops Q J b9 V G Sx bf pre post k l b):RC P ops Q J b9 V G Sx bf pre post k l a:=h▸E
theorem dm {k:Nat} (h:a=⟨#[x0,x1,x2,x3,x4,x5,x6,x7,x8,x9,cN,ci,dk,cy,cg,dc,cZ,cn,br,bl,d9,bt,ce,cx],d⟩) (E:RC P ops Q J b9 V G Sx bf pre post k l ⟨#[x0,x1,x2,x3,x4,x5,x6,x7,x8,x9,cN,ci,dk,cy,cg,dc,cZ,cn,br,bl,d9,bt,ce,cx],d⟩):RC P ops Q J b9 V G Sx bf pre post k l a:=h▸E
theorem dQ {k:Nat} (h:a=⟨#[x0,x1,x2,x3,x4,x5,x6,x7,x8,x9,cN,ci,dk,cy,cg,dc,cZ,cn,br,bl,d9,bt,ce,cx,eS,ec,dt,dx,ek,eW,f9,dy,er,eM,ed,f8,f7,fd,ey,em],d⟩) (E:RC P ops Q J b9 V G Sx bf pre post k l ⟨#[x0,x1,x2,x3,x4,x5,x6,x7,x8,x9,cN,ci,dk,cy,cg,dc,cZ,cn,br,bl,d9,bt,ce,cx,eS,ec,dt,dx,ek,eW,f9,dy,er,eM,ed,f8,f7,fd,ey,em],d⟩):RC P ops Q J b9 V G Sx bf pre post k l a:=h▸E
theorem dj {k:Nat} (h:a=⟨#[x0,x1,x2,x3,x4,x5,x6,x7,x8,x9,cN,ci,dk,cy,cg,dc,cZ,cn,br,bl,d9,bt,ce,cx,eS,ec,dt,dx,ek,eW,f9,dy,er,eM,ed,f8,f7,fd,ey,em,gi,g9,gt,gk,gn,fe,gj,gd,gr,fl,gp,ft],d⟩) (E:RC P ops Q J b9 V G Sx bf pre post k l ⟨#[x0,x1,x2,x3,x4,x5,x6,x7,x8,x9,cN,ci,dk,cy,cg,dc,cZ,cn,br,bl,d9,bt,ce,cx,eS,ec,dt,dx,ek,eW,f9,dy,er,eM,ed,f8,f7,fd,ey,em,gi,g9,gt,gk,gn,fe,gj,gd,gr,fl,gp,ft],d⟩):RC P ops Q J b9 V G Sx bf pre post k l a:=h▸E
theorem dS {k:Nat} (h:a=⟨#[x0,x1,x2,x3,x4,x5,x6,x7,x8,x9,cN,ci,dk,cy,cg,dc,cZ,cn,br,bl,d9,bt,ce,cx,eS,ec,dt,dx,ek,eW,f9,dy,er,eM,ed,f8,f7,fd,ey,em,gi,g9,gt,gk,gn,fe,gj,gd,gr,fl,gp,ft,gI,gE,gC,gG,gH,gF,gJ,gB,gD,gA],d⟩) (E:RC P ops Q J b9 V G Sx bf pre post k l ⟨#[x0,x1,x2,x3,x4,x5,x6,x7,x8,x9,cN,ci,dk,cy,cg,dc,cZ,cn,br,bl,d9,bt,ce,cx,eS,ec,dt,dx,ek,eW,f9,dy,er,eM,ed,f8,f7,fd,ey,em,gi,g9,gt,gk,gn,fe,gj,gd,gr,fl,gp,ft,gI,gE,gC,gG,gH,gF,gJ,gB,gD,gA],d⟩):RC P ops Q J b9 V G Sx bf pre post k l a:=h▸E
theorem cY {k:Nat} (h:a=⟨#[x0,x1,x2,x3,x4,x5,x6,x7,x8,x9,cN,ci,dk,cy,cg,dc,cZ,cn,br,bl,d9,bt,ce,cx,eS,ec,dt,dx,ek,eW,f9,dy,er,eM,ed,f8,f7,fd,ey,em,gi,g9,gt,gk,gn,fe,gj,gd,gr,fl,gp,ft,gI,gE,gC,gG,gH,gF,gJ,gB,gD,gA,gL,gM],d⟩) (E:RC P ops Q J b9 V G Sx bf pre post k l ⟨#[x0,x1,x2,x3,x4,x5,x6,x7,x8,x9,cN,ci,dk,cy,cg,dc,cZ,cn,br,bl,d9,bt,ce,cx,eS,ec,dt,dx,ek,eW,f9,dy,er,eM,ed,f8,f7,fd,ey,em,gi,g9,gt,gk,gn,fe,gj,gd,gr,fl,gp,ft,gI,gE,gC,gG,gH,gF,gJ,gB,gD,gA,gL,gM],d⟩):RC P ops Q J b9 V G Sx bf pre post k l a:=h▸E
theorem dV {k:Nat} (h:a=⟨#[x0,x1,x2,x3,x4,x5,x6,x7,x8,x9,cN,ci,dk,cy,cg,dc,cZ,cn,br,bl,d9,bt,ce,cx,eS,ec,dt,dx,ek,eW,f9,dy,er,eM,ed,f8,f7,fd,ey,em,gi,g9,gt,gk,gn,fe,gj,gd,gr,fl,gp,ft,gI,gE,gC,gG,gH,gF,gJ,gB,gD,gA,gL,gM,gW,gP,gT,gO,gR,gV],d⟩) (E:RC P ops Q J b9 V G Sx bf pre post k l ⟨#[x0,x1,x2,x3,x4,x5,x6,x7,x8,x9,cN,ci,dk,cy,cg,dc,cZ,cn,br,bl,d9,bt,ce,cx,eS,ec,dt,dx,ek,eW,f9,dy,er,eM,ed,f8,f7,fd,ey,em,gi,g9,gt,gk,gn,fe,gj,gd,gr,fl,gp,ft,gI,gE,gC,gG,gH,gF,gJ,gB,gD,gA,gL,gM,gW,gP,gT,gO,gR,gV],d⟩):RC P ops Q J b9 V G Sx bf pre post k l a:=h▸E
theorem dX {k:Nat} (h:a=⟨#[x0,x1,x2,x3,x4,x5,x6,x7,x8,x9,cN,ci,dk,cy,cg,dc,cZ,cn,br,bl,d9,bt,ce,cx,eS,ec,dt,dx,ek,eW,f9,dy,er,eM,ed,f8,f7,fd,ey,em,gi,g9,gt,gk,gn,fe,gj,gd,gr,fl,gp,ft,gI,gE,gC,gG,gH,gF,gJ,gB,gD,gA,gL,gM,gW,gP,gT,gO,gR,gV,ik,iq,ij,ig,i4,h9,gZ,gY,i5,ip,i6,ir,i8,i7],d⟩) (E:RC P ops Q J b9 V G Sx bf pre post k l ⟨#[x0,x1,x2,x3,x4,x5,x6,x7,x8,x9,cN,ci,dk,cy,cg,dc,cZ,cn,br,bl,d9,bt,ce,cx,eS,ec,dt,dx,ek,eW,f9,dy,er,eM,ed,f8,f7,fd,ey,em,gi,g9,gt,gk,gn,fe,gj,gd,gr,fl,gp,ft,gI,gE,gC,gG,gH,gF,gJ,gB,gD,gA,gL,gM,gW,gP,gT,gO,gR,gV,ik,iq,ij,ig,i4,h9,gZ,gY,i5,ip,i6,ir,i8,i7],d⟩):RC P ops Q J b9 V G Sx bf pre post k l a:=h▸E
theorem dg {k:Nat} {lH lJ lg lN lw ln lK lF lj lk lh lC lI lE lM lG ki lf H iK iC iN iA iZ iD iY l3 it iT iU iI iX iM ky jb iR k6 iz T iO iP kx l6 kw iV iF iL iQ ji E Z iv iy Y l9 iu ks ko iS dP jd l8 k7 X iG k8 I iE iW iH iB M iJ:Ei} (h:a=⟨#[x0,x1,x2,x3,x4,x5,x6,x7,x8,x9,cN,ci,dk,cy,cg,dc,cZ,cn,br,bl,d9,bt,ce,cx,eS,ec,dt,dx,ek,eW,f9,dy,er,eM,ed,f8,f7,fd,ey,em,gi,g9,gt,gk,gn,fe,gj,gd,gr,fl,gp,ft,gI,gE,gC,gG,gH,gF,gJ,gB,gD,gA,gL,gM,gW,gP,gT,gO,gR,gV,ik,iq,ij,ig,i4,h9,gZ,gY,i5,ip,i6,ir,i8,i7,lH,lJ,lg,lN,lw,ln,lK,lF,lj,lk,lh,lC,lI,lE,lM,lG,ki,lf,H,iK,iC,iN,iA,iZ,iD,iY,l3,it,iT,iU,iI,iX,iM,ky,jb,iR,k6,iz,T,iO,iP,kx,l6,kw,iV,iF,iL,iQ,ji,E,Z,iv,iy,Y,l9,iu,ks,ko,iS,dP,jd,l8,k7,X,iG,k8,I,iE,iW,iH,iB,M,iJ],d⟩) (hr:RC P ops Q J b9 V G Sx bf pre post k l ⟨#[x0,x1,x2,x3,x4,x5,x6,x7,x8,x9,cN,ci,dk,cy,cg,dc,cZ,cn,br,bl,d9,bt,ce,cx,eS,ec,dt,dx,ek,eW,f9,dy,er,eM,ed,f8,f7,fd,ey,em,gi,g9,gt,gk,gn,fe,gj,gd,gr,fl,gp,ft,gI,gE,gC,gG,gH,gF,gJ,gB,gD,gA,gL,gM,gW,gP,gT,gO,gR,gV,ik,iq,ij,ig,i4,h9,gZ,gY,i5,ip,i6,ir,i8,i7,lH,lJ,lg,lN,lw,ln,lK,lF,lj,lk,lh,lC,lI,lE,lM,lG,ki,lf,H,iK,iC,iN,iA,iZ,iD,iY,l3,it,iT,iU,iI,iX,iM,ky,jb,iR,k6,iz,T,iO,iP,kx,l6,kw,iV,iF,iL,iQ,ji,E,Z,iv,iy,Y,l9,iu,ks,ko,iS,dP,jd,l8,k7,X,iG,k8,I,iE,iW,iH,iB,M,iJ],d⟩):RC P ops Q J b9 V G Sx bf pre post k l a:=h▸hr
theorem aE {k:Nat} (h:∀D v W,(∀j,j<k->D j=b9 j)->J D v W->aL b9 G pre k a D v W->Q .normal a W):RC P ops Q J b9 V G Sx bf pre post k [] a:=h
theorem aJ (J:(Nat->Bool)->(Nat->Ei)->Ef->Prop) (b9:Nat->Bool) (V:Nat->Ei->Prop) (G:Nat->Ei->Ef->Prop) (Sx:Nat->Ef->Ef->Prop) (bf:List PanicEntry->Ef->Prop) (pre:Nat->List (Nat×Option Tmp)) (post:Nat->List Nat)
  (Z:P.follows .mixedOrders=true) (ht:tidy ops be.tmps.size=true) (H:cX ops b9 pre post=true)
  (Y:∀k,∃x,V k x) (I:∀v,J (fun _=>false) v w.drew) (M:∀D v T W,(∀j,D j=true->v j=T j)->J D v W->J D T W)
  (hG:∀D v k j W W' x,j≠k->b9 j=true->b9 k=true->J D v W->Sx k W W'->G j x W->G j x W')
  (hP:∀a W c,a.defers=be.defers->bf c W->Q (.panic c) a W)
  (h:∀E X,E=ops->(∀a W,Q .normal a W->X .normal a W)->RC P E X J b9 V G Sx bf pre post 0 ops.toList be):(Code.region id ops true).wp P Q be w:=
 ZN Z I ht H Y M hG hP (h ops Q rfl fun _ _ h=>h)
theorem bW (J:Nat->(Nat->Bool)->(Nat->Ei)->Ef->Prop) (b9:Nat->Bool) (V:Nat->Ei->Prop) (G:Nat->Ei->Ef->Prop) (Sx:Nat->Ef->Ef->Prop) (bf:List PanicEntry->Ef->Prop) (pre:Nat->List (Nat×Option Tmp)) (post:Nat->List Nat)
  (Y:P.follows .mixedOrders=true) (ht:tidy ops be.tmps.size=true) (I:cX ops b9 pre post=true) (X:∀k,∃x,V k x)
  (h:∀H,Hid (H=w.heap.size)->(∀v,J H (fun _=>false) v w.drew)/\(∀D v M W,(∀j,D j=true->v j=M j)->J H D v W->J H D M W)/\
   (∀D v k j W W' x,j≠k->b9 j=true->b9 k=true->J H D v W->Sx k W W'->G j x W->G j x W')/\(∀a W c,a.defers=be.defers->bf c W->Q (.panic c) a W)/\
   ∀E T,E=ops->(∀a W,Q .normal a W->T .normal a W)->RC P E T (J H) b9 V G Sx bf pre post 0 ops.toList be):(Code.region id ops true).wp P Q be w:=
 let ⟨h1,h2,h3,h4,h5⟩:=h _ rfl
 aJ (J w.heap.size) b9 V G Sx bf pre post Y ht I X h1 h2 h3 h4 h5
end
def inl (l:List Nat) (k:Nat):Bool:=l.contains k
def ge:List (Nat×Ei)->Nat->Ei->Prop
 | [],_,_=>True
 | (i,e)::r,k,x=>if k=i then x=e else ge r k x
theorem cC (l:List (Nat×Ei)) (k:Nat):∃x,ge l k x:=by
 induction l with
 | nil=>exact⟨En,trivial⟩
 | cons p r ih=>
  obtain⟨i,e⟩:=p;unfold ge
  by_cases h:k=i
  . exact⟨e,by rw[E9 h]⟩
  . obtain⟨x,E⟩:=ih; exact⟨x,by rw[E_ h]; exact E⟩
theorem et {P:Program} {ops:Array Oper} {Q:Exit->Act->Ef->Prop} {J:(Nat->Bool)->(Nat->Ei)->Ef->Prop} {b9:Nat->Bool} {l:List (Nat×Ei)} {G:Nat->Ei->Ef->Prop} {Sx:Nat->Ef->Ef->Prop} {bf:List PanicEntry->Ef->Prop} {pre:Nat->List (Nat×Option Tmp)} {post:Nat->List Nat}
  {k:Nat} {o:Oper} {rest:List Oper} {a:Act} (e:Ei) (M:∀x,ge l k x->x=e) (hc:b9 k=true) (I:∀t,o.dst=some t->t<a.tmps.size) (hw:Region.wanted o (yielded ops a.tmps)=true)
  (h:∀D v W,bC post k D->J D v W->aL b9 G pre k a D v W->∀K:Act->Ef->Prop,Hid (∀x W',Sx k W W'->J (upd D k) (aT v k (dv o x)) W'->G k (dv o x) W'->ge l k (dv o x)->K (a.put o.dst x) W')->o.wp P a W K (fun e _ W'=>match e with | .panic c=>bf c W' | _=>False))
  (E:RC P ops Q J b9 (ge l) G Sx bf pre post (k+1) rest (a.put o.dst e)):RC P ops Q J b9 (ge l) G Sx bf pre post k (o::rest) a:=
 aC hc I hw h fun x H=>M x H▸E
def gv:List (Nat×(Ei->Prop))->Nat->Ei->Prop
 | [],_,_=>True
 | (i,e)::r,k,x=>if k=i then e x else gv r k x
theorem aY (l:List (Nat×(Ei->Prop))) (h:∀p∈l,∃x,p.2 x) (k:Nat):∃x,gv l k x:=by
 induction l with
 | nil=>exact⟨En,trivial⟩
 | cons p r ih=>
  obtain⟨i,e⟩:=p;unfold gv
  by_cases hk:k=i
  . obtain⟨x,E⟩:=h _ (.head _); exact⟨x,by rw[E9 hk]; exact E⟩
  . obtain⟨x,E⟩:=ih fun p H=>h p (.tail _ H); exact⟨x,by rw[E_ hk]; exact E⟩
def pl {α : Type} : List (Nat×List α)->Nat->List α
 | [],_=> []
 | (i,e)::r,k=>if k=i then e else pl r k
def Any (_ _:Ef):Prop:=True
theorem any : Any W W':=trivial
def aQ (_:Nat) (_:Ei) (_:Ef):Prop:=True
theorem none_ {k:Nat} : aQ k x W:=trivial
def eG (b:Bool) (x y:Ei):Ei:=match b with | false=>x | true=>y
theorem dH (h:g<n):Value.pointer (some ⟨n,0,none⟩)≠ .pointer (some ⟨g,0,none⟩):=by
 intro e; injection e with e; injection e with e; injection e with e; omega
theorem dI {a b:Nat} (h:Value.slice (some ⟨n,0,none⟩) a b = Ex (some ⟨g,0,none⟩) a b):n=g:=by
 injection h with e; injection e with e; injection e with e
theorem bM (h:Value.pointer (some ⟨n,0,none⟩) = .pointer (some ⟨g,0,none⟩)):n=g:=by
 injection h with e; injection e with e; injection e with e
end aj
end Go.Proofs.YtffmbepfbienaaaGreat
