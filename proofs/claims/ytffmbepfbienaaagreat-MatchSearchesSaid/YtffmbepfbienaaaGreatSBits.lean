import Derived.Test.YtffmbepfbienaaaGreatProg
import Derived.Handy
import Derived.WalkSpells
import Derived.Shelf.Spec.BitsCarry
import Derived.Lib.Hide
import Derived.BigQuiet
import Derived.Deep.RegionHeld3
import Derived.Deep.DeepCutAuto
import Derived.Laws.AppendOwnNone
set_option linter.unusedVariables false
set_option linter.unusedSimpArgs false
open Go.Value renaming slice->Ex,bool->Ez,int->Ey
open Go.IntKind renaming i64->Ew
open Go renaming World->Ee,Value->Ef,TypeId->Ei,undef->Em
open Nat renaming le_refl->Eo,lt_or_ge->Ep
open Go.World renaming size_alloc->Es
namespace Go.Proofs.YtffmbepfbienaaaGreat
open Go.RowKit
theorem D5 {p:Prop} (h:p:=by omega):p:=h
theorem D6 {p:Prop} (h:p:=by kernel_rfl):p:=h
theorem D7 {p:Prop} (h:p:=by decide):p:=h
theorem D8 {p:Prop} (h:p:=by simp):p:=h
theorem D9 {p:Prop} (h:p:=by rw[World.size_alloc]; omega):p:=h
theorem E6 {p:Prop} (h:p):Hid p:=h
theorem E7 {a b:Prop} (h:a) (k:b):a/\b:=⟨h,k⟩
theorem E8 {c:Prop} {h:Decidable c} (k:c) {α:Sort _} {t e:α}:ite c t e=t:=if_pos k
theorem E9 {c:Prop} {h:Decidable c} (k:¬c) {α:Sort _} {t e:α}:ite c t e=e:=if_neg k
theorem E_ {p:Prop} [Decidable p] (h:p):decide p=true:=decide_eq_true h
theorem E' {p:Prop} [Decidable p] (h:¬p):decide p=false:=decide_eq_false h
theorem Eb {n m:Nat} (h:Nat.ble n m=true):n<=m:=Nat.le_of_ble_eq_true h
abbrev ZT:Array Ef:=#[Ey Ew 0,Ey Ew 0,Ey Ew 0,Ey Ew 0,Ez false,Ex none 0 0,Ez false,Ex none 0 0,Ez false,Ex none 0 0,Ez false,Ex none 0 0,Ez false,Ex none 0 0,Ez false,Ex none 0 0,Ez false,Ex none 0 0,Ez false,Ex none 0 0]
abbrev jp:Array Ef:=#[Ez false,Ex none 0 0,Ez false,Ex none 0 0]
abbrev H8:Array Ef:=#[Ez false,Ex none 0 0,Ez false,Ex none 0 0,Ez false,Ex none 0 0,Ez false,Ex none 0 0,Ez false,Ex none 0 0,Ez false,Ex none 0 0,Ez false,Ex none 0 0,Ez false,Ex none 0 0]
abbrev Uk:Array Ef:=#[Ey Ew 0,Ey Ew 0,Ey Ew 0,Ey Ew 0,Ey Ew 0,Ey Ew 0,Ey Ew 0,Ey Ew 0,Ey Ew 0]
variable {a b:Int} {l:List Ef} {i n:Nat} {a0 a1 be bg cy f8 gJ gT l3 lI lZ mf a2 a3 a4 a5 a6 a7 a8 a9 u:Ef} {W W':Ee}
theorem yK {k:IntKind} (h:a=b):Ending.returned (Ey k a) = .returned (Ey k b):=by rw[h]
def DA (y:Int):Int:=if 0<y then 1 else 0
theorem ZC (x y:Int) (b:Nat) (E:y.toNat=x.toNat / 2^b) (H:0<y) (h:y<256) (I:b<=56) :
  wrap64 ((b:Int)+wrap64 ((bitLen y.toNat:Nat):Int))=((bitLen x.toNat:Nat):Int):=by
 have l:=bitLen_le8 y.toNat D5;have s:=bitLen_shift x.toNat b D5;rw[<- E]at s;rw[s];unfold wrap64;omega
theorem JH (x:Int) (h:x<256):wrap64 (wrap64 ((bitLen x.toNat:Nat):Int))=((bitLen x.toNat:Nat):Int):=by
 have l:=bitLen_le8 x.toNat D5;unfold wrap64;omega
def Dg (t:Int):Int:=t / 18446744073709551616
def Dh (t:Int):Int:=t%18446744073709551616
def zL (a b:Int):Int:=if a=b then 0 else if a<b then -1 else 1
theorem Ul : zL a b<0↔a<b:=by unfold zL; split<;>(try split)<;>omega
theorem Um : 0<zL a b↔b<a:=by unfold zL; split<;>(try split)<;>omega
def dn (t d:Int):Int:=max (-4611686018427387904) (min (t / d) 4611686018427387904)
def DB (t d:Int):Int:= - dn (-t) d
def md (H E:Int):Int×Int×Int:=if H < -2305843009213693952\/2305843009213693952<E then(0,0,16)else(H,E,0)
def V (H E:Int):Prop:=H<=E/\-2305843009213693952<=H/\E<=2305843009213693952
instance (lo E:Int):Decidable (V lo E):=by unfold V; infer_instance
def DC (p:Prop) [Decidable p] (t:Int×Int×Int):Int×Int×Int:=if p then t else(0,0,8)
def G3 (w:Ee) (t:Int×Int×Int) (e:Ending) (w':Ee):Prop:=
 e = .returned (.tuple #[.agg #[Ey Ew t.1,Ey Ew t.2.1],Ey Ew t.2.2])/\Below w.heap.size w w'
theorem bz {E:Ee} (H:Below W.heap.size W E) {b:Nat} (h:b<W.heap.size):(∀o,E.cell? ⟨b,o,none⟩=W.cell? ⟨b,o,none⟩)/\(∀o,E.frozen? ⟨b,o,none⟩=W.frozen? ⟨b,o,none⟩):=
 ⟨fun o=>H.cell (p:=⟨b,o,none⟩) h,fun o=>H.frozen (p:=⟨b,o,none⟩) h⟩
def zf (W W':Ee):Prop:=Below W.heap.size W W'
theorem zt {w:Ee} (h:Below n w W) (E:n<=w.heap.size) (H:zf W W'):Below n w W':=h.trans (H.mono (Nat.le_trans E h.size))
def ai (w:Ee) (g:Nat) (t:Ei) (cs:Array Ef):Prop:=w.heap[g]? = some (.cells cs t (0,0))
section
variable {w w':Ee} {g:Nat} {t:Ei} {cs:Array Ef}
theorem ai.lt (h:ai w g t cs):g<w.heap.size:=by
 rcases Ep g w.heap.size with E | H
 . exact E
 . unfold ai at h; rw[Array.getElem?_eq_none H]at h; cases h
theorem ai.cell (h:ai w g t cs) (i:Nat):w.cell? ⟨g,i,none⟩=cs[i]? :=cell_of_row w g i cs t (0,0) h
theorem ai.c (h:ai w g t cs) (i:Nat) {v:Ef} (hv:cs[i]? = some v):w.cell? ⟨g,i,none⟩=some v:=(h.cell i).trans hv
theorem ai.fr (h:ai w g t cs) (i:Nat):w.frozen? ⟨g,i,none⟩=false:=by
 unfold ai at h;simp[World.frozen?,h]
theorem ai.new (w:Ee) (t:Ei) (cs:Array Ef):ai (w.alloc (.cells cs t)) w.heap.size t cs:=heap_alloc_new w _
theorem ai.dZ (w:Ee) (o:Obj) (t:Ei) (cs:Array Ef):ai ((w.alloc o).alloc (.cells cs t)) (w.heap.size+1) t cs:=by
 have h:=ai.new (w.alloc o) t cs
 rwa[Es]at h
theorem ai.drew (h:ai w g t cs):ai w.drew g t cs:=h
theorem ai.drewN (h:ai w g t cs) (n:Nat):ai (w.drewN n) g t cs:=h
theorem ai.alloc (h:ai w g t cs) (o:Obj):ai (w.alloc o) g t cs:=(Below.heap_alloc w o g h.lt).trans h
theorem ai.bL (h:ai w g t cs) (i:Nat) (u:Ef):ai (w.setCell ⟨g,i,none⟩ u) g t (cs.setIfInBounds i u):=by
 unfold ai at h|-;simp[World.setCell,Array.getElem?_modify,h]
theorem ai.bG (h:ai w g t cs) {p:Addr} (E:g≠p.block) (u:Ef):ai (w.setCell p u) g t cs:=(Below.heap_setCell w p u g E).trans h
theorem ai.ae (h:ai w g t cs) (E:zf w w'):ai w' g t cs:=(E.block g h.lt).trans h
end
def C7 (n:Int):Int:=(Nat.sqrt n.toNat:Nat)
theorem yX {B:Nat} {a w:Ee} (h:Below B a w) (n:Nat):Below B a (w.drewN n):=⟨h.os,h.tape,h.output,h.size,h.block⟩
section
variable {w w':Ee} {g:Nat} {t:Ei} {cs cs':Array Ef}
theorem ai.bO (h:w.heap.size=g):ai (w.alloc (.cells cs t)) g t cs:=h▸ai.new w t cs
theorem ai.bF (h:ai w g t cs) (e:cs.setIfInBounds i u=cs'):ai (w.setCell ⟨g,i,none⟩ u) g t cs':=e▸h.bL i u
theorem ai.both {x y v:Ef} (h:ai w g t #[x,y]):ai ((w.setCell ⟨g,0,none⟩ u).setCell ⟨g,1,none⟩ v) g t #[u,v]:=(h.bL 0 u).bL 1 v
theorem ai.aH {b:Nat} (h:ai w g t cs) (E:g≠b):ai (w.setCell ⟨b,i,none⟩ u) g t cs:=h.bG (p:=⟨b,i,none⟩) E u
end
/-- the same three with the usual proofs filled in: merge.py puts them in the place of the long words (a claim's size) -/
theorem Qt {w:World} {g:Nat} {t:TypeId} {cs:Array Value} (h:ai w g t cs:=by (repeat' first | with_reducible assumption | (with_reducible refine ai.bO ?_; first | with_reducible rfl | (simp only[World.size_alloc,World.size_setCell,World.size_drew]; done)) | with_reducible refine ai.alloc ?_ _ | with_reducible refine ai.drew ?_ | with_reducible refine ai.drewN ?_ _ | with_reducible apply ai.both | with_reducible refine ai.aH ?_ ?_ | (show _≠_; omega))):ai w g t cs:=h
theorem ai.aw {w w':World} {g:Nat} {t:TypeId} {cs:Array Value} (st:zf w w') (h:ai w g t cs:=by (repeat' first | with_reducible assumption | (with_reducible refine ai.bO ?_; first | with_reducible rfl | (simp only[World.size_alloc,World.size_setCell,World.size_drew]; done)) | with_reducible refine ai.alloc ?_ _ | with_reducible refine ai.drew ?_ | with_reducible refine ai.drewN ?_ _ | with_reducible apply ai.both | with_reducible refine ai.aH ?_ ?_ | (show _≠_; omega))):ai w' g t cs:=h.ae st
theorem zh {w w':World} (h:Below n w w':=by (repeat' first | with_reducible assumption | with_reducible exact Below.refl _ _ | with_reducible refine Below.alloc ?_ ?_ _ | with_reducible refine Below.drew ?_ | with_reducible refine yX ?_ _ | with_reducible refine Below.setCell ?_ ?_ _ | go_size)):Below n w w':=h
theorem zT {w:World} (st:zf W W') (h:Below w.heap.size w W:=by (repeat' first | with_reducible assumption | with_reducible exact Below.refl _ _ | with_reducible refine Below.alloc ?_ ?_ _ | with_reducible refine Below.drew ?_ | with_reducible refine yX ?_ _ | with_reducible refine Below.setCell ?_ ?_ _ | go_size)):Below w.heap.size w W':=zt h (Nat.le_refl _) st
theorem ai.q0 {w:Ee} {g:Nat} {t:Ei} (h:ai w g t (List.toArray (a0::l))):w.cell? ⟨g,0,none⟩=some a0:=h.c 0 rfl
theorem ai.q1 {w:Ee} {g:Nat} {t:Ei} (h:ai w g t (List.toArray (a0::a1::l))):w.cell? ⟨g,1,none⟩=some a1:=h.c 1 rfl
theorem ai.q2 {w:Ee} {g:Nat} {t:Ei} (h:ai w g t (List.toArray (a0::a1::a2::l))):w.cell? ⟨g,2,none⟩=some a2:=h.c 2 rfl
theorem ai.q3 {w:Ee} {g:Nat} {t:Ei} (h:ai w g t (List.toArray (a0::a1::a2::a3::l))):w.cell? ⟨g,3,none⟩=some a3:=h.c 3 rfl
theorem ai.q4 {w:Ee} {g:Nat} {t:Ei} (h:ai w g t (List.toArray (a0::a1::a2::a3::a4::l))):w.cell? ⟨g,4,none⟩=some a4:=h.c 4 rfl
theorem ai.q5 {w:Ee} {g:Nat} {t:Ei} (h:ai w g t (List.toArray (a0::a1::a2::a3::a4::a5::l))):w.cell? ⟨g,5,none⟩=some a5:=h.c 5 rfl
theorem ai.q6 {w:Ee} {g:Nat} {t:Ei} (h:ai w g t (List.toArray (a0::a1::a2::a3::a4::a5::a6::l))):w.cell? ⟨g,6,none⟩=some a6:=h.c 6 rfl
theorem ai.q7 {w:Ee} {g:Nat} {t:Ei} (h:ai w g t (List.toArray (a0::a1::a2::a3::a4::a5::a6::a7::l))):w.cell? ⟨g,7,none⟩=some a7:=h.c 7 rfl
theorem ai.q8 {w:Ee} {g:Nat} {t:Ei} (h:ai w g t (List.toArray (a0::a1::a2::a3::a4::a5::a6::a7::a8::l))):w.cell? ⟨g,8,none⟩=some a8:=h.c 8 rfl
theorem ai.q9 {w:Ee} {g:Nat} {t:Ei} (h:ai w g t (List.toArray (a0::a1::a2::a3::a4::a5::a6::a7::a8::a9::l))):w.cell? ⟨g,9,none⟩=some a9:=h.c 9 rfl
theorem ai.fI {w:Ee} {g:Nat} {t:Ei} (h:ai w g t (List.toArray (a0::a1::a2::a3::a4::a5::a6::a7::a8::a9::be::l))):w.cell? ⟨g,10,none⟩=some be:=h.c 10 rfl
theorem ai.fL {w:Ee} {g:Nat} {t:Ei} (h:ai w g t (List.toArray (a0::a1::a2::a3::a4::a5::a6::a7::a8::a9::be::bg::l))):w.cell? ⟨g,11,none⟩=some bg:=h.c 11 rfl
theorem ai.fE {w:Ee} {g:Nat} {t:Ei} (h:ai w g t (List.toArray (a0::a1::a2::a3::a4::a5::a6::a7::a8::a9::be::bg::cy::l))):w.cell? ⟨g,12,none⟩=some cy:=h.c 12 rfl
theorem ai.fK {w:Ee} {g:Nat} {t:Ei} (h:ai w g t (List.toArray (a0::a1::a2::a3::a4::a5::a6::a7::a8::a9::be::bg::cy::f8::l))):w.cell? ⟨g,13,none⟩=some f8:=h.c 13 rfl
theorem ai.fR {w:Ee} {g:Nat} {t:Ei} (h:ai w g t (List.toArray (a0::a1::a2::a3::a4::a5::a6::a7::a8::a9::be::bg::cy::f8::gJ::l))):w.cell? ⟨g,14,none⟩=some gJ:=h.c 14 rfl
theorem ai.fO {w:Ee} {g:Nat} {t:Ei} (h:ai w g t (List.toArray (a0::a1::a2::a3::a4::a5::a6::a7::a8::a9::be::bg::cy::f8::gJ::gT::l))):w.cell? ⟨g,15,none⟩=some gT:=h.c 15 rfl
theorem ai.fX {w:Ee} {g:Nat} {t:Ei} (h:ai w g t (List.toArray (a0::a1::a2::a3::a4::a5::a6::a7::a8::a9::be::bg::cy::f8::gJ::gT::l3::l))):w.cell? ⟨g,16,none⟩=some l3:=h.c 16 rfl
theorem ai.gr {w:Ee} {g:Nat} {t:Ei} (h:ai w g t (List.toArray (a0::a1::a2::a3::a4::a5::a6::a7::a8::a9::be::bg::cy::f8::gJ::gT::l3::lI::l))):w.cell? ⟨g,17,none⟩=some lI:=h.c 17 rfl
theorem ai.gi {w:Ee} {g:Nat} {t:Ei} (h:ai w g t (List.toArray (a0::a1::a2::a3::a4::a5::a6::a7::a8::a9::be::bg::cy::f8::gJ::gT::l3::lI::lZ::l))):w.cell? ⟨g,18,none⟩=some lZ:=h.c 18 rfl
theorem ai.gj {w:Ee} {g:Nat} {t:Ei} (h:ai w g t (List.toArray (a0::a1::a2::a3::a4::a5::a6::a7::a8::a9::be::bg::cy::f8::gJ::gT::l3::lI::lZ::mf::l))):w.cell? ⟨g,19,none⟩=some mf:=h.c 19 rfl
theorem ai.gg {w:Ee} {g:Nat} {t:Ei} {E:Ef} (h:ai w g t (List.toArray (a0::a1::a2::a3::a4::a5::a6::a7::a8::a9::be::bg::cy::f8::gJ::gT::l3::lI::lZ::mf::E::l))):w.cell? ⟨g,20,none⟩=some E:=h.c 20 rfl
theorem ai.aG {E w w':World} {g:Nat} {t:TypeId} {cs:Array Value} (H:ai E g t cs) (st:zf w w') (h:ai w g t cs:=by (repeat' first | with_reducible assumption | (with_reducible refine ai.bO ?_; first | with_reducible rfl | (simp only[World.size_alloc,World.size_setCell,World.size_drew]; done)) | with_reducible refine ai.alloc ?_ _ | with_reducible refine ai.drew ?_ | with_reducible refine ai.drewN ?_ _ | with_reducible apply ai.both | with_reducible refine ai.aH ?_ ?_ | (show _≠_; omega))):ai w' g t cs:=h.ae st
theorem ai.r1 {w:Ee} {g:Nat} {t:Ei} (h:ai w g t (List.toArray (a0::a1::l))):w.cell? ⟨g,0,none⟩=some a0/\w.cell? ⟨g,1,none⟩=some a1:=⟨h.c 0 rfl,h.c 1 rfl⟩
theorem ai.s1 {w:Ee} {g:Nat} {t:Ei} (h:ai w g t (List.toArray (a0::a1::l))):w.cell? ⟨g,0,none⟩=some a0/\w.cell? ⟨g,1,none⟩=some a1/\(∀i,w.frozen? ⟨g,i,none⟩=false)/\g<w.heap.size:=⟨h.c 0 rfl,h.c 1 rfl,h.fr,h.lt⟩
theorem ai.r2 {w:Ee} {g:Nat} {t:Ei} (h:ai w g t (List.toArray (a0::a1::a2::l))):w.cell? ⟨g,0,none⟩=some a0/\w.cell? ⟨g,1,none⟩=some a1/\w.cell? ⟨g,2,none⟩=some a2:=⟨h.c 0 rfl,h.c 1 rfl,h.c 2 rfl⟩
theorem ai.s2 {w:Ee} {g:Nat} {t:Ei} (h:ai w g t (List.toArray (a0::a1::a2::l))):w.cell? ⟨g,0,none⟩=some a0/\w.cell? ⟨g,1,none⟩=some a1/\w.cell? ⟨g,2,none⟩=some a2/\(∀i,w.frozen? ⟨g,i,none⟩=false)/\g<w.heap.size:=⟨h.c 0 rfl,h.c 1 rfl,h.c 2 rfl,h.fr,h.lt⟩
theorem ai.r3 {w:Ee} {g:Nat} {t:Ei} (h:ai w g t (List.toArray (a0::a1::a2::a3::l))):w.cell? ⟨g,0,none⟩=some a0/\w.cell? ⟨g,1,none⟩=some a1/\w.cell? ⟨g,2,none⟩=some a2/\w.cell? ⟨g,3,none⟩=some a3:=⟨h.c 0 rfl,h.c 1 rfl,h.c 2 rfl,h.c 3 rfl⟩
theorem ai.s3 {w:Ee} {g:Nat} {t:Ei} (h:ai w g t (List.toArray (a0::a1::a2::a3::l))):w.cell? ⟨g,0,none⟩=some a0/\w.cell? ⟨g,1,none⟩=some a1/\w.cell? ⟨g,2,none⟩=some a2/\w.cell? ⟨g,3,none⟩=some a3/\(∀i,w.frozen? ⟨g,i,none⟩=false)/\g<w.heap.size:=⟨h.c 0 rfl,h.c 1 rfl,h.c 2 rfl,h.c 3 rfl,h.fr,h.lt⟩
theorem ai.r4 {w:Ee} {g:Nat} {t:Ei} (h:ai w g t (List.toArray (a0::a1::a2::a3::a4::l))):w.cell? ⟨g,0,none⟩=some a0/\w.cell? ⟨g,1,none⟩=some a1/\w.cell? ⟨g,2,none⟩=some a2/\w.cell? ⟨g,3,none⟩=some a3/\w.cell? ⟨g,4,none⟩=some a4:=⟨h.c 0 rfl,h.c 1 rfl,h.c 2 rfl,h.c 3 rfl,h.c 4 rfl⟩
theorem ai.s4 {w:Ee} {g:Nat} {t:Ei} (h:ai w g t (List.toArray (a0::a1::a2::a3::a4::l))):w.cell? ⟨g,0,none⟩=some a0/\w.cell? ⟨g,1,none⟩=some a1/\w.cell? ⟨g,2,none⟩=some a2/\w.cell? ⟨g,3,none⟩=some a3/\w.cell? ⟨g,4,none⟩=some a4/\(∀i,w.frozen? ⟨g,i,none⟩=false)/\g<w.heap.size:=⟨h.c 0 rfl,h.c 1 rfl,h.c 2 rfl,h.c 3 rfl,h.c 4 rfl,h.fr,h.lt⟩
theorem ai.r5 {w:Ee} {g:Nat} {t:Ei} (h:ai w g t (List.toArray (a0::a1::a2::a3::a4::a5::l))):w.cell? ⟨g,0,none⟩=some a0/\w.cell? ⟨g,1,none⟩=some a1/\w.cell? ⟨g,2,none⟩=some a2/\w.cell? ⟨g,3,none⟩=some a3/\w.cell? ⟨g,4,none⟩=some a4/\w.cell? ⟨g,5,none⟩=some a5:=⟨h.c 0 rfl,h.c 1 rfl,h.c 2 rfl,h.c 3 rfl,h.c 4 rfl,h.c 5 rfl⟩
theorem ai.s5 {w:Ee} {g:Nat} {t:Ei} (h:ai w g t (List.toArray (a0::a1::a2::a3::a4::a5::l))):w.cell? ⟨g,0,none⟩=some a0/\w.cell? ⟨g,1,none⟩=some a1/\w.cell? ⟨g,2,none⟩=some a2/\w.cell? ⟨g,3,none⟩=some a3/\w.cell? ⟨g,4,none⟩=some a4/\w.cell? ⟨g,5,none⟩=some a5/\(∀i,w.frozen? ⟨g,i,none⟩=false)/\g<w.heap.size:=⟨h.c 0 rfl,h.c 1 rfl,h.c 2 rfl,h.c 3 rfl,h.c 4 rfl,h.c 5 rfl,h.fr,h.lt⟩
theorem ai.r6 {w:Ee} {g:Nat} {t:Ei} (h:ai w g t (List.toArray (a0::a1::a2::a3::a4::a5::a6::l))):w.cell? ⟨g,0,none⟩=some a0/\w.cell? ⟨g,1,none⟩=some a1/\w.cell? ⟨g,2,none⟩=some a2/\w.cell? ⟨g,3,none⟩=some a3/\w.cell? ⟨g,4,none⟩=some a4/\w.cell? ⟨g,5,none⟩=some a5/\w.cell? ⟨g,6,none⟩=some a6:=⟨h.c 0 rfl,h.c 1 rfl,h.c 2 rfl,h.c 3 rfl,h.c 4 rfl,h.c 5 rfl,h.c 6 rfl⟩
theorem ai.s6 {w:Ee} {g:Nat} {t:Ei} (h:ai w g t (List.toArray (a0::a1::a2::a3::a4::a5::a6::l))):w.cell? ⟨g,0,none⟩=some a0/\w.cell? ⟨g,1,none⟩=some a1/\w.cell? ⟨g,2,none⟩=some a2/\w.cell? ⟨g,3,none⟩=some a3/\w.cell? ⟨g,4,none⟩=some a4/\w.cell? ⟨g,5,none⟩=some a5/\w.cell? ⟨g,6,none⟩=some a6/\(∀i,w.frozen? ⟨g,i,none⟩=false)/\g<w.heap.size:=⟨h.c 0 rfl,h.c 1 rfl,h.c 2 rfl,h.c 3 rfl,h.c 4 rfl,h.c 5 rfl,h.c 6 rfl,h.fr,h.lt⟩
theorem ai.r7 {w:Ee} {g:Nat} {t:Ei} (h:ai w g t (List.toArray (a0::a1::a2::a3::a4::a5::a6::a7::l))):w.cell? ⟨g,0,none⟩=some a0/\w.cell? ⟨g,1,none⟩=some a1/\w.cell? ⟨g,2,none⟩=some a2/\w.cell? ⟨g,3,none⟩=some a3/\w.cell? ⟨g,4,none⟩=some a4/\w.cell? ⟨g,5,none⟩=some a5/\w.cell? ⟨g,6,none⟩=some a6/\w.cell? ⟨g,7,none⟩=some a7:=⟨h.c 0 rfl,h.c 1 rfl,h.c 2 rfl,h.c 3 rfl,h.c 4 rfl,h.c 5 rfl,h.c 6 rfl,h.c 7 rfl⟩
theorem ai.s7 {w:Ee} {g:Nat} {t:Ei} (h:ai w g t (List.toArray (a0::a1::a2::a3::a4::a5::a6::a7::l))):w.cell? ⟨g,0,none⟩=some a0/\w.cell? ⟨g,1,none⟩=some a1/\w.cell? ⟨g,2,none⟩=some a2/\w.cell? ⟨g,3,none⟩=some a3/\w.cell? ⟨g,4,none⟩=some a4/\w.cell? ⟨g,5,none⟩=some a5/\w.cell? ⟨g,6,none⟩=some a6/\w.cell? ⟨g,7,none⟩=some a7/\(∀i,w.frozen? ⟨g,i,none⟩=false)/\g<w.heap.size:=⟨h.c 0 rfl,h.c 1 rfl,h.c 2 rfl,h.c 3 rfl,h.c 4 rfl,h.c 5 rfl,h.c 6 rfl,h.c 7 rfl,h.fr,h.lt⟩
theorem ai.r8 {w:Ee} {g:Nat} {t:Ei} (h:ai w g t (List.toArray (a0::a1::a2::a3::a4::a5::a6::a7::a8::l))):w.cell? ⟨g,0,none⟩=some a0/\w.cell? ⟨g,1,none⟩=some a1/\w.cell? ⟨g,2,none⟩=some a2/\w.cell? ⟨g,3,none⟩=some a3/\w.cell? ⟨g,4,none⟩=some a4/\w.cell? ⟨g,5,none⟩=some a5/\w.cell? ⟨g,6,none⟩=some a6/\w.cell? ⟨g,7,none⟩=some a7/\w.cell? ⟨g,8,none⟩=some a8:=⟨h.c 0 rfl,h.c 1 rfl,h.c 2 rfl,h.c 3 rfl,h.c 4 rfl,h.c 5 rfl,h.c 6 rfl,h.c 7 rfl,h.c 8 rfl⟩
theorem ai.s8 {w:Ee} {g:Nat} {t:Ei} (h:ai w g t (List.toArray (a0::a1::a2::a3::a4::a5::a6::a7::a8::l))):w.cell? ⟨g,0,none⟩=some a0/\w.cell? ⟨g,1,none⟩=some a1/\w.cell? ⟨g,2,none⟩=some a2/\w.cell? ⟨g,3,none⟩=some a3/\w.cell? ⟨g,4,none⟩=some a4/\w.cell? ⟨g,5,none⟩=some a5/\w.cell? ⟨g,6,none⟩=some a6/\w.cell? ⟨g,7,none⟩=some a7/\w.cell? ⟨g,8,none⟩=some a8/\(∀i,w.frozen? ⟨g,i,none⟩=false)/\g<w.heap.size:=⟨h.c 0 rfl,h.c 1 rfl,h.c 2 rfl,h.c 3 rfl,h.c 4 rfl,h.c 5 rfl,h.c 6 rfl,h.c 7 rfl,h.c 8 rfl,h.fr,h.lt⟩
theorem ai.r9 {w:Ee} {g:Nat} {t:Ei} (h:ai w g t (List.toArray (a0::a1::a2::a3::a4::a5::a6::a7::a8::a9::l))):w.cell? ⟨g,0,none⟩=some a0/\w.cell? ⟨g,1,none⟩=some a1/\w.cell? ⟨g,2,none⟩=some a2/\w.cell? ⟨g,3,none⟩=some a3/\w.cell? ⟨g,4,none⟩=some a4/\w.cell? ⟨g,5,none⟩=some a5/\w.cell? ⟨g,6,none⟩=some a6/\w.cell? ⟨g,7,none⟩=some a7/\w.cell? ⟨g,8,none⟩=some a8/\w.cell? ⟨g,9,none⟩=some a9:=⟨h.c 0 rfl,h.c 1 rfl,h.c 2 rfl,h.c 3 rfl,h.c 4 rfl,h.c 5 rfl,h.c 6 rfl,h.c 7 rfl,h.c 8 rfl,h.c 9 rfl⟩
theorem ai.s9 {w:Ee} {g:Nat} {t:Ei} (h:ai w g t (List.toArray (a0::a1::a2::a3::a4::a5::a6::a7::a8::a9::l))):w.cell? ⟨g,0,none⟩=some a0/\w.cell? ⟨g,1,none⟩=some a1/\w.cell? ⟨g,2,none⟩=some a2/\w.cell? ⟨g,3,none⟩=some a3/\w.cell? ⟨g,4,none⟩=some a4/\w.cell? ⟨g,5,none⟩=some a5/\w.cell? ⟨g,6,none⟩=some a6/\w.cell? ⟨g,7,none⟩=some a7/\w.cell? ⟨g,8,none⟩=some a8/\w.cell? ⟨g,9,none⟩=some a9/\(∀i,w.frozen? ⟨g,i,none⟩=false)/\g<w.heap.size:=⟨h.c 0 rfl,h.c 1 rfl,h.c 2 rfl,h.c 3 rfl,h.c 4 rfl,h.c 5 rfl,h.c 6 rfl,h.c 7 rfl,h.c 8 rfl,h.c 9 rfl,h.fr,h.lt⟩
theorem ai.eV {w:Ee} {g:Nat} {t:Ei} (h:ai w g t (List.toArray (a0::a1::a2::a3::a4::a5::a6::a7::a8::a9::be::l))):w.cell? ⟨g,0,none⟩=some a0/\w.cell? ⟨g,1,none⟩=some a1/\w.cell? ⟨g,2,none⟩=some a2/\w.cell? ⟨g,3,none⟩=some a3/\w.cell? ⟨g,4,none⟩=some a4/\w.cell? ⟨g,5,none⟩=some a5/\w.cell? ⟨g,6,none⟩=some a6/\w.cell? ⟨g,7,none⟩=some a7/\w.cell? ⟨g,8,none⟩=some a8/\w.cell? ⟨g,9,none⟩=some a9/\w.cell? ⟨g,10,none⟩=some be:=⟨h.c 0 rfl,h.c 1 rfl,h.c 2 rfl,h.c 3 rfl,h.c 4 rfl,h.c 5 rfl,h.c 6 rfl,h.c 7 rfl,h.c 8 rfl,h.c 9 rfl,h.c 10 rfl⟩
theorem ai.eZ {w:Ee} {g:Nat} {t:Ei} (h:ai w g t (List.toArray (a0::a1::a2::a3::a4::a5::a6::a7::a8::a9::be::bg::l))):w.cell? ⟨g,0,none⟩=some a0/\w.cell? ⟨g,1,none⟩=some a1/\w.cell? ⟨g,2,none⟩=some a2/\w.cell? ⟨g,3,none⟩=some a3/\w.cell? ⟨g,4,none⟩=some a4/\w.cell? ⟨g,5,none⟩=some a5/\w.cell? ⟨g,6,none⟩=some a6/\w.cell? ⟨g,7,none⟩=some a7/\w.cell? ⟨g,8,none⟩=some a8/\w.cell? ⟨g,9,none⟩=some a9/\w.cell? ⟨g,10,none⟩=some be/\w.cell? ⟨g,11,none⟩=some bg:=⟨h.c 0 rfl,h.c 1 rfl,h.c 2 rfl,h.c 3 rfl,h.c 4 rfl,h.c 5 rfl,h.c 6 rfl,h.c 7 rfl,h.c 8 rfl,h.c 9 rfl,h.c 10 rfl,h.c 11 rfl⟩
theorem ai.dX {w:Ee} {g:Nat} {t:Ei} (h:ai w g t (List.toArray (a0::a1::a2::a3::a4::a5::a6::a7::a8::a9::be::bg::l))):w.cell? ⟨g,0,none⟩=some a0/\w.cell? ⟨g,1,none⟩=some a1/\w.cell? ⟨g,2,none⟩=some a2/\w.cell? ⟨g,3,none⟩=some a3/\w.cell? ⟨g,4,none⟩=some a4/\w.cell? ⟨g,5,none⟩=some a5/\w.cell? ⟨g,6,none⟩=some a6/\w.cell? ⟨g,7,none⟩=some a7/\w.cell? ⟨g,8,none⟩=some a8/\w.cell? ⟨g,9,none⟩=some a9/\w.cell? ⟨g,10,none⟩=some be/\w.cell? ⟨g,11,none⟩=some bg/\(∀i,w.frozen? ⟨g,i,none⟩=false)/\g<w.heap.size:=⟨h.c 0 rfl,h.c 1 rfl,h.c 2 rfl,h.c 3 rfl,h.c 4 rfl,h.c 5 rfl,h.c 6 rfl,h.c 7 rfl,h.c 8 rfl,h.c 9 rfl,h.c 10 rfl,h.c 11 rfl,h.fr,h.lt⟩
theorem ai.eY {w:Ee} {g:Nat} {t:Ei} (h:ai w g t (List.toArray (a0::a1::a2::a3::a4::a5::a6::a7::a8::a9::be::bg::cy::l))):w.cell? ⟨g,0,none⟩=some a0/\w.cell? ⟨g,1,none⟩=some a1/\w.cell? ⟨g,2,none⟩=some a2/\w.cell? ⟨g,3,none⟩=some a3/\w.cell? ⟨g,4,none⟩=some a4/\w.cell? ⟨g,5,none⟩=some a5/\w.cell? ⟨g,6,none⟩=some a6/\w.cell? ⟨g,7,none⟩=some a7/\w.cell? ⟨g,8,none⟩=some a8/\w.cell? ⟨g,9,none⟩=some a9/\w.cell? ⟨g,10,none⟩=some be/\w.cell? ⟨g,11,none⟩=some bg/\w.cell? ⟨g,12,none⟩=some cy:=⟨h.c 0 rfl,h.c 1 rfl,h.c 2 rfl,h.c 3 rfl,h.c 4 rfl,h.c 5 rfl,h.c 6 rfl,h.c 7 rfl,h.c 8 rfl,h.c 9 rfl,h.c 10 rfl,h.c 11 rfl,h.c 12 rfl⟩
theorem ai.dN {w:Ee} {g:Nat} {t:Ei} (h:ai w g t (List.toArray (a0::a1::a2::a3::a4::a5::a6::a7::a8::a9::be::bg::cy::f8::l))):w.cell? ⟨g,0,none⟩=some a0/\w.cell? ⟨g,1,none⟩=some a1/\w.cell? ⟨g,2,none⟩=some a2/\w.cell? ⟨g,3,none⟩=some a3/\w.cell? ⟨g,4,none⟩=some a4/\w.cell? ⟨g,5,none⟩=some a5/\w.cell? ⟨g,6,none⟩=some a6/\w.cell? ⟨g,7,none⟩=some a7/\w.cell? ⟨g,8,none⟩=some a8/\w.cell? ⟨g,9,none⟩=some a9/\w.cell? ⟨g,10,none⟩=some be/\w.cell? ⟨g,11,none⟩=some bg/\w.cell? ⟨g,12,none⟩=some cy/\w.cell? ⟨g,13,none⟩=some f8:=⟨h.c 0 rfl,h.c 1 rfl,h.c 2 rfl,h.c 3 rfl,h.c 4 rfl,h.c 5 rfl,h.c 6 rfl,h.c 7 rfl,h.c 8 rfl,h.c 9 rfl,h.c 10 rfl,h.c 11 rfl,h.c 12 rfl,h.c 13 rfl⟩
theorem ai.eE {w:Ee} {g:Nat} {t:Ei} (h:ai w g t (List.toArray (a0::a1::a2::a3::a4::a5::a6::a7::a8::a9::be::bg::cy::f8::gJ::gT::l))):w.cell? ⟨g,0,none⟩=some a0/\w.cell? ⟨g,1,none⟩=some a1/\w.cell? ⟨g,2,none⟩=some a2/\w.cell? ⟨g,3,none⟩=some a3/\w.cell? ⟨g,4,none⟩=some a4/\w.cell? ⟨g,5,none⟩=some a5/\w.cell? ⟨g,6,none⟩=some a6/\w.cell? ⟨g,7,none⟩=some a7/\w.cell? ⟨g,8,none⟩=some a8/\w.cell? ⟨g,9,none⟩=some a9/\w.cell? ⟨g,10,none⟩=some be/\w.cell? ⟨g,11,none⟩=some bg/\w.cell? ⟨g,12,none⟩=some cy/\w.cell? ⟨g,13,none⟩=some f8/\w.cell? ⟨g,14,none⟩=some gJ/\w.cell? ⟨g,15,none⟩=some gT:=⟨h.c 0 rfl,h.c 1 rfl,h.c 2 rfl,h.c 3 rfl,h.c 4 rfl,h.c 5 rfl,h.c 6 rfl,h.c 7 rfl,h.c 8 rfl,h.c 9 rfl,h.c 10 rfl,h.c 11 rfl,h.c 12 rfl,h.c 13 rfl,h.c 14 rfl,h.c 15 rfl⟩
theorem ai.fV {w:Ee} {g:Nat} {t:Ei} (h:ai w g t (List.toArray (a0::a1::a2::a3::a4::a5::a6::a7::a8::a9::be::bg::cy::f8::gJ::gT::l))):w.cell? ⟨g,0,none⟩=some a0/\w.cell? ⟨g,1,none⟩=some a1/\w.cell? ⟨g,2,none⟩=some a2/\w.cell? ⟨g,3,none⟩=some a3/\w.cell? ⟨g,4,none⟩=some a4/\w.cell? ⟨g,5,none⟩=some a5/\w.cell? ⟨g,6,none⟩=some a6/\w.cell? ⟨g,7,none⟩=some a7/\w.cell? ⟨g,8,none⟩=some a8/\w.cell? ⟨g,9,none⟩=some a9/\w.cell? ⟨g,10,none⟩=some be/\w.cell? ⟨g,11,none⟩=some bg/\w.cell? ⟨g,12,none⟩=some cy/\w.cell? ⟨g,13,none⟩=some f8/\w.cell? ⟨g,14,none⟩=some gJ/\w.cell? ⟨g,15,none⟩=some gT/\(∀i,w.frozen? ⟨g,i,none⟩=false)/\g<w.heap.size:=⟨h.c 0 rfl,h.c 1 rfl,h.c 2 rfl,h.c 3 rfl,h.c 4 rfl,h.c 5 rfl,h.c 6 rfl,h.c 7 rfl,h.c 8 rfl,h.c 9 rfl,h.c 10 rfl,h.c 11 rfl,h.c 12 rfl,h.c 13 rfl,h.c 14 rfl,h.c 15 rfl,h.fr,h.lt⟩
theorem ai.fo {w:Ee} {g:Nat} {t:Ei} (h:ai w g t (List.toArray (a0::a1::a2::a3::a4::a5::a6::a7::a8::a9::be::bg::cy::f8::gJ::gT::l3::lI::lZ::mf::l))):w.cell? ⟨g,0,none⟩=some a0/\w.cell? ⟨g,1,none⟩=some a1/\w.cell? ⟨g,2,none⟩=some a2/\w.cell? ⟨g,3,none⟩=some a3/\w.cell? ⟨g,4,none⟩=some a4/\w.cell? ⟨g,5,none⟩=some a5/\w.cell? ⟨g,6,none⟩=some a6/\w.cell? ⟨g,7,none⟩=some a7/\w.cell? ⟨g,8,none⟩=some a8/\w.cell? ⟨g,9,none⟩=some a9/\w.cell? ⟨g,10,none⟩=some be/\w.cell? ⟨g,11,none⟩=some bg/\w.cell? ⟨g,12,none⟩=some cy/\w.cell? ⟨g,13,none⟩=some f8/\w.cell? ⟨g,14,none⟩=some gJ/\w.cell? ⟨g,15,none⟩=some gT/\w.cell? ⟨g,16,none⟩=some l3/\w.cell? ⟨g,17,none⟩=some lI/\w.cell? ⟨g,18,none⟩=some lZ/\w.cell? ⟨g,19,none⟩=some mf/\(∀i,w.frozen? ⟨g,i,none⟩=false)/\g<w.heap.size:=⟨h.c 0 rfl,h.c 1 rfl,h.c 2 rfl,h.c 3 rfl,h.c 4 rfl,h.c 5 rfl,h.c 6 rfl,h.c 7 rfl,h.c 8 rfl,h.c 9 rfl,h.c 10 rfl,h.c 11 rfl,h.c 12 rfl,h.c 13 rfl,h.c 14 rfl,h.c 15 rfl,h.c 16 rfl,h.c 17 rfl,h.c 18 rfl,h.c 19 rfl,h.fr,h.lt⟩
theorem bA (w:World) {W W':World} (st:zf W W') (h:Below w.heap.size w W:=by (repeat' first | with_reducible assumption | with_reducible exact Below.refl _ _ | with_reducible refine Below.alloc ?_ ?_ _ | with_reducible refine Below.drew ?_ | with_reducible refine yX ?_ _ | with_reducible refine Below.setCell ?_ ?_ _ | go_size)):Below w.heap.size w W':=zt h (Nat.le_refl _) st
theorem bS {a E:Ee} (h:Below a.heap.size a W) (H:zf W E):Below a.heap.size a E:=zt h (Eo _) H
end Go.Proofs.YtffmbepfbienaaaGreat
/- Limbs of 32 bits: lists of whole numbers, their values, and what is canonical. -/
namespace Go.Proofs.YtffmbepfbienaaaGreat
variable {n:Int} {l m:List Int}
def zo:List Int->Int
 | []=>0
 | x::l=>x+4294967296*zo l
def yB (l:List Int):Prop:=∀x∈l,0<=x/\x<4294967296
def Xd:Nat->Int->List Int
 | 0,_=> []
 | k+1,n=>n%4294967296::Xd k (n / 4294967296)
def bp (k:Nat):Int:=((4294967296^k:Nat):Int)
theorem kN:bp 0=1:=rfl
theorem xB (k:Nat):bp (k+1)=4294967296*bp k:=by unfold bp; rw[Nat.pow_succ]; omega
theorem xY (k:Nat):1<=bp k:=by have:=Nat.one_le_pow k 4294967296 D5; unfold bp; omega
theorem JE (i j:Nat):bp (i+j)=bp i*bp j:=by unfold bp; rw[Nat.pow_add]; simp
theorem kO {i j:Nat} (h:i<=j):bp i<=bp j:=by
 unfold bp; have:=Nat.pow_le_pow_right (show 0<4294967296 by omega) h; omega
theorem yg:yB []:=fun _ h=>by cases h
theorem ye {x:Int} : yB (x::l)↔(0<=x/\x<4294967296)/\yB l:=by simp[yB]
theorem xt : yB (l++m)↔yB l/\yB m:=by
 unfold yB; constructor
 . intro h; exact⟨fun x E=>h x (List.mem_append_left _ E),fun x E=>h x (List.mem_append_right _ E)⟩
 .
  rintro ⟨H,I⟩ x E
  rcases List.mem_append.1 E with h | h
  . exact H x h
  . exact I x h
theorem yh (h:yB l) (k:Nat):yB (l.take k):=fun x E=>h x (List.mem_of_mem_take E)
theorem xS (h:yB l) (k:Nat):yB (l.drop k):=fun x E=>h x (List.mem_of_mem_drop E)
theorem zE (h:yB l):0<=zo l:=by
 induction l with
 | nil=>exact Int.le_refl _
 | cons x l ih=>obtain⟨H,E⟩:=ye.1 h; have:=ih E; simp only[zo]; omega
theorem yS (h:yB l):zo l<bp l.length:=by
 induction l with
 | nil=>exact(by decide:(0:Int)<1)
 | cons x l ih=>obtain⟨H,E⟩:=ye.1 h; have:=ih E; simp only[zo,List.length_cons,xB]; omega
theorem qh (l m:List Int):zo (l++m)=zo l+bp l.length*zo m:=by
 induction l with
 | nil=>simp[zo,kN]
 | cons x l ih=>
  simp only[List.cons_append,zo,List.length_cons,xB,ih];rw[Int.mul_add,Int.mul_assoc]; omega
theorem y9 (l:List Int) (x:Int):zo (l ++ [x])=zo l+bp l.length*x:=by
 rw[qh]; simp[zo]
theorem Yl (k:Nat):zo (List.replicate k 0)=0:=by
 induction k with
 | zero=>rfl
 | succ k ih=>simp[List.replicate_succ,zo,ih]
theorem Ym (k:Nat) (n:Int):(Xd k n).length=k:=by
 induction k generalizing n with
 | zero=>rfl
 | succ k ih=>simp[Xd,ih]
theorem XO (k:Nat) (n:Int):yB (Xd k n):=by
 induction k generalizing n with
 | zero=>exact yg
 | succ k ih=>rw[Xd,ye]; exact⟨by omega,ih _⟩
theorem Yn {k:Nat} (h0:0<=n) (E:n<bp k):zo (Xd k n)=n:=by
 induction k generalizing n with
 | zero=>rw[kN]at E; simp only[Xd,zo]; omega
 | succ k ih=>
  rw[xB]at E;simp only[Xd,zo];rw[ih D5 D5]; omega
def zQ:List Int->List Int
 | []=> []
 | x::l=>match zQ l with
  | []=>if x=0 then []else [x]
  | y::t=>x::y::t
theorem yr (x:Int) (l:List Int):zQ (x::l)=if zQ l = []then(if x=0 then []else [x])else x::zQ l:=by
 rw[zQ]; cases zQ l<;>simp
theorem vz (l:List Int):zo (zQ l)=zo l:=by
 induction l with
 | nil=>rfl
 | cons x l ih=>
  rw[yr]
  split
  . rename_i h; rw[h]at ih; simp only[zo]at ih|-; split<;>simp[zo]<;>omega
  . simp only[zo,ih]
theorem vX (h:yB l):yB (zQ l):=by
 induction l with
 | nil=>exact h
 | cons x l ih=>
  obtain⟨E,H⟩:=ye.1 h;rw[yr]
  split
  .
   split
   . exact yg
   . exact ye.2 ⟨E,yg⟩
  . exact ye.2 ⟨E,ih H⟩
theorem vY (l:List Int):(zQ l).length<=l.length:=by
 induction l with
 | nil=>exact Eo _
 | cons x l ih=>rw[yr]; split<;>(try split)<;>simp<;>omega
theorem ZS (l:List Int):zQ (zQ l)=zQ l:=by
 induction l with
 | nil=>rfl
 | cons x l ih=>
  rw[yr]
  split
  .
   rename_i h
   split
   . rfl
   . rename_i hx; rw[yr]; simp[zQ,hx]
  . rename_i h; rw[yr,ih,E9 h]
theorem JF (hc:zQ l=l) (h:l≠ []):l.getLast h≠0:=by
 induction l with
 | nil=>exact absurd rfl h
 | cons x l ih=>
  rw[yr]at hc
  split at hc
  .
   rename_i hl
   split at hc
   . cases hc
   .
    rename_i hx
    injection hc with _ hc
    subst hc;simpa using hx
  .
   rename_i hl
   injection hc with _ hc
   have E:l≠ []:=fun e=>hl (hc.trans e);rw[List.getLast_cons E];exact ih hc E
theorem kZ (h:l≠ []) (E:l.getLast h≠0):zQ l=l:=by
 induction l with
 | nil=>exact absurd rfl h
 | cons x l ih=>
  rw[yr]
  by_cases hne:l = []
  . subst hne; rw[List.getLast_singleton]at E; simp[zQ,E]
  .
   rw[List.getLast_cons hne]at E;have:=ih hne E;rw[this,E9 hne]
theorem Z9 (l:List Int):zQ (l ++ [0])=zQ l:=by
 induction l with
 | nil=>simp[zQ]
 | cons x l ih=>rw[List.cons_append,yr,yr,ih]
theorem Vy (h1:yB l) (h2:yB m) (E:zQ l=l) (H:zQ m=m) (hv:zo l=zo m):l=m:=by
 induction l generalizing m with
 | nil=>
  cases m with
  | nil=>rfl
  | cons y m=>
   exfalso
   obtain⟨g1,I⟩:=ye.1 h2;have gm:=zE I;simp only[zo]at hv;have hy:y=0:=D5
   have hm:zo m=0:=D5
   have key:∀k:List Int,yB k->zo k=0->zQ k = []:=by
    intro k
    induction k with
    | nil=>intro _ _; rfl
    | cons z k ih=>
     intro M Y;obtain⟨q1,q2⟩:=ye.1 M;have:=zE q2;simp only[zo]at Y;rw[yr,ih q2 D5,E8 rfl,E8 D5]
   rw[yr,key m I hm,E8 rfl,E8 hy]at H
   cases H
 | cons x l ih=>
  obtain⟨f1,T⟩:=ye.1 h1;have gl:=zE T
  cases m with
  | nil=>
   exfalso
   simp only[zo]at hv;have hx:x=0:=D5
   have hl:zo l=0:=D5
   have key:∀k:List Int,yB k->zo k=0->zQ k = []:=by
    intro k
    induction k with
    | nil=>intro _ _; rfl
    | cons z k ih=>
     intro M Y;obtain⟨q1,q2⟩:=ye.1 M;have:=zE q2;simp only[zo]at Y;rw[yr,ih q2 D5,E8 rfl,E8 D5]
   rw[yr,key l T hl,E8 rfl,E8 hx]at E
   cases E
  | cons y m=>
   obtain⟨g1,I⟩:=ye.1 h2;simp only[zo]at hv;have Z:x=y:=D5
   have X:zo l=zo m:=D5
   have cl:zQ l=l:=by
    rw[yr]at E
    split at E
    .
     rename_i h
     split at E
     . cases E
     . injection E with _ E; subst E; rfl
    . injection E
   have cm:zQ m=m:=by
    rw[yr]at H
    split at H
    .
     rename_i h
     split at H
     . cases H
     . injection H with _ H; subst H; rfl
    . injection H
   rw[Z,ih T I cl cm X]
def zp (n:Int):List Int:=zQ (Xd n.toNat n)
theorem H7 (n:Nat):(n:Int)<bp n:=by
 unfold bp;have:=Nat.lt_pow_self (show 1<4294967296 by omega) (n:=n);omega
theorem xw (n:Int):yB (zp n):=vX (XO _ _)
theorem zD (h:0<=n):zo (zp n)=n:=by
 unfold zp;rw[vz];obtain⟨m,rfl⟩:=Int.eq_ofNat_of_zero_le h;exact Yn h (H7 m)
theorem qi (n:Int):zQ (zp n)=zp n:=ZS _
theorem yt (h:yB l):zp (zo l)=zQ l:=
 Vy (xw _) (vX h) (qi _) (ZS _) (by rw[zD (zE h),vz])
theorem zY (h:0<=n):zp n = []↔n=0:=by
 constructor
 . intro e; have:=zD h; rw[e]at this; exact this.symm
 . rintro rfl; rfl
theorem jT (h:0<=n) (k:Nat):(zp n).length<=k↔n<bp k:=by
 constructor
 .
  intro e;have E:=yS (xw n);rw[zD h]at E;have:=kO e;omega
 .
  intro e;have E:zp n=zQ (Xd k n):=by rw[<- yt (XO k n),Yn h e]
  rw[E];have:=vY (Xd k n);rw[Ym]at this;exact this
theorem Vz (H:yB l) (E:yB m) (I:zQ m=m) (h:l.length<m.length):zo l<zo m:=by
 have a:=yS H;have M:zp (zo m)=m:=(yt E).trans I;have b:=jT (zE E) l.length;rw[M]at b
 rcases Int.lt_or_le (zo m) (bp l.length)with c | c
 . have:=b.2 c; omega
 . omega
end Go.Proofs.YtffmbepfbienaaaGreat
/- Limbs: what one round of each loop on zp does to the values. -/
namespace Go.Proofs.YtffmbepfbienaaaGreat
variable {c q r s t x:Int} {A B l xs:List Int} {k:Nat}
theorem yw (l:List Int) (k:Nat):zo (l.take (k+1))=zo (l.take k)+bp k*l.getD k 0:=by
 rcases Ep k l.length with h | h
 .
  rw[List.take_succ_eq_append_getElem h,y9,List.length_take,Nat.min_eq_left D5];simp[List.getD,h]
 .
  rw[List.take_of_length_le D5,List.take_of_length_le h];simp[List.getD,h]
theorem yM (l:List Int) (k:Nat):zo (l.drop k)=l.getD k 0+4294967296*zo (l.drop (k+1)):=by
 rcases Ep k l.length with h | h
 .
  rw[List.drop_eq_getElem_cons h];simp[zo,List.getD,h]
 .
  rw[List.drop_of_length_le h,List.drop_of_length_le D5];simp[zo,List.getD,h]
theorem yN (l:List Int) (k:Nat) (h:k<=l.length):zo l=zo (l.take k)+bp k*zo (l.drop k):=by
 have:=qh (l.take k) (l.drop k);rw[List.take_append_drop,List.length_take,Nat.min_eq_left h]at this;exact this
theorem zG (h:yB l) (k:Nat):0<=l.getD k 0/\l.getD k 0<4294967296:=by
 rcases Ep k l.length with g | g
 .
  simp only[List.getD,List.getElem?_eq_getElem g,Option.getD_some];exact h _ (List.getElem_mem g)
 . simp[List.getD,g]
theorem zZ (h:yB l) (h0:0<=x) (E:x<4294967296):yB (l ++ [x]):=
 xt.2 ⟨h,ye.2 ⟨⟨h0,E⟩,yg⟩⟩
theorem WJ (h:yB l) (i:Nat) (h0:0<=x) (E:x<4294967296):yB (l.set i x):=by
 intro y H
 rcases List.mem_or_eq_of_mem_set H with g | g
 . exact h y g
 . subst g; exact⟨h0,E⟩
theorem vZ (k:Nat) (s:Int):bp k*(s%4294967296)+bp (k+1)*(s / 4294967296)=bp k*s:=by
 rw[xB,Int.mul_comm 4294967296 (bp k),Int.mul_assoc,<- Int.mul_add]
 congr 1
 omega
theorem qA (H:xs.length=k) (h:zo xs+bp k*c=zo (A.take k)+zo (B.take k)) (E:s=A.getD k 0+B.getD k 0+c) :
  zo (xs ++ [s%4294967296])+bp (k+1)*(s / 4294967296)=zo (A.take (k+1))+zo (B.take (k+1)):=by
 rw[y9,H,yw,yw];have:=vZ k s;rw[E]at this|-;rw[Int.mul_add,Int.mul_add]at this;omega
theorem jt {c':Int} (H:xs.length=k) (h:zo xs=zo (A.take k)-zo (B.take k)+bp k*c) (ht:t=A.getD k 0-B.getD k 0-c) (E:x=t+4294967296*c') :
  zo (xs ++ [x])=zo (A.take (k+1))-zo (B.take (k+1))+bp (k+1)*c':=by
 rw[y9,H,yw,yw,xB,E,ht];rw[Int.mul_add,Int.mul_sub,Int.mul_sub,<- Int.mul_assoc,Int.mul_comm (bp k) 4294967296];omega
theorem jK {U V:List Int} {b b':Int} (I:xs.length=k) (h:zo xs=zo (U.take k)-q*zo (V.take k)+bp k*(c+b))
  (M:s=c+q*V.getD k 0) (ht:t=U.getD k 0-s%4294967296-b) (H:x=t+4294967296*b') :
  zo (xs ++ [x])=zo (U.take (k+1))-q*zo (V.take (k+1))+bp (k+1)*(s / 4294967296+b'):=by
 rw[y9,I,yw,yw,h,H,ht];have e:=vZ k s;have X:bp k*s=bp k*c+bp k*(q*V.getD k 0):=by rw[M,Int.mul_add]
 have T:q*(zo (V.take k)+bp k*V.getD k 0)=q*zo (V.take k)+bp k*(q*V.getD k 0):=by
  rw[Int.mul_add,<- Int.mul_assoc,Int.mul_comm q (bp k),Int.mul_assoc]
 have E:bp k*(4294967296*b')=bp (k+1)*b':=by rw[xB,<- Int.mul_assoc,Int.mul_comm (bp k) 4294967296]
 rw[T,Int.mul_add (bp (k+1)),Int.mul_add (bp k) c b,Int.mul_add,Int.mul_sub,Int.mul_sub,E];omega
theorem Yo {A d:Int} (h:A=d*q+r):x+4294967296*A=d*((r*4294967296+x) / d+4294967296*q)+(r*4294967296+x)%d:=by
 have:=Int.mul_ediv_add_emod (r*4294967296+x) d;rw[Int.mul_add,<- Int.mul_assoc d 4294967296 q,Int.mul_comm d 4294967296,Int.mul_assoc,h];omega
theorem Qq {O:List Int} (I:xs.length=k) (h:zo xs+bp k*c=zo (O.take k)+x*zo (B.take k)) (E:s=c+(x*B.getD k 0+O.getD k 0)) :
  zo (xs ++ [s%4294967296])+bp (k+1)*(s / 4294967296)=zo (O.take (k+1))+x*zo (B.take (k+1)):=by
 rw[y9,I,yw,yw];have e:=vZ k s;have M:bp k*s=bp k*c+(bp k*(x*B.getD k 0)+bp k*O.getD k 0):=by rw[E,Int.mul_add,Int.mul_add]
 have H:x*(zo (B.take k)+bp k*B.getD k 0)=x*zo (B.take k)+bp k*(x*B.getD k 0):=by
  rw[Int.mul_add,<- Int.mul_assoc,Int.mul_comm x (bp k),Int.mul_assoc]
 rw[H];omega
theorem Xe {n:Nat} {U V u v:Int} (M:U<(u+1)*bp n) (H:v*bp n<=V) (h0:0<=q) (h:q*V<=U):q*v<=u:=by
 have I:q*(v*bp n)<=q*V:=Int.mul_le_mul_of_nonneg_left H h0;have E:(q*v)*bp n<(u+1)*bp n:=by rw[Int.mul_assoc]; omega
 have:=Int.lt_of_mul_lt_mul_right E (by have:=xY n; omega);omega
theorem jU {A D:Int} (h:A=D*q+r) (h0:0<=r) (E:r<D):A / D=q/\A%D=r:=by
 subst h
 constructor
 . rw[Int.add_comm,Int.add_mul_ediv_left _ _ D5,Int.ediv_eq_zero_of_lt h0 E]; omega
 . rw[Int.add_comm,Int.add_mul_emod_self_left,Int.emod_eq_of_lt h0 E]
theorem XP (E:yB A) (I:yB B) {i:Nat} (X:i<A.length) (Y:i<B.length) (hd:zo (A.drop (i+1))=zo (B.drop (i+1))) (h:A.getD i 0<B.getD i 0):zo A<zo B:=by
 rw[yN A i D5,yN B i D5,yM A i,yM B i,hd];have H:=yS (yh E i);rw[List.length_take,Nat.min_eq_left D5]at H;have T:=zE (yh I i)
 have M:bp i*(A.getD i 0+4294967296*zo (B.drop (i+1))+1)<=bp i*(B.getD i 0+4294967296*zo (B.drop (i+1))):=
  Int.mul_le_mul_of_nonneg_left D5 (by have:=xY i; omega)
 rw[Int.mul_add (bp i) (A.getD i 0+_) 1]at M;omega
theorem yn {y:Int} (E:0<=x) (H:0<=y) (h:(zp x).length<(zp y).length):x<y:=by
 have:=Vz (xw x) (xw y) (qi y) h
 rwa[zD E,zD H]at this
end Go.Proofs.YtffmbepfbienaaaGreat
/- Knuth's division: one digit. -/
namespace Go.Proofs.YtffmbepfbienaaaGreat
variable {Q q r t v1:Int} {m:Nat}
theorem v9 {l:List Int} (h:l.length=m+1):zo (l.drop m)=l.getD m 0:=by
 rw[yM,List.drop_of_length_le D5]; simp[zo]
theorem Yp {U V:List Int} (I:yB U) (dP:yB V) (hU:U.length=m+3) (hV:V.length=m+2) (Z:1<=V.getD (m+1) 0) (mg:zo U<zo V*4294967296) :
  0<=zo U / zo V/\zo U / zo V<4294967296/\zo U / zo V*V.getD (m+1) 0<=U.getD (m+2) 0*4294967296+U.getD (m+1) 0/\
  zo U / zo V*(V.getD (m+1) 0*4294967296+V.getD m 0)<=(U.getD (m+2) 0*4294967296+U.getD (m+1) 0)*4294967296+U.getD m 0/\
  zo U / zo V*zo V<=zo U/\zo U-zo U / zo V*zo V<zo V/\0<zo V:=by
 have mh:=v9 (l:=U) (m:=m+2) hU;have M:=yM U (m+1);have Y:=yM U m;have E:=v9 (l:=V) (m:=m+1) hV;have T:=yM V m;rw[mh]at M;rw[M]at Y;rw[E]at T;have ml:=yN U (m+1) D5;have mj:=yN U m D5;have X:=yN V (m+1) D5;have ks:=yN V m D5;have it:=yS (yh I (m+1));have mr:=yS (yh I m);have mt:=zE (yh dP (m+1));have ms:=zE (yh dP m);rw[List.length_take,Nat.min_eq_left D5]at it mr
 have H:0<zo V:=by
  have h1:bp (m+1)*1<=bp (m+1)*V.getD (m+1) 0:=Int.mul_le_mul_of_nonneg_left Z (by have:=xY (m+1); omega);have:=xY (m+1);rw[E]at X;omega
 have mn:=zE I;have q0:0<=zo U / zo V:=Int.ediv_nonneg mn D5;have q1:zo U / zo V<4294967296:=Int.ediv_lt_of_lt_mul H (by rw[Int.mul_comm]; exact mg);have e:=Int.mul_ediv_add_emod (zo U) (zo V);have m0:=Int.emod_nonneg (zo U) (show zo V≠0 by omega);have m1:=Int.emod_lt_of_pos (zo U) H;rw[Int.mul_comm]at e;have le:zo U / zo V*zo V<=zo U:=D5
 refine⟨q0,q1,?_,?_,le,by omega,H⟩
 .
  refine Xe (n:=m+1) ?_ ?_ q0 le
  .
   rw[Int.add_mul,Int.one_mul,Int.mul_comm];rw[M]at ml;rw[show U.getD (m+2) 0*4294967296+U.getD (m+1) 0=U.getD (m+1) 0+4294967296*U.getD (m+2) 0 by omega];omega
  .
   rw[Int.mul_comm];rw[E]at X;omega
 .
  refine Xe (n:=m) ?_ ?_ q0 le
  .
   rw[Int.add_mul,Int.one_mul,Int.mul_comm];rw[Y]at mj;rw[show (U.getD (m+2) 0*4294967296+U.getD (m+1) 0)*4294967296+U.getD m 0=U.getD m 0+4294967296*(U.getD (m+1) 0+4294967296*U.getD (m+2) 0) by omega];omega
  .
   rw[Int.mul_comm];rw[T]at ks;rw[show V.getD (m+1) 0*4294967296+V.getD m 0=V.getD m 0+4294967296*V.getD (m+1) 0 by omega];omega
theorem JG {E u:Int} (h:q*v1+r=t) (I:Q*(v1*4294967296+E)<=t*4294967296+u) (hv:0<=v1*4294967296+E) (M:r*4294967296+u<q*E):Q<q:=by
 rcases Int.lt_or_le Q q with g | g
 . exact g
 .
  have H:=Int.mul_le_mul_of_nonneg_right g hv;rw[Int.mul_add,Int.mul_add]at H;have T:q*(v1*4294967296)=q*v1*4294967296:=by rw[Int.mul_assoc]
  rw[Int.mul_add]at I;omega
theorem Qr (h:q*v1+r=t) (H:r<v1) (I:Q*v1<=t) (hv:0<v1):Q<=q:=by
 rcases Int.lt_or_le q Q with g | g
 .
  have E:=Int.mul_le_mul_of_nonneg_right (show q+1<=Q by omega) (show 0<=v1 by omega);rw[Int.add_mul]at E;omega
 . exact g
end Go.Proofs.YtffmbepfbienaaaGreat
/- A division of zp: what is ahead of the digits, one digit, and what is behind them. -/
namespace Go.Proofs.YtffmbepfbienaaaGreat
variable {A P Q V:Int} {U:List Int} {j m:Nat}
theorem Yq {l:List Int} {n:Nat} (E:yB l) (H:n<=l.length) (h:zo l<bp n):zo (l.take n)=zo l/\zo (l.drop n)=0:=by
 have s:=yN l n H;have a:=zE (yh E n);have b:=zE (xS E n);have p:=xY n
 have z:zo (l.drop n)=0:=by
  rcases Int.lt_or_le 0 (zo (l.drop n))with g | g
  .
   have:=Int.mul_le_mul_of_nonneg_left (show 1<=zo (l.drop n) by omega) (show 0<=bp n by omega);omega
  . omega
 rw[z,Int.mul_zero]at s;exact⟨by omega,z⟩
theorem Qs {E L:List Int} (M:yB E) (lD:E.length=m+2) (oL:yB L) (lL:L.length=m+3) (hL:zo L=zo E*P) (P0:1<=P) (H:P*Q=4294967296)
  (h0:2147483648<=E.getD (m+1) 0*P) (Z:E.getD (m+1) 0*P<4294967296) :
  zo (L.take (m+2))=zo E*P/\2147483648<=(L.take (m+2)).getD (m+1) 0/\2147483648*bp (m+1)<=zo E*P:=by
 have Y:=yN E (m+1) D5;rw[v9 lD]at Y;have d1:=yS (yh M (m+1));have d2:=zE (yh M (m+1));rw[List.length_take,Nat.min_eq_left D5]at d1;obtain⟨t,ht⟩:∃t,E.getD (m+1) 0=t:=⟨_,rfl⟩;rw[ht]at Y h0 Z;have p:=xY (m+1)
 have tQ:t+1<=Q:=by
  have:t*P<Q*P:=by rw[Int.mul_comm Q P,H]; exact Z
  have:=Int.lt_of_mul_lt_mul_right this D5;omega
 have tP:(t+1)*P<=4294967296:=by
  have:=Int.mul_le_mul_of_nonneg_right tQ (show 0<=P by omega);rw[Int.mul_comm Q P,H]at this;exact this
 have up:zo E*P<bp (m+2):=by
  have I:zo E*P<=(bp (m+1)*(t+1)-1)*P:=by
   refine Int.mul_le_mul_of_nonneg_right ?_ D5;rw[Int.mul_add,Int.mul_one];omega
  have X:bp (m+1)*((t+1)*P)<=bp (m+1)*4294967296:=Int.mul_le_mul_of_nonneg_left tP D5;rw[Int.sub_mul,Int.mul_assoc,Int.one_mul]at I;rw[xB (m+1)];omega
 have lo:2147483648*bp (m+1)<=zo E*P:=by
  have I:bp (m+1)*t*P<=zo E*P:=Int.mul_le_mul_of_nonneg_right D5 D5;have X:bp (m+1)*2147483648<=bp (m+1)*(t*P):=Int.mul_le_mul_of_nonneg_left h0 D5;rw[<- Int.mul_assoc]at X;omega
 have T:=(Yq oL (n:=m+2) D5 (by rw[hL]; exact up)).1;rw[hL]at T;refine⟨T,?_,lo⟩;have lT:(L.take (m+2)).length=m+2:=by rw[List.length_take]; omega
 have g0:=yN (L.take (m+2)) (m+1) D5;rw[v9 lT]at g0;have g1:=yS (yh (yh oL (m+2)) (m+1));rw[List.length_take,lT,Nat.min_eq_left D5]at g1
 rcases Int.lt_or_le ((L.take (m+2)).getD (m+1) 0) 2147483648 with g | g
 .
  exfalso
  have:=Int.mul_le_mul_of_nonneg_left (show (L.take (m+2)).getD (m+1) 0<=2147483647 by omega) (show 0<=bp (m+1) by omega);omega
 . exact g
theorem Yr {K la:Nat} (H:yB U) (lU:U.length=K+(m+2)) (M:la+1=K+(m+2)) (hU:zo U=A*P) (hA:A<bp la) (I:0<=A) (P0:1<=P) (X:P<=2147483648) (E:2147483648*bp (m+1)<=V) :
  zo (U.drop K)<V:=by
 have s:=yN U K D5;have a:=zE (yh H K);have e1:A*P<=A*2147483648:=Int.mul_le_mul_of_nonneg_left X I;have Y:bp la=bp K*bp (m+1):=by rw[<- JE]; congr 1; omega
 have p:=xY K;have e3:bp K*(2147483648*bp (m+1))<=bp K*V:=Int.mul_le_mul_of_nonneg_left E D5;have Z:bp K*(2147483648*bp (m+1))=bp K*bp (m+1)*2147483648:=by rw[Int.mul_comm 2147483648,Int.mul_assoc]
 have T:bp K*zo (U.drop K)<bp K*V:=D5
 exact Int.lt_of_mul_lt_mul_left T D5
theorem Xf (E:yB U) (Y:j+(m+3)<=U.length) (X:V<bp (m+2)) (hd:zo (U.drop (j+1))<V) :
  zo ((U.drop j).take (m+3))<V*4294967296/\zo ((U.drop j).take (m+3))=zo (U.drop j)/\zo (U.drop (j+(m+3)))=0:=by
 have M:=yM U j;have u0:=zG E j;have I:zo (U.drop j)<V*4294967296:=D5
 have H:zo (U.drop j)<bp (m+3):=by rw[xB (m+2)]; omega
 have T:=Yq (xS E j) (n:=m+3) (by rw[List.length_drop]; omega) H;rw[List.drop_drop]at T;exact⟨by rw[T.1]; exact I,T.1,T.2⟩
theorem Xg {S qs:List Int} {q:Int} (X:S.length=m+3) (Y:j+(m+3)<=U.length) (H:zo (U.drop (j+(m+3)))=0) (Z:zo U+V*(bp (j+1)*zo qs)=A)
  (M:zo S=zo (U.drop j)-q*V) (E:zo S<V) :
  zo (U.take j++(S++U.drop (j+(m+3))))+V*(bp j*zo (q::qs))=A/\zo ((U.take j++(S++U.drop (j+(m+3)))).drop j)<V:=by
 have I:(U.take j).length=j:=by rw[List.length_take]; omega
 have s:=yN U j D5
 constructor
 .
  rw[qh,qh,H,I,M,Int.mul_zero,Int.add_zero];simp only[zo];rw[Int.mul_sub,Int.mul_add,Int.mul_add];have e1:bp j*(q*V)=V*(bp j*q):=by rw[Int.mul_comm q V,<- Int.mul_assoc,Int.mul_comm (bp j) V,Int.mul_assoc]
  have T:V*(bp j*(4294967296*zo qs))=V*(bp (j+1)*zo qs):=by rw[xB,<- Int.mul_assoc (bp j),Int.mul_comm (bp j) 4294967296]
  omega
 .
  rw[List.drop_left' I,qh,H,Int.mul_zero,Int.add_zero];exact E
theorem Uj (k:Nat) (n:Int):Xd (k+1) n=Xd k n ++ [n / bp k%4294967296]:=by
 induction k generalizing n with
 | zero=>simp[Xd,kN]
 | succ k ih=>
  rw[Xd,ih,Xd,List.cons_append]
  congr 3
  rw[xB,Int.ediv_ediv_of_nonneg D5]
theorem VA {R:List Int} {k:Nat} (H:yB R) (hk:k<R.length) (P0:1<=P) (E:P*Q=4294967296) :
  (R.getD k 0+R.getD (k+1) 0*4294967296) / P%4294967296=zo R / P / bp k%4294967296:=by
 have p:=xY k;have s:=yN R k D5;have a:=zE (yh H k);have b:=yS (yh H k);rw[List.length_take,Nat.min_eq_left D5]at b
 have e1:zo R / P / bp k=zo R / bp k / P:=by
  rw[Int.ediv_ediv_of_nonneg D5,Int.ediv_ediv_of_nonneg D5,Int.mul_comm]
 have I:zo R / bp k=zo (R.drop k):=by
  rw[s,Int.add_mul_ediv_left _ _ D5,Int.ediv_eq_zero_of_lt a b,Int.zero_add]
 have Y:=yM R k;have M:=yM R (k+1);rw[e1,I,Y,M];obtain⟨T,X⟩:∃T,zo (R.drop (k+1+1))=T:=⟨_,rfl⟩;rw[X]
 have Z:R.getD k 0+4294967296*(R.getD (k+1) 0+4294967296*T)=(R.getD k 0+R.getD (k+1) 0*4294967296)+P*(Q*(4294967296*T)):=by
  rw[<- Int.mul_assoc P Q,E]; omega
 rw[Z,Int.add_mul_ediv_left _ _ D5,Int.mul_comm Q,Int.mul_assoc,Int.add_mul_emod_self_left]
end Go.Proofs.YtffmbepfbienaaaGreat
/- Slices of zp in memory. -/
namespace Go.Proofs.YtffmbepfbienaaaGreat
section
open Go.RowKit
variable {l:List Int} {aY cap g n o:Nat} {ao:Option Addr} {e t:Ei} {v:Ef} {w w':Ee}
def zI (l:List Int):List Ef:=l.map (Value.int .u32)
theorem qj (l:List Int) (t:Nat) (h:t<l.length):(zI l)[t]? = some (Ey .u32 (l.getD t 0)):=by simp[zI,List.getD,h]
theorem yL (l:List Int):(zI l).length=l.length:=by simp[zI]
def Cells (w:Ee) (b o:Nat) (l:List Int):Prop:=∀t,t<l.length->w.cell? ⟨b,o+t,none⟩=some (Ey .u32 (l.getD t 0))
def aA (w:Ee) (v:Ef) (l:List Int):Prop:=
 yB l/\∃ao cap,v = Ex ao l.length cap/\l.length<=cap/\(ao=none->cap=0)/\(l≠ []->∃b o,ao=some ⟨b,o,none⟩/\b<w.heap.size/\Cells w b o l)
theorem Cells.below {b:Nat} (h:Cells w b o l) (H:Below w.heap.size w w') (E:b<w.heap.size):Cells w' b o l:=
 fun t ht=>(H.cell (p:=⟨b,o+t,none⟩) E).trans (h t ht)
theorem aA.ae (h:aA w v l) (H:zf w w'):aA w' v l:=by
 obtain⟨h0,ao,cap,rfl,M,X,I⟩:=h;refine⟨h0,ao,cap,rfl,M,X,fun T=> ?_⟩;obtain⟨b,o,rfl,E,hc⟩:=I T;exact⟨b,o,rfl,Nat.lt_of_lt_of_le E H.size,hc.below H E⟩
theorem aA.drew (h:aA w v l):aA w.drew v l:=h
theorem aA.nil (w:Ee):aA w (Ex none 0 0) []:=⟨yg,none,0,rfl,Eo _,fun _=>rfl,fun h=>absurd rfl h⟩
theorem aA.el {cs:List Ef} (h:ai w g t cs.toArray) (H:yB l) (hc:∀t,t<l.length->cs[o+t]? = some (Ey .u32 (l.getD t 0))) (E:l.length<=cap) :
  aA w (Ex (some ⟨g,o,none⟩) l.length cap) l:=
 ⟨H,_,cap,rfl,E,(nofun),fun _=>⟨g,o,rfl,h.lt,fun t ht=>by rw[h.cell]; simpa using hc t ht⟩⟩
theorem aA.a_ (h:ai w g t (zI l).toArray) (E:yB l):aA w (Ex (some ⟨g,0,none⟩) l.length l.length) l:=
 aA.el h E (fun t ht=>by rw[Nat.zero_add]; exact qj l t ht) (Eo _)
theorem aA.own (h:w.ownsRow aY e 1 v n (zI l)) (T:yB l):aA w v l:=by
 obtain⟨I,E⟩:=h;rw[yL,Nat.mul_one]at I;subst I
 rcases E with⟨rfl,E⟩ | ⟨g,cap,cur,rfl,hg,hh,hn,hm,hs,ht⟩
 .
  obtain rfl:=List.eq_nil_of_length_eq_zero E;exact aA.nil w
 .
  refine⟨T,_,cap,rfl,hn,(nofun),fun _=>⟨g,0,rfl,ai.lt (w:=w) (t:=e) (cs:=cur) hh,fun t H=> ?_⟩⟩;rw[ai.cell (w:=w) (t:=e) (cs:=cur) hh,Nat.zero_add];have M:=qj l t H;rw[<- ht,List.getElem?_take,E8 D5]at M;simpa using M
theorem aA.cells (h:aA w (Ex ao n cap) l):yB l/\n=l.length/\n<=cap/\(0<n->∃b o,ao=some ⟨b,o,none⟩/\b<w.heap.size/\Cells w b o l):=by
 obtain⟨h0,T,E,e,M,_,I⟩:=h
 injection e with Z H Y
 subst Z H Y;refine⟨h0,rfl,M,fun X=>I ?_⟩;rintro rfl
 cases X
theorem aA.take (h:aA w (Ex ao n cap) l) {k:Nat} (hk:k<=l.length):aA w (Ex ao k cap) (l.take k):=by
 have E:ao=none->cap=0:=by
  obtain⟨_,T,H,e,_,E,_⟩:=h
  injection e with e1 e2 Z
  subst e1 Z;exact E
 obtain⟨h0,rfl,h1,M⟩:=h.cells;have e:(l.take k).length=k:=by rw[List.length_take]; omega
 refine⟨yh h0 k,ao,cap,by rw[e],by omega,E,fun Y=> ?_⟩
 have I:0<k:=by
  rcases Nat.eq_zero_or_pos k with rfl | I
  . exact absurd List.take_zero Y
  . exact I
 obtain⟨b,o,rfl,X,hc⟩:=M D5;refine⟨b,o,rfl,X,fun t ht=> ?_⟩;rw[e]at ht;rw[hc t D5];simp[List.getD,List.getElem?_take,ht]
theorem aA.ak (h:aA w v l):∃ao cap,v = Ex ao l.length cap:=by obtain⟨_,ao,cap,e,_⟩:=h; exact⟨ao,cap,e⟩
theorem aA.ok (h:aA w v l):yB l:=h.1
theorem aA.one {x:Int} (h0:0<=x) (E:x<4294967296):aA (w.alloc (.cells #[Ey .u32 x] t)) (Ex (some ⟨w.heap.size,0,none⟩) 1 1) [x]:=
 aA.a_ (l:= [x]) (ai.new w t #[Ey .u32 x]) (ye.2 ⟨⟨h0,E⟩,yg⟩)
theorem Uo {size:Nat} {xs:List Ef} (h:w.ownsRow aY e size v n xs):∀k,v.ownBlock=some k->aY<=k:=by
 intro k E
 rcases h.2 with⟨rfl,_⟩ | ⟨g,cap,cur,rfl,hg,_⟩
 . cases E
 . cases E; exact hg
theorem yu {P:Program} {w:Ee} {ops:Array Oper} {rest:List Oper} {o:Oper} {a:Act} {Q:Exit->Act->Ee->Prop} (T:o.guard=none) (s x:Operand) (t:Ei)
  (ho:o.op = .call { callee:= .builtin .append,args:=#[s,x],argTypes:=#[t,t] }) (aY:Nat) (e:Ei) (i:TypeInfo) (ht:P.underlying t=some (.slice e)) (hi:P.info? e=some i) (hz:i.zero=some (Ey .u32 0))
  (M:i.size=1) (Y:i.bytes=4) (v:Ef) (n:Nat) (l:List Int) (hs:a.eval s=v) (E:w.ownsRow aY e 1 v n (zI l)) (y:Ef) (m:List Int) (hx:a.eval x=y) (hy:aA w y m)
  (hb:n+m.length<=1000000000) (I:aY<=w.heap.size)
  (h:∀X w',w'.ownsRow aY e 1 X (n+m.length) (zI (l++m))->w.grownBy w' v.ownBlock->(∀k,v.ownBlock=some k->aY<=k)->wpList P ops Q rest (a.put o.dst X) w'):wpList P ops Q (o::rest) a w:=by
 obtain⟨dP,ao,cap,rfl,h1,h3,h2⟩:=hy
 cases ao with
 | none=>
  obtain rfl:=h3 rfl;have hm:m = []:=List.eq_nil_of_length_eq_zero D5;subst hm;refine wpList_append_own_none T s x t ho aY e i 1 ht hi v n (zI l) hs E (by simpa using hx) ?_;exact h v w (by simpa using E) (World.grownBy.refl _ _) (Uo E)
 | some ad=>
  refine wpList_append_own w T s x t ho aY e i (Ey .u32 0) 1 4 ht hi hz M Y rfl D7 v n (zI l) hs E ad m.length cap (zI m) hx (by simp[zI]) ?_ ?_ (by unfold maxLen; omega) D5 I ?_
  .
   intro j u Z
   have H:j<m.length:=by
    have:=(List.getElem?_eq_some_iff.1 Z).1;simpa[zI]using this
   obtain⟨b,o',e1,it,hc⟩:=h2 (by rintro rfl; cases H)
   cases e1
   rw[qj m j H]at Z
   cases Z
   rw[Addr.add_lit]; exact hc j H
  .
   intro u hu;obtain⟨z,_,rfl⟩:=List.mem_map.1 hu;rfl
  .
   intro X w' h4 h5 _;exact h X w' (by simpa[zI]using h4) h5 (Uo E)
theorem xn (xs:List Int) (k m:Nat) (x:Int) (h:xs.length=k):((zI xs++List.replicate (m+1) (Value.int .u32 0)).toArray.setIfInBounds k (Ey .u32 x))=(zI (xs ++ [x])++List.replicate m (Value.int .u32 0)).toArray:=by
 subst h;simp[zI,List.set_append,List.replicate_succ]
end
section
open Go.RowKit
variable {ah:Array Bool} {i:Nat}
section
variable {P:Program} {ops:Array Oper} {Q:Exit->Act->Ee->Prop} {md:Region.Mode}
def xU (ops:Array Oper) (ah:Array Bool):Nat:=((List.range ops.size).filter fun i=> !ah.getD i true).length
theorem ZE (h:i∈Region.ready md ops ah):i<ops.size/\ah.getD i true=false:=by
 unfold Region.ready at h;simp only[List.mem_filter,List.mem_range,Bool.and_eq_true,Bool.not_eq_true']at h;exact⟨h.1,h.2.1⟩
theorem Zb (Z:i<ops.size) (h:ah.getD i true=false) :
  xU ops (ah.setIfInBounds i true)+1<=xU ops ah:=by
 have M:i<ah.size:=by
  rcases Ep i ah.size with g | g
  . exact g
  . simp[Array.getD,Nat.not_lt.2 g]at h
 unfold xU
 have key:∀l:List Nat,l.Nodup->i∈l->((l.filter fun j=> !(ah.setIfInBounds i true).getD j true).length+1<=(l.filter fun j=> !ah.getD j true).length):=by
  intro l
  induction l with
  | nil=>intro _ H; cases H
  | cons x l ih=>
   intro T H;rw[List.nodup_cons]at T
   have E:∀j,j≠i->(ah.setIfInBounds i true).getD j true=ah.getD j true:=fun j X=>by
    simp[Array.getD_eq_getD_getElem?,Array.getElem?_setIfInBounds_ne (Ne.symm X)]
   by_cases hx:x=i
   .
    subst hx;have e1:(ah.setIfInBounds x true).getD x true=true:=by simp[Array.getD_eq_getD_getElem?,M]
    have Y:(l.filter fun j=> !(ah.setIfInBounds x true).getD j true)=l.filter fun j=> !ah.getD j true:=
     List.filter_congr fun j X=>by rw[E j (fun e=>T.1 (e▸X))]
    simp only[List.filter_cons,e1,h,Y];simp
   .
    have I:i∈l:=by
     cases H with
     | head=>exact absurd rfl hx
     | tail _ H=>exact H
    have:=ih T.2 I;simp only[List.filter_cons,E x hx]
    split
    . simp only[List.length_cons]; omega
    . exact this
 exact key _ List.nodup_range (List.mem_range.2 Z)
theorem Zc (h:xU ops ah=0):Region.ready md ops ah = []:=by
 apply List.eq_nil_iff_forall_not_mem.2
 intro i I;obtain⟨E,H⟩:=ZE I
 have:i∈(List.range ops.size).filter fun i=> !ah.getD i true:=by
  rw[List.mem_filter];exact⟨List.mem_range.2 E,by rw[H]; rfl⟩
 unfold xU at h;rw[List.length_eq_zero_iff.1 h]at this
 cases this
theorem Xo (I:Array Bool->Act->Ee->Prop)
  (step:∀ah a w i,I ah a w->i∈Region.ready md ops ah->wpOp P ops Q i (fun a' w'=>I (ah.setIfInBounds i true) a' w') a w)
  (done:∀ah a w,I ah a w->Region.ready md ops ah = []->Q .normal a w) :
  ∀E ah a w,I ah a w->xU ops ah<=E->wpAny P md ops Q E ah a w:=by
 intro E
 induction E with
 | zero=>
  intro ah a w M X;have H:=Zc (md:=md) (Nat.le_zero.1 X);exact⟨H,done _ _ _ M H⟩
 | succ E ih=>
  intro ah a w M X;refine⟨fun H=>done _ _ _ M H,fun i T=>wpOp_mono (fun a' w' h=>ih _ a' w' h ?_) (step _ _ _ i M T)⟩;obtain⟨Z,Y⟩:=ZE T;have:=Zb (ops:=ops) Z Y;omega
theorem Y8 {id:Nat} {a:Act} {w:Ee} (E:P.follows .mixedOrders=true) (I:Array Bool->Act->Ee->Prop)
  (start:I (Array.replicate ops.size false) a w.drew)
  (step:∀ah a w i,I ah a w->i∈Region.ready .any ops ah->wpOp P ops Q i (fun a' w'=>I (ah.setIfInBounds i true) a' w') a w)
  (done:∀ah a w,I ah a w->Region.ready .any ops ah = []->Q .normal a w):(Code.region id ops true).wp P Q a w:=
 wp_region_any E (Xo I step done _ _ _ _ start (by
  unfold xU;have:=List.length_filter_le (fun i=> !(Array.replicate ops.size false).getD i true) (List.range ops.size)
  rwa[List.length_range]at this))
end
end
end Go.Proofs.YtffmbepfbienaaaGreat
/- A region that draws its order, walked once in the order of the text: each operation is shown to do its work in whatever world its forerunners leave. -/
namespace Go.Proofs.YtffmbepfbienaaaGreat
open Go.RowKit
variable {a a' b aY:Act} {ah:Array Bool} {L:Array Oper} {l rest:List Oper} {g id n:Nat} {D:Nat->Bool} {r:Next} {o:Oper} {ρ:Operand->Ef} {t:Tmp} {v x x0 x1 co gR gO gQ gP gV iK iO iJ ir iR cn iF iv iV iX iT jb k6 ko iy iG bh iY ik k7 jc ip ja iW ky iL ij d9 iE ig iQ iq iA im iB k8 iS ki cU km iz iM iC jd iI iU i8 iD iu ce iN kw iZ iH iP i7 kx bi cg bl br x2 ci bt cx cN ed er eM dz ek em x3 dk dc f7 dl eW dy dx ey fe gn x4 f9 gt fd g8 g9 gB ft gC gd gA x5 gz fl gF gD gN gK gE gI gL gG x6 gH gM gX gW h9 hE gZ gY i6 i5 x7 l6 lC lw lh lF lj lf l8 l9 lk x8 ln lH lG lE lY mb m8 lN m9 lJ x9 ma me lW lQ lM lP lX lO lK m7:Ef} {N:Ef->Ee->Prop} {W W' w:Ee} {Φ:Ee->Prop} {d:_}
def JP (P:Program) (o:Oper) (ρ : Operand->Ef) (W:Ee) (b9:List PanicEntry->Ee->Prop) (N:Ef->Ee->Prop):Prop:=
 match (execOp ρ o).run P W with
 | .ok (.value v) W'=>N v W'
 | .ok .skip W'=>N Em W'
 | .ok (.enter f args) W'=>Calls P f args W' fun
   | .returned v,W''=>N v W''
   | .panicked c,W''=>b9 c W''
   | .outgrown,_=>False
 | .ok (.row row args) W'=>Rows P row args W' N
 | .halt (.panic v) W'=>b9 [{ v,recovered:=false }] W'
 | _=>False
namespace aj
def jD (ops:Array Oper) (k:Nat):List Nat:=
 match ops[k]? with
 | none=> []
 | some o=>(o.after.toList.filter (Region.binds .any)).map (·.on)
def yC (ops:Array Oper) (j:Nat):Option Tmp:=(ops[j]?).bind (·.dst)
def Di (ops:Array Oper) (o:Oper):List Tmp:=o.looksAt ops
def at_ (a:Act):Option Tmp->Ef
 | some t=>(a.tmps[t]?).getD Em
 | none=>Em
def y' (ops:Array Oper) (a:Act) (j:Nat):Ef:=at_ a (yC ops j)
inductive de (ops:Array Oper):Nat->Nat->Prop
 | one {j k} : j∈jD ops k->de ops j k
 | more {i j k} : de ops i j->j∈jD ops k->de ops i k
def jf (ops:Array Oper):Nat->List (List Nat)
 | 0=> []
 | k+1=>let c:=jf ops k; c ++ [((jD ops k)++(jD ops k).flatMap fun j=>c.getD j []).eraseDups]
def tidy (ops:Array Oper) (n:Nat):Bool:=
 let c:=jf ops ops.size
 let ks:=List.range ops.size
 Region.noSelect ops &&
 (ks.all fun k=>(jD ops k).all fun j=>decide (j<k)) &&
 (ks.all fun k=>match yC ops k with
  | none=>true
  | some t=>decide (t<n)&&ks.all fun j=>j==k||yC ops j != some t) &&
 (ks.all fun k=>match ops[k]? with
  | none=>true
  | some o=>(o.looksAt ops).all fun t=>ks.all fun j=>yC ops j != some t||(c.getD k []).contains j||(c.getD j []).contains k)
def c_ (ops:Array Oper) (aX:Nat->Bool) (pre:Nat->List (Nat×Option Tmp)) (post:Nat->List Nat):Bool:=
 let c:=jf ops ops.size
 ((List.range ops.size).all fun k=>((pre k).all fun p=>(c.getD k []).contains p.1&&yC ops p.1==p.2)&&(aX k||(yC ops k).isSome)&&(post k).all fun j=>(c.getD j []).contains k) &&
 (pre ops.size).all fun p=>decide (p.1<ops.size)&&yC ops p.1==p.2
theorem xF (ops:Array Oper) (n:Nat):(jf ops n).length=n:=by
 induction n with
 | zero=>rfl
 | succ n ih=>simp[jf,ih]
theorem QH (ops:Array Oper) {n k:Nat} (h:k<n):(jf ops n).getD k []=((jD ops k)++(jD ops k).flatMap fun j=>(jf ops k).getD j []).eraseDups:=by
 induction n with
 | zero=>omega
 | succ n ih=>
  simp only[jf]
  rcases Ep k n with E | E
  .
   rw[List.getD_eq_getElem?_getD,List.getElem?_append_left (by rw[xF]; exact E),<- List.getD_eq_getElem?_getD];exact ih E
  .
   obtain rfl:k=n:=D5
   rw[List.getD_eq_getElem?_getD,List.getElem?_append_right (by rw[xF]; omega),xF];simp
theorem jE (ops:Array Oper):∀ (n k j:Nat),j∈(jf ops n).getD k []->de ops j k:=by
 intro n k
 induction k using Nat.strongRecOn generalizing n with
 | _ k ih=>
  intro j E
  rcases Ep k n with I | I
  .
   rw[QH ops I,List.mem_eraseDups,List.mem_append,List.mem_flatMap]at E
   rcases E with E | ⟨m,M,E⟩
   . exact .one E
   .
    rcases Ep m k with H | H
    . exact .more (ih m H k j E) M
    .
     rw[List.getD_eq_getElem?_getD,List.getElem?_eq_none (by rw[xF]; exact H)]at E
     cases E
  .
   rw[List.getD_eq_getElem?_getD,List.getElem?_eq_none (by rw[xF]; exact I)]at E
   cases E
structure Tidy (ops:Array Oper) (n:Nat):Prop where
 eO:∀ (j:Nat) (o:Oper) cs b,ops[j]? = some o->o.op≠ .select cs b
 back:∀j k,j∈jD ops k->j<k
 inb:∀k t,yC ops k=some t->t<n
 once:∀j k t,yC ops j=some t->yC ops k=some t->j=k
 look:∀k o t j,ops[k]? = some o->t∈o.looksAt ops->yC ops j=some t->de ops j k\/de ops k j
theorem jq {ops:Array Oper} {k t:Nat} (h:yC ops k=some t):k<ops.size:=by
 rcases Ep k ops.size with g | g
 . exact g
 . unfold yC at h; rw[Array.getElem?_eq_none g]at h; cases h
theorem jL {ops:Array Oper} {k:Nat} (h:ops[k]? = some o):k<ops.size:=(Array.getElem?_eq_some_iff.1 h).1
theorem kP {ops:Array Oper} (h:tidy ops n=true):Tidy ops n:=by
 unfold tidy at h;simp only[Bool.and_eq_true,List.all_eq_true,List.mem_range]at h;obtain⟨⟨⟨X,T⟩,M⟩,Y⟩:=h;refine⟨fun j o cs b=>Region.noSelect_spec X j o cs b,?_,?_,?_,?_⟩
 .
  intro j k E
  rcases Ep k ops.size with g | g
  . exact of_decide_eq_true (T k g j E)
  . unfold jD at E; rw[Array.getElem?_eq_none g]at E; cases E
 .
  intro k t H;have:=M k (jq H);rw[H]at this;simp only[Bool.and_eq_true,decide_eq_true_eq]at this;exact this.1
 .
  intro j k t E H;have:=M k (jq H);rw[H]at this;simp only[Bool.and_eq_true,List.all_eq_true,List.mem_range,Bool.or_eq_true,beq_iff_eq,bne_iff_ne]at this
  rcases this.2 j (jq E)with e | e
  . exact e
  . exact absurd E e
 .
  intro k o t j I ht E;have:=Y k (jL I);rw[I]at this;simp only[List.all_eq_true,List.mem_range,Bool.or_eq_true,bne_iff_ne,List.contains_iff_mem]at this
  rcases this t ht j (jq E)with(e | e) | e
  . exact absurd E e
  . exact .inl (jE _ _ _ _ e)
  . exact .inr (jE _ _ _ _ e)
theorem de.lt {ops:Array Oper} {j k:Nat} (T:Tidy ops n) (h:de ops j k):j<k:=by
 induction h with
 | one h=>exact T.back _ _ h
 | more _ h ih=>have:=T.back _ _ h; omega
theorem de.trans {ops:Array Oper} {i j k:Nat} (h:de ops i j) (E:de ops j k):de ops i k:=by
 induction E with
 | one E=>exact .more h E
 | more _ E ih=>exact .more ih E
structure fj (ops:Array Oper) (aX:Nat->Bool) (pre:Nat->List (Nat×Option Tmp)) (post:Nat->List Nat):Prop where
 aft:∀k j,k<ops.size->j∈post k->de ops k j
 fore:∀k p,k<ops.size->p∈pre k->de ops p.1 k/\yC ops p.1=p.2
 some_:∀k,k<ops.size->aX k=false->∃t,yC ops k=some t
 fin:∀p,p∈pre ops.size->p.1<ops.size/\yC ops p.1=p.2
theorem kQ {ops:Array Oper} {aX:Nat->Bool} {pre:Nat->List (Nat×Option Tmp)} {post:Nat->List Nat} (h:c_ ops aX pre post=true):fj ops aX pre post:=by
 unfold c_ at h;simp only[Bool.and_eq_true,List.all_eq_true,List.mem_range,Bool.or_eq_true,List.contains_iff_mem,beq_iff_eq,decide_eq_true_eq]at h;refine⟨fun k j E T=>jE _ _ _ _ ((h.1 k E).2 j T),fun k p E H=> ?_,fun k E hc=> ?_,fun p H=>h.2 p H⟩
 .
  obtain⟨M,I⟩:=(h.1 k E).1.1 p H;exact⟨jE _ _ _ _ M,I⟩
 .
  rcases(h.1 k E).1.2 with e | e
  . rw[hc]at e; cases e
  . exact Option.isSome_iff_exists.1 e
section
variable (P:Program) (ops:Array Oper) (Q:Exit->Act->Ee->Prop) (J:(Nat->Bool)->(Nat->Ef)->Ee->Prop) (aX:Nat->Bool) (V:Nat->Ef->Prop) (G:Nat->Ef->Ee->Prop) (Sx:Nat->Ee->Ee->Prop) (b9:List PanicEntry->Ee->Prop) (pre:Nat->List (Nat×Option Tmp)) (post:Nat->List Nat)
def aL (k:Nat) (a:Act) (D:Nat->Bool) (v:Nat->Ef) (W:Ee):Prop:=∀p∈pre k,aX p.1=true->D p.1=true/\v p.1=at_ a p.2/\G p.1 (at_ a p.2) W
def dv (o:Oper) (x:Ef):Ef:=match o.dst with | some _=>x | none=>Em
def upd (D:Nat->Bool) (k:Nat):Nat->Bool:=fun j=>j==k||D j
def aS (v:Nat->Ef) (k:Nat) (x:Ef):Nat->Ef:=fun j=>if j=k then x else v j
def bC (k:Nat) (D:Nat->Bool):Prop:=D k=false/\∀j∈post k,D j=false
def bm (k:Nat) (o:Oper) (a:Act) (D:Nat->Bool) (v:Nat->Ef) (W:Ee):Prop:=
 if Region.wanted o (yielded ops a.tmps)=true then JP P o a.eval W b9 (fun x W'=>Sx k W W'/\J (upd D k) (aS v k (dv o x)) W'/\G k (dv o x) W'/\V k (dv o x))else J (upd D k) (aS v k Em) W/\G k Em W/\V k Em
def yP (o:Oper) (a:Act) (x:Ef) (W:Ee):Prop:=
 if Region.wanted o (yielded ops a.tmps)=true then(execOp a.eval o).run P W = .ok (.value x) W\/((execOp a.eval o).run P W = .ok .skip W/\x=Em)else x=Em
def RC:Nat->List Oper->Act->Prop
 | k,[],a=>∀D v W,(∀j,j<k->D j=aX j)->J D v W->aL aX G pre k a D v W->Q .normal a W
 | k,o::rest,a=>
  if aX k=true then(∀D v W,bC post k D->J D v W->aL aX G pre k a D v W->bm P ops J V G Sx b9 k o a D v W)/\∀x,V k x->RC (k+1) rest (a.put o.dst x)
  else ∃x,(∀D v W,bC post k D->J D v W->aL aX G pre k a D v W->yP P ops o a x W)/\RC (k+1) rest (a.put o.dst x)
end
section
variable {P:Program} {ops:Array Oper} {Q:Exit->Act->Ee->Prop} {J:(Nat->Bool)->(Nat->Ef)->Ee->Prop} {aX:Nat->Bool} {V:Nat->Ef->Prop} {G:Nat->Ef->Ee->Prop} {Sx:Nat->Ee->Ee->Prop} {b9:List PanicEntry->Ee->Prop} {pre:Nat->List (Nat×Option Tmp)} {post:Nat->List Nat}
theorem cL (xs:Nat->Ef) (hx:∀k,V k (xs k)):∀ (l:List Oper) (k:Nat) (a:Act),RC P ops Q J aX V G Sx b9 pre post k l a->
  ∃ (E:Nat->Act) (y:Nat->Ef),E k=a/\(∀i o,l[i]? = some o->E (k+i+1)=(E (k+i)).put o.dst (y (k+i))/\
   (aX (k+i)=true->y (k+i)=xs (k+i)/\∀D v W,bC post (k+i) D->J D v W->aL aX G pre (k+i) (E (k+i)) D v W->bm P ops J V G Sx b9 (k+i) o (E (k+i)) D v W)/\
   (aX (k+i)=false->∀D v W,bC post (k+i) D->J D v W->aL aX G pre (k+i) (E (k+i)) D v W->yP P ops o (E (k+i)) (y (k+i)) W))/\
   (∀D v W,(∀j,j<k+l.length->D j=aX j)->J D v W->aL aX G pre (k+l.length) (E (k+l.length)) D v W->Q .normal (E (k+l.length)) W):=by
 intro l
 induction l with
 | nil=>
  intro k a h;refine⟨fun _=>a,xs,rfl,fun i o H=>by simp at H,?_⟩;exact h
 | cons o rest ih=>
  intro k a h
  have key:∃x,RC P ops Q J aX V G Sx b9 pre post (k+1) rest (a.put o.dst x)/\
    (aX k=true->x=xs k/\∀D v W,bC post k D->J D v W->aL aX G pre k a D v W->bm P ops J V G Sx b9 k o a D v W)/\
    (aX k=false->∀D v W,bC post k D->J D v W->aL aX G pre k a D v W->yP P ops o a x W):=by
   unfold RC at h
   split at h
   .
    rename_i hc
    exact⟨xs k,h.2 _ (hx k),fun _=>⟨rfl,h.1⟩,fun I=>by rw[hc]at I; cases I⟩
   .
    rename_i hc
    obtain⟨x,Z,Y⟩:=h;exact⟨x,Y,fun I=>absurd I hc,fun _=>Z⟩
  obtain⟨x,hr,T,M⟩:=key;obtain⟨E,y,ht,hs,X⟩:=ih (k+1) _ hr;refine⟨fun i=>if i<=k then a else E i,fun i=>if i<=k then x else y i,by simp,?_,?_⟩
  .
   intro i o' H
   cases i with
   | zero=>
    simp only[List.getElem?_cons_zero,Option.some.injEq]at H;subst H;simp only[Nat.add_zero,Eo,if_true,E9 (show ¬(k+1<=k) by omega),ht];exact⟨trivial,T,M⟩
   | succ i=>
    rw[List.getElem?_cons_succ]at H;have:=hs i o' H;have e:k+1+i=k+(i+1):=D5
    rw[e]at this;simp only[E9 (show ¬(k+(i+1)<=k) by omega),E9 (show ¬(k+(i+1)+1<=k) by omega)];exact this
  .
   have e:k+1+rest.length=k+(o::rest).length:=by simp; omega
   rw[e]at X;simp only[E9 (show ¬(k+(o::rest).length<=k) by simp)];exact X
theorem ZF {ops:Array Oper} (h:Operand.tmp t∈o.op.operands):t∈o.looksAt ops:=
 List.mem_append_left _ (List.mem_filterMap.2 ⟨.tmp t,by simpa using h,rfl⟩)
theorem vE (E:∀cs c,o.op≠ .select cs c) (h:∀t,t∈o.looksAt ops->a.tmps[t]? = b.tmps[t]?):execOp a.eval o=execOp b.eval o:=
 execOp_congr o E fun x H=>by
  cases x with
  | tmp t=>simp only[Act.eval,Array.getD_eq_getD_getElem?,h t (ZF H)]
  | _=>rfl
theorem jW (h:∀t,t∈o.looksAt ops->a.tmps[t]? = b.tmps[t]?):Region.wanted o (yielded ops a.tmps)=Region.wanted o (yielded ops b.tmps):=by
 unfold Region.wanted
 cases hg:o.guard with
 | none=>rfl
 | some gw=>
  obtain⟨g,E⟩:=gw
  have:yielded ops a.tmps g=yielded ops b.tmps g:=by
   unfold yielded
   cases hd:(ops[g]?).bind (·.dst)with
   | none=>rfl
   | some t=>
    have:=h t (List.mem_append_right _ (by simp[hg,hd]));simp[this]
  simp only[this]
theorem dO {K:Act->Ee->Prop} (h:JP P o a.eval W b9 N) (H:∀x W',N x W'->K (a.put o.dst x) W')
  (M:∀c W',b9 c W'->Q (.panic c) a W'):o.wp P a W K Q:=by
 unfold JP at h;unfold Oper.wp
 split at h
 . rename_i heq; rw[heq,Oper.upon_value]; exact H _ _ h
 . rename_i heq; rw[heq,Oper.upon_skip]; exact H _ _ h
 .
  rename_i heq
  rw[heq,Oper.upon_enter];refine Calls.mono h fun e I E=> ?_
  cases e with
  | returned v=>exact H _ _ E
  | panicked c=>exact M _ _ E
  | outgrown=>exact E.elim
 . rename_i heq; rw[heq,Oper.upon_row]; exact Rows.mono h fun v I E=>H _ _ E
 . rename_i heq; rw[heq,Oper.upon_panic]; exact M _ _ h
 . exact h.elim
theorem ZG {d:Option Tmp} (h:d≠some t):(a.put d v).tmps[t]? = a.tmps[t]? :=by
 cases d with
 | none=>rfl
 | some d=>
  have:d≠t:=fun e=>h (e▸rfl);simp[Act.put,Array.getElem?_setIfInBounds_ne this]
theorem qE (h:t<a.tmps.size):(a.put (some t) v).tmps[t]? = some v:=by
 simp[Act.put,h]
theorem Yw (a:Act) (d:Option Tmp) (v:Ef):(a.put d v).tmps.size=a.tmps.size:=by cases d<;>simp[Act.put]
theorem ju (a:Act) (d:Option Tmp) (v:Ef):(a.put d v).defers=a.defers:=by cases d<;>rfl
def done (aX:Nat->Bool) (ah:Array Bool):Nat->Bool:=fun j=>aX j&&ah.getD j false
structure Inv (P:Program) (ops:Array Oper) (J:(Nat->Bool)->(Nat->Ef)->Ee->Prop) (aX:Nat->Bool) (V:Nat->Ef->Prop) (G:Nat->Ef->Ee->Prop) (pre:Nat->List (Nat×Option Tmp)) (post:Nat->List Nat) (aY:Act) (ah:Array Bool) (a:Act) (W:Ee):Prop where
 j:J (done aX ah) (y' ops a) W
 n:ah.size=ops.size
 closed:∀k,ah.getD k false=true->∀i∈jD ops k,ah.getD i false=true
 defs:a.defers=aY.defers
 size:a.tmps.size=aY.tmps.size
 old:∀t,(∀k,ah.getD k false=true->yC ops k≠some t)->a.tmps[t]? = aY.tmps[t]?
 call:∀k,ah.getD k false=true->aX k=true->G k (y' ops a k) W/\V k (y' ops a k)
 pur:∀k o t,ah.getD k false=true->aX k=false->ops[k]? = some o->yC ops k=some t->∃b:Act,
  (∀u j,de ops j k->yC ops j=some u->b.tmps[u]? = a.tmps[u]?)/\(∀u,u∈o.looksAt ops->(∀j,de ops j k->yC ops j≠some u)->b.tmps[u]? = aY.tmps[u]?)/\
  (∀D v W,bC post k D->J D v W->aL aX G pre k a D v W->yP P ops o b (y' ops a k) W)/\∃D v W,bC post k D/\J D v W/\aL aX G pre k a D v W
theorem Inv.eF (I:Inv P ops J aX V G pre post aY ah a W) {j k:Nat} (h:de ops j k) (E:ah.getD k false=true):ah.getD j false=true:=by
 induction h with
 | one h=>exact I.closed _ E _ h
 | more _ h ih=>exact ih (I.closed _ E _ h)
theorem jw {d:Option Tmp} (h:∀t,d=some t->a.tmps[t]? = b.tmps[t]?):at_ a d=at_ b d:=by
 cases d with
 | none=>rfl
 | some t=>simp only[at_,h t rfl]
theorem yD {k:Nat} {v:Nat->Ef} (h:∀p∈pre k,at_ a p.2=at_ b p.2) (H:aL aX G pre k a D v W):aL aX G pre k b D v W:=
 fun p E hc=>h p E▸H p E hc
theorem cV {E:Operand->Ef} (e:execOp ρ o=execOp E o) (h:JP P o ρ W b9 N):JP P o E W b9 N:=by
 unfold JP at *
 rwa[<- e]
theorem vF (E:∀cs c,o.op≠ .select cs c) (h:∀t,t∈o.looksAt ops->a.tmps[t]? = b.tmps[t]?) (H:yP P ops o a x W):yP P ops o b x W:=by
 unfold yP at *
 rwa[<- jW h,<- vE E h]
theorem cW {k:Nat} {v:Nat->Ef} (H:∀cs c,o.op≠ .select cs c) (h:∀t,t∈o.looksAt ops->a.tmps[t]? = b.tmps[t]?) (E:bm P ops J V G Sx b9 k o a D v W):bm P ops J V G Sx b9 k o b D v W:=by
 unfold bm at *;rw[<- jW h]
 split
 . rename_i hw; rw[E8 hw]at E; exact cV (vE H h) E
 . rename_i hw; rwa[E9 hw]at E
theorem Us {y:Ef} (h:yP P ops o a x W) (E:yP P ops o a y W):x=y:=by
 unfold yP at *
 split at h
 .
  rename_i hw
  rw[E8 hw]at E
  rcases h with h | ⟨h,rfl⟩<;>rcases E with E | ⟨E,rfl⟩<;>rw[h]at E<;>simp at E; try exact E
 .
  rename_i hw
  rw[E9 hw]at E;rw[h,E]
theorem XT {E:Nat->Act} {y:Nat->Ef} (h0:E 0=aY) (T:∀i o,ops[i]? = some o->E (i+1)=(E i).put o.dst (y i)) :
  ∀k,k<=ops.size->(E k).tmps.size=aY.tmps.size/\(E k).defers=aY.defers:=by
 intro k
 induction k with
 | zero=>intro _; rw[h0]; exact⟨rfl,rfl⟩
 | succ k ih=>
  intro X;obtain⟨I,H⟩:=ih D5;obtain⟨o,M⟩:∃o,ops[k]? = some o:=⟨_,Array.getElem?_eq_getElem D5⟩;rw[T k o M];exact⟨(Yw _ _ _).trans I,(ju _ _ _).trans H⟩
theorem Yd (T:Tidy ops n) {E:Nat->Act} {y:Nat->Ef} {aY:Act} (Z:aY.tmps.size=n) (h0:E 0=aY) (I:∀i o,ops[i]? = some o->E (i+1)=(E i).put o.dst (y i)) :
  ∀k,k<=ops.size->(∀j t,j<k->yC ops j=some t->(E k).tmps[t]? = some (y j))/\(∀t,(∀j,j<k->yC ops j≠some t)->(E k).tmps[t]? = aY.tmps[t]?):=by
 intro k
 induction k with
 | zero=>intro _; rw[h0]; exact⟨fun j t h=>absurd h (Nat.not_lt_zero _),fun _ _=>rfl⟩
 | succ k ih=>
  intro hk;obtain⟨Y,X⟩:=ih D5;obtain⟨o,H⟩:∃o,ops[k]? = some o:=⟨_,Array.getElem?_eq_getElem D5⟩;have hd:yC ops k=o.dst:=by unfold yC; rw[H]; rfl
  have M:=(XT h0 I k D5).1;rw[I k o H];refine⟨fun j t hj ht=> ?_,fun t ht=> ?_⟩
  .
   rcases Ep j k with g | g
   .
    rw[ZG,Y j t g ht];intro e;rw[<- hd]at e;have:=T.once j k t ht e;omega
   .
    obtain rfl:j=k:=D5
    rw[hd]at ht;rw[ht,qE];rw[M,Z];exact T.inb j t (hd.trans ht)
  .
   rw[ZG (fun e=>ht k D5 (hd.trans e))];exact X t fun j hj=>ht j D5
theorem qQ {i k:Nat} (h:(ah.setIfInBounds i true).getD k false=true):k=i\/ah.getD k false=true:=by
 by_cases e:i=k
 . exact .inl e.symm
 . rw[getD_set_ne false e]at h; exact .inr h
theorem qK {i:Nat} (h:i<ah.size):(ah.setIfInBounds i true).getD i false=true:=by simp[h]
theorem kR {k j:Nat} (E:ops[k]? = some o):j∈jD ops k↔∃e∈o.after,Region.binds .any e=true/\e.on=j:=by
 unfold jD;rw[E];simp[and_assoc]
theorem Kz (S:fj ops aX pre post) {aY:Act} (T:Tidy ops aY.tmps.size) {ah:Array Bool} {a:Act} {W:Ee} (I:Inv P ops J aX V G pre post aY ah a W)
  {E:Nat->Act} {y:Nat->Ef} (h0:E 0=aY) (hs:∀i o,ops[i]? = some o->E (i+1)=(E i).put o.dst (y i))
  (hc:∀i,i<ops.size->ah.getD i false=true->aX i=true->y i=y' ops a i)
  (hp:∀i o,ops[i]? = some o->aX i=false->∀D v W,bC post i D->J D v W->aL aX G pre i (E i) D v W->yP P ops o (E i) (y i) W) :
  ∀k,k<ops.size->(∀j,de ops j k->ah.getD j false=true)->
   (∀o,ops[k]? = some o->∀t,t∈o.looksAt ops->(∀j,de ops j k->yC ops j=some t->(E k).tmps[t]? = a.tmps[t]?)/\((∀j,de ops j k->yC ops j≠some t)->(E k).tmps[t]? = aY.tmps[t]?))/\
   (∀p∈pre k,at_ (E k) p.2=at_ a p.2)/\(ah.getD k false=true->y k=y' ops a k):=by
 intro k
 induction k using Nat.strongRecOn with
 | _ k ih=>
  intro hk hl
  have sl:∀j t,de ops j k->yC ops j=some t->(E k).tmps[t]? = a.tmps[t]? :=fun j t H ht=>by
   have Z:=H.lt T;have:=(ih j Z D5 fun i hi=>hl i (hi.trans H)).2.2 (hl j H);rw[(Yd T rfl h0 hs k D5).1 j t Z ht,this];unfold y' at_;simp only[ht];have hb:t<a.tmps.size:=by rw[I.size]; exact T.inb j t ht
   rw[Array.getElem?_eq_getElem hb]; rfl
  have A1:∀o,ops[k]? = some o->∀t,t∈o.looksAt ops->(∀j,de ops j k->yC ops j=some t->(E k).tmps[t]? = a.tmps[t]?)/\((∀j,de ops j k->yC ops j≠some t)->(E k).tmps[t]? = aY.tmps[t]?):=fun o Y t ht=>
   ⟨fun j H M=>sl j t H M,fun hn=>(Yd T rfl h0 hs k D5).2 t fun j Z M=>by
    rcases T.look k o t j Y ht M with h | h
    . exact hn j h M
    . have:=h.lt T; omega⟩
  have A2:∀p∈pre k,at_ (E k) p.2=at_ a p.2:=fun p hp=>by
   obtain⟨h1,h2⟩:=S.fore k p hk hp;exact jw fun t ht=>sl p.1 t h1 (h2.trans ht)
  refine⟨A1,A2,fun dP=> ?_⟩
  cases hck:aX k with
  | true=>exact hc k hk dP hck
  | false=>
   obtain⟨t,ht⟩:=S.some_ k hk hck;obtain⟨o,Y⟩:∃o,ops[k]? = some o:=⟨_,Array.getElem?_eq_getElem hk⟩;obtain⟨b,b1,b2,P1,D1,v1,W1,C1,J1,F1⟩:=I.pur k o t dP hck Y ht;have F':aL aX G pre k (E k) D1 v1 W1:=yD (fun p hp=>(A2 p hp).symm) F1;refine Us (vF (fun cs c=>T.eO k o cs c Y) (fun u hu=> ?_) (hp k o Y hck D1 v1 W1 C1 J1 F')) (P1 D1 v1 W1 C1 J1 F1)
   by_cases hw:∃j,de ops j k/\yC ops j=some u
   .
    obtain⟨j,H,X⟩:=hw;exact((A1 o Y u hu).1 j H X).trans (b1 u j H X).symm
   .
    have hn:∀j,de ops j k->yC ops j≠some u:=fun j H X=>hw ⟨j,H,X⟩;exact((A1 o Y u hu).2 hn).trans (b2 u hu hn).symm
theorem ku (M:∀v,J (fun _=>false) v W):Inv P ops J aX V G pre post aY (Array.replicate ops.size false) aY W:=by
 have H:∀k,(Array.replicate ops.size false).getD k false=true->False:=fun k E=>by
  simp only[Array.getD_eq_getD_getElem?,Array.getElem?_replicate]at E
  split at E<;>cases E
 have I:done aX (Array.replicate ops.size false)=fun _=>false:=funext fun k=>by
  unfold done
  cases E:(Array.replicate ops.size false).getD k false with
  | true=>exact(H k E).elim
  | false=>simp
 exact⟨I▸M _,by simp,fun k E=>(H k E).elim,rfl,rfl,fun _ _=>rfl,fun k E=>(H k E).elim,fun k _ _ E=>(H k E).elim⟩
theorem cG (ht:tidy ops aY.tmps.size=true) (mD:c_ ops aX pre post=true)
  (hV:∀k,∃x,V k x) (mA:∀D v v' W,(∀j,D j=true->v j=v' j)->J D v W->J D v' W)
  (hG:∀D v k j W W' x,j≠k->aX j=true->aX k=true->J D v W->Sx k W W'->G j x W->G j x W')
  (hP:∀a W c,a.defers=aY.defers->b9 c W->Q (.panic c) a W)
  (h:RC P ops Q J aX V G Sx b9 pre post 0 ops.toList aY) :
  ∀ah a W i,Inv P ops J aX V G pre post aY ah a W->i∈Region.ready .any ops ah->wpOp P ops Q i (fun a' W'=>Inv P ops J aX V G pre post aY (ah.setIfInBounds i true) a' W') a W:=by
 have T:=kP ht;have S:=kQ mD;intro ah a W i I hi;obtain⟨mF,o,ho,mG⟩:=mem_ready.1 hi;have mn:i<ops.size:=jL ho;have hd:yC ops i=o.dst:=by unfold yC; rw[ho]; rfl
 have mg:∀j∈jD ops i,ah.getD j false=true:=fun j H=>by
  obtain⟨e,he,hb,rfl⟩:=(kR ho).1 H;exact mG e he hb
 have hl:∀j,de ops j i->ah.getD j false=true:=fun j H=>by
  cases H with
  | one h=>exact mg j h
  | more h1 h2=>exact I.eF h1 (mg _ h2)
 have mh:¬ah.getD i false=true:=fun hc=>by
  have mI:i<ah.size:=I.n▸mn;simp[mI]at mF hc;rw[mF]at hc; cases hc
 obtain⟨xs,hx,mO⟩:∃xs:Nat->Ef,(∀k,V k (xs k))/\∀k,V k (y' ops a k)->xs k=y' ops a k:=by
  classical
  refine⟨fun k=>if V k (y' ops a k)then y' ops a k else(hV k).choose,fun k=> ?_,fun k E=>by simp only[E8 E]⟩
  by_cases E:V k (y' ops a k)
  . simp only[E8 E]; exact E
  . simp only[E9 E]; exact(hV k).choose_spec
 obtain⟨tr,y,h0,hs,hf⟩:=cL xs hx ops.toList 0 aY h
 have mM:∀i o,ops[i]? = some o->tr (i+1)=(tr i).put o.dst (y i):=fun i o ho=>by
  have:=(hs i o (by simpa using ho)).1;simpa using this
 have mQ:∀i,i<ops.size->ah.getD i false=true->aX i=true->y i=y' ops a i:=fun i hi mN M=>by
  have:=(hs i ops[i] (by simp[hi])).2.1;simp only[Nat.zero_add]at this;exact(this M).1.trans (mO i (I.call i mN M).2)
 have mB:∀i o,ops[i]? = some o->aX i=false->∀D v W,bC post i D->J D v W->aL aX G pre i (tr i) D v W->yP P ops o (tr i) (y i) W:=fun i o ho M=>by
  have:=(hs i o (by simpa using ho)).2.2;simp only[Nat.zero_add]at this;exact this M
 obtain⟨A1,A2,-⟩:=Kz S T I h0 mM mQ mB i mn hl
 have A1:∀t,t∈o.looksAt ops->(tr i).tmps[t]? = a.tmps[t]? :=fun t ht=>by
  by_cases hw:∃j,de ops j i/\yC ops j=some t
  .
   obtain⟨j,H,mj⟩:=hw;exact(A1 o ho t ht).1 j H mj
  .
   rw[(A1 o ho t ht).2 fun j H mj=>hw ⟨j,H,mj⟩,I.old t fun j H mj=> ?_]
   rcases T.look i o t j ho ht mj with h | h
   . exact hw ⟨j,h,mj⟩
   . exact mh (I.eF h H)
 have F:aL aX G pre i a (done aX ah) (y' ops a) W:=fun p hp mC=>by
  obtain⟨h1,h2⟩:=S.fore i p mn hp;refine⟨by unfold done; rw[mC,hl p.1 h1]; rfl,by unfold y'; rw[h2],?_⟩;rw[<- h2];exact(I.call p.1 (hl p.1 h1) mC).1
 have F':aL aX G pre i (tr i) (done aX ah) (y' ops a) W:=yD (fun p hp=>(A2 p hp).symm) F;have eO:=fun cs c=>T.eO i o cs c ho
 have mr:bC post i (done aX ah):=by
  refine⟨?_,fun j H=> ?_⟩
  .
   unfold done; cases h:ah.getD i false with
   | true=>exact absurd h mh
   | false=>simp
  .
   unfold done; cases h:ah.getD j false with
   | true=>exact absurd (I.eF (S.aft i j mn H) h) mh
   | false=>simp
 have dC:aX i=true->done aX (ah.setIfInBounds i true)=upd (done aX ah) i:=fun hc=>funext fun j=>by
  unfold done upd
  by_cases e:j=i
  . subst e; simp only[qK (show j<ah.size from I.n▸mn),hc]; simp
  . rw[getD_set_ne false (Ne.symm e)]; simp[e]
 have dP:aX i=false->done aX (ah.setIfInBounds i true)=done aX ah:=fun hc=>funext fun j=>by
  unfold done
  by_cases e:j=i
  . subst e; rw[hc]; simp
  . rw[getD_set_ne false (Ne.symm e)]
 -- what stands, whatever i yields, of the frame behind it
 have bT:∀x k,ah.getD k false=true->∀t,yC ops k=some t->(a.put o.dst x).tmps[t]? = a.tmps[t]? :=fun x k E t Y=>
  ZG fun e=>mh (T.once i k t (hd.trans e) Y▸E)
 have next:∀x W',J (done aX (ah.setIfInBounds i true)) (y' ops (a.put o.dst x)) W'->(∀k,ah.getD k false=true->aX k=true->G k (y' ops a k) W'/\V k (y' ops a k))->(aX i=true->G i (dv o x) W'/\V i (dv o x))->
   (aX i=false->∀D v W,bC post i D->J D v W->aL aX G pre i a D v W->yP P ops o a x W)->Inv P ops J aX V G pre post aY (ah.setIfInBounds i true) (a.put o.dst x) W':=by
  intro x W' H hg mL mR;have vk:∀k,ah.getD k false=true->y' ops (a.put o.dst x) k=y' ops a k:=fun k E=>jw fun t Y=>bT x k E t Y
  have vi:∀t,o.dst=some t->(a.put o.dst x).tmps[t]? = some x:=fun t mE=>by
   rw[mE]; exact qE (by rw[I.size]; exact T.inb i t (hd.trans mE))
  refine⟨H,by simp[I.n],?_,(ju _ _ _).trans I.defs,(Yw _ _ _).trans I.size,?_,?_,?_⟩
  .
   intro k E j mH
   rcases qQ E with rfl | E
   . exact getD_set_true (mg j mH)
   . exact getD_set_true (I.closed k E j mH)
  .
   intro t mz;rw[ZG fun e=>mz i (qK (I.n▸mn)) (hd.trans e)];exact I.old t fun k E=>mz k (getD_set_true E)
  .
   intro k E X
   rcases qQ E with rfl | E
   .
    have:y' ops (a.put o.dst x) k=dv o x:=by
     unfold y'; rw[hd]
     cases hdo:o.dst with
     | none=>simp[at_,dv,hdo]
     | some t=>have:=vi t hdo; rw[hdo]at this; simp[at_,dv,hdo,this]
    rw[this]; exact mL X
   . rw[vk k E]; exact hg k E X
  .
   intro k o' t E X ml Y
   have ag:∀p∈pre k,at_ (a.put o.dst x) p.2=at_ a p.2:=fun p hp=>by
    have mK:k<ops.size:=jL ml;obtain⟨h1,h2⟩:=S.fore k p mK hp
    have mJ:ah.getD p.1 false=true:=by
     rcases qQ E with rfl | E
     . exact hl _ h1
     . exact I.eF h1 E
    exact jw fun t mS=>bT x p.1 mJ t (h2.trans mS)
   rcases qQ E with rfl | E
   .
    rw[ho]at ml
    injection ml with ml
    subst ml
    have e:y' ops (a.put o.dst x) k=x:=by
     unfold y'; rw[hd];rw[hd]at Y;have:=vi t Y; rw[Y]at this; simp[at_,Y,this]
    refine⟨a,fun u j H ks=>(bT x j (hl j H) u ks).symm,fun u hu hn=>I.old u fun j H ks=> ?_,fun mt mw mu cw my ms=> ?_,?_⟩
    .
     rcases T.look k o u j ho hu ks with h | h
     . exact hn j h ks
     . exact mh (I.eF h H)
    . rw[e]; exact mR X mt mw mu cw my (yD ag ms)
    . exact⟨_,_,W,mr,I.j,yD (fun p hp=>(ag p hp).symm) F⟩
   .
    obtain⟨b,b1,b2,P1,D1,v1,W1,c1,j1,f1⟩:=I.pur k o' t E X ml Y;refine⟨b,fun u j H ks=>(b1 u j H ks).trans (bT x j (I.eF H E) u ks).symm,b2,fun mt mw mu cw my ms=> ?_,D1,v1,W1,c1,j1,yD (fun p hp=>(ag p hp).symm) f1⟩;rw[vk k E];exact P1 mt mw mu cw my (yD ag ms)
 have vx:∀x j,done aX ah j=true->aS (y' ops a) i (dv o x) j=y' ops (a.put o.dst x) j:=fun x j H=>by
  unfold done at H;simp only[Bool.and_eq_true]at H;unfold aS;rw[E9 (show ¬j=i from fun e=>mh (e▸H.2))];exact(jw fun t Y=>bT x j H.2 t Y).symm
 have mP:∀x,y' ops (a.put o.dst x) i=dv o x:=fun x=>by
  unfold y'; rw[hd]
  cases hdo:o.dst with
  | none=>simp[at_,dv,hdo]
  | some t=>
   have:=qE (a:=a) (v:=x) (t:=t) (by rw[I.size]; exact T.inb i t (hd.trans hdo));simp[at_,dv,hdo,this]
 have vC:∀x W',aX i=true->J (upd (done aX ah) i) (aS (y' ops a) i (dv o x)) W'->J (done aX (ah.setIfInBounds i true)) (y' ops (a.put o.dst x)) W':=fun x W' hc h=>by
  rw[dC hc];refine mA _ _ _ _ (fun j H=> ?_) h
  by_cases e:j=i
  . subst e; unfold aS; rw[E8 rfl,mP]
  .
   unfold upd at H;simp only[Bool.or_eq_true,beq_iff_eq,e,false_or]at H;exact vx x j H
 have vP:∀x W',aX i=false->J (done aX ah) (y' ops a) W'->J (done aX (ah.setIfInBounds i true)) (y' ops (a.put o.dst x)) W':=fun x W' hc h=>by
  rw[dP hc];refine mA _ _ _ _ (fun j H=> ?_) h;rw[<- vx x j H];unfold aS;rw[E9];intro e;subst e;unfold done at H;rw[hc]at H; cases H
 unfold wpOp;rw[ho]
 cases M:aX i with
 | true=>
  have hC:=(hs i o (by simpa using ho)).2.1;simp only[Nat.zero_add]at hC;have hC:=cW eO A1 ((hC M).2 _ _ W mr I.j F');unfold bm at hC;simp only
  split
  .
   rename_i hw
   rw[E8 hw]at hC;refine .inl (dO hC (fun x W' hx=>next x W' (vC x W' M hx.2.1) (fun k E X=> ?_) (fun _=>hx.2.2) (fun h=>by rw[M]at h; cases h)) (fun c W' hc=>hP a W' c I.defs hc));exact⟨hG _ _ i k W W' _ (fun e=>mh (e▸E)) X M I.j hx.1 (I.call k E X).1,(I.call k E X).2⟩
  .
   rename_i hw
   rw[E9 hw]at hC;have e:dv o Em=Em:=by unfold dv; split<;>rfl
   refine next Em W (vC Em W M (e.symm▸hC.1)) (fun k E X=>I.call k E X) (fun _=> ?_) (fun h=>by rw[M]at h; cases h);rw[e]; exact hC.2
 | false=>
  have hp:=fun D v W cw H hf=>vF eO A1 (mB i o ho M D v W cw H (yD (fun p hp=>(A2 p hp).symm) hf));have Z:=hp _ _ W mr I.j F;unfold yP at Z;simp only;have nx:=next (y i) W (vP _ W M I.j) (fun k E X=>I.call k E X) (fun h=>by rw[M]at h; cases h) (fun _=>hp)
  split
  .
   rename_i hw
   rw[E8 hw]at Z;refine .inl ?_;unfold Oper.wp
   rcases Z with Z | ⟨Z,hy⟩
   . rw[Z,Oper.upon_value]; exact nx
   . rw[Z,Oper.upon_skip,<- hy]; exact nx
  .
   rename_i hw
   rw[E9 hw]at Z;rw[<- Z]; exact nx
theorem cE (ht:tidy ops aY.tmps.size=true) (ks:c_ ops aX pre post=true)
  (hV:∀k,∃x,V k x) (mt:∀D v v' W,(∀j,D j=true->v j=v' j)->J D v W->J D v' W)
  (hG:∀D v k j W W' x,j≠k->aX j=true->aX k=true->J D v W->Sx k W W'->G j x W->G j x W')
  (hP:∀a W c,a.defers=aY.defers->b9 c W->Q (.panic c) a W)
  (h:RC P ops Q J aX V G Sx b9 pre post 0 ops.toList aY) :
  ∀ah a W,Inv P ops J aX V G pre post aY ah a W->Region.ready .any ops ah = []->Q .normal a W:=by
 have T:=kP ht;have S:=kQ ks;intro ah a W I hr
 -- nothing is left: all are ah
 have all:∀k,k<ops.size->ah.getD k false=true:=by
  intro k
  induction k using Nat.strongRecOn with
  | _ k ih=>
   intro M
   cases hl:ah.getD k false with
   | true=>rfl
   | false=>
    have:k∈Region.ready .any ops ah:=by
     refine mem_ready.2 ⟨?_,ops[k],by simp[M],fun e he hb=> ?_⟩
     .
      have mj:k<ah.size:=I.n▸M;simpa[mj]using hl
     .
      have hm:=(kR (ops:=ops) (k:=k) (j:=e.on) (by simp[M])).2 ⟨e,he,hb,rfl⟩;have:=T.back _ _ hm;exact ih e.on this D5
    rw[hr]at this; cases this
 obtain⟨xs,hx,mh⟩:∃xs:Nat->Ef,(∀k,V k (xs k))/\∀k,V k (y' ops a k)->xs k=y' ops a k:=by
  classical
  refine⟨fun k=>if V k (y' ops a k)then y' ops a k else(hV k).choose,fun k=> ?_,fun k M=>by simp only[E8 M]⟩
  by_cases M:V k (y' ops a k)
  . simp only[E8 M]; exact M
  . simp only[E9 M]; exact(hV k).choose_spec
 obtain⟨tr,y,h0,hs,hf⟩:=cL xs hx ops.toList 0 aY h
 have dP:∀i o,ops[i]? = some o->tr (i+1)=(tr i).put o.dst (y i):=fun i o ho=>by
  have:=(hs i o (by simpa using ho)).1;simpa using this
 have ml:∀i,i<ops.size->ah.getD i false=true->aX i=true->y i=y' ops a i:=fun i hi ms Z=>by
  have:=(hs i ops[i] (by simp[hi])).2.1;simp only[Nat.zero_add]at this;exact(this Z).1.trans (mh i (I.call i ms Z).2)
 have mn:∀i o,ops[i]? = some o->aX i=false->∀D v W,bC post i D->J D v W->aL aX G pre i (tr i) D v W->yP P ops o (tr i) (y i) W:=fun i o ho Z=>by
  have:=(hs i o (by simpa using ho)).2.2;simp only[Nat.zero_add]at this;exact this Z
 have Y:∀k,k<ops.size->y k=y' ops a k:=fun k M=>(Kz S T I h0 dP ml mn k M fun j X=>all j (by have:=X.lt T; omega)).2.2 (all k M)
 have E:tr ops.size=a:=by
  have hz:=XT h0 dP ops.size (Eo _)
  have mr:∀t,(tr ops.size).tmps[t]? = a.tmps[t]? :=fun t=>by
   obtain⟨s1,s2⟩:=Yd T rfl h0 dP ops.size (Eo _)
   by_cases hw:∃j,j<ops.size/\yC ops j=some t
   .
    obtain⟨j,X,H⟩:=hw;rw[s1 j t X H,Y j X];unfold y' at_;simp only[H];have hb:t<a.tmps.size:=by rw[I.size]; exact T.inb j t H
    rw[Array.getElem?_eq_getElem hb]; rfl
   . rw[s2 t fun j X H=>hw ⟨j,X,H⟩,I.old t fun j X H=>hw ⟨j,jq H,H⟩]
  have:(tr ops.size).tmps=a.tmps:=Array.ext_getElem? mr;have it:(tr ops.size).defers=a.defers:=hz.2.trans I.defs.symm
  cases htr:tr ops.size with
  | mk t1 d1=>
   rw[htr]at this it;simp only at this it;subst this it;rfl
 simp only[Nat.zero_add,Array.length_toList]at hf;rw[E]at hf
 exact hf _ _ W (fun j X=>by unfold done; rw[all j X]; simp) I.j fun p hp mg=>by
  obtain⟨h1,h2⟩:=S.fin p hp;refine⟨by unfold done; rw[mg,all p.1 h1]; rfl,by unfold y'; rw[h2],?_⟩;rw[<- h2];exact(I.call p.1 (all p.1 h1) mg).1
theorem Z_ (Z:P.follows .mixedOrders=true) (I:∀v,J (fun _=>false) v w.drew) (ht:tidy ops aY.tmps.size=true) (E:c_ ops aX pre post=true)
  (X:∀k,∃x,V k x) (H:∀D v T W,(∀j,D j=true->v j=T j)->J D v W->J D T W)
  (M:∀D v k j W W' x,j≠k->aX j=true->aX k=true->J D v W->Sx k W W'->G j x W->G j x W')
  (Y:∀a W c,a.defers=aY.defers->b9 c W->Q (.panic c) a W)
  (h:RC P ops Q J aX V G Sx b9 pre post 0 ops.toList aY):(Code.region id ops true).wp P Q aY w:=
 Y8 Z (Inv P ops J aX V G pre post aY) (ku I) (cG ht E X H M Y h) (cE ht E X H M Y h)
def kv:Op->Bool
 | .nilCheck _ | .go _ | .defer _ | .send _ _ | .recv _ _ _ | .select _ _=>false
 | .call c=>match c.callee with
  | .builtin .len | .builtin .cap | .builtin .min | .builtin .max | .builtin .append | .builtin .copy=>true
  | _=>false
 | _=>true
theorem Gv {s:Sem Ef} {P:Program} (h:Sem.run P (do pure (Next.value (<- s))) W = .ok r W'):(∃v,r = .value v)\/r = .skip:=by
 rw[Sem.run_bind]at h
 cases hs:Sem.run P s W with
 | ok v W1=>
  rw[hs]at h;simp only[Result.andThen_ok,Sem.run_pure,Result.ok.injEq]at h;exact .inl ⟨v,h.1.symm⟩
 | halt x W1=>rw[hs]at h; cases h
theorem Ba {m:Sem Bool} {f:Bool->Ef} {P:Program} (h:Sem.run P (do let b <- m; pure (Next.value (f b))) W = .ok r W'):(∃v,r = .value v)\/r = .skip:=by
 rw[Sem.run_bind]at h
 cases hs:Sem.run P m W with
 | ok v W1=>
  rw[hs]at h;simp only[Result.andThen_ok,Sem.run_pure,Result.ok.injEq]at h;exact .inl ⟨_,h.1.symm⟩
 | halt x W1=>rw[hs]at h; cases h
theorem Bb {s:Sem Unit} {P:Program} (h:Sem.run P (do s; pure Next.skip) W = .ok r W'):(∃v,r = .value v)\/r = .skip:=by
 rw[Sem.run_bind]at h
 cases hs:Sem.run P s W with
 | ok v W1=>
  rw[hs]at h;simp only[Result.andThen_ok,Sem.run_pure,Result.ok.injEq]at h;exact .inr h.1.symm
 | halt x W1=>rw[hs]at h; cases h
theorem Xp {P:Program} (E:kv o.op=true) (h:(execOp ρ o).run P W = .ok r W'):(∃v,r = .value v)\/r = .skip:=by
 obtain⟨dst,X,M,T,H,I⟩:=o
 cases X
 case call c=>
  obtain⟨callee,args,Y⟩:=c
  cases callee with
  | value f=>cases E
  | invoke x m=>cases E
  | builtin b=>cases b<;>first | (cases E; done) | exact Gv h
 all_goals first
  | (cases E; done)
  | exact Gv h
  | exact Bb h
  | (simp only[execOp,Sem.run_pure,Result.ok.injEq]at h; exact .inl ⟨_,h.1.symm⟩)
  | (simp only[execOp]at h; exact Ba h)
theorem bD {k:Nat} (a':Act) (x:Ef) (hc:aX k=false) (hst:kv o.op=true) (hw:Region.wanted o (yielded ops a.tmps)=true)
  (h:∀D v W,bC post k D->J D v W->aL aX G pre k a D v W->∀K:Act->Ee->Prop,Hid (K a' W)->o.wp P a W K (fun _ _ _=>False)) (t:Tmp) (hd:o.dst=some t) (ht:t<a.tmps.size) (T:a'=a.put o.dst x)
  (H:RC P ops Q J aX V G Sx b9 pre post (k+1) rest a'):RC P ops Q J aX V G Sx b9 pre post k (o::rest) a:=by
 unfold RC;rw[E9 (by rw[hc]; simp)];refine⟨x,fun D v W Y Z X=> ?_,T▸H⟩;have h:=h D v W Y Z X (fun M W'=>M=a'/\W'=W) ⟨rfl,rfl⟩;unfold yP;rw[E8 hw]
 have I:∀v,a.put o.dst v=a'->v=x:=fun v hv=>by
  rw[T,hd]at hv;have E:=qE (v:=v) ht;rw[hv,qE ht]at E
  injection E with E
  exact E.symm
 unfold Oper.wp at h
 cases H:(execOp a.eval o).run P W with
 | ok r W'=>
  rw[H]at h
  rcases Xp hst H with⟨v,rfl⟩ | rfl
  .
   rw[Oper.upon_value]at h;obtain⟨E,rfl⟩:=h;exact .inl (by rw[I v E])
  .
   rw[Oper.upon_skip]at h;obtain⟨E,rfl⟩:=h;exact .inr ⟨rfl,(I _ E).symm⟩
 | halt r W'=>
  rw[H]at h
  cases r<;>exact h.elim
theorem RP {k:Nat} (hc:aX k=false) (hst:kv o.op=true) (hw:Region.wanted o (yielded ops a.tmps)=true)
  (t:Tmp) (hd:o.dst=some t) (ht:Nat.ble (t+1) a.tmps.size=true) (h:∀D v W,bC post k D->J D v W->aL aX G pre k a D v W->∀K:Act->Ee->Prop,Hid (K a' W)->o.wp P a W K (fun _ _ _=>False)) (H:a'=a.put o.dst x)
  (E:RC P ops Q J aX V G Sx b9 pre post (k+1) rest a'):RC P ops Q J aX V G Sx b9 pre post k (o::rest) a:=bD a' x hc hst hw h t hd (Eb ht) H E
theorem aD {k:Nat} {o:Oper} {a:Act} {x:Ef} (t:Tmp) (E:RC P ops Q J aX V G Sx b9 pre post (k+1) rest a') (hc:aX k=false:=by exact rfl) (hst:kv o.op=true:=by exact rfl) (hw:Region.wanted o (yielded ops a.tmps)=true:=by exact rfl) (hd:o.dst=some t:=by exact rfl) (ht:Nat.ble (t+1) a.tmps.size=true:=by exact rfl)
  (h:∀D v W,bC post k D->J D v W->aL aX G pre k a D v W->∀K:Act->Ee->Prop,Hid (K a' W)->o.wp P a W K (fun _ _ _=>False):=by (intro D T W' hc X M K H; go_step; exact H.out)) (I:a'=a.put o.dst x:=by exact rfl):RC P ops Q J aX V G Sx b9 pre post k (o::rest) a:=RP hc hst hw t hd ht h I E
theorem aO {k:Nat} {o:Oper} {a:Act} {x:Ef} (t:Tmp) (φ : ∀D v W,J D v W->Φ W) (H:RC P ops Q J aX V G Sx b9 pre post (k+1) rest a') (hc:aX k=false:=by exact rfl) (hst:kv o.op=true:=by exact rfl) (hw:Region.wanted o (yielded ops a.tmps)=true:=by exact rfl) (hd:o.dst=some t:=by exact rfl) (ht:Nat.ble (t+1) a.tmps.size=true:=by exact rfl)
  (h:∀W,Φ W->∀K:Act->World->Prop,Hid (K a' W)->o.wp P a W K (fun _ _ _=>False):=by (intro W' T K E; go_step; exact E.out)) (I:a'=a.put o.dst x:=by exact rfl):RC P ops Q J aX V G Sx b9 pre post k (o::rest) a:=RP hc hst hw t hd ht (fun D v W _ M _ K E=>h W (φ D v W M) K E) I H
theorem fJ {k:Nat} {o:Oper} {a:Act} {x:Ef} (H:ops=L) (t:Tmp) (φ : ∀D v W,J D v W->Φ W) (I:RC P ops Q J aX V G Sx b9 pre post (k+1) rest a') (hc:aX k=false:=by exact rfl) (hst:kv o.op=true:=by exact rfl) (hw:Region.wanted o (yielded L a.tmps)=true:=by exact rfl) (hd:o.dst=some t:=by exact rfl) (ht:Nat.ble (t+1) a.tmps.size=true:=by exact rfl)
  (h:∀W,Φ W->∀K:Act->World->Prop,Hid (K a' W)->o.wp P a W K (fun _ _ _=>False):=by (intro W' X K E; go_step; exact E.out)) (M:a'=a.put o.dst x:=by exact rfl):RC P ops Q J aX V G Sx b9 pre post k (o::rest) a:=RP hc hst (by rw[H]; exact hw) t hd ht (fun D v W _ T _ K E=>h W (φ D v W T) K E) M I
theorem bM {k:Nat} {o:Oper} {a:Act} {x:Ef} (H:ops=L) (t:Tmp) (I:RC P ops Q J aX V G Sx b9 pre post (k+1) rest a') (hc:aX k=false:=by exact rfl) (hst:kv o.op=true:=by exact rfl) (hw:Region.wanted o (yielded L a.tmps)=true:=by exact rfl) (hd:o.dst=some t:=by exact rfl) (ht:Nat.ble (t+1) a.tmps.size=true:=by exact rfl)
  (h:∀W,∀K:Act->World->Prop,Hid (K a' W)->o.wp P a W K (fun _ _ _=>False):=by (intro W' K E; go_step; exact E.out)) (M:a'=a.put o.dst x:=by exact rfl):RC P ops Q J aX V G Sx b9 pre post k (o::rest) a:=RP hc hst (by rw[H]; exact hw) t hd ht (fun D v W _ T _ K E=>h W K E) M I
theorem dh {k:Nat} (hc:aX k=false) (hw:Region.wanted o (yielded ops a.tmps)=false)
  (E:RC P ops Q J aX V G Sx b9 pre post (k+1) rest (a.put o.dst Em)):RC P ops Q J aX V G Sx b9 pre post k (o::rest) a:=by
 unfold RC;rw[E9 (by rw[hc]; simp)];refine⟨Em,fun D v W _ _ _=> ?_,E⟩;unfold yP;rw[E9 (by rw[hw]; simp)]
theorem aC {k:Nat} {o:Oper} {rest:List Oper} {a:Act} (hc:aX k=true) (hb:∀t,o.dst=some t->t<a.tmps.size) (hw:Region.wanted o (yielded ops a.tmps)=true)
  (h:∀D v W,bC post k D->J D v W->aL aX G pre k a D v W->∀K:Act->Ee->Prop,Hid (∀x W',Sx k W W'->J (upd D k) (aS v k (dv o x)) W'->G k (dv o x) W'->V k (dv o x)->K (a.put o.dst x) W')->o.wp P a W K (fun e _ W'=>match e with | .panic c=>b9 c W' | _=>False))
  (T:∀x,V k x->RC P ops Q J aX V G Sx b9 pre post (k+1) rest (a.put o.dst x)):RC P ops Q J aX V G Sx b9 pre post k (o::rest) a:=by
 unfold RC;rw[E8 hc];refine⟨fun D v W cw hj hf=> ?_,T⟩;have h:=h D v W cw hj hf (fun Y W'=>∃x,Y=a.put o.dst x/\Sx k W W'/\J (upd D k) (aS v k (dv o x)) W'/\G k (dv o x) W'/\V k (dv o x)) (fun x W' E X Z h4=>⟨x,rfl,E,X,Z,h4⟩);unfold bm;rw[E8 hw]
 have H:∀u W',(∃x,a.put o.dst u=a.put o.dst x/\Sx k W W'/\J (upd D k) (aS v k (dv o x)) W'/\G k (dv o x) W'/\V k (dv o x))->Sx k W W'/\J (upd D k) (aS v k (dv o u)) W'/\G k (dv o u) W'/\V k (dv o u):=fun u W' ⟨x,hv,E,Z,X⟩=>by
  have:dv o u=dv o x:=by
   unfold dv
   cases hd:o.dst with
   | none=>rfl
   | some t=>
    rw[hd]at hv;have E:=qE (v:=u) (hb t hd);rw[hv,qE (hb t hd)]at E
    injection E with E
    exact E.symm
  rw[this];exact⟨E,Z,X⟩
 unfold Oper.wp at h;unfold JP
 cases T:(execOp a.eval o).run P W with
 | ok r W'=>
  rw[T]at h
  cases r
  case value v=>exact H v W' h
  case skip=>exact H Em W' h
  case enter f args=>
   rw[Oper.upon_enter]at h;refine Calls.mono h fun e M I=> ?_
   cases e with
   | returned v=>exact H v M I
   | panicked c=>exact I
   | outgrown=>obtain⟨_,_,I⟩:=I; exact I.elim
  case defer d=>
   rw[Oper.upon_defer]at h;obtain⟨x,h,-⟩:=h;have E:=congrArg Act.defers h;rw[ju,ju]at E;exact absurd (congrArg List.length E) D8
  case row row args=>
   rw[Oper.upon_row]at h;exact Rows.mono h fun v M I=>H v M I
  all_goals exact h.elim
 | halt r W'=>
  rw[T]at h
  cases r<;>exact h
theorem sk {k:Nat} (E:ops=L) (H:RC P ops Q J aX V G Sx b9 pre post (k+1) rest (a.put o.dst Em)) (hc:aX k=false:=by exact rfl) (hw:Region.wanted o (yielded L a.tmps)=false:=by exact rfl):RC P ops Q J aX V G Sx b9 pre post k (o::rest) a:=dh hc (by rw[E]; exact hw) H
theorem dL {k:Nat} {o:Oper} {rest:List Oper} {a:Act} (h:∀D v W,bC post k D->J D v W->aL aX G pre k a D v W->∀K:Act->Ee->Prop,Hid (∀x W',Sx k W W'->J (upd D k) (aS v k (dv o x)) W'->G k (dv o x) W'->V k (dv o x)->K (a.put o.dst x) W')->o.wp P a W K (fun e _ W'=>match e with | .panic c=>b9 c W' | _=>False))
  (H:∀x,V k x->RC P ops Q J aX V G Sx b9 pre post (k+1) rest (a.put o.dst x)) (hc:aX k=true:=by exact rfl) (E:∀t,o.dst=some t->t<a.tmps.size:=by (intro t ht; cases ht)) (hw:Region.wanted o (yielded ops a.tmps)=true:=by exact rfl):RC P ops Q J aX V G Sx b9 pre post k (o::rest) a:=aC hc E hw h H
/-- operations that no one asks for, many at once -/
def Ct (aX:Nat->Bool) (L:Array Oper):Nat->Nat->List Oper->Act->Bool
 | 0,_,_,_=>true
 | _+1,_,[],_=>false
 | m+1,k,o::rest,a=> !aX k&&(!Region.wanted o (yielded L a.tmps)&&Ct aX L m (k+1) rest (a.put o.dst Em))
def Bc:Nat->List Oper->Act->Act
 | 0,_,a=>a
 | _+1,[],a=>a
 | m+1,o::rest,a=>Bc m rest (a.put o.dst Em)
theorem aB {k:Nat} (h:a=b) (E:RC P ops Q J aX V G Sx b9 pre post k l b):RC P ops Q J aX V G Sx b9 pre post k l a:=h▸E
theorem dD {k:Nat} (h:a=⟨#[x0,x1,x2,x3,x4,x5,x6,x7,x8,x9,co,cn,bh,d9,cU,ce,bi,cg,bl,br,ci,bt,cx,cN],d⟩) (E:RC P ops Q J aX V G Sx b9 pre post k l ⟨#[x0,x1,x2,x3,x4,x5,x6,x7,x8,x9,co,cn,bh,d9,cU,ce,bi,cg,bl,br,ci,bt,cx,cN],d⟩):RC P ops Q J aX V G Sx b9 pre post k l a:=h▸E
theorem dg {k:Nat} (h:a=⟨#[x0,x1,x2,x3,x4,x5,x6,x7,x8,x9,co,cn,bh,d9,cU,ce,bi,cg,bl,br,ci,bt,cx,cN,ed,er,eM,dz,ek,em,dk,dc,f7,dl,eW,dy,dx,ey],d⟩) (E:RC P ops Q J aX V G Sx b9 pre post k l ⟨#[x0,x1,x2,x3,x4,x5,x6,x7,x8,x9,co,cn,bh,d9,cU,ce,bi,cg,bl,br,ci,bt,cx,cN,ed,er,eM,dz,ek,em,dk,dc,f7,dl,eW,dy,dx,ey],d⟩):RC P ops Q J aX V G Sx b9 pre post k l a:=h▸E
theorem dF {k:Nat} (h:a=⟨#[x0,x1,x2,x3,x4,x5,x6,x7,x8,x9,co,cn,bh,d9,cU,ce,bi,cg,bl,br,ci,bt,cx,cN,ed,er,eM,dz,ek,em,dk,dc,f7,dl,eW,dy,dx,ey,fe,gn,f9,gt,fd,g8,g9,gB,ft,gC,gd,gA,gz,fl],d⟩) (E:RC P ops Q J aX V G Sx b9 pre post k l ⟨#[x0,x1,x2,x3,x4,x5,x6,x7,x8,x9,co,cn,bh,d9,cU,ce,bi,cg,bl,br,ci,bt,cx,cN,ed,er,eM,dz,ek,em,dk,dc,f7,dl,eW,dy,dx,ey,fe,gn,f9,gt,fd,g8,g9,gB,ft,gC,gd,gA,gz,fl],d⟩):RC P ops Q J aX V G Sx b9 pre post k l a:=h▸E
theorem dY {k:Nat} (h:a=⟨#[x0,x1,x2,x3,x4,x5,x6,x7,x8,x9,co,cn,bh,d9,cU,ce,bi,cg,bl,br,ci,bt,cx,cN,ed,er,eM,dz,ek,em,dk,dc,f7,dl,eW,dy,dx,ey,fe,gn,f9,gt,fd,g8,g9,gB,ft,gC,gd,gA,gz,fl,gF,gD,gN,gK,gE,gI,gL,gG,gH,gM],d⟩) (E:RC P ops Q J aX V G Sx b9 pre post k l ⟨#[x0,x1,x2,x3,x4,x5,x6,x7,x8,x9,co,cn,bh,d9,cU,ce,bi,cg,bl,br,ci,bt,cx,cN,ed,er,eM,dz,ek,em,dk,dc,f7,dl,eW,dy,dx,ey,fe,gn,f9,gt,fd,g8,g9,gB,ft,gC,gd,gA,gz,fl,gF,gD,gN,gK,gE,gI,gL,gG,gH,gM],d⟩):RC P ops Q J aX V G Sx b9 pre post k l a:=h▸E
theorem dj {k:Nat} (h:a=⟨#[x0,x1,x2,x3,x4,x5,x6,x7,x8,x9,co,cn,bh,d9,cU,ce,bi,cg,bl,br,ci,bt,cx,cN,ed,er,eM,dz,ek,em,dk,dc,f7,dl,eW,dy,dx,ey,fe,gn,f9,gt,fd,g8,g9,gB,ft,gC,gd,gA,gz,fl,gF,gD,gN,gK,gE,gI,gL,gG,gH,gM,gX,gW],d⟩) (E:RC P ops Q J aX V G Sx b9 pre post k l ⟨#[x0,x1,x2,x3,x4,x5,x6,x7,x8,x9,co,cn,bh,d9,cU,ce,bi,cg,bl,br,ci,bt,cx,cN,ed,er,eM,dz,ek,em,dk,dc,f7,dl,eW,dy,dx,ey,fe,gn,f9,gt,fd,g8,g9,gB,ft,gC,gd,gA,gz,fl,gF,gD,gN,gK,gE,gI,gL,gG,gH,gM,gX,gW],d⟩):RC P ops Q J aX V G Sx b9 pre post k l a:=h▸E
theorem et {k:Nat} (h:a=⟨#[x0,x1,x2,x3,x4,x5,x6,x7,x8,x9,co,cn,bh,d9,cU,ce,bi,cg,bl,br,ci,bt,cx,cN,ed,er,eM,dz,ek,em,dk,dc,f7,dl,eW,dy,dx,ey,fe,gn,f9,gt,fd,g8,g9,gB,ft,gC,gd,gA,gz,fl,gF,gD,gN,gK,gE,gI,gL,gG,gH,gM,gX,gW,h9,hE,gZ,gY,i6,i5],d⟩) (E:RC P ops Q J aX V G Sx b9 pre post k l ⟨#[x0,x1,x2,x3,x4,x5,x6,x7,x8,x9,co,cn,bh,d9,cU,ce,bi,cg,bl,br,ci,bt,cx,cN,ed,er,eM,dz,ek,em,dk,dc,f7,dl,eW,dy,dx,ey,fe,gn,f9,gt,fd,g8,g9,gB,ft,gC,gd,gA,gz,fl,gF,gD,gN,gK,gE,gI,gL,gG,gH,gM,gX,gW,h9,hE,gZ,gY,i6,i5],d⟩):RC P ops Q J aX V G Sx b9 pre post k l a:=h▸E
theorem ei {k:Nat} (h:a=⟨#[x0,x1,x2,x3,x4,x5,x6,x7,x8,x9,co,cn,bh,d9,cU,ce,bi,cg,bl,br,ci,bt,cx,cN,ed,er,eM,dz,ek,em,dk,dc,f7,dl,eW,dy,dx,ey,fe,gn,f9,gt,fd,g8,g9,gB,ft,gC,gd,gA,gz,fl,gF,gD,gN,gK,gE,gI,gL,gG,gH,gM,gX,gW,h9,hE,gZ,gY,i6,i5,l6,lC,lw,lh,lF,lj,lf,l8,l9,lk,ln,lH,lG,lE],d⟩) (E:RC P ops Q J aX V G Sx b9 pre post k l ⟨#[x0,x1,x2,x3,x4,x5,x6,x7,x8,x9,co,cn,bh,d9,cU,ce,bi,cg,bl,br,ci,bt,cx,cN,ed,er,eM,dz,ek,em,dk,dc,f7,dl,eW,dy,dx,ey,fe,gn,f9,gt,fd,g8,g9,gB,ft,gC,gd,gA,gz,fl,gF,gD,gN,gK,gE,gI,gL,gG,gH,gM,gX,gW,h9,hE,gZ,gY,i6,i5,l6,lC,lw,lh,lF,lj,lf,l8,l9,lk,ln,lH,lG,lE],d⟩):RC P ops Q J aX V G Sx b9 pre post k l a:=h▸E
theorem b_ {k:Nat} (h:a=⟨#[x0,x1,x2,x3,x4,x5,x6,x7,x8,x9,co,cn,bh,d9,cU,ce,bi,cg,bl,br,ci,bt,cx,cN,ed,er,eM,dz,ek,em,dk,dc,f7,dl,eW,dy,dx,ey,fe,gn,f9,gt,fd,g8,g9,gB,ft,gC,gd,gA,gz,fl,gF,gD,gN,gK,gE,gI,gL,gG,gH,gM,gX,gW,h9,hE,gZ,gY,i6,i5,l6,lC,lw,lh,lF,lj,lf,l8,l9,lk,ln,lH,lG,lE,lY,mb,m8,lN,m9,lJ,ma,me,lW,lQ,lM,lP,lX,lO,lK,m7,gR,gO,gQ,gP,gV],d⟩) (E:RC P ops Q J aX V G Sx b9 pre post k l ⟨#[x0,x1,x2,x3,x4,x5,x6,x7,x8,x9,co,cn,bh,d9,cU,ce,bi,cg,bl,br,ci,bt,cx,cN,ed,er,eM,dz,ek,em,dk,dc,f7,dl,eW,dy,dx,ey,fe,gn,f9,gt,fd,g8,g9,gB,ft,gC,gd,gA,gz,fl,gF,gD,gN,gK,gE,gI,gL,gG,gH,gM,gX,gW,h9,hE,gZ,gY,i6,i5,l6,lC,lw,lh,lF,lj,lf,l8,l9,lk,ln,lH,lG,lE,lY,mb,m8,lN,m9,lJ,ma,me,lW,lQ,lM,lP,lX,lO,lK,m7,gR,gO,gQ,gP,gV],d⟩):RC P ops Q J aX V G Sx b9 pre post k l a:=h▸E
theorem dB {k:Nat} (h:a=⟨#[x0,x1,x2,x3,x4,x5,x6,x7,x8,x9,co,cn,bh,d9,cU,ce,bi,cg,bl,br,ci,bt,cx,cN,ed,er,eM,dz,ek,em,dk,dc,f7,dl,eW,dy,dx,ey,fe,gn,f9,gt,fd,g8,g9,gB,ft,gC,gd,gA,gz,fl,gF,gD,gN,gK,gE,gI,gL,gG,gH,gM,gX,gW,h9,hE,gZ,gY,i6,i5,l6,lC,lw,lh,lF,lj,lf,l8,l9,lk,ln,lH,lG,lE,lY,mb,m8,lN,m9,lJ,ma,me,lW,lQ,lM,lP,lX,lO,lK,m7,gR,gO,gQ,gP,gV,iK,iO,iJ,ir,iR,iF,iv,iV,iX,iT,jb,k6,ko,iy,iG,iY,ik,k7,jc,ip,ja,iW,ky,iL,ij,iE,ig,iQ,iq,iA,im,iB,k8,iS,ki,km,iz,iM,iC,jd,iI,iU,i8,iD,iu,iN,kw,iZ,iH,iP,i7,kx],d⟩) (E:RC P ops Q J aX V G Sx b9 pre post k l ⟨#[x0,x1,x2,x3,x4,x5,x6,x7,x8,x9,co,cn,bh,d9,cU,ce,bi,cg,bl,br,ci,bt,cx,cN,ed,er,eM,dz,ek,em,dk,dc,f7,dl,eW,dy,dx,ey,fe,gn,f9,gt,fd,g8,g9,gB,ft,gC,gd,gA,gz,fl,gF,gD,gN,gK,gE,gI,gL,gG,gH,gM,gX,gW,h9,hE,gZ,gY,i6,i5,l6,lC,lw,lh,lF,lj,lf,l8,l9,lk,ln,lH,lG,lE,lY,mb,m8,lN,m9,lJ,ma,me,lW,lQ,lM,lP,lX,lO,lK,m7,gR,gO,gQ,gP,gV,iK,iO,iJ,ir,iR,iF,iv,iV,iX,iT,jb,k6,ko,iy,iG,iY,ik,k7,jc,ip,ja,iW,ky,iL,ij,iE,ig,iQ,iq,iA,im,iB,k8,iS,ki,km,iz,iM,iC,jd,iI,iU,i8,iD,iu,iN,kw,iZ,iH,iP,i7,kx],d⟩):RC P ops Q J aX V G Sx b9 pre post k l a:=h▸E
theorem dA {k:Nat} {dP Z mt T ml Y mh I mj mu mn mw E M it mr ms ks my H X mz mg:Ef} (h:a=⟨#[x0,x1,x2,x3,x4,x5,x6,x7,x8,x9,co,cn,bh,d9,cU,ce,bi,cg,bl,br,ci,bt,cx,cN,ed,er,eM,dz,ek,em,dk,dc,f7,dl,eW,dy,dx,ey,fe,gn,f9,gt,fd,g8,g9,gB,ft,gC,gd,gA,gz,fl,gF,gD,gN,gK,gE,gI,gL,gG,gH,gM,gX,gW,h9,hE,gZ,gY,i6,i5,l6,lC,lw,lh,lF,lj,lf,l8,l9,lk,ln,lH,lG,lE,lY,mb,m8,lN,m9,lJ,ma,me,lW,lQ,lM,lP,lX,lO,lK,m7,gR,gO,gQ,gP,gV,iK,iO,iJ,ir,iR,iF,iv,iV,iX,iT,jb,k6,ko,iy,iG,iY,ik,k7,jc,ip,ja,iW,ky,iL,ij,iE,ig,iQ,iq,iA,im,iB,k8,iS,ki,km,iz,iM,iC,jd,iI,iU,i8,iD,iu,iN,kw,iZ,iH,iP,i7,kx,dP,Z,mt,T,ml,Y,mh,I,mj,mu,mn,mw,E,M,it,mr,ms,ks,my,H,X,mz,mg],d⟩) (hr:RC P ops Q J aX V G Sx b9 pre post k l ⟨#[x0,x1,x2,x3,x4,x5,x6,x7,x8,x9,co,cn,bh,d9,cU,ce,bi,cg,bl,br,ci,bt,cx,cN,ed,er,eM,dz,ek,em,dk,dc,f7,dl,eW,dy,dx,ey,fe,gn,f9,gt,fd,g8,g9,gB,ft,gC,gd,gA,gz,fl,gF,gD,gN,gK,gE,gI,gL,gG,gH,gM,gX,gW,h9,hE,gZ,gY,i6,i5,l6,lC,lw,lh,lF,lj,lf,l8,l9,lk,ln,lH,lG,lE,lY,mb,m8,lN,m9,lJ,ma,me,lW,lQ,lM,lP,lX,lO,lK,m7,gR,gO,gQ,gP,gV,iK,iO,iJ,ir,iR,iF,iv,iV,iX,iT,jb,k6,ko,iy,iG,iY,ik,k7,jc,ip,ja,iW,ky,iL,ij,iE,ig,iQ,iq,iA,im,iB,k8,iS,ki,km,iz,iM,iC,jd,iI,iU,i8,iD,iu,iN,kw,iZ,iH,iP,i7,kx,dP,Z,mt,T,ml,Y,mh,I,mj,mu,mn,mw,E,M,it,mr,ms,ks,my,H,X,mz,mg],d⟩):RC P ops Q J aX V G Sx b9 pre post k l a:=h▸hr
theorem aF {k:Nat} (h:∀D v W,(∀j,j<k->D j=aX j)->J D v W->aL aX G pre k a D v W->Q .normal a W):RC P ops Q J aX V G Sx b9 pre post k [] a:=h
theorem aI (J:(Nat->Bool)->(Nat->Ef)->Ee->Prop) (aX:Nat->Bool) (V:Nat->Ef->Prop) (G:Nat->Ef->Ee->Prop) (Sx:Nat->Ee->Ee->Prop) (b9:List PanicEntry->Ee->Prop) (pre:Nat->List (Nat×Option Tmp)) (post:Nat->List Nat)
  (hm:P.follows .mixedOrders=true) (ht:tidy ops aY.tmps.size=true) (H:c_ ops aX pre post=true)
  (Z:∀k,∃x,V k x) (I:∀v,J (fun _=>false) v w.drew) (M:∀D v T W,(∀j,D j=true->v j=T j)->J D v W->J D T W)
  (Y:∀D v k j W W' x,j≠k->aX j=true->aX k=true->J D v W->Sx k W W'->G j x W->G j x W')
  (hP:∀a W c,a.defers=aY.defers->b9 c W->Q (.panic c) a W)
  (h:∀E X,E=ops->(∀a W,Q .normal a W->X .normal a W)->RC P E X J aX V G Sx b9 pre post 0 ops.toList aY):(Code.region id ops true).wp P Q aY w:=
 Z_ hm I ht H Z M Y hP (h ops Q rfl fun _ _ h=>h)
theorem bZ (J:Nat->(Nat->Bool)->(Nat->Ef)->Ee->Prop) (aX:Nat->Bool) (V:Nat->Ef->Prop) (G:Nat->Ef->Ee->Prop) (Sx:Nat->Ee->Ee->Prop) (b9:List PanicEntry->Ee->Prop) (pre:Nat->List (Nat×Option Tmp)) (post:Nat->List Nat)
  (Y:P.follows .mixedOrders=true) (ht:tidy ops aY.tmps.size=true) (I:c_ ops aX pre post=true) (X:∀k,∃x,V k x)
  (h:∀H,Hid (H=w.heap.size)->(∀v,J H (fun _=>false) v w.drew)/\(∀D v M W,(∀j,D j=true->v j=M j)->J H D v W->J H D M W)/\
   (∀D v k j W W' x,j≠k->aX j=true->aX k=true->J H D v W->Sx k W W'->G j x W->G j x W')/\(∀a W c,a.defers=aY.defers->b9 c W->Q (.panic c) a W)/\
   ∀E T,E=ops->(∀a W,Q .normal a W->T .normal a W)->RC P E T (J H) aX V G Sx b9 pre post 0 ops.toList aY):(Code.region id ops true).wp P Q aY w:=
 let ⟨h1,h2,h3,h4,h5⟩:=h _ rfl
 aI (J w.heap.size) aX V G Sx b9 pre post Y ht I X h1 h2 h3 h4 h5
end
def inl (l:List Nat) (k:Nat):Bool:=l.contains k
def ge:List (Nat×Ef)->Nat->Ef->Prop
 | [],_,_=>True
 | (i,e)::r,k,x=>if k=i then x=e else ge r k x
theorem cH (l:List (Nat×Ef)) (k:Nat):∃x,ge l k x:=by
 induction l with
 | nil=>exact⟨Em,trivial⟩
 | cons p r ih=>
  obtain⟨i,e⟩:=p;unfold ge
  by_cases h:k=i
  . exact⟨e,by rw[E8 h]⟩
  . obtain⟨x,E⟩:=ih; exact⟨x,by rw[E9 h]; exact E⟩
theorem eK {P:Program} {ops:Array Oper} {Q:Exit->Act->Ee->Prop} {J:(Nat->Bool)->(Nat->Ef)->Ee->Prop} {aX:Nat->Bool} {l:List (Nat×Ef)} {G:Nat->Ef->Ee->Prop} {Sx:Nat->Ee->Ee->Prop} {b9:List PanicEntry->Ee->Prop} {pre:Nat->List (Nat×Option Tmp)} {post:Nat->List Nat}
  {k:Nat} {o:Oper} {rest:List Oper} {a:Act} (e:Ef) (E:∀x,ge l k x->x=e) (hc:aX k=true) (H:∀t,o.dst=some t->t<a.tmps.size) (hw:Region.wanted o (yielded ops a.tmps)=true)
  (h:∀D v W,bC post k D->J D v W->aL aX G pre k a D v W->∀K:Act->Ee->Prop,Hid (∀x W',Sx k W W'->J (upd D k) (aS v k (dv o x)) W'->G k (dv o x) W'->ge l k (dv o x)->K (a.put o.dst x) W')->o.wp P a W K (fun e _ W'=>match e with | .panic c=>b9 c W' | _=>False))
  (I:RC P ops Q J aX (ge l) G Sx b9 pre post (k+1) rest (a.put o.dst e)):RC P ops Q J aX (ge l) G Sx b9 pre post k (o::rest) a:=
 aC hc H hw h fun x M=>E x M▸I
def gv:List (Nat×(Ef->Prop))->Nat->Ef->Prop
 | [],_,_=>True
 | (i,e)::r,k,x=>if k=i then e x else gv r k x
theorem bj (l:List (Nat×(Ef->Prop))) (h:∀p∈l,∃x,p.2 x) (k:Nat):∃x,gv l k x:=by
 induction l with
 | nil=>exact⟨Em,trivial⟩
 | cons p r ih=>
  obtain⟨i,e⟩:=p;unfold gv
  by_cases hk:k=i
  . obtain⟨x,E⟩:=h _ (.head _); exact⟨x,by rw[E8 hk]; exact E⟩
  . obtain⟨x,E⟩:=ih fun p H=>h p (.tail _ H); exact⟨x,by rw[E9 hk]; exact E⟩
def pl {α : Type} : List (Nat×List α)->Nat->List α
 | [],_=> []
 | (i,e)::r,k=>if k=i then e else pl r k
def Any (_ _:Ee):Prop:=True
theorem any : Any W W':=trivial
def aR (_:Nat) (_:Ef) (_:Ee):Prop:=True
theorem none_ {k:Nat} : aR k x W:=trivial
def eO (b:Bool) (x y:Ef):Ef:=match b with | false=>x | true=>y
theorem du (h:g<n):Value.pointer (some ⟨n,0,none⟩)≠ .pointer (some ⟨g,0,none⟩):=by
 intro e; injection e with e; injection e with e; injection e with e; omega
theorem dR {a b:Nat} (h:Value.slice (some ⟨n,0,none⟩) a b = Ex (some ⟨g,0,none⟩) a b):n=g:=by
 injection h with e; injection e with e; injection e with e
theorem bI (h:Value.pointer (some ⟨n,0,none⟩) = .pointer (some ⟨g,0,none⟩)):n=g:=by
 injection h with e; injection e with e; injection e with e
end aj
end Go.Proofs.YtffmbepfbienaaaGreat
