import Derived.Test.YtffmbepfbienaaaGreatProg
import Derived.Handy
import Derived.WalkSpells
import Derived.Shelf.Spec.BitsCarry
import Derived.Lib.Hide
import Derived.BigQuiet
import Derived.Deep.RegionHeld3
import Derived.Deep.DeepCutAuto
import Derived.Laws.AppendOwnNone
import Derived.Lib.SmallJoins
set_option linter.unusedVariables false
set_option linter.unusedSimpArgs false
open Go.Value renaming slice->Cq,bool->Cx,int->Cz
open Go.IntKind renaming i64->Cv
open Go renaming World->Cc,Value->Cd,TypeId->Ce,undef->Cf
open Nat renaming le_refl->Cl,lt_or_ge->Cm
open Go.World renaming size_alloc->Co
namespace Go.Proofs.YtffmbepfbienaaaGreat
open Go.RowKit
theorem B_ {p:Prop} (h:p:=by omega):p:=h
theorem B' {p:Prop} (h:p:=by kernel_rfl):p:=h
theorem C0 {p:Prop} (h:p:=by decide):p:=h
theorem C3 {p:Prop} (h:p:=by simp):p:=h
theorem C4 {p:Prop} (h:p:=by rw[World.size_alloc]; omega):p:=h
theorem C5 {p:Prop} (h:p):Hid p:=h
theorem C6 {a b:Prop} (h:a) (k:b):a/\b:=⟨h,k⟩
theorem C7 {c:Prop} {h:Decidable c} (k:c) {α:Sort _} {t e:α}:ite c t e=t:=if_pos k
theorem C8 {c:Prop} {h:Decidable c} (k:¬c) {α:Sort _} {t e:α}:ite c t e=e:=if_neg k
theorem C9 {p:Prop} [Decidable p] (h:p):decide p=true:=decide_eq_true h
theorem C_ {p:Prop} [Decidable p] (h:¬p):decide p=false:=decide_eq_false h
theorem Ca {n m:Nat} (h:Nat.ble n m=true):n<=m:=Nat.le_of_ble_eq_true h
abbrev V9:Array Cd:=#[Cx false,Cq none 0 0,Cx false,Cq none 0 0,Cx false,Cq none 0 0,Cx false,Cq none 0 0,Cx false,Cq none 0 0,Cx false,Cq none 0 0,Cx false,Cq none 0 0,Cx false,Cq none 0 0]
abbrev Jf:Array Cd:=#[Cz Cv 0,Cz Cv 0,Cz Cv 0,Cz Cv 0,Cx false,Cq none 0 0,Cx false,Cq none 0 0,Cx false,Cq none 0 0,Cx false,Cq none 0 0,Cx false,Cq none 0 0,Cx false,Cq none 0 0,Cx false,Cq none 0 0,Cx false,Cq none 0 0]
abbrev qE:Array Cd:=#[Cx false,Cq none 0 0,Cx false,Cq none 0 0]
abbrev Km:Array Cd:=#[Cz Cv 0,Cz Cv 0,Cz Cv 0,Cz Cv 0,Cz Cv 0,Cz Cv 0,Cz Cv 0,Cz Cv 0,Cz Cv 0]
abbrev H':Array Cd:=#[Cx false,Cq none 0 0,Cx false,Cq none 0 0,Cz Cv 0,Cz Cv 0,Cx false,Cq none 0 0,Cx false,Cq none 0 0,Cx false,Cq none 0 0,Cx false,Cq none 0 0]
variable {a b:Int} {l:List Cd} {i n:Nat} {a0 a1 bg bh bi bl eF ft iV ja ko kE a2 a3 a4 a5 a6 a7 a8 a9 u:Cd} {W W':Cc}
theorem yT {k:IntKind} (h:a=b):Ending.returned (Cz k a) = .returned (Cz k b):=by rw[h]
def BK (y:Int):Int:=if 0<y then 1 else 0
theorem kP (x y:Int) (b:Nat) (E:y.toNat=x.toNat / 2^b) (M:0<y) (h:y<256) (I:b<=56) :
  wrap64 ((b:Int)+wrap64 ((bitLen y.toNat:Nat):Int))=((bitLen x.toNat:Nat):Int):=by
 have l:=bitLen_le8 y.toNat B_;have s:=bitLen_shift x.toNat b B_;rw[<- E]at s;rw[s];unfold wrap64;omega
theorem Qa (x:Int) (h:x<256):wrap64 (wrap64 ((bitLen x.toNat:Nat):Int))=((bitLen x.toNat:Nat):Int):=by
 have l:=bitLen_le8 x.toNat B_;unfold wrap64;omega
def Ba (t:Int):Int:=t / 18446744073709551616
def Bb (t:Int):Int:=t%18446744073709551616
def zI (a b:Int):Int:=if a=b then 0 else if a<b then -1 else 1
theorem Kn : zI a b<0↔a<b:=by unfold zI; split<;>(try split)<;>omega
theorem Ko : 0<zI a b↔b<a:=by unfold zI; split<;>(try split)<;>omega
def dn (t d:Int):Int:=max (-4611686018427387904) (min (t / d) 4611686018427387904)
def BM (t d:Int):Int:= - dn (-t) d
def md (I E:Int):Int×Int×Int:=if I < -2305843009213693952\/2305843009213693952<E then(0,0,16)else(I,E,0)
def V (I E:Int):Prop:=I<=E/\-2305843009213693952<=I/\E<=2305843009213693952
instance (lo E:Int):Decidable (V lo E):=by unfold V; infer_instance
def BN (p:Prop) [Decidable p] (t:Int×Int×Int):Int×Int×Int:=if p then t else(0,0,8)
def G3 (w:Cc) (t:Int×Int×Int) (e:Ending) (w':Cc):Prop:=
 e = .returned (.tuple #[.agg #[Cz Cv t.1,Cz Cv t.2.1],Cz Cv t.2.2])/\Below w.heap.size w w'
theorem bP {E:Cc} (I:Below W.heap.size W E) {b:Nat} (h:b<W.heap.size):(∀o,E.cell? ⟨b,o,none⟩=W.cell? ⟨b,o,none⟩)/\(∀o,E.frozen? ⟨b,o,none⟩=W.frozen? ⟨b,o,none⟩):=
 ⟨fun o=>I.cell (p:=⟨b,o,none⟩) h,fun o=>I.frozen (p:=⟨b,o,none⟩) h⟩
def zf (W W':Cc):Prop:=Below W.heap.size W W'
theorem zp {w:Cc} (h:Below n w W) (E:n<=w.heap.size) (I:zf W W'):Below n w W':=h.trans (I.mono (Nat.le_trans E h.size))
def ai (w:Cc) (g:Nat) (t:Ce) (cs:Array Cd):Prop:=w.heap[g]? = some (.cells cs t (0,0))
section
variable {w w':Cc} {g:Nat} {t:Ce} {cs:Array Cd}
theorem ai.lt (h:ai w g t cs):g<w.heap.size:=by
 rcases Cm g w.heap.size with I | E
 . exact I
 . unfold ai at h; rw[Array.getElem?_eq_none E]at h; cases h
theorem ai.cell (h:ai w g t cs) (i:Nat):w.cell? ⟨g,i,none⟩=cs[i]? :=cell_of_row w g i cs t (0,0) h
theorem ai.c (h:ai w g t cs) (i:Nat) {v:Cd} (hv:cs[i]? = some v):w.cell? ⟨g,i,none⟩=some v:=(h.cell i).trans hv
theorem ai.fr (h:ai w g t cs) (i:Nat):w.frozen? ⟨g,i,none⟩=false:=by
 unfold ai at h;simp[World.frozen?,h]
theorem ai.new (w:Cc) (t:Ce) (cs:Array Cd):ai (w.alloc (.cells cs t)) w.heap.size t cs:=heap_alloc_new w _
theorem ai.dT (w:Cc) (o:Obj) (t:Ce) (cs:Array Cd):ai ((w.alloc o).alloc (.cells cs t)) (w.heap.size+1) t cs:=by
 have h:=ai.new (w.alloc o) t cs
 rwa[Co]at h
theorem ai.drew (h:ai w g t cs):ai w.drew g t cs:=h
theorem ai.drewN (h:ai w g t cs) (n:Nat):ai (w.drewN n) g t cs:=h
theorem ai.alloc (h:ai w g t cs) (o:Obj):ai (w.alloc o) g t cs:=(Below.heap_alloc w o g h.lt).trans h
theorem ai.bI (h:ai w g t cs) (i:Nat) (u:Cd):ai (w.setCell ⟨g,i,none⟩ u) g t (cs.setIfInBounds i u):=by
 unfold ai at h|-;simp[World.setCell,Array.getElem?_modify,h]
theorem ai.a_ (h:ai w g t cs) {p:Addr} (E:g≠p.block) (u:Cd):ai (w.setCell p u) g t cs:=(Below.heap_setCell w p u g E).trans h
theorem ai.ae (h:ai w g t cs) (E:zf w w'):ai w' g t cs:=(E.block g h.lt).trans h
end
def Hu (n:Int):Int:=(Nat.sqrt n.toNat:Nat)
theorem yD {B:Nat} {a w:Cc} (h:Below B a w) (n:Nat):Below B a (w.drewN n):=⟨h.os,h.tape,h.output,h.size,h.block⟩
section
variable {w w':Cc} {g:Nat} {t:Ce} {cs cs':Array Cd}
theorem ai.bO (h:w.heap.size=g):ai (w.alloc (.cells cs t)) g t cs:=h▸ai.new w t cs
theorem ai.aR (h:ai w g t cs) (e:cs.setIfInBounds i u=cs'):ai (w.setCell ⟨g,i,none⟩ u) g t cs':=e▸h.bI i u
theorem ai.both {x y v:Cd} (h:ai w g t #[x,y]):ai ((w.setCell ⟨g,0,none⟩ u).setCell ⟨g,1,none⟩ v) g t #[u,v]:=(h.bI 0 u).bI 1 v
theorem ai.aG {b:Nat} (h:ai w g t cs) (E:g≠b):ai (w.setCell ⟨b,i,none⟩ u) g t cs:=h.a_ (p:=⟨b,i,none⟩) E u
end
/-- the same three with the usual proofs filled in: merge.py puts them in the place of the long words (a claim's size) -/
theorem Xh {w:World} {g:Nat} {t:TypeId} {cs:Array Value} (h:ai w g t cs:=by (repeat' first | with_reducible assumption | (with_reducible refine ai.bO ?_; first | with_reducible rfl | (simp only[World.size_alloc,World.size_setCell,World.size_drew]; done)) | with_reducible refine ai.alloc ?_ _ | with_reducible refine ai.drew ?_ | with_reducible refine ai.drewN ?_ _ | with_reducible apply ai.both | with_reducible refine ai.aG ?_ ?_ | (show _≠_; omega))):ai w g t cs:=h
theorem ai.aw {w w':World} {g:Nat} {t:TypeId} {cs:Array Value} (st:zf w w') (h:ai w g t cs:=by (repeat' first | with_reducible assumption | (with_reducible refine ai.bO ?_; first | with_reducible rfl | (simp only[World.size_alloc,World.size_setCell,World.size_drew]; done)) | with_reducible refine ai.alloc ?_ _ | with_reducible refine ai.drew ?_ | with_reducible refine ai.drewN ?_ _ | with_reducible apply ai.both | with_reducible refine ai.aG ?_ ?_ | (show _≠_; omega))):ai w' g t cs:=h.ae st
theorem zi {w w':World} (h:Below n w w':=by (repeat' first | with_reducible assumption | with_reducible exact Below.refl _ _ | with_reducible refine Below.alloc ?_ ?_ _ | with_reducible refine Below.drew ?_ | with_reducible refine yD ?_ _ | with_reducible refine Below.setCell ?_ ?_ _ | go_size)):Below n w w':=h
theorem yQ {w:World} (st:zf W W') (h:Below w.heap.size w W:=by (repeat' first | with_reducible assumption | with_reducible exact Below.refl _ _ | with_reducible refine Below.alloc ?_ ?_ _ | with_reducible refine Below.drew ?_ | with_reducible refine yD ?_ _ | with_reducible refine Below.setCell ?_ ?_ _ | go_size)):Below w.heap.size w W':=zp h (Nat.le_refl _) st
theorem ai.q0 {w:Cc} {g:Nat} {t:Ce} (h:ai w g t (List.toArray (a0::l))):w.cell? ⟨g,0,none⟩=some a0:=h.c 0 rfl
theorem ai.q1 {w:Cc} {g:Nat} {t:Ce} (h:ai w g t (List.toArray (a0::a1::l))):w.cell? ⟨g,1,none⟩=some a1:=h.c 1 rfl
theorem ai.q2 {w:Cc} {g:Nat} {t:Ce} (h:ai w g t (List.toArray (a0::a1::a2::l))):w.cell? ⟨g,2,none⟩=some a2:=h.c 2 rfl
theorem ai.q3 {w:Cc} {g:Nat} {t:Ce} (h:ai w g t (List.toArray (a0::a1::a2::a3::l))):w.cell? ⟨g,3,none⟩=some a3:=h.c 3 rfl
theorem ai.q4 {w:Cc} {g:Nat} {t:Ce} (h:ai w g t (List.toArray (a0::a1::a2::a3::a4::l))):w.cell? ⟨g,4,none⟩=some a4:=h.c 4 rfl
theorem ai.q5 {w:Cc} {g:Nat} {t:Ce} (h:ai w g t (List.toArray (a0::a1::a2::a3::a4::a5::l))):w.cell? ⟨g,5,none⟩=some a5:=h.c 5 rfl
theorem ai.q6 {w:Cc} {g:Nat} {t:Ce} (h:ai w g t (List.toArray (a0::a1::a2::a3::a4::a5::a6::l))):w.cell? ⟨g,6,none⟩=some a6:=h.c 6 rfl
theorem ai.q7 {w:Cc} {g:Nat} {t:Ce} (h:ai w g t (List.toArray (a0::a1::a2::a3::a4::a5::a6::a7::l))):w.cell? ⟨g,7,none⟩=some a7:=h.c 7 rfl
theorem ai.q8 {w:Cc} {g:Nat} {t:Ce} (h:ai w g t (List.toArray (a0::a1::a2::a3::a4::a5::a6::a7::a8::l))):w.cell? ⟨g,8,none⟩=some a8:=h.c 8 rfl
theorem ai.q9 {w:Cc} {g:Nat} {t:Ce} (h:ai w g t (List.toArray (a0::a1::a2::a3::a4::a5::a6::a7::a8::a9::l))):w.cell? ⟨g,9,none⟩=some a9:=h.c 9 rfl
theorem ai.fL {w:Cc} {g:Nat} {t:Ce} (h:ai w g t (List.toArray (a0::a1::a2::a3::a4::a5::a6::a7::a8::a9::bg::l))):w.cell? ⟨g,10,none⟩=some bg:=h.c 10 rfl
theorem ai.fD {w:Cc} {g:Nat} {t:Ce} (h:ai w g t (List.toArray (a0::a1::a2::a3::a4::a5::a6::a7::a8::a9::bg::bh::l))):w.cell? ⟨g,11,none⟩=some bh:=h.c 11 rfl
theorem ai.fM {w:Cc} {g:Nat} {t:Ce} (h:ai w g t (List.toArray (a0::a1::a2::a3::a4::a5::a6::a7::a8::a9::bg::bh::bi::l))):w.cell? ⟨g,12,none⟩=some bi:=h.c 12 rfl
theorem ai.fF {w:Cc} {g:Nat} {t:Ce} (h:ai w g t (List.toArray (a0::a1::a2::a3::a4::a5::a6::a7::a8::a9::bg::bh::bi::bl::l))):w.cell? ⟨g,13,none⟩=some bl:=h.c 13 rfl
theorem ai.fS {w:Cc} {g:Nat} {t:Ce} (h:ai w g t (List.toArray (a0::a1::a2::a3::a4::a5::a6::a7::a8::a9::bg::bh::bi::bl::eF::l))):w.cell? ⟨g,14,none⟩=some eF:=h.c 14 rfl
theorem ai.fK {w:Cc} {g:Nat} {t:Ce} (h:ai w g t (List.toArray (a0::a1::a2::a3::a4::a5::a6::a7::a8::a9::bg::bh::bi::bl::eF::ft::l))):w.cell? ⟨g,15,none⟩=some ft:=h.c 15 rfl
theorem ai.eZ {w:Cc} {g:Nat} {t:Ce} (h:ai w g t (List.toArray (a0::a1::a2::a3::a4::a5::a6::a7::a8::a9::bg::bh::bi::bl::eF::ft::iV::l))):w.cell? ⟨g,16,none⟩=some iV:=h.c 16 rfl
theorem ai.fE {w:Cc} {g:Nat} {t:Ce} (h:ai w g t (List.toArray (a0::a1::a2::a3::a4::a5::a6::a7::a8::a9::bg::bh::bi::bl::eF::ft::iV::ja::l))):w.cell? ⟨g,17,none⟩=some ja:=h.c 17 rfl
theorem ai.fO {w:Cc} {g:Nat} {t:Ce} (h:ai w g t (List.toArray (a0::a1::a2::a3::a4::a5::a6::a7::a8::a9::bg::bh::bi::bl::eF::ft::iV::ja::ko::l))):w.cell? ⟨g,18,none⟩=some ko:=h.c 18 rfl
theorem ai.fJ {w:Cc} {g:Nat} {t:Ce} (h:ai w g t (List.toArray (a0::a1::a2::a3::a4::a5::a6::a7::a8::a9::bg::bh::bi::bl::eF::ft::iV::ja::ko::kE::l))):w.cell? ⟨g,19,none⟩=some kE:=h.c 19 rfl
theorem ai.fH {w:Cc} {g:Nat} {t:Ce} {E:Cd} (h:ai w g t (List.toArray (a0::a1::a2::a3::a4::a5::a6::a7::a8::a9::bg::bh::bi::bl::eF::ft::iV::ja::ko::kE::E::l))):w.cell? ⟨g,20,none⟩=some E:=h.c 20 rfl
theorem ai.aN {E w w':World} {g:Nat} {t:TypeId} {cs:Array Value} (I:ai E g t cs) (st:zf w w') (h:ai w g t cs:=by (repeat' first | with_reducible assumption | (with_reducible refine ai.bO ?_; first | with_reducible rfl | (simp only[World.size_alloc,World.size_setCell,World.size_drew]; done)) | with_reducible refine ai.alloc ?_ _ | with_reducible refine ai.drew ?_ | with_reducible refine ai.drewN ?_ _ | with_reducible apply ai.both | with_reducible refine ai.aG ?_ ?_ | (show _≠_; omega))):ai w' g t cs:=h.ae st
theorem ai.r1 {w:Cc} {g:Nat} {t:Ce} (h:ai w g t (List.toArray (a0::a1::l))):w.cell? ⟨g,0,none⟩=some a0/\w.cell? ⟨g,1,none⟩=some a1:=⟨h.c 0 rfl,h.c 1 rfl⟩
theorem ai.s1 {w:Cc} {g:Nat} {t:Ce} (h:ai w g t (List.toArray (a0::a1::l))):w.cell? ⟨g,0,none⟩=some a0/\w.cell? ⟨g,1,none⟩=some a1/\(∀i,w.frozen? ⟨g,i,none⟩=false)/\g<w.heap.size:=⟨h.c 0 rfl,h.c 1 rfl,h.fr,h.lt⟩
theorem ai.r2 {w:Cc} {g:Nat} {t:Ce} (h:ai w g t (List.toArray (a0::a1::a2::l))):w.cell? ⟨g,0,none⟩=some a0/\w.cell? ⟨g,1,none⟩=some a1/\w.cell? ⟨g,2,none⟩=some a2:=⟨h.c 0 rfl,h.c 1 rfl,h.c 2 rfl⟩
theorem ai.s2 {w:Cc} {g:Nat} {t:Ce} (h:ai w g t (List.toArray (a0::a1::a2::l))):w.cell? ⟨g,0,none⟩=some a0/\w.cell? ⟨g,1,none⟩=some a1/\w.cell? ⟨g,2,none⟩=some a2/\(∀i,w.frozen? ⟨g,i,none⟩=false)/\g<w.heap.size:=⟨h.c 0 rfl,h.c 1 rfl,h.c 2 rfl,h.fr,h.lt⟩
theorem ai.r3 {w:Cc} {g:Nat} {t:Ce} (h:ai w g t (List.toArray (a0::a1::a2::a3::l))):w.cell? ⟨g,0,none⟩=some a0/\w.cell? ⟨g,1,none⟩=some a1/\w.cell? ⟨g,2,none⟩=some a2/\w.cell? ⟨g,3,none⟩=some a3:=⟨h.c 0 rfl,h.c 1 rfl,h.c 2 rfl,h.c 3 rfl⟩
theorem ai.s3 {w:Cc} {g:Nat} {t:Ce} (h:ai w g t (List.toArray (a0::a1::a2::a3::l))):w.cell? ⟨g,0,none⟩=some a0/\w.cell? ⟨g,1,none⟩=some a1/\w.cell? ⟨g,2,none⟩=some a2/\w.cell? ⟨g,3,none⟩=some a3/\(∀i,w.frozen? ⟨g,i,none⟩=false)/\g<w.heap.size:=⟨h.c 0 rfl,h.c 1 rfl,h.c 2 rfl,h.c 3 rfl,h.fr,h.lt⟩
theorem ai.r4 {w:Cc} {g:Nat} {t:Ce} (h:ai w g t (List.toArray (a0::a1::a2::a3::a4::l))):w.cell? ⟨g,0,none⟩=some a0/\w.cell? ⟨g,1,none⟩=some a1/\w.cell? ⟨g,2,none⟩=some a2/\w.cell? ⟨g,3,none⟩=some a3/\w.cell? ⟨g,4,none⟩=some a4:=⟨h.c 0 rfl,h.c 1 rfl,h.c 2 rfl,h.c 3 rfl,h.c 4 rfl⟩
theorem ai.s4 {w:Cc} {g:Nat} {t:Ce} (h:ai w g t (List.toArray (a0::a1::a2::a3::a4::l))):w.cell? ⟨g,0,none⟩=some a0/\w.cell? ⟨g,1,none⟩=some a1/\w.cell? ⟨g,2,none⟩=some a2/\w.cell? ⟨g,3,none⟩=some a3/\w.cell? ⟨g,4,none⟩=some a4/\(∀i,w.frozen? ⟨g,i,none⟩=false)/\g<w.heap.size:=⟨h.c 0 rfl,h.c 1 rfl,h.c 2 rfl,h.c 3 rfl,h.c 4 rfl,h.fr,h.lt⟩
theorem ai.r5 {w:Cc} {g:Nat} {t:Ce} (h:ai w g t (List.toArray (a0::a1::a2::a3::a4::a5::l))):w.cell? ⟨g,0,none⟩=some a0/\w.cell? ⟨g,1,none⟩=some a1/\w.cell? ⟨g,2,none⟩=some a2/\w.cell? ⟨g,3,none⟩=some a3/\w.cell? ⟨g,4,none⟩=some a4/\w.cell? ⟨g,5,none⟩=some a5:=⟨h.c 0 rfl,h.c 1 rfl,h.c 2 rfl,h.c 3 rfl,h.c 4 rfl,h.c 5 rfl⟩
theorem ai.s5 {w:Cc} {g:Nat} {t:Ce} (h:ai w g t (List.toArray (a0::a1::a2::a3::a4::a5::l))):w.cell? ⟨g,0,none⟩=some a0/\w.cell? ⟨g,1,none⟩=some a1/\w.cell? ⟨g,2,none⟩=some a2/\w.cell? ⟨g,3,none⟩=some a3/\w.cell? ⟨g,4,none⟩=some a4/\w.cell? ⟨g,5,none⟩=some a5/\(∀i,w.frozen? ⟨g,i,none⟩=false)/\g<w.heap.size:=⟨h.c 0 rfl,h.c 1 rfl,h.c 2 rfl,h.c 3 rfl,h.c 4 rfl,h.c 5 rfl,h.fr,h.lt⟩
theorem ai.r6 {w:Cc} {g:Nat} {t:Ce} (h:ai w g t (List.toArray (a0::a1::a2::a3::a4::a5::a6::l))):w.cell? ⟨g,0,none⟩=some a0/\w.cell? ⟨g,1,none⟩=some a1/\w.cell? ⟨g,2,none⟩=some a2/\w.cell? ⟨g,3,none⟩=some a3/\w.cell? ⟨g,4,none⟩=some a4/\w.cell? ⟨g,5,none⟩=some a5/\w.cell? ⟨g,6,none⟩=some a6:=⟨h.c 0 rfl,h.c 1 rfl,h.c 2 rfl,h.c 3 rfl,h.c 4 rfl,h.c 5 rfl,h.c 6 rfl⟩
theorem ai.r7 {w:Cc} {g:Nat} {t:Ce} (h:ai w g t (List.toArray (a0::a1::a2::a3::a4::a5::a6::a7::l))):w.cell? ⟨g,0,none⟩=some a0/\w.cell? ⟨g,1,none⟩=some a1/\w.cell? ⟨g,2,none⟩=some a2/\w.cell? ⟨g,3,none⟩=some a3/\w.cell? ⟨g,4,none⟩=some a4/\w.cell? ⟨g,5,none⟩=some a5/\w.cell? ⟨g,6,none⟩=some a6/\w.cell? ⟨g,7,none⟩=some a7:=⟨h.c 0 rfl,h.c 1 rfl,h.c 2 rfl,h.c 3 rfl,h.c 4 rfl,h.c 5 rfl,h.c 6 rfl,h.c 7 rfl⟩
theorem ai.r8 {w:Cc} {g:Nat} {t:Ce} (h:ai w g t (List.toArray (a0::a1::a2::a3::a4::a5::a6::a7::a8::l))):w.cell? ⟨g,0,none⟩=some a0/\w.cell? ⟨g,1,none⟩=some a1/\w.cell? ⟨g,2,none⟩=some a2/\w.cell? ⟨g,3,none⟩=some a3/\w.cell? ⟨g,4,none⟩=some a4/\w.cell? ⟨g,5,none⟩=some a5/\w.cell? ⟨g,6,none⟩=some a6/\w.cell? ⟨g,7,none⟩=some a7/\w.cell? ⟨g,8,none⟩=some a8:=⟨h.c 0 rfl,h.c 1 rfl,h.c 2 rfl,h.c 3 rfl,h.c 4 rfl,h.c 5 rfl,h.c 6 rfl,h.c 7 rfl,h.c 8 rfl⟩
theorem ai.eL {w:Cc} {g:Nat} {t:Ce} (h:ai w g t (List.toArray (a0::a1::a2::a3::a4::a5::a6::a7::a8::a9::bg::l))):w.cell? ⟨g,0,none⟩=some a0/\w.cell? ⟨g,1,none⟩=some a1/\w.cell? ⟨g,2,none⟩=some a2/\w.cell? ⟨g,3,none⟩=some a3/\w.cell? ⟨g,4,none⟩=some a4/\w.cell? ⟨g,5,none⟩=some a5/\w.cell? ⟨g,6,none⟩=some a6/\w.cell? ⟨g,7,none⟩=some a7/\w.cell? ⟨g,8,none⟩=some a8/\w.cell? ⟨g,9,none⟩=some a9/\w.cell? ⟨g,10,none⟩=some bg:=⟨h.c 0 rfl,h.c 1 rfl,h.c 2 rfl,h.c 3 rfl,h.c 4 rfl,h.c 5 rfl,h.c 6 rfl,h.c 7 rfl,h.c 8 rfl,h.c 9 rfl,h.c 10 rfl⟩
theorem ai.eO {w:Cc} {g:Nat} {t:Ce} (h:ai w g t (List.toArray (a0::a1::a2::a3::a4::a5::a6::a7::a8::a9::bg::bh::l))):w.cell? ⟨g,0,none⟩=some a0/\w.cell? ⟨g,1,none⟩=some a1/\w.cell? ⟨g,2,none⟩=some a2/\w.cell? ⟨g,3,none⟩=some a3/\w.cell? ⟨g,4,none⟩=some a4/\w.cell? ⟨g,5,none⟩=some a5/\w.cell? ⟨g,6,none⟩=some a6/\w.cell? ⟨g,7,none⟩=some a7/\w.cell? ⟨g,8,none⟩=some a8/\w.cell? ⟨g,9,none⟩=some a9/\w.cell? ⟨g,10,none⟩=some bg/\w.cell? ⟨g,11,none⟩=some bh:=⟨h.c 0 rfl,h.c 1 rfl,h.c 2 rfl,h.c 3 rfl,h.c 4 rfl,h.c 5 rfl,h.c 6 rfl,h.c 7 rfl,h.c 8 rfl,h.c 9 rfl,h.c 10 rfl,h.c 11 rfl⟩
theorem ai.eH {w:Cc} {g:Nat} {t:Ce} (h:ai w g t (List.toArray (a0::a1::a2::a3::a4::a5::a6::a7::a8::a9::bg::bh::bi::l))):w.cell? ⟨g,0,none⟩=some a0/\w.cell? ⟨g,1,none⟩=some a1/\w.cell? ⟨g,2,none⟩=some a2/\w.cell? ⟨g,3,none⟩=some a3/\w.cell? ⟨g,4,none⟩=some a4/\w.cell? ⟨g,5,none⟩=some a5/\w.cell? ⟨g,6,none⟩=some a6/\w.cell? ⟨g,7,none⟩=some a7/\w.cell? ⟨g,8,none⟩=some a8/\w.cell? ⟨g,9,none⟩=some a9/\w.cell? ⟨g,10,none⟩=some bg/\w.cell? ⟨g,11,none⟩=some bh/\w.cell? ⟨g,12,none⟩=some bi:=⟨h.c 0 rfl,h.c 1 rfl,h.c 2 rfl,h.c 3 rfl,h.c 4 rfl,h.c 5 rfl,h.c 6 rfl,h.c 7 rfl,h.c 8 rfl,h.c 9 rfl,h.c 10 rfl,h.c 11 rfl,h.c 12 rfl⟩
theorem ai.dz {w:Cc} {g:Nat} {t:Ce} (h:ai w g t (List.toArray (a0::a1::a2::a3::a4::a5::a6::a7::a8::a9::bg::bh::bi::bl::l))):w.cell? ⟨g,0,none⟩=some a0/\w.cell? ⟨g,1,none⟩=some a1/\w.cell? ⟨g,2,none⟩=some a2/\w.cell? ⟨g,3,none⟩=some a3/\w.cell? ⟨g,4,none⟩=some a4/\w.cell? ⟨g,5,none⟩=some a5/\w.cell? ⟨g,6,none⟩=some a6/\w.cell? ⟨g,7,none⟩=some a7/\w.cell? ⟨g,8,none⟩=some a8/\w.cell? ⟨g,9,none⟩=some a9/\w.cell? ⟨g,10,none⟩=some bg/\w.cell? ⟨g,11,none⟩=some bh/\w.cell? ⟨g,12,none⟩=some bi/\w.cell? ⟨g,13,none⟩=some bl:=⟨h.c 0 rfl,h.c 1 rfl,h.c 2 rfl,h.c 3 rfl,h.c 4 rfl,h.c 5 rfl,h.c 6 rfl,h.c 7 rfl,h.c 8 rfl,h.c 9 rfl,h.c 10 rfl,h.c 11 rfl,h.c 12 rfl,h.c 13 rfl⟩
theorem ai.dL {w:Cc} {g:Nat} {t:Ce} (h:ai w g t (List.toArray (a0::a1::a2::a3::a4::a5::a6::a7::a8::a9::bg::bh::bi::bl::eF::ft::l))):w.cell? ⟨g,0,none⟩=some a0/\w.cell? ⟨g,1,none⟩=some a1/\w.cell? ⟨g,2,none⟩=some a2/\w.cell? ⟨g,3,none⟩=some a3/\w.cell? ⟨g,4,none⟩=some a4/\w.cell? ⟨g,5,none⟩=some a5/\w.cell? ⟨g,6,none⟩=some a6/\w.cell? ⟨g,7,none⟩=some a7/\w.cell? ⟨g,8,none⟩=some a8/\w.cell? ⟨g,9,none⟩=some a9/\w.cell? ⟨g,10,none⟩=some bg/\w.cell? ⟨g,11,none⟩=some bh/\w.cell? ⟨g,12,none⟩=some bi/\w.cell? ⟨g,13,none⟩=some bl/\w.cell? ⟨g,14,none⟩=some eF/\w.cell? ⟨g,15,none⟩=some ft:=⟨h.c 0 rfl,h.c 1 rfl,h.c 2 rfl,h.c 3 rfl,h.c 4 rfl,h.c 5 rfl,h.c 6 rfl,h.c 7 rfl,h.c 8 rfl,h.c 9 rfl,h.c 10 rfl,h.c 11 rfl,h.c 12 rfl,h.c 13 rfl,h.c 14 rfl,h.c 15 rfl⟩
theorem ai.eS {w:Cc} {g:Nat} {t:Ce} (h:ai w g t (List.toArray (a0::a1::a2::a3::a4::a5::a6::a7::a8::a9::bg::bh::bi::bl::eF::ft::iV::ja::ko::kE::l))):w.cell? ⟨g,0,none⟩=some a0/\w.cell? ⟨g,1,none⟩=some a1/\w.cell? ⟨g,2,none⟩=some a2/\w.cell? ⟨g,3,none⟩=some a3/\w.cell? ⟨g,4,none⟩=some a4/\w.cell? ⟨g,5,none⟩=some a5/\w.cell? ⟨g,6,none⟩=some a6/\w.cell? ⟨g,7,none⟩=some a7/\w.cell? ⟨g,8,none⟩=some a8/\w.cell? ⟨g,9,none⟩=some a9/\w.cell? ⟨g,10,none⟩=some bg/\w.cell? ⟨g,11,none⟩=some bh/\w.cell? ⟨g,12,none⟩=some bi/\w.cell? ⟨g,13,none⟩=some bl/\w.cell? ⟨g,14,none⟩=some eF/\w.cell? ⟨g,15,none⟩=some ft/\w.cell? ⟨g,16,none⟩=some iV/\w.cell? ⟨g,17,none⟩=some ja/\w.cell? ⟨g,18,none⟩=some ko/\w.cell? ⟨g,19,none⟩=some kE/\(∀i,w.frozen? ⟨g,i,none⟩=false)/\g<w.heap.size:=⟨h.c 0 rfl,h.c 1 rfl,h.c 2 rfl,h.c 3 rfl,h.c 4 rfl,h.c 5 rfl,h.c 6 rfl,h.c 7 rfl,h.c 8 rfl,h.c 9 rfl,h.c 10 rfl,h.c 11 rfl,h.c 12 rfl,h.c 13 rfl,h.c 14 rfl,h.c 15 rfl,h.c 16 rfl,h.c 17 rfl,h.c 18 rfl,h.c 19 rfl,h.fr,h.lt⟩
theorem bA (w:World) {W W':World} (st:zf W W') (h:Below w.heap.size w W:=by (repeat' first | with_reducible assumption | with_reducible exact Below.refl _ _ | with_reducible refine Below.alloc ?_ ?_ _ | with_reducible refine Below.drew ?_ | with_reducible refine yD ?_ _ | with_reducible refine Below.setCell ?_ ?_ _ | go_size)):Below w.heap.size w W':=zp h (Nat.le_refl _) st
theorem bS {a E:Cc} (h:Below a.heap.size a W) (I:zf W E):Below a.heap.size a E:=zp h (Cl _) I
end Go.Proofs.YtffmbepfbienaaaGreat
/- Limbs of 32 bits: lists of whole numbers, their values, and what is canonical. -/
namespace Go.Proofs.YtffmbepfbienaaaGreat
variable {n:Int} {l m:List Int}
def zj:List Int->Int
 | []=>0
 | x::l=>x+4294967296*zj l
def yn (l:List Int):Prop:=∀x∈l,0<=x/\x<4294967296
def Yc:Nat->Int->List Int
 | 0,_=> []
 | k+1,n=>n%4294967296::Yc k (n / 4294967296)
def bp (k:Nat):Int:=((4294967296^k:Nat):Int)
theorem jN:bp 0=1:=rfl
theorem xd (k:Nat):bp (k+1)=4294967296*bp k:=by unfold bp; rw[Nat.pow_succ]; omega
theorem xu (k:Nat):1<=bp k:=by have:=Nat.one_le_pow k 4294967296 B_; unfold bp; omega
theorem X8 (i j:Nat):bp (i+j)=bp i*bp j:=by unfold bp; rw[Nat.pow_add]; simp
theorem jO {i j:Nat} (h:i<=j):bp i<=bp j:=by
 unfold bp; have:=Nat.pow_le_pow_right (show 0<4294967296 by omega) h; omega
theorem z4:yn []:=fun _ h=>by cases h
theorem zU {x:Int} : yn (x::l)↔(0<=x/\x<4294967296)/\yn l:=by simp[yn]
theorem xv : yn (l++m)↔yn l/\yn m:=by
 unfold yn; constructor
 . intro h; exact⟨fun x E=>h x (List.mem_append_left _ E),fun x E=>h x (List.mem_append_right _ E)⟩
 .
  rintro ⟨M,I⟩ x E
  rcases List.mem_append.1 E with h | h
  . exact M x h
  . exact I x h
theorem zY (h:yn l) (k:Nat):yn (l.take k):=fun x E=>h x (List.mem_of_mem_take E)
theorem xD (h:yn l) (k:Nat):yn (l.drop k):=fun x E=>h x (List.mem_of_mem_drop E)
theorem zD (h:yn l):0<=zj l:=by
 induction l with
 | nil=>exact Int.le_refl _
 | cons x l ih=>obtain⟨I,E⟩:=zU.1 h; have:=ih E; simp only[zj]; omega
theorem yF (h:yn l):zj l<bp l.length:=by
 induction l with
 | nil=>exact(by decide:(0:Int)<1)
 | cons x l ih=>obtain⟨I,E⟩:=zU.1 h; have:=ih E; simp only[zj,List.length_cons,xd]; omega
theorem xw (l m:List Int):zj (l++m)=zj l+bp l.length*zj m:=by
 induction l with
 | nil=>simp[zj,jN]
 | cons x l ih=>
  simp only[List.cons_append,zj,List.length_cons,xd,ih];rw[Int.mul_add,Int.mul_assoc]; omega
theorem yE (l:List Int) (x:Int):zj (l ++ [x])=zj l+bp l.length*x:=by
 rw[xw]; simp[zj]
theorem X9 (k:Nat):zj (List.replicate k 0)=0:=by
 induction k with
 | zero=>rfl
 | succ k ih=>simp[List.replicate_succ,zj,ih]
theorem Zi (k:Nat) (n:Int):(Yc k n).length=k:=by
 induction k generalizing n with
 | zero=>rfl
 | succ k ih=>simp[Yc,ih]
theorem YG (k:Nat) (n:Int):yn (Yc k n):=by
 induction k generalizing n with
 | zero=>exact z4
 | succ k ih=>rw[Yc,zU]; exact⟨by omega,ih _⟩
theorem Zj {k:Nat} (h0:0<=n) (E:n<bp k):zj (Yc k n)=n:=by
 induction k generalizing n with
 | zero=>rw[jN]at E; simp only[Yc,zj]; omega
 | succ k ih=>
  rw[xd]at E;simp only[Yc,zj];rw[ih B_ B_]; omega
def zJ:List Int->List Int
 | []=> []
 | x::l=>match zJ l with
  | []=>if x=0 then []else [x]
  | y::t=>x::y::t
theorem z9 (x:Int) (l:List Int):zJ (x::l)=if zJ l = []then(if x=0 then []else [x])else x::zJ l:=by
 rw[zJ]; cases zJ l<;>simp
theorem jZ (l:List Int):zj (zJ l)=zj l:=by
 induction l with
 | nil=>rfl
 | cons x l ih=>
  rw[z9]
  split
  . rename_i h; rw[h]at ih; simp only[zj]at ih|-; split<;>simp[zj]<;>omega
  . simp only[zj,ih]
theorem kj (h:yn l):yn (zJ l):=by
 induction l with
 | nil=>exact h
 | cons x l ih=>
  obtain⟨E,I⟩:=zU.1 h;rw[z9]
  split
  .
   split
   . exact z4
   . exact zU.2 ⟨E,z4⟩
  . exact zU.2 ⟨E,ih I⟩
theorem kl (l:List Int):(zJ l).length<=l.length:=by
 induction l with
 | nil=>exact Cl _
 | cons x l ih=>rw[z9]; split<;>(try split)<;>simp<;>omega
theorem vj (l:List Int):zJ (zJ l)=zJ l:=by
 induction l with
 | nil=>rfl
 | cons x l ih=>
  rw[z9]
  split
  .
   rename_i h
   split
   . rfl
   . rename_i hx; rw[z9]; simp[zJ,hx]
  . rename_i h; rw[z9,ih,C8 h]
theorem X_ (hc:zJ l=l) (h:l≠ []):l.getLast h≠0:=by
 induction l with
 | nil=>exact absurd rfl h
 | cons x l ih=>
  rw[z9]at hc
  split at hc
  .
   rename_i hl
   split at hc
   . cases hc
   .
    rename_i hx
    injection hc with _ hc
    subst hc;simpa using hx
  .
   rename_i hl
   injection hc with _ hc
   have E:l≠ []:=fun e=>hl (hc.trans e);rw[List.getLast_cons E];exact ih hc E
theorem jW (h:l≠ []) (E:l.getLast h≠0):zJ l=l:=by
 induction l with
 | nil=>exact absurd rfl h
 | cons x l ih=>
  rw[z9]
  by_cases hne:l = []
  . subst hne; rw[List.getLast_singleton]at E; simp[zJ,E]
  .
   rw[List.getLast_cons hne]at E;have:=ih hne E;rw[this,C8 hne]
theorem vO (l:List Int):zJ (l ++ [0])=zJ l:=by
 induction l with
 | nil=>simp[zJ]
 | cons x l ih=>rw[List.cons_append,z9,z9,ih]
theorem JC (h1:yn l) (h2:yn m) (E:zJ l=l) (I:zJ m=m) (hv:zj l=zj m):l=m:=by
 induction l generalizing m with
 | nil=>
  cases m with
  | nil=>rfl
  | cons y m=>
   exfalso
   obtain⟨g1,M⟩:=zU.1 h2;have gm:=zD M;simp only[zj]at hv;have hy:y=0:=B_
   have hm:zj m=0:=B_
   have key:∀k:List Int,yn k->zj k=0->zJ k = []:=by
    intro k
    induction k with
    | nil=>intro _ _; rfl
    | cons z k ih=>
     intro hk Z;obtain⟨q1,q2⟩:=zU.1 hk;have:=zD q2;simp only[zj]at Z;rw[z9,ih q2 B_,C7 rfl,C7 B_]
   rw[z9,key m M hm,C7 rfl,C7 hy]at I
   cases I
 | cons x l ih=>
  obtain⟨f1,Y⟩:=zU.1 h1;have gl:=zD Y
  cases m with
  | nil=>
   exfalso
   simp only[zj]at hv;have hx:x=0:=B_
   have hl:zj l=0:=B_
   have key:∀k:List Int,yn k->zj k=0->zJ k = []:=by
    intro k
    induction k with
    | nil=>intro _ _; rfl
    | cons z k ih=>
     intro hk Z;obtain⟨q1,q2⟩:=zU.1 hk;have:=zD q2;simp only[zj]at Z;rw[z9,ih q2 B_,C7 rfl,C7 B_]
   rw[z9,key l Y hl,C7 rfl,C7 hx]at E
   cases E
  | cons y m=>
   obtain⟨g1,M⟩:=zU.1 h2;simp only[zj]at hv;have X:x=y:=B_
   have T:zj l=zj m:=B_
   have cl:zJ l=l:=by
    rw[z9]at E
    split at E
    .
     rename_i h
     split at E
     . cases E
     . injection E with _ E; subst E; rfl
    . injection E
   have cm:zJ m=m:=by
    rw[z9]at I
    split at I
    .
     rename_i h
     split at I
     . cases I
     . injection I with _ I; subst I; rfl
    . injection I
   rw[X,ih Y M cl cm T]
def zn (n:Int):List Int:=zJ (Yc n.toNat n)
theorem Gb (n:Nat):(n:Int)<bp n:=by
 unfold bp;have:=Nat.lt_pow_self (show 1<4294967296 by omega) (n:=n);omega
theorem yX (n:Int):yn (zn n):=kj (YG _ _)
theorem zA (h:0<=n):zj (zn n)=n:=by
 unfold zn;rw[jZ];obtain⟨m,rfl⟩:=Int.eq_ofNat_of_zero_le h;exact Zj h (Gb m)
theorem xx (n:Int):zJ (zn n)=zn n:=vj _
theorem ye (h:yn l):zn (zj l)=zJ l:=
 JC (yX _) (kj h) (xx _) (vj _) (by rw[zA (zD h),jZ])
theorem zT (h:0<=n):zn n = []↔n=0:=by
 constructor
 . intro e; have:=zA h; rw[e]at this; exact this.symm
 . rintro rfl; rfl
theorem yV (h:0<=n) (k:Nat):(zn n).length<=k↔n<bp k:=by
 constructor
 .
  intro e;have E:=yF (yX n);rw[zA h]at E;have:=jO e;omega
 .
  intro e;have E:zn n=zJ (Yc k n):=by rw[<- ye (YG k n),Zj h e]
  rw[E];have:=kl (Yc k n);rw[Zi]at this;exact this
theorem JD (T:yn l) (E:yn m) (M:zJ m=m) (h:l.length<m.length):zj l<zj m:=by
 have a:=yF T;have I:zn (zj m)=m:=(ye E).trans M;have b:=yV (zD E) l.length;rw[I]at b
 rcases Int.lt_or_le (zj m) (bp l.length)with c | c
 . have:=b.2 c; omega
 . omega
end Go.Proofs.YtffmbepfbienaaaGreat
/- Limbs: what one round of each loop on zn does to the values. -/
namespace Go.Proofs.YtffmbepfbienaaaGreat
variable {c q r s t x:Int} {A B l xs:List Int} {k:Nat}
theorem yc (l:List Int) (k:Nat):zj (l.take (k+1))=zj (l.take k)+bp k*l.getD k 0:=by
 rcases Cm k l.length with h | h
 .
  rw[List.take_succ_eq_append_getElem h,yE,List.length_take,Nat.min_eq_left B_];simp[List.getD,h]
 .
  rw[List.take_of_length_le B_,List.take_of_length_le h];simp[List.getD,h]
theorem yq (l:List Int) (k:Nat):zj (l.drop k)=l.getD k 0+4294967296*zj (l.drop (k+1)):=by
 rcases Cm k l.length with h | h
 .
  rw[List.drop_eq_getElem_cons h];simp[zj,List.getD,h]
 .
  rw[List.drop_of_length_le h,List.drop_of_length_le B_];simp[zj,List.getD,h]
theorem yr (l:List Int) (k:Nat) (h:k<=l.length):zj l=zj (l.take k)+bp k*zj (l.drop k):=by
 have:=xw (l.take k) (l.drop k);rw[List.take_append_drop,List.length_take,Nat.min_eq_left h]at this;exact this
theorem zF (h:yn l) (k:Nat):0<=l.getD k 0/\l.getD k 0<4294967296:=by
 rcases Cm k l.length with g | g
 .
  simp only[List.getD,List.getElem?_eq_getElem g,Option.getD_some];exact h _ (List.getElem_mem g)
 . simp[List.getD,g]
theorem zO (h:yn l) (h0:0<=x) (E:x<4294967296):yn (l ++ [x]):=
 xv.2 ⟨h,zU.2 ⟨⟨h0,E⟩,z4⟩⟩
theorem V8 (h:yn l) (i:Nat) (h0:0<=x) (I:x<4294967296):yn (l.set i x):=by
 intro y E
 rcases List.mem_or_eq_of_mem_set E with g | g
 . exact h y g
 . subst g; exact⟨h0,I⟩
theorem km (k:Nat) (s:Int):bp k*(s%4294967296)+bp (k+1)*(s / 4294967296)=bp k*s:=by
 rw[xd,Int.mul_comm 4294967296 (bp k),Int.mul_assoc,<- Int.mul_add]
 congr 1
 omega
theorem xL (E:xs.length=k) (h:zj xs+bp k*c=zj (A.take k)+zj (B.take k)) (I:s=A.getD k 0+B.getD k 0+c) :
  zj (xs ++ [s%4294967296])+bp (k+1)*(s / 4294967296)=zj (A.take (k+1))+zj (B.take (k+1)):=by
 rw[yE,E,yc,yc];have:=km k s;rw[I]at this|-;rw[Int.mul_add,Int.mul_add]at this;omega
theorem qq {c':Int} (E:xs.length=k) (h:zj xs=zj (A.take k)-zj (B.take k)+bp k*c) (ht:t=A.getD k 0-B.getD k 0-c) (I:x=t+4294967296*c') :
  zj (xs ++ [x])=zj (A.take (k+1))-zj (B.take (k+1))+bp (k+1)*c':=by
 rw[yE,E,yc,yc,xd,I,ht];rw[Int.mul_add,Int.mul_sub,Int.mul_sub,<- Int.mul_assoc,Int.mul_comm (bp k) 4294967296];omega
theorem qS {U V:List Int} {b b':Int} (T:xs.length=k) (h:zj xs=zj (U.take k)-q*zj (V.take k)+bp k*(c+b))
  (X:s=c+q*V.getD k 0) (ht:t=U.getD k 0-s%4294967296-b) (M:x=t+4294967296*b') :
  zj (xs ++ [x])=zj (U.take (k+1))-q*zj (V.take (k+1))+bp (k+1)*(s / 4294967296+b'):=by
 rw[yE,T,yc,yc,h,M,ht];have e:=km k s;have Y:bp k*s=bp k*c+bp k*(q*V.getD k 0):=by rw[X,Int.mul_add]
 have I:q*(zj (V.take k)+bp k*V.getD k 0)=q*zj (V.take k)+bp k*(q*V.getD k 0):=by
  rw[Int.mul_add,<- Int.mul_assoc,Int.mul_comm q (bp k),Int.mul_assoc]
 have E:bp k*(4294967296*b')=bp (k+1)*b':=by rw[xd,<- Int.mul_assoc,Int.mul_comm (bp k) 4294967296]
 rw[I,Int.mul_add (bp (k+1)),Int.mul_add (bp k) c b,Int.mul_add,Int.mul_sub,Int.mul_sub,E];omega
theorem Zk {A d:Int} (h:A=d*q+r):x+4294967296*A=d*((r*4294967296+x) / d+4294967296*q)+(r*4294967296+x)%d:=by
 have:=Int.mul_ediv_add_emod (r*4294967296+x) d;rw[Int.mul_add,<- Int.mul_assoc d 4294967296 q,Int.mul_comm d 4294967296,Int.mul_assoc,h];omega
theorem Kk {O:List Int} (I:xs.length=k) (h:zj xs+bp k*c=zj (O.take k)+x*zj (B.take k)) (E:s=c+(x*B.getD k 0+O.getD k 0)) :
  zj (xs ++ [s%4294967296])+bp (k+1)*(s / 4294967296)=zj (O.take (k+1))+x*zj (B.take (k+1)):=by
 rw[yE,I,yc,yc];have e:=km k s;have T:bp k*s=bp k*c+(bp k*(x*B.getD k 0)+bp k*O.getD k 0):=by rw[E,Int.mul_add,Int.mul_add]
 have M:x*(zj (B.take k)+bp k*B.getD k 0)=x*zj (B.take k)+bp k*(x*B.getD k 0):=by
  rw[Int.mul_add,<- Int.mul_assoc,Int.mul_comm x (bp k),Int.mul_assoc]
 rw[M];omega
theorem Yd {n:Nat} {U V u v:Int} (M:U<(u+1)*bp n) (E:v*bp n<=V) (h0:0<=q) (h:q*V<=U):q*v<=u:=by
 have T:q*(v*bp n)<=q*V:=Int.mul_le_mul_of_nonneg_left E h0;have I:(q*v)*bp n<(u+1)*bp n:=by rw[Int.mul_assoc]; omega
 have:=Int.lt_of_mul_lt_mul_right I (by have:=xu n; omega);omega
theorem jc {A D:Int} (h:A=D*q+r) (h0:0<=r) (E:r<D):A / D=q/\A%D=r:=by
 subst h
 constructor
 . rw[Int.add_comm,Int.add_mul_ediv_left _ _ B_,Int.ediv_eq_zero_of_lt h0 E]; omega
 . rw[Int.add_comm,Int.add_mul_emod_self_left,Int.emod_eq_of_lt h0 E]
theorem YH (E:yn A) (T:yn B) {i:Nat} (X:i<A.length) (Y:i<B.length) (hd:zj (A.drop (i+1))=zj (B.drop (i+1))) (h:A.getD i 0<B.getD i 0):zj A<zj B:=by
 rw[yr A i B_,yr B i B_,yq A i,yq B i,hd];have M:=yF (zY E i);rw[List.length_take,Nat.min_eq_left B_]at M;have Z:=zD (zY T i)
 have I:bp i*(A.getD i 0+4294967296*zj (B.drop (i+1))+1)<=bp i*(B.getD i 0+4294967296*zj (B.drop (i+1))):=
  Int.mul_le_mul_of_nonneg_left B_ (by have:=xu i; omega)
 rw[Int.mul_add (bp i) (A.getD i 0+_) 1]at I;omega
theorem z6 {y:Int} (E:0<=x) (I:0<=y) (h:(zn x).length<(zn y).length):x<y:=by
 have:=JD (yX x) (yX y) (xx y) h
 rwa[zA E,zA I]at this
end Go.Proofs.YtffmbepfbienaaaGreat
/- Knuth's division: one digit. -/
namespace Go.Proofs.YtffmbepfbienaaaGreat
variable {Q q r t v1:Int} {m:Nat}
theorem kr {l:List Int} (h:l.length=m+1):zj (l.drop m)=l.getD m 0:=by
 rw[yq,List.drop_of_length_le B_]; simp[zj]
theorem Zl {U V:List Int} (M:yn U) (X:yn V) (hU:U.length=m+3) (hV:V.length=m+2) (it:1<=V.getD (m+1) 0) (me:zj U<zj V*4294967296) :
  0<=zj U / zj V/\zj U / zj V<4294967296/\zj U / zj V*V.getD (m+1) 0<=U.getD (m+2) 0*4294967296+U.getD (m+1) 0/\
  zj U / zj V*(V.getD (m+1) 0*4294967296+V.getD m 0)<=(U.getD (m+2) 0*4294967296+U.getD (m+1) 0)*4294967296+U.getD m 0/\
  zj U / zj V*zj V<=zj U/\zj U-zj U / zj V*zj V<zj V/\0<zj V:=by
 have mg:=kr (l:=U) (m:=m+2) hU;have I:=yq U (m+1);have Y:=yq U m;have E:=kr (l:=V) (m:=m+1) hV;have Z:=yq V m;rw[mg]at I;rw[I]at Y;rw[E]at Z;have mj:=yr U (m+1) B_;have ks:=yr U m B_;have dP:=yr V (m+1) B_;have mb:=yr V m B_;have mh:=yF (zY M (m+1));have mf:=yF (zY M m);have mn:=zD (zY X (m+1));have ml:=zD (zY X m);rw[List.length_take,Nat.min_eq_left B_]at mh mf
 have T:0<zj V:=by
  have h1:bp (m+1)*1<=bp (m+1)*V.getD (m+1) 0:=Int.mul_le_mul_of_nonneg_left it (by have:=xu (m+1); omega);have:=xu (m+1);rw[E]at dP;omega
 have ma:=zD M;have q0:0<=zj U / zj V:=Int.ediv_nonneg ma B_;have q1:zj U / zj V<4294967296:=Int.ediv_lt_of_lt_mul T (by rw[Int.mul_comm]; exact me);have e:=Int.mul_ediv_add_emod (zj U) (zj V);have m0:=Int.emod_nonneg (zj U) (show zj V≠0 by omega);have m1:=Int.emod_lt_of_pos (zj U) T;rw[Int.mul_comm]at e;have le:zj U / zj V*zj V<=zj U:=B_
 refine⟨q0,q1,?_,?_,le,by omega,T⟩
 .
  refine Yd (n:=m+1) ?_ ?_ q0 le
  .
   rw[Int.add_mul,Int.one_mul,Int.mul_comm];rw[I]at mj;rw[show U.getD (m+2) 0*4294967296+U.getD (m+1) 0=U.getD (m+1) 0+4294967296*U.getD (m+2) 0 by omega];omega
  .
   rw[Int.mul_comm];rw[E]at dP;omega
 .
  refine Yd (n:=m) ?_ ?_ q0 le
  .
   rw[Int.add_mul,Int.one_mul,Int.mul_comm];rw[Y]at ks;rw[show (U.getD (m+2) 0*4294967296+U.getD (m+1) 0)*4294967296+U.getD m 0=U.getD m 0+4294967296*(U.getD (m+1) 0+4294967296*U.getD (m+2) 0) by omega];omega
  .
   rw[Int.mul_comm];rw[Z]at mb;rw[show V.getD (m+1) 0*4294967296+V.getD m 0=V.getD m 0+4294967296*V.getD (m+1) 0 by omega];omega
theorem X' {E u:Int} (h:q*v1+r=t) (M:Q*(v1*4294967296+E)<=t*4294967296+u) (hv:0<=v1*4294967296+E) (T:r*4294967296+u<q*E):Q<q:=by
 rcases Int.lt_or_le Q q with g | g
 . exact g
 .
  have I:=Int.mul_le_mul_of_nonneg_right g hv;rw[Int.mul_add,Int.mul_add]at I;have X:q*(v1*4294967296)=q*v1*4294967296:=by rw[Int.mul_assoc]
  rw[Int.mul_add]at M;omega
theorem Xf (h:q*v1+r=t) (M:r<v1) (I:Q*v1<=t) (hv:0<v1):Q<=q:=by
 rcases Int.lt_or_le q Q with g | g
 .
  have E:=Int.mul_le_mul_of_nonneg_right (show q+1<=Q by omega) (show 0<=v1 by omega);rw[Int.add_mul]at E;omega
 . exact g
end Go.Proofs.YtffmbepfbienaaaGreat
/- A division of zn: what is ahead of the digits, one digit, and what is behind them. -/
namespace Go.Proofs.YtffmbepfbienaaaGreat
variable {A P Q V:Int} {U:List Int} {j m:Nat}
theorem Zm {l:List Int} {n:Nat} (E:yn l) (I:n<=l.length) (h:zj l<bp n):zj (l.take n)=zj l/\zj (l.drop n)=0:=by
 have s:=yr l n I;have a:=zD (zY E n);have b:=zD (xD E n);have p:=xu n
 have z:zj (l.drop n)=0:=by
  rcases Int.lt_or_le 0 (zj (l.drop n))with g | g
  .
   have:=Int.mul_le_mul_of_nonneg_left (show 1<=zj (l.drop n) by omega) (show 0<=bp n by omega);omega
  . omega
 rw[z,Int.mul_zero]at s;exact⟨by omega,z⟩
theorem Xg {E L:List Int} (oD:yn E) (lD:E.length=m+2) (oL:yn L) (lL:L.length=m+3) (X:zj L=zj E*P) (P0:1<=P) (I:P*Q=4294967296)
  (h0:2147483648<=E.getD (m+1) 0*P) (Y:E.getD (m+1) 0*P<4294967296) :
  zj (L.take (m+2))=zj E*P/\2147483648<=(L.take (m+2)).getD (m+1) 0/\2147483648*bp (m+1)<=zj E*P:=by
 have d0:=yr E (m+1) B_;rw[kr lD]at d0;have d1:=yF (zY oD (m+1));have d2:=zD (zY oD (m+1));rw[List.length_take,Nat.min_eq_left B_]at d1;obtain⟨t,ht⟩:∃t,E.getD (m+1) 0=t:=⟨_,rfl⟩;rw[ht]at d0 h0 Y;have p:=xu (m+1)
 have tQ:t+1<=Q:=by
  have:t*P<Q*P:=by rw[Int.mul_comm Q P,I]; exact Y
  have:=Int.lt_of_mul_lt_mul_right this B_;omega
 have tP:(t+1)*P<=4294967296:=by
  have:=Int.mul_le_mul_of_nonneg_right tQ (show 0<=P by omega);rw[Int.mul_comm Q P,I]at this;exact this
 have up:zj E*P<bp (m+2):=by
  have e1:zj E*P<=(bp (m+1)*(t+1)-1)*P:=by
   refine Int.mul_le_mul_of_nonneg_right ?_ B_;rw[Int.mul_add,Int.mul_one];omega
  have M:bp (m+1)*((t+1)*P)<=bp (m+1)*4294967296:=Int.mul_le_mul_of_nonneg_left tP B_;rw[Int.sub_mul,Int.mul_assoc,Int.one_mul]at e1;rw[xd (m+1)];omega
 have lo:2147483648*bp (m+1)<=zj E*P:=by
  have e1:bp (m+1)*t*P<=zj E*P:=Int.mul_le_mul_of_nonneg_right B_ B_;have M:bp (m+1)*2147483648<=bp (m+1)*(t*P):=Int.mul_le_mul_of_nonneg_left h0 B_;rw[<- Int.mul_assoc]at M;omega
 have T:=(Zm oL (n:=m+2) B_ (by rw[X]; exact up)).1;rw[X]at T;refine⟨T,?_,lo⟩;have Z:(L.take (m+2)).length=m+2:=by rw[List.length_take]; omega
 have g0:=yr (L.take (m+2)) (m+1) B_;rw[kr Z]at g0;have g1:=yF (zY (zY oL (m+2)) (m+1));rw[List.length_take,Z,Nat.min_eq_left B_]at g1
 rcases Int.lt_or_le ((L.take (m+2)).getD (m+1) 0) 2147483648 with g | g
 .
  exfalso
  have:=Int.mul_le_mul_of_nonneg_left (show (L.take (m+2)).getD (m+1) 0<=2147483647 by omega) (show 0<=bp (m+1) by omega);omega
 . exact g
theorem Zn {K la:Nat} (E:yn U) (lU:U.length=K+(m+2)) (Y:la+1=K+(m+2)) (Z:zj U=A*P) (hA:A<bp la) (I:0<=A) (P0:1<=P) (X:P<=2147483648) (M:2147483648*bp (m+1)<=V) :
  zj (U.drop K)<V:=by
 have s:=yr U K B_;have a:=zD (zY E K);have e1:A*P<=A*2147483648:=Int.mul_le_mul_of_nonneg_left X I;have e2:bp la=bp K*bp (m+1):=by rw[<- X8]; congr 1; omega
 have p:=xu K;have e3:bp K*(2147483648*bp (m+1))<=bp K*V:=Int.mul_le_mul_of_nonneg_left M B_;have e4:bp K*(2147483648*bp (m+1))=bp K*bp (m+1)*2147483648:=by rw[Int.mul_comm 2147483648,Int.mul_assoc]
 have T:bp K*zj (U.drop K)<bp K*V:=B_
 exact Int.lt_of_mul_lt_mul_left T B_
theorem Ye (E:yn U) (X:j+(m+3)<=U.length) (Y:V<bp (m+2)) (hd:zj (U.drop (j+1))<V) :
  zj ((U.drop j).take (m+3))<V*4294967296/\zj ((U.drop j).take (m+3))=zj (U.drop j)/\zj (U.drop (j+(m+3)))=0:=by
 have Z:=yq U j;have u0:=zF E j;have I:zj (U.drop j)<V*4294967296:=B_
 have M:zj (U.drop j)<bp (m+3):=by rw[xd (m+2)]; omega
 have T:=Zm (xD E j) (n:=m+3) (by rw[List.length_drop]; omega) M;rw[List.drop_drop]at T;exact⟨by rw[T.1]; exact I,T.1,T.2⟩
theorem Yf {S qs:List Int} {q:Int} (lS:S.length=m+3) (Y:j+(m+3)<=U.length) (I:zj (U.drop (j+(m+3)))=0) (X:zj U+V*(bp (j+1)*zj qs)=A)
  (T:zj S=zj (U.drop j)-q*V) (E:zj S<V) :
  zj (U.take j++(S++U.drop (j+(m+3))))+V*(bp j*zj (q::qs))=A/\zj ((U.take j++(S++U.drop (j+(m+3)))).drop j)<V:=by
 have M:(U.take j).length=j:=by rw[List.length_take]; omega
 have s:=yr U j B_
 constructor
 .
  rw[xw,xw,I,M,T,Int.mul_zero,Int.add_zero];simp only[zj];rw[Int.mul_sub,Int.mul_add,Int.mul_add];have e1:bp j*(q*V)=V*(bp j*q):=by rw[Int.mul_comm q V,<- Int.mul_assoc,Int.mul_comm (bp j) V,Int.mul_assoc]
  have Z:V*(bp j*(4294967296*zj qs))=V*(bp (j+1)*zj qs):=by rw[xd,<- Int.mul_assoc (bp j),Int.mul_comm (bp j) 4294967296]
  omega
 .
  rw[List.drop_left' M,xw,I,Int.mul_zero,Int.add_zero];exact E
theorem Kl (k:Nat) (n:Int):Yc (k+1) n=Yc k n ++ [n / bp k%4294967296]:=by
 induction k generalizing n with
 | zero=>simp[Yc,jN]
 | succ k ih=>
  rw[Yc,ih,Yc,List.cons_append]
  congr 3
  rw[xd,Int.ediv_ediv_of_nonneg B_]
theorem JE {R:List Int} {k:Nat} (I:yn R) (hk:k<R.length) (P0:1<=P) (E:P*Q=4294967296) :
  (R.getD k 0+R.getD (k+1) 0*4294967296) / P%4294967296=zj R / P / bp k%4294967296:=by
 have p:=xu k;have s:=yr R k B_;have a:=zD (zY I k);have b:=yF (zY I k);rw[List.length_take,Nat.min_eq_left B_]at b
 have e1:zj R / P / bp k=zj R / bp k / P:=by
  rw[Int.ediv_ediv_of_nonneg B_,Int.ediv_ediv_of_nonneg B_,Int.mul_comm]
 have M:zj R / bp k=zj (R.drop k):=by
  rw[s,Int.add_mul_ediv_left _ _ B_,Int.ediv_eq_zero_of_lt a b,Int.zero_add]
 have Z:=yq R k;have X:=yq R (k+1);rw[e1,M,Z,X];obtain⟨T,Y⟩:∃T,zj (R.drop (k+1+1))=T:=⟨_,rfl⟩;rw[Y]
 have e5:R.getD k 0+4294967296*(R.getD (k+1) 0+4294967296*T)=(R.getD k 0+R.getD (k+1) 0*4294967296)+P*(Q*(4294967296*T)):=by
  rw[<- Int.mul_assoc P Q,E]; omega
 rw[e5,Int.add_mul_ediv_left _ _ B_,Int.mul_comm Q,Int.mul_assoc,Int.add_mul_emod_self_left]
end Go.Proofs.YtffmbepfbienaaaGreat
/- Slices of zn in memory. -/
namespace Go.Proofs.YtffmbepfbienaaaGreat
section
open Go.RowKit
variable {l:List Int} {be cap g n o:Nat} {ao:Option Addr} {e t:Ce} {v:Cd} {w w':Cc}
def zH (l:List Int):List Cd:=l.map (Value.int .u32)
theorem xy (l:List Int) (t:Nat) (h:t<l.length):(zH l)[t]? = some (Cz .u32 (l.getD t 0)):=by simp[zH,List.getD,h]
theorem yG (l:List Int):(zH l).length=l.length:=by simp[zH]
def Cells (w:Cc) (b o:Nat) (l:List Int):Prop:=∀t,t<l.length->w.cell? ⟨b,o+t,none⟩=some (Cz .u32 (l.getD t 0))
def aA (w:Cc) (v:Cd) (l:List Int):Prop:=
 yn l/\∃ao cap,v = Cq ao l.length cap/\l.length<=cap/\(ao=none->cap=0)/\(l≠ []->∃b o,ao=some ⟨b,o,none⟩/\b<w.heap.size/\Cells w b o l)
theorem Cells.below {b:Nat} (h:Cells w b o l) (I:Below w.heap.size w w') (E:b<w.heap.size):Cells w' b o l:=
 fun t ht=>(I.cell (p:=⟨b,o+t,none⟩) E).trans (h t ht)
theorem aA.ae (h:aA w v l) (I:zf w w'):aA w' v l:=by
 obtain⟨h0,ao,cap,rfl,T,M,X⟩:=h;refine⟨h0,ao,cap,rfl,T,M,fun Y=> ?_⟩;obtain⟨b,o,rfl,E,hc⟩:=X Y;exact⟨b,o,rfl,Nat.lt_of_lt_of_le E I.size,hc.below I E⟩
theorem aA.drew (h:aA w v l):aA w.drew v l:=h
theorem aA.nil (w:Cc):aA w (Cq none 0 0) []:=⟨z4,none,0,rfl,Cl _,fun _=>rfl,fun h=>absurd rfl h⟩
theorem aA.dM {cs:List Cd} (h:ai w g t cs.toArray) (E:yn l) (hc:∀t,t<l.length->cs[o+t]? = some (Cz .u32 (l.getD t 0))) (I:l.length<=cap) :
  aA w (Cq (some ⟨g,o,none⟩) l.length cap) l:=
 ⟨E,_,cap,rfl,I,(nofun),fun _=>⟨g,o,rfl,h.lt,fun t ht=>by rw[h.cell]; simpa using hc t ht⟩⟩
theorem aA.aY (h:ai w g t (zH l).toArray) (E:yn l):aA w (Cq (some ⟨g,0,none⟩) l.length l.length) l:=
 aA.dM h E (fun t ht=>by rw[Nat.zero_add]; exact xy l t ht) (Cl _)
theorem aA.own (h:w.ownsRow be e 1 v n (zH l)) (X:yn l):aA w v l:=by
 obtain⟨T,I⟩:=h;rw[yG,Nat.mul_one]at T;subst T
 rcases I with⟨rfl,I⟩ | ⟨g,cap,cur,rfl,hg,hh,hn,hm,hs,ht⟩
 .
  obtain rfl:=List.eq_nil_of_length_eq_zero I;exact aA.nil w
 .
  refine⟨X,_,cap,rfl,hn,(nofun),fun _=>⟨g,0,rfl,ai.lt (w:=w) (t:=e) (cs:=cur) hh,fun t E=> ?_⟩⟩;rw[ai.cell (w:=w) (t:=e) (cs:=cur) hh,Nat.zero_add];have M:=xy l t E;rw[<- ht,List.getElem?_take,C7 B_]at M;simpa using M
theorem aA.cells (h:aA w (Cq ao n cap) l):yn l/\n=l.length/\n<=cap/\(0<n->∃b o,ao=some ⟨b,o,none⟩/\b<w.heap.size/\Cells w b o l):=by
 obtain⟨h0,I,E,e,X,_,Z⟩:=h
 injection e with e1 M Y
 subst e1 M Y;refine⟨h0,rfl,X,fun T=>Z ?_⟩;rintro rfl
 cases T
theorem aA.take (h:aA w (Cq ao n cap) l) {k:Nat} (hk:k<=l.length):aA w (Cq ao k cap) (l.take k):=by
 have E:ao=none->cap=0:=by
  obtain⟨_,X,M,e,_,E,_⟩:=h
  injection e with T e2 Y
  subst T Y;exact E
 obtain⟨h0,rfl,h1,Z⟩:=h.cells;have e:(l.take k).length=k:=by rw[List.length_take]; omega
 refine⟨zY h0 k,ao,cap,by rw[e],by omega,E,fun hn=> ?_⟩
 have I:0<k:=by
  rcases Nat.eq_zero_or_pos k with rfl | I
  . exact absurd List.take_zero hn
  . exact I
 obtain⟨b,o,rfl,hb,hc⟩:=Z B_;refine⟨b,o,rfl,hb,fun t ht=> ?_⟩;rw[e]at ht;rw[hc t B_];simp[List.getD,List.getElem?_take,ht]
theorem aA.au (h:aA w v l):∃ao cap,v = Cq ao l.length cap:=by obtain⟨_,ao,cap,e,_⟩:=h; exact⟨ao,cap,e⟩
theorem aA.ok (h:aA w v l):yn l:=h.1
theorem aA.one {x:Int} (h0:0<=x) (E:x<4294967296):aA (w.alloc (.cells #[Cz .u32 x] t)) (Cq (some ⟨w.heap.size,0,none⟩) 1 1) [x]:=
 aA.aY (l:= [x]) (ai.new w t #[Cz .u32 x]) (zU.2 ⟨⟨h0,E⟩,z4⟩)
theorem Kq {size:Nat} {xs:List Cd} (h:w.ownsRow be e size v n xs):∀k,v.ownBlock=some k->be<=k:=by
 intro k E
 rcases h.2 with⟨rfl,_⟩ | ⟨g,cap,cur,rfl,hg,_⟩
 . cases E
 . cases E; exact hg
theorem z' {P:Program} {w:Cc} {ops:Array Oper} {rest:List Oper} {o:Oper} {a:Act} {Q:Exit->Act->Cc->Prop} (X:o.guard=none) (s x:Operand) (t:Ce)
  (ho:o.op = .call { callee:= .builtin .append,args:=#[s,x],argTypes:=#[t,t] }) (be:Nat) (e:Ce) (i:TypeInfo) (ht:P.underlying t=some (.slice e)) (hi:P.info? e=some i) (hz:i.zero=some (Cz .u32 0))
  (T:i.size=1) (dP:i.bytes=4) (v:Cd) (n:Nat) (l:List Int) (hs:a.eval s=v) (E:w.ownsRow be e 1 v n (zH l)) (y:Cd) (m:List Int) (hx:a.eval x=y) (hy:aA w y m)
  (hb:n+m.length<=1000000000) (M:be<=w.heap.size)
  (h:∀Y w',w'.ownsRow be e 1 Y (n+m.length) (zH (l++m))->w.grownBy w' v.ownBlock->(∀k,v.ownBlock=some k->be<=k)->wpList P ops Q rest (a.put o.dst Y) w'):wpList P ops Q (o::rest) a w:=by
 obtain⟨it,ao,cap,rfl,h1,h3,h2⟩:=hy
 cases ao with
 | none=>
  obtain rfl:=h3 rfl;have hm:m = []:=List.eq_nil_of_length_eq_zero B_;subst hm;refine wpList_append_own_none X s x t ho be e i 1 ht hi v n (zH l) hs E (by simpa using hx) ?_;exact h v w (by simpa using E) (World.grownBy.refl _ _) (Kq E)
 | some ad=>
  refine wpList_append_own w X s x t ho be e i (Cz .u32 0) 1 4 ht hi hz T dP rfl C0 v n (zH l) hs E ad m.length cap (zH m) hx (by simp[zH]) ?_ ?_ (by unfold maxLen; omega) B_ M ?_
  .
   intro j u Z
   have I:j<m.length:=by
    have:=(List.getElem?_eq_some_iff.1 Z).1;simpa[zH]using this
   obtain⟨b,o',e1,ks,hc⟩:=h2 (by rintro rfl; cases I)
   cases e1
   rw[xy m j I]at Z
   cases Z
   rw[Addr.add_lit]; exact hc j I
  .
   intro u hu;obtain⟨z,_,rfl⟩:=List.mem_map.1 hu;rfl
  .
   intro Y w' h4 h5 _;exact h Y w' (by simpa[zH]using h4) h5 (Kq E)
theorem yY (xs:List Int) (k m:Nat) (x:Int) (h:xs.length=k):((zH xs++List.replicate (m+1) (Value.int .u32 0)).toArray.setIfInBounds k (Cz .u32 x))=(zH (xs ++ [x])++List.replicate m (Value.int .u32 0)).toArray:=by
 subst h;simp[zH,List.set_append,List.replicate_succ]
open Go.ChangeShapes Go.WideShapes Go.ChangeAt Go.RowKit Go.Joins
section
variable {H:Type} {enc:Ce×Cd->H} {P:Program}
theorem Qb {f:Func} {s:ChangeSpec} {apart it X ks:Bool} {W W':Cc} {args:Array Cd} {v:Cd} {ds gs:List (DataW H)} {E pa pv:List MemPlace}
  (hW:DataW.Whole enc P f.params.toList s.vars apart W args.toList ds gs E)
  (Z:∀ (b:Nat) (sp:Nat->Bool) (hd:Bool),DataW.TrodAll enc P W' b sp hd f.resultTypes.toList (v.resultList f.resultTypes.size) (s.fn H (ds++gs)).results [])
  (M:∀sp:Nat->Bool,(∀p∈E,sp p.block=true)->DataW.TrodAll enc P W' 0 sp true f.params.toList args.toList (s.fn H (ds++gs)).args pa)
  (T:∀sp:Nat->Bool,(∀p∈E,sp p.block=true)->DataW.TrodVars enc P W' sp s.vars (s.fn H (ds++gs)).vars pv)
  (Y:E=pa++pv) (hb:Below W.heap.size W W')
  (me:∀ (j:Nat) (t:Ce) (r:Cd),f.resultTypes[j]? = some t->(v.resultList f.resultTypes.size)[j]? = some r->Value.okWide P W' .any 0 t r) :
  s.post enc P f apart it X ks W args v W':=by
 have mb:∀p∈E,p.block<W.heap.size:=fun p I=>hW.lt p I;have dP:∀p∈E,(fun b=>decide (b<W.heap.size)) p.block=true:=fun p I=>by simpa using mb p I
 refine⟨ds,gs,E,[],pa,pv,hW,Z _ _ _,M _ dP,T _ dP,World.keptBut_mono (fun p I=>⟨I,?_⟩) (hb.frame (· ∈E)),fun _=> ?_⟩
 .
  rw[Y,List.mem_append]at I;exact Or.inr I
 .
  obtain⟨_,_,_,_,_,hz,hn⟩:=hW;refine⟨me,_,_,([]++pa)++pv,⟨[]++pa,pv,trodAll_append (M _ (fun _ _=>rfl)) (Z _ _ _),T _ (fun _ _=>rfl),rfl,?_,?_⟩,?_⟩
  .
   intro b off I;have ma:MemPlace.cell b off∈E:=by rw[Y]; simpa using I
   rw[hb.frozen (mb _ ma)];exact hz b off ma
  .
   intro ha;have:=hn ha;rw[Y]at this;simpa using this
  .
   intro p I _;rw[Y];simpa using I
end
section
variable {H:Type} {enc:Ce×Cd->H} {W:Cc} {be:Nat} {m9:Bool} {n:Nat}
end
end
section
open Go.RowKit
variable {ah:Array Bool} {i:Nat}
section
variable {P:Program} {ops:Array Oper} {Q:Exit->Act->Cc->Prop} {md:Region.Mode}
def xr (ops:Array Oper) (ah:Array Bool):Nat:=((List.range ops.size).filter fun i=> !ah.getD i true).length
theorem kS (h:i∈Region.ready md ops ah):i<ops.size/\ah.getD i true=false:=by
 unfold Region.ready at h;simp only[List.mem_filter,List.mem_range,Bool.and_eq_true,Bool.not_eq_true']at h;exact⟨h.1,h.2.1⟩
theorem kx (Z:i<ops.size) (h:ah.getD i true=false) :
  xr ops (ah.setIfInBounds i true)+1<=xr ops ah:=by
 have X:i<ah.size:=by
  rcases Cm i ah.size with g | g
  . exact g
  . simp[Array.getD,Nat.not_lt.2 g]at h
 unfold xr
 have key:∀l:List Nat,l.Nodup->i∈l->((l.filter fun j=> !(ah.setIfInBounds i true).getD j true).length+1<=(l.filter fun j=> !ah.getD j true).length):=by
  intro l
  induction l with
  | nil=>intro _ I; cases I
  | cons x l ih=>
   intro T I;rw[List.nodup_cons]at T
   have E:∀j,j≠i->(ah.setIfInBounds i true).getD j true=ah.getD j true:=fun j M=>by
    simp[Array.getD_eq_getD_getElem?,Array.getElem?_setIfInBounds_ne (Ne.symm M)]
   by_cases hx:x=i
   .
    subst hx;have e1:(ah.setIfInBounds x true).getD x true=true:=by simp[Array.getD_eq_getD_getElem?,X]
    have e2:(l.filter fun j=> !(ah.setIfInBounds x true).getD j true)=l.filter fun j=> !ah.getD j true:=
     List.filter_congr fun j M=>by rw[E j (fun e=>T.1 (e▸M))]
    simp only[List.filter_cons,e1,h,e2];simp
   .
    have Y:i∈l:=by
     cases I with
     | head=>exact absurd rfl hx
     | tail _ I=>exact I
    have:=ih T.2 Y;simp only[List.filter_cons,E x hx]
    split
    . simp only[List.length_cons]; omega
    . exact this
 exact key _ List.nodup_range (List.mem_range.2 Z)
theorem ky (h:xr ops ah=0):Region.ready md ops ah = []:=by
 apply List.eq_nil_iff_forall_not_mem.2
 intro i E;obtain⟨M,I⟩:=kS E
 have:i∈(List.range ops.size).filter fun i=> !ah.getD i true:=by
  rw[List.mem_filter];exact⟨List.mem_range.2 M,by rw[I]; rfl⟩
 unfold xr at h;rw[List.length_eq_zero_iff.1 h]at this
 cases this
theorem Yk (I:Array Bool->Act->Cc->Prop)
  (step:∀ah a w i,I ah a w->i∈Region.ready md ops ah->wpOp P ops Q i (fun a' w'=>I (ah.setIfInBounds i true) a' w') a w)
  (done:∀ah a w,I ah a w->Region.ready md ops ah = []->Q .normal a w) :
  ∀E ah a w,I ah a w->xr ops ah<=E->wpAny P md ops Q E ah a w:=by
 intro E
 induction E with
 | zero=>
  intro ah a w T Y;have M:=ky (md:=md) (Nat.le_zero.1 Y);exact⟨M,done _ _ _ T M⟩
 | succ E ih=>
  intro ah a w T Y;refine⟨fun M=>done _ _ _ T M,fun i X=>wpOp_mono (fun a' w' h=>ih _ a' w' h ?_) (step _ _ _ i T X)⟩;obtain⟨Z,h2⟩:=kS X;have:=kx (ops:=ops) Z h2;omega
theorem Z_ {id:Nat} {a:Act} {w:Cc} (E:P.follows .mixedOrders=true) (I:Array Bool->Act->Cc->Prop)
  (start:I (Array.replicate ops.size false) a w.drew)
  (step:∀ah a w i,I ah a w->i∈Region.ready .any ops ah->wpOp P ops Q i (fun a' w'=>I (ah.setIfInBounds i true) a' w') a w)
  (done:∀ah a w,I ah a w->Region.ready .any ops ah = []->Q .normal a w):(Code.region id ops true).wp P Q a w:=
 wp_region_any E (Yk I step done _ _ _ _ start (by
  unfold xr;have:=List.length_filter_le (fun i=> !(Array.replicate ops.size false).getD i true) (List.range ops.size)
  rwa[List.length_range]at this))
end
end
end Go.Proofs.YtffmbepfbienaaaGreat
/- A region that draws its order, walked once in the order of the text: each operation is shown to do its work in whatever world its forerunners leave. -/
namespace Go.Proofs.YtffmbepfbienaaaGreat
open Go.RowKit
variable {a a' b be:Act} {ah:Array Bool} {L:Array Oper} {l rest:List Oper} {g id n:Nat} {D:Nat->Bool} {r:Next} {o:Oper} {ρ:Operand->Cd} {t:Tmp} {v x x0 x1 d9 gG gY gD gn gL iy gI iB h9 iJ ci gN gz gW gO gT gF ig gZ gX iq dc gE gV gH iI ip gt gQ gk hZ iz cx iu iC iD ik iL gr ij gK iF gp dk iA ir gJ gM iM gC iK iH gB gA cN iG iN gR iO iE iv gP cy bq cY ce x2 cg bt dd br f7 eM dy dx er fe x3 ec fl ek fm f9 em eW fd dl f8 x4 gd fZ fX fV gj gg fY gh g8 fW x5 g9 gi iR iY iZ iX iP iU iS iT x6 iW iQ jd jb k8 kw ka kc k7 k6 x7 lW lM l6 lw lg lI lP lH lE lK x8 lG m8 lJ l9 l3 lO m7 lQ lN lk x9 lF lC ln lh l8 lf lZ lj lX lY:Cd} {N:Cd->Cc->Prop} {W W' w:Cc} {Φ:Cc->Prop} {d:_}
def Qj (P:Program) (o:Oper) (ρ : Operand->Cd) (W:Cc) (bf:List PanicEntry->Cc->Prop) (N:Cd->Cc->Prop):Prop:=
 match (execOp ρ o).run P W with
 | .ok (.value v) W'=>N v W'
 | .ok .skip W'=>N Cf W'
 | .ok (.enter f args) W'=>Calls P f args W' fun
   | .returned v,W''=>N v W''
   | .panicked c,W''=>bf c W''
   | .outgrown,_=>False
 | .ok (.row row args) W'=>Rows P row args W' N
 | .halt (.panic v) W'=>bf [{ v,recovered:=false }] W'
 | _=>False
namespace aj
def qI (ops:Array Oper) (k:Nat):List Nat:=
 match ops[k]? with
 | none=> []
 | some o=>(o.after.toList.filter (Region.binds .any)).map (·.on)
def yf (ops:Array Oper) (j:Nat):Option Tmp:=(ops[j]?).bind (·.dst)
def Bc (ops:Array Oper) (o:Oper):List Tmp:=o.looksAt ops
def at_ (a:Act):Option Tmp->Cd
 | some t=>(a.tmps[t]?).getD Cf
 | none=>Cf
def yH (ops:Array Oper) (a:Act) (j:Nat):Cd:=at_ a (yf ops j)
inductive cO (ops:Array Oper):Nat->Nat->Prop
 | one {j k} : j∈qI ops k->cO ops j k
 | more {i j k} : cO ops i j->j∈qI ops k->cO ops i k
def ql (ops:Array Oper):Nat->List (List Nat)
 | 0=> []
 | k+1=>let c:=ql ops k; c ++ [((qI ops k)++(qI ops k).flatMap fun j=>c.getD j []).eraseDups]
def tidy (ops:Array Oper) (n:Nat):Bool:=
 let c:=ql ops ops.size
 let ks:=List.range ops.size
 Region.noSelect ops &&
 (ks.all fun k=>(qI ops k).all fun j=>decide (j<k)) &&
 (ks.all fun k=>match yf ops k with
  | none=>true
  | some t=>decide (t<n)&&ks.all fun j=>j==k||yf ops j != some t) &&
 (ks.all fun k=>match ops[k]? with
  | none=>true
  | some o=>(o.looksAt ops).all fun t=>ks.all fun j=>yf ops j != some t||(c.getD k []).contains j||(c.getD j []).contains k)
def cS (ops:Array Oper) (b9:Nat->Bool) (pre:Nat->List (Nat×Option Tmp)) (post:Nat->List Nat):Bool:=
 let c:=ql ops ops.size
 ((List.range ops.size).all fun k=>((pre k).all fun p=>(c.getD k []).contains p.1&&yf ops p.1==p.2)&&(b9 k||(yf ops k).isSome)&&(post k).all fun j=>(c.getD j []).contains k) &&
 (pre ops.size).all fun p=>decide (p.1<ops.size)&&yf ops p.1==p.2
theorem xg (ops:Array Oper) (n:Nat):(ql ops n).length=n:=by
 induction n with
 | zero=>rfl
 | succ n ih=>simp[ql,ih]
theorem Xr (ops:Array Oper) {n k:Nat} (h:k<n):(ql ops n).getD k []=((qI ops k)++(qI ops k).flatMap fun j=>(ql ops k).getD j []).eraseDups:=by
 induction n with
 | zero=>omega
 | succ n ih=>
  simp only[ql]
  rcases Cm k n with E | E
  .
   rw[List.getD_eq_getElem?_getD,List.getElem?_append_left (by rw[xg]; exact E),<- List.getD_eq_getElem?_getD];exact ih E
  .
   obtain rfl:k=n:=B_
   rw[List.getD_eq_getElem?_getD,List.getElem?_append_right (by rw[xg]; omega),xg];simp
theorem qJ (ops:Array Oper):∀ (n k j:Nat),j∈(ql ops n).getD k []->cO ops j k:=by
 intro n k
 induction k using Nat.strongRecOn generalizing n with
 | _ k ih=>
  intro j E
  rcases Cm k n with M | M
  .
   rw[Xr ops M,List.mem_eraseDups,List.mem_append,List.mem_flatMap]at E
   rcases E with E | ⟨m,T,E⟩
   . exact .one E
   .
    rcases Cm m k with I | I
    . exact .more (ih m I k j E) T
    .
     rw[List.getD_eq_getElem?_getD,List.getElem?_eq_none (by rw[xg]; exact I)]at E
     cases E
  .
   rw[List.getD_eq_getElem?_getD,List.getElem?_eq_none (by rw[xg]; exact M)]at E
   cases E
structure Tidy (ops:Array Oper) (n:Nat):Prop where
 eh:∀ (j:Nat) (o:Oper) cs b,ops[j]? = some o->o.op≠ .select cs b
 back:∀j k,j∈qI ops k->j<k
 inb:∀k t,yf ops k=some t->t<n
 once:∀j k t,yf ops j=some t->yf ops k=some t->j=k
 look:∀k o t j,ops[k]? = some o->t∈o.looksAt ops->yf ops j=some t->cO ops j k\/cO ops k j
theorem qo {ops:Array Oper} {k t:Nat} (h:yf ops k=some t):k<ops.size:=by
 rcases Cm k ops.size with g | g
 . exact g
 . unfold yf at h; rw[Array.getElem?_eq_none g]at h; cases h
theorem qV {ops:Array Oper} {k:Nat} (h:ops[k]? = some o):k<ops.size:=(Array.getElem?_eq_some_iff.1 h).1
theorem jP {ops:Array Oper} (h:tidy ops n=true):Tidy ops n:=by
 unfold tidy at h;simp only[Bool.and_eq_true,List.all_eq_true,List.mem_range]at h;obtain⟨⟨⟨Y,Z⟩,M⟩,X⟩:=h;refine⟨fun j o cs b=>Region.noSelect_spec Y j o cs b,?_,?_,?_,?_⟩
 .
  intro j k E
  rcases Cm k ops.size with g | g
  . exact of_decide_eq_true (Z k g j E)
  . unfold qI at E; rw[Array.getElem?_eq_none g]at E; cases E
 .
  intro k t I;have:=M k (qo I);rw[I]at this;simp only[Bool.and_eq_true,decide_eq_true_eq]at this;exact this.1
 .
  intro j k t E I;have:=M k (qo I);rw[I]at this;simp only[Bool.and_eq_true,List.all_eq_true,List.mem_range,Bool.or_eq_true,beq_iff_eq,bne_iff_ne]at this
  rcases this.2 j (qo E)with e | e
  . exact e
  . exact absurd E e
 .
  intro k o t j T ht E;have:=X k (qV T);rw[T]at this;simp only[List.all_eq_true,List.mem_range,Bool.or_eq_true,bne_iff_ne,List.contains_iff_mem]at this
  rcases this t ht j (qo E)with(e | e) | e
  . exact absurd E e
  . exact .inl (qJ _ _ _ _ e)
  . exact .inr (qJ _ _ _ _ e)
theorem cO.lt {ops:Array Oper} {j k:Nat} (T:Tidy ops n) (h:cO ops j k):j<k:=by
 induction h with
 | one h=>exact T.back _ _ h
 | more _ h ih=>have:=T.back _ _ h; omega
theorem cO.trans {ops:Array Oper} {i j k:Nat} (h:cO ops i j) (E:cO ops j k):cO ops i k:=by
 induction E with
 | one E=>exact .more h E
 | more _ E ih=>exact .more ih E
structure eK (ops:Array Oper) (b9:Nat->Bool) (pre:Nat->List (Nat×Option Tmp)) (post:Nat->List Nat):Prop where
 aft:∀k j,k<ops.size->j∈post k->cO ops k j
 fore:∀k p,k<ops.size->p∈pre k->cO ops p.1 k/\yf ops p.1=p.2
 some_:∀k,k<ops.size->b9 k=false->∃t,yf ops k=some t
 fin:∀p,p∈pre ops.size->p.1<ops.size/\yf ops p.1=p.2
theorem jQ {ops:Array Oper} {b9:Nat->Bool} {pre:Nat->List (Nat×Option Tmp)} {post:Nat->List Nat} (h:cS ops b9 pre post=true):eK ops b9 pre post:=by
 unfold cS at h;simp only[Bool.and_eq_true,List.all_eq_true,List.mem_range,Bool.or_eq_true,List.contains_iff_mem,beq_iff_eq,decide_eq_true_eq]at h;refine⟨fun k j E M=>qJ _ _ _ _ ((h.1 k E).2 j M),fun k p E I=> ?_,fun k E hc=> ?_,fun p I=>h.2 p I⟩
 .
  obtain⟨T,X⟩:=(h.1 k E).1.1 p I;exact⟨qJ _ _ _ _ T,X⟩
 .
  rcases(h.1 k E).1.2 with e | e
  . rw[hc]at e; cases e
  . exact Option.isSome_iff_exists.1 e
section
variable (P:Program) (ops:Array Oper) (Q:Exit->Act->Cc->Prop) (J:(Nat->Bool)->(Nat->Cd)->Cc->Prop) (b9:Nat->Bool) (V:Nat->Cd->Prop) (G:Nat->Cd->Cc->Prop) (Sx:Nat->Cc->Cc->Prop) (bf:List PanicEntry->Cc->Prop) (pre:Nat->List (Nat×Option Tmp)) (post:Nat->List Nat)
def aJ (k:Nat) (a:Act) (D:Nat->Bool) (v:Nat->Cd) (W:Cc):Prop:=∀p∈pre k,b9 p.1=true->D p.1=true/\v p.1=at_ a p.2/\G p.1 (at_ a p.2) W
def dv (o:Oper) (x:Cd):Cd:=match o.dst with | some _=>x | none=>Cf
def upd (D:Nat->Bool) (k:Nat):Nat->Bool:=fun j=>j==k||D j
def aQ (v:Nat->Cd) (k:Nat) (x:Cd):Nat->Cd:=fun j=>if j=k then x else v j
def bj (k:Nat) (D:Nat->Bool):Prop:=D k=false/\∀j∈post k,D j=false
def aZ (k:Nat) (o:Oper) (a:Act) (D:Nat->Bool) (v:Nat->Cd) (W:Cc):Prop:=
 if Region.wanted o (yielded ops a.tmps)=true then Qj P o a.eval W bf (fun x W'=>Sx k W W'/\J (upd D k) (aQ v k (dv o x)) W'/\G k (dv o x) W'/\V k (dv o x))else J (upd D k) (aQ v k Cf) W/\G k Cf W/\V k Cf
def yu (o:Oper) (a:Act) (x:Cd) (W:Cc):Prop:=
 if Region.wanted o (yielded ops a.tmps)=true then(execOp a.eval o).run P W = .ok (.value x) W\/((execOp a.eval o).run P W = .ok .skip W/\x=Cf)else x=Cf
def RC:Nat->List Oper->Act->Prop
 | k,[],a=>∀D v W,(∀j,j<k->D j=b9 j)->J D v W->aJ b9 G pre k a D v W->Q .normal a W
 | k,o::rest,a=>
  if b9 k=true then(∀D v W,bj post k D->J D v W->aJ b9 G pre k a D v W->aZ P ops J V G Sx bf k o a D v W)/\∀x,V k x->RC (k+1) rest (a.put o.dst x)
  else ∃x,(∀D v W,bj post k D->J D v W->aJ b9 G pre k a D v W->yu P ops o a x W)/\RC (k+1) rest (a.put o.dst x)
end
section
variable {P:Program} {ops:Array Oper} {Q:Exit->Act->Cc->Prop} {J:(Nat->Bool)->(Nat->Cd)->Cc->Prop} {b9:Nat->Bool} {V:Nat->Cd->Prop} {G:Nat->Cd->Cc->Prop} {Sx:Nat->Cc->Cc->Prop} {bf:List PanicEntry->Cc->Prop} {pre:Nat->List (Nat×Option Tmp)} {post:Nat->List Nat}
theorem cF (xs:Nat->Cd) (hx:∀k,V k (xs k)):∀ (l:List Oper) (k:Nat) (a:Act),RC P ops Q J b9 V G Sx bf pre post k l a->
  ∃ (E:Nat->Act) (y:Nat->Cd),E k=a/\(∀i o,l[i]? = some o->E (k+i+1)=(E (k+i)).put o.dst (y (k+i))/\
   (b9 (k+i)=true->y (k+i)=xs (k+i)/\∀D v W,bj post (k+i) D->J D v W->aJ b9 G pre (k+i) (E (k+i)) D v W->aZ P ops J V G Sx bf (k+i) o (E (k+i)) D v W)/\
   (b9 (k+i)=false->∀D v W,bj post (k+i) D->J D v W->aJ b9 G pre (k+i) (E (k+i)) D v W->yu P ops o (E (k+i)) (y (k+i)) W))/\
   (∀D v W,(∀j,j<k+l.length->D j=b9 j)->J D v W->aJ b9 G pre (k+l.length) (E (k+l.length)) D v W->Q .normal (E (k+l.length)) W):=by
 intro l
 induction l with
 | nil=>
  intro k a h;refine⟨fun _=>a,xs,rfl,fun i o I=>by simp at I,?_⟩;exact h
 | cons o rest ih=>
  intro k a h
  have key:∃x,RC P ops Q J b9 V G Sx bf pre post (k+1) rest (a.put o.dst x)/\
    (b9 k=true->x=xs k/\∀D v W,bj post k D->J D v W->aJ b9 G pre k a D v W->aZ P ops J V G Sx bf k o a D v W)/\
    (b9 k=false->∀D v W,bj post k D->J D v W->aJ b9 G pre k a D v W->yu P ops o a x W):=by
   unfold RC at h
   split at h
   .
    rename_i hc
    exact⟨xs k,h.2 _ (hx k),fun _=>⟨rfl,h.1⟩,fun M=>by rw[hc]at M; cases M⟩
   .
    rename_i hc
    obtain⟨x,h1,h2⟩:=h;exact⟨x,h2,fun M=>absurd M hc,fun _=>h1⟩
  obtain⟨x,hr,T,X⟩:=key;obtain⟨E,y,ht,hs,Y⟩:=ih (k+1) _ hr;refine⟨fun i=>if i<=k then a else E i,fun i=>if i<=k then x else y i,by simp,?_,?_⟩
  .
   intro i Z I
   cases i with
   | zero=>
    simp only[List.getElem?_cons_zero,Option.some.injEq]at I;subst I;simp only[Nat.add_zero,Cl,if_true,C8 (show ¬(k+1<=k) by omega),ht];exact⟨trivial,T,X⟩
   | succ i=>
    rw[List.getElem?_cons_succ]at I;have:=hs i Z I;have e:k+1+i=k+(i+1):=B_
    rw[e]at this;simp only[C8 (show ¬(k+(i+1)<=k) by omega),C8 (show ¬(k+(i+1)+1<=k) by omega)];exact this
  .
   have e:k+1+rest.length=k+(o::rest).length:=by simp; omega
   rw[e]at Y;simp only[C8 (show ¬(k+(o::rest).length<=k) by simp)];exact Y
theorem kU {ops:Array Oper} (h:Operand.tmp t∈o.op.operands):t∈o.looksAt ops:=
 List.mem_append_left _ (List.mem_filterMap.2 ⟨.tmp t,by simpa using h,rfl⟩)
theorem j4 (I:∀cs c,o.op≠ .select cs c) (h:∀t,t∈o.looksAt ops->a.tmps[t]? = b.tmps[t]?):execOp a.eval o=execOp b.eval o:=
 execOp_congr o I fun x E=>by
  cases x with
  | tmp t=>simp only[Act.eval,Array.getD_eq_getD_getElem?,h t (kU E)]
  | _=>rfl
theorem jg (h:∀t,t∈o.looksAt ops->a.tmps[t]? = b.tmps[t]?):Region.wanted o (yielded ops a.tmps)=Region.wanted o (yielded ops b.tmps):=by
 unfold Region.wanted
 cases hg:o.guard with
 | none=>rfl
 | some gw=>
  obtain⟨g,E⟩:=gw
  have:yielded ops a.tmps g=yielded ops b.tmps g:=by
   unfold yielded
   cases hd:(ops[g]?).bind (·.dst)with
   | none=>rfl
   | some t=>
    have:=h t (List.mem_append_right _ (by simp[hg,hd]));simp[this]
  simp only[this]
theorem dt {K:Act->Cc->Prop} (h:Qj P o a.eval W bf N) (I:∀x W',N x W'->K (a.put o.dst x) W')
  (T:∀c W',bf c W'->Q (.panic c) a W'):o.wp P a W K Q:=by
 unfold Qj at h;unfold Oper.wp
 split at h
 . rename_i heq; rw[heq,Oper.upon_value]; exact I _ _ h
 . rename_i heq; rw[heq,Oper.upon_skip]; exact I _ _ h
 .
  rename_i heq
  rw[heq,Oper.upon_enter];refine Calls.mono h fun e M E=> ?_
  cases e with
  | returned v=>exact I _ _ E
  | panicked c=>exact T _ _ E
  | outgrown=>exact E.elim
 . rename_i heq; rw[heq,Oper.upon_row]; exact Rows.mono h fun v M E=>I _ _ E
 . rename_i heq; rw[heq,Oper.upon_panic]; exact T _ _ h
 . exact h.elim
theorem kV {d:Option Tmp} (h:d≠some t):(a.put d v).tmps[t]? = a.tmps[t]? :=by
 cases d with
 | none=>rfl
 | some d=>
  have:d≠t:=fun e=>h (e▸rfl);simp[Act.put,Array.getElem?_setIfInBounds_ne this]
theorem xP (h:t<a.tmps.size):(a.put (some t) v).tmps[t]? = some v:=by
 simp[Act.put,h]
theorem Zt (a:Act) (d:Option Tmp) (v:Cd):(a.put d v).tmps.size=a.tmps.size:=by cases d<;>simp[Act.put]
theorem qt (a:Act) (d:Option Tmp) (v:Cd):(a.put d v).defers=a.defers:=by cases d<;>rfl
def done (b9:Nat->Bool) (ah:Array Bool):Nat->Bool:=fun j=>b9 j&&ah.getD j false
structure Inv (P:Program) (ops:Array Oper) (J:(Nat->Bool)->(Nat->Cd)->Cc->Prop) (b9:Nat->Bool) (V:Nat->Cd->Prop) (G:Nat->Cd->Cc->Prop) (pre:Nat->List (Nat×Option Tmp)) (post:Nat->List Nat) (be:Act) (ah:Array Bool) (a:Act) (W:Cc):Prop where
 j:J (done b9 ah) (yH ops a) W
 n:ah.size=ops.size
 closed:∀k,ah.getD k false=true->∀i∈qI ops k,ah.getD i false=true
 defs:a.defers=be.defers
 size:a.tmps.size=be.tmps.size
 old:∀t,(∀k,ah.getD k false=true->yf ops k≠some t)->a.tmps[t]? = be.tmps[t]?
 call:∀k,ah.getD k false=true->b9 k=true->G k (yH ops a k) W/\V k (yH ops a k)
 pur:∀k o t,ah.getD k false=true->b9 k=false->ops[k]? = some o->yf ops k=some t->∃b:Act,
  (∀u j,cO ops j k->yf ops j=some u->b.tmps[u]? = a.tmps[u]?)/\(∀u,u∈o.looksAt ops->(∀j,cO ops j k->yf ops j≠some u)->b.tmps[u]? = be.tmps[u]?)/\
  (∀D v W,bj post k D->J D v W->aJ b9 G pre k a D v W->yu P ops o b (yH ops a k) W)/\∃D v W,bj post k D/\J D v W/\aJ b9 G pre k a D v W
theorem Inv.dU (I:Inv P ops J b9 V G pre post be ah a W) {j k:Nat} (h:cO ops j k) (E:ah.getD k false=true):ah.getD j false=true:=by
 induction h with
 | one h=>exact I.closed _ E _ h
 | more _ h ih=>exact ih (I.closed _ E _ h)
theorem qu {d:Option Tmp} (h:∀t,d=some t->a.tmps[t]? = b.tmps[t]?):at_ a d=at_ b d:=by
 cases d with
 | none=>rfl
 | some t=>simp only[at_,h t rfl]
theorem yg {k:Nat} {v:Nat->Cd} (h:∀p∈pre k,at_ a p.2=at_ b p.2) (I:aJ b9 G pre k a D v W):aJ b9 G pre k b D v W:=
 fun p E hc=>h p E▸I p E hc
theorem cK {E:Operand->Cd} (e:execOp ρ o=execOp E o) (h:Qj P o ρ W bf N):Qj P o E W bf N:=by
 unfold Qj at *
 rwa[<- e]
theorem j5 (E:∀cs c,o.op≠ .select cs c) (h:∀t,t∈o.looksAt ops->a.tmps[t]? = b.tmps[t]?) (I:yu P ops o a x W):yu P ops o b x W:=by
 unfold yu at *
 rwa[<- jg h,<- j4 E h]
theorem cI {k:Nat} {v:Nat->Cd} (I:∀cs c,o.op≠ .select cs c) (h:∀t,t∈o.looksAt ops->a.tmps[t]? = b.tmps[t]?) (E:aZ P ops J V G Sx bf k o a D v W):aZ P ops J V G Sx bf k o b D v W:=by
 unfold aZ at *;rw[<- jg h]
 split
 . rename_i hw; rw[C7 hw]at E; exact cK (j4 I h) E
 . rename_i hw; rwa[C8 hw]at E
theorem Kx {y:Cd} (h:yu P ops o a x W) (E:yu P ops o a y W):x=y:=by
 unfold yu at *
 split at h
 .
  rename_i hw
  rw[C7 hw]at E
  rcases h with h | ⟨h,rfl⟩<;>rcases E with E | ⟨E,rfl⟩<;>rw[h]at E<;>simp at E; try exact E
 .
  rename_i hw
  rw[C8 hw]at E;rw[h,E]
theorem YL {E:Nat->Act} {y:Nat->Cd} (h0:E 0=be) (I:∀i o,ops[i]? = some o->E (i+1)=(E i).put o.dst (y i)) :
  ∀k,k<=ops.size->(E k).tmps.size=be.tmps.size/\(E k).defers=be.defers:=by
 intro k
 induction k with
 | zero=>intro _; rw[h0]; exact⟨rfl,rfl⟩
 | succ k ih=>
  intro Y;obtain⟨T,X⟩:=ih B_;obtain⟨o,M⟩:∃o,ops[k]? = some o:=⟨_,Array.getElem?_eq_getElem B_⟩;rw[I k o M];exact⟨(Zt _ _ _).trans T,(qt _ _ _).trans X⟩
theorem vY (T:Tidy ops n) {E:Nat->Act} {y:Nat->Cd} {be:Act} (hn:be.tmps.size=n) (h0:E 0=be) (I:∀i o,ops[i]? = some o->E (i+1)=(E i).put o.dst (y i)) :
  ∀k,k<=ops.size->(∀j t,j<k->yf ops j=some t->(E k).tmps[t]? = some (y j))/\(∀t,(∀j,j<k->yf ops j≠some t)->(E k).tmps[t]? = be.tmps[t]?):=by
 intro k
 induction k with
 | zero=>intro _; rw[h0]; exact⟨fun j t h=>absurd h (Nat.not_lt_zero _),fun _ _=>rfl⟩
 | succ k ih=>
  intro hk;obtain⟨Z,h2⟩:=ih B_;obtain⟨o,M⟩:∃o,ops[k]? = some o:=⟨_,Array.getElem?_eq_getElem B_⟩;have hd:yf ops k=o.dst:=by unfold yf; rw[M]; rfl
  have X:=(YL h0 I k B_).1;rw[I k o M];refine⟨fun j t Y ht=> ?_,fun t ht=> ?_⟩
  .
   rcases Cm j k with g | g
   .
    rw[kV,Z j t g ht];intro e;rw[<- hd]at e;have:=T.once j k t ht e;omega
   .
    obtain rfl:j=k:=B_
    rw[hd]at ht;rw[ht,xP];rw[X,hn];exact T.inb j t (hd.trans ht)
  .
   rw[kV (fun e=>ht k B_ (hd.trans e))];exact h2 t fun j Y=>ht j B_
theorem xZ {i k:Nat} (h:(ah.setIfInBounds i true).getD k false=true):k=i\/ah.getD k false=true:=by
 by_cases e:i=k
 . exact .inl e.symm
 . rw[getD_set_ne false e]at h; exact .inr h
theorem xU {i:Nat} (h:i<ah.size):(ah.setIfInBounds i true).getD i false=true:=by simp[h]
theorem jR {k j:Nat} (E:ops[k]? = some o):j∈qI ops k↔∃e∈o.after,Region.binds .any e=true/\e.on=j:=by
 unfold qI;rw[E];simp[and_assoc]
theorem Jg (S:eK ops b9 pre post) {be:Act} (T:Tidy ops be.tmps.size) {ah:Array Bool} {a:Act} {W:Cc} (I:Inv P ops J b9 V G pre post be ah a W)
  {E:Nat->Act} {y:Nat->Cd} (h0:E 0=be) (hs:∀i o,ops[i]? = some o->E (i+1)=(E i).put o.dst (y i))
  (hc:∀i,i<ops.size->ah.getD i false=true->b9 i=true->y i=yH ops a i)
  (hp:∀i o,ops[i]? = some o->b9 i=false->∀D v W,bj post i D->J D v W->aJ b9 G pre i (E i) D v W->yu P ops o (E i) (y i) W) :
  ∀k,k<ops.size->(∀j,cO ops j k->ah.getD j false=true)->
   (∀o,ops[k]? = some o->∀t,t∈o.looksAt ops->(∀j,cO ops j k->yf ops j=some t->(E k).tmps[t]? = a.tmps[t]?)/\((∀j,cO ops j k->yf ops j≠some t)->(E k).tmps[t]? = be.tmps[t]?))/\
   (∀p∈pre k,at_ (E k) p.2=at_ a p.2)/\(ah.getD k false=true->y k=yH ops a k):=by
 intro k
 induction k using Nat.strongRecOn with
 | _ k ih=>
  intro hk hl
  have sl:∀j t,cO ops j k->yf ops j=some t->(E k).tmps[t]? = a.tmps[t]? :=fun j t M ht=>by
   have dP:=M.lt T;have:=(ih j dP B_ fun i hi=>hl i (hi.trans M)).2.2 (hl j M);rw[(vY T rfl h0 hs k B_).1 j t dP ht,this];unfold yH at_;simp only[ht];have hb:t<a.tmps.size:=by rw[I.size]; exact T.inb j t ht
   rw[Array.getElem?_eq_getElem hb]; rfl
  have A1:∀o,ops[k]? = some o->∀t,t∈o.looksAt ops->(∀j,cO ops j k->yf ops j=some t->(E k).tmps[t]? = a.tmps[t]?)/\((∀j,cO ops j k->yf ops j≠some t)->(E k).tmps[t]? = be.tmps[t]?):=fun o Z t ht=>
   ⟨fun j M X=>sl j t M X,fun hn=>(vY T rfl h0 hs k B_).2 t fun j dP X=>by
    rcases T.look k o t j Z ht X with h | h
    . exact hn j h X
    . have:=h.lt T; omega⟩
  have A2:∀p∈pre k,at_ (E k) p.2=at_ a p.2:=fun p hp=>by
   obtain⟨h1,h2⟩:=S.fore k p hk hp;exact qu fun t ht=>sl p.1 t h1 (h2.trans ht)
  refine⟨A1,A2,fun it=> ?_⟩
  cases hck:b9 k with
  | true=>exact hc k hk it hck
  | false=>
   obtain⟨t,ht⟩:=S.some_ k hk hck;obtain⟨o,Z⟩:∃o,ops[k]? = some o:=⟨_,Array.getElem?_eq_getElem hk⟩;obtain⟨b,b1,b2,P1,D1,v1,W1,C1,J1,F1⟩:=I.pur k o t it hck Z ht;have F':aJ b9 G pre k (E k) D1 v1 W1:=yg (fun p hp=>(A2 p hp).symm) F1;refine Kx (j5 (fun cs c=>T.eh k o cs c Z) (fun u hu=> ?_) (hp k o Z hck D1 v1 W1 C1 J1 F')) (P1 D1 v1 W1 C1 J1 F1)
   by_cases hw:∃j,cO ops j k/\yf ops j=some u
   .
    obtain⟨j,M,Y⟩:=hw;exact((A1 o Z u hu).1 j M Y).trans (b1 u j M Y).symm
   .
    have hn:∀j,cO ops j k->yf ops j≠some u:=fun j M Y=>hw ⟨j,M,Y⟩;exact((A1 o Z u hu).2 hn).trans (b2 u hu hn).symm
theorem jy (T:∀v,J (fun _=>false) v W):Inv P ops J b9 V G pre post be (Array.replicate ops.size false) be W:=by
 have I:∀k,(Array.replicate ops.size false).getD k false=true->False:=fun k E=>by
  simp only[Array.getD_eq_getD_getElem?,Array.getElem?_replicate]at E
  split at E<;>cases E
 have M:done b9 (Array.replicate ops.size false)=fun _=>false:=funext fun k=>by
  unfold done
  cases E:(Array.replicate ops.size false).getD k false with
  | true=>exact(I k E).elim
  | false=>simp
 exact⟨M▸T _,by simp,fun k E=>(I k E).elim,rfl,rfl,fun _ _=>rfl,fun k E=>(I k E).elim,fun k _ _ E=>(I k E).elim⟩
theorem bW (ht:tidy ops be.tmps.size=true) (mu:cS ops b9 pre post=true)
  (hV:∀k,∃x,V k x) (mt:∀D v v' W,(∀j,D j=true->v j=v' j)->J D v W->J D v' W)
  (hG:∀D v k j W W' x,j≠k->b9 j=true->b9 k=true->J D v W->Sx k W W'->G j x W->G j x W')
  (hP:∀a W c,a.defers=be.defers->bf c W->Q (.panic c) a W)
  (h:RC P ops Q J b9 V G Sx bf pre post 0 ops.toList be) :
  ∀ah a W i,Inv P ops J b9 V G pre post be ah a W->i∈Region.ready .any ops ah->wpOp P ops Q i (fun a' W'=>Inv P ops J b9 V G pre post be (ah.setIfInBounds i true) a' W') a W:=by
 have T:=jP ht;have S:=jQ mu;intro ah a W i I hi;obtain⟨mA,o,ho,my⟩:=mem_ready.1 hi;have mh:i<ops.size:=qV ho;have hd:yf ops i=o.dst:=by unfold yf; rw[ho]; rfl
 have me:∀j∈qI ops i,ah.getD j false=true:=fun j M=>by
  obtain⟨e,he,hb,rfl⟩:=(jR ho).1 M;exact my e he hb
 have hl:∀j,cO ops j i->ah.getD j false=true:=fun j M=>by
  cases M with
  | one h=>exact me j h
  | more h1 h2=>exact I.dU h1 (me _ h2)
 have ma:¬ah.getD i false=true:=fun hc=>by
  have mI:i<ah.size:=I.n▸mh;simp[mI]at mA hc;rw[mA]at hc; cases hc
 obtain⟨xs,hx,mF⟩:∃xs:Nat->Cd,(∀k,V k (xs k))/\∀k,V k (yH ops a k)->xs k=yH ops a k:=by
  classical
  refine⟨fun k=>if V k (yH ops a k)then yH ops a k else(hV k).choose,fun k=> ?_,fun k E=>by simp only[C7 E]⟩
  by_cases E:V k (yH ops a k)
  . simp only[C7 E]; exact E
  . simp only[C8 E]; exact(hV k).choose_spec
 obtain⟨tr,y,h0,hs,hf⟩:=cF xs hx ops.toList 0 be h
 have mC:∀i o,ops[i]? = some o->tr (i+1)=(tr i).put o.dst (y i):=fun i o ho=>by
  have:=(hs i o (by simpa using ho)).1;simpa using this
 have mJ:∀i,i<ops.size->ah.getD i false=true->b9 i=true->y i=yH ops a i:=fun i hi mL X=>by
  have:=(hs i ops[i] (by simp[hi])).2.1;simp only[Nat.zero_add]at this;exact(this X).1.trans (mF i (I.call i mL X).2)
 have mz:∀i o,ops[i]? = some o->b9 i=false->∀D v W,bj post i D->J D v W->aJ b9 G pre i (tr i) D v W->yu P ops o (tr i) (y i) W:=fun i o ho X=>by
  have:=(hs i o (by simpa using ho)).2.2;simp only[Nat.zero_add]at this;exact this X
 obtain⟨A1,A2,-⟩:=Jg S T I h0 mC mJ mz i mh hl
 have A1:∀t,t∈o.looksAt ops->(tr i).tmps[t]? = a.tmps[t]? :=fun t ht=>by
  by_cases hw:∃j,cO ops j i/\yf ops j=some t
  .
   obtain⟨j,M,mg⟩:=hw;exact(A1 o ho t ht).1 j M mg
  .
   rw[(A1 o ho t ht).2 fun j M mg=>hw ⟨j,M,mg⟩,I.old t fun j M mg=> ?_]
   rcases T.look i o t j ho ht mg with h | h
   . exact hw ⟨j,h,mg⟩
   . exact ma (I.dU h M)
 have F:aJ b9 G pre i a (done b9 ah) (yH ops a) W:=fun p hp mB=>by
  obtain⟨h1,h2⟩:=S.fore i p mh hp;refine⟨by unfold done; rw[mB,hl p.1 h1]; rfl,by unfold yH; rw[h2],?_⟩;rw[<- h2];exact(I.call p.1 (hl p.1 h1) mB).1
 have F':aJ b9 G pre i (tr i) (done b9 ah) (yH ops a) W:=yg (fun p hp=>(A2 p hp).symm) F;have eh:=fun cs c=>T.eh i o cs c ho
 have mj:bj post i (done b9 ah):=by
  refine⟨?_,fun j M=> ?_⟩
  .
   unfold done; cases h:ah.getD i false with
   | true=>exact absurd h ma
   | false=>simp
  .
   unfold done; cases h:ah.getD j false with
   | true=>exact absurd (I.dU (S.aft i j mh M) h) ma
   | false=>simp
 have dC:b9 i=true->done b9 (ah.setIfInBounds i true)=upd (done b9 ah) i:=fun hc=>funext fun j=>by
  unfold done upd
  by_cases e:j=i
  . subst e; simp only[xU (show j<ah.size from I.n▸mh),hc]; simp
  . rw[getD_set_ne false (Ne.symm e)]; simp[e]
 have dP:b9 i=false->done b9 (ah.setIfInBounds i true)=done b9 ah:=fun hc=>funext fun j=>by
  unfold done
  by_cases e:j=i
  . subst e; rw[hc]; simp
  . rw[getD_set_ne false (Ne.symm e)]
 -- what stands, whatever i yields, of the frame behind it
 have bM:∀x k,ah.getD k false=true->∀t,yf ops k=some t->(a.put o.dst x).tmps[t]? = a.tmps[t]? :=fun x k E t Z=>
  kV fun e=>ma (T.once i k t (hd.trans e) Z▸E)
 have next:∀x W',J (done b9 (ah.setIfInBounds i true)) (yH ops (a.put o.dst x)) W'->(∀k,ah.getD k false=true->b9 k=true->G k (yH ops a k) W'/\V k (yH ops a k))->(b9 i=true->G i (dv o x) W'/\V i (dv o x))->
   (b9 i=false->∀D v W,bj post i D->J D v W->aJ b9 G pre i a D v W->yu P ops o a x W)->Inv P ops J b9 V G pre post be (ah.setIfInBounds i true) (a.put o.dst x) W':=by
  intro x W' M hg mD mE;have vk:∀k,ah.getD k false=true->yH ops (a.put o.dst x) k=yH ops a k:=fun k E=>qu fun t Z=>bM x k E t Z
  have vi:∀t,o.dst=some t->(a.put o.dst x).tmps[t]? = some x:=fun t ms=>by
   rw[ms]; exact xP (by rw[I.size]; exact T.inb i t (hd.trans ms))
  refine⟨M,by simp[I.n],?_,(qt _ _ _).trans I.defs,(Zt _ _ _).trans I.size,?_,?_,?_⟩
  .
   intro k E j mx
   rcases xZ E with rfl | E
   . exact getD_set_true (me j mx)
   . exact getD_set_true (I.closed k E j mx)
  .
   intro t mw;rw[kV fun e=>mw i (xU (I.n▸mh)) (hd.trans e)];exact I.old t fun k E=>mw k (getD_set_true E)
  .
   intro k E Y
   rcases xZ E with rfl | E
   .
    have:yH ops (a.put o.dst x) k=dv o x:=by
     unfold yH; rw[hd]
     cases hdo:o.dst with
     | none=>simp[at_,dv,hdo]
     | some t=>have:=vi t hdo; rw[hdo]at this; simp[at_,dv,hdo,this]
    rw[this]; exact mD Y
   . rw[vk k E]; exact hg k E Y
  .
   intro k o' t E Y mf Z
   have ag:∀p∈pre k,at_ (a.put o.dst x) p.2=at_ a p.2:=fun p hp=>by
    have mM:k<ops.size:=qV mf;obtain⟨h1,h2⟩:=S.fore k p mM hp
    have mH:ah.getD p.1 false=true:=by
     rcases xZ E with rfl | E
     . exact hl _ h1
     . exact I.dU h1 E
    exact qu fun t mK=>bM x p.1 mH t (h2.trans mK)
   rcases xZ E with rfl | E
   .
    rw[ho]at mf
    injection mf with mf
    subst mf
    have e:yH ops (a.put o.dst x) k=x:=by
     unfold yH; rw[hd];rw[hd]at Z;have:=vi t Z; rw[Z]at this; simp[at_,Z,this]
    refine⟨a,fun u j M mb=>(bM x j (hl j M) u mb).symm,fun u hu hn=>I.old u fun j M mb=> ?_,fun ml mp mr cw mq mn=> ?_,?_⟩
    .
     rcases T.look k o u j ho hu mb with h | h
     . exact hn j h mb
     . exact ma (I.dU h M)
    . rw[e]; exact mE Y ml mp mr cw mq (yg ag mn)
    . exact⟨_,_,W,mj,I.j,yg (fun p hp=>(ag p hp).symm) F⟩
   .
    obtain⟨b,b1,b2,P1,D1,v1,W1,c1,j1,f1⟩:=I.pur k o' t E Y mf Z;refine⟨b,fun u j M mb=>(b1 u j M mb).trans (bM x j (I.dU M E) u mb).symm,b2,fun ml mp mr cw mq mn=> ?_,D1,v1,W1,c1,j1,yg (fun p hp=>(ag p hp).symm) f1⟩;rw[vk k E];exact P1 ml mp mr cw mq (yg ag mn)
 have vx:∀x j,done b9 ah j=true->aQ (yH ops a) i (dv o x) j=yH ops (a.put o.dst x) j:=fun x j M=>by
  unfold done at M;simp only[Bool.and_eq_true]at M;unfold aQ;rw[C8 (show ¬j=i from fun e=>ma (e▸M.2))];exact(qu fun t Z=>bM x j M.2 t Z).symm
 have mG:∀x,yH ops (a.put o.dst x) i=dv o x:=fun x=>by
  unfold yH; rw[hd]
  cases hdo:o.dst with
  | none=>simp[at_,dv,hdo]
  | some t=>
   have:=xP (a:=a) (v:=x) (t:=t) (by rw[I.size]; exact T.inb i t (hd.trans hdo));simp[at_,dv,hdo,this]
 have vC:∀x W',b9 i=true->J (upd (done b9 ah) i) (aQ (yH ops a) i (dv o x)) W'->J (done b9 (ah.setIfInBounds i true)) (yH ops (a.put o.dst x)) W':=fun x W' hc h=>by
  rw[dC hc];refine mt _ _ _ _ (fun j M=> ?_) h
  by_cases e:j=i
  . subst e; unfold aQ; rw[C7 rfl,mG]
  .
   unfold upd at M;simp only[Bool.or_eq_true,beq_iff_eq,e,false_or]at M;exact vx x j M
 have vP:∀x W',b9 i=false->J (done b9 ah) (yH ops a) W'->J (done b9 (ah.setIfInBounds i true)) (yH ops (a.put o.dst x)) W':=fun x W' hc h=>by
  rw[dP hc];refine mt _ _ _ _ (fun j M=> ?_) h;rw[<- vx x j M];unfold aQ;rw[C8];intro e;subst e;unfold done at M;rw[hc]at M; cases M
 unfold wpOp;rw[ho]
 cases X:b9 i with
 | true=>
  have hC:=(hs i o (by simpa using ho)).2.1;simp only[Nat.zero_add]at hC;have hC:=cI eh A1 ((hC X).2 _ _ W mj I.j F');unfold aZ at hC;simp only
  split
  .
   rename_i hw
   rw[C7 hw]at hC;refine .inl (dt hC (fun x W' hx=>next x W' (vC x W' X hx.2.1) (fun k E Y=> ?_) (fun _=>hx.2.2) (fun h=>by rw[X]at h; cases h)) (fun c W' hc=>hP a W' c I.defs hc));exact⟨hG _ _ i k W W' _ (fun e=>ma (e▸E)) Y X I.j hx.1 (I.call k E Y).1,(I.call k E Y).2⟩
  .
   rename_i hw
   rw[C8 hw]at hC;have e:dv o Cf=Cf:=by unfold dv; split<;>rfl
   refine next Cf W (vC Cf W X (e.symm▸hC.1)) (fun k E Y=>I.call k E Y) (fun _=> ?_) (fun h=>by rw[X]at h; cases h);rw[e]; exact hC.2
 | false=>
  have hp:=fun D v W cw M hf=>j5 eh A1 (mz i o ho X D v W cw M (yg (fun p hp=>(A2 p hp).symm) hf));have ks:=hp _ _ W mj I.j F;unfold yu at ks;simp only;have nx:=next (y i) W (vP _ W X I.j) (fun k E Y=>I.call k E Y) (fun h=>by rw[X]at h; cases h) (fun _=>hp)
  split
  .
   rename_i hw
   rw[C7 hw]at ks;refine .inl ?_;unfold Oper.wp
   rcases ks with ks | ⟨ks,hy⟩
   . rw[ks,Oper.upon_value]; exact nx
   . rw[ks,Oper.upon_skip,<- hy]; exact nx
  .
   rename_i hw
   rw[C8 hw]at ks;rw[<- ks]; exact nx
theorem bY (ht:tidy ops be.tmps.size=true) (ma:cS ops b9 pre post=true)
  (hV:∀k,∃x,V k x) (mn:∀D v v' W,(∀j,D j=true->v j=v' j)->J D v W->J D v' W)
  (hG:∀D v k j W W' x,j≠k->b9 j=true->b9 k=true->J D v W->Sx k W W'->G j x W->G j x W')
  (hP:∀a W c,a.defers=be.defers->bf c W->Q (.panic c) a W)
  (h:RC P ops Q J b9 V G Sx bf pre post 0 ops.toList be) :
  ∀ah a W,Inv P ops J b9 V G pre post be ah a W->Region.ready .any ops ah = []->Q .normal a W:=by
 have T:=jP ht;have S:=jQ ma;intro ah a W I hr
 -- nothing is left: all are ah
 have all:∀k,k<ops.size->ah.getD k false=true:=by
  intro k
  induction k using Nat.strongRecOn with
  | _ k ih=>
   intro X
   cases hl:ah.getD k false with
   | true=>rfl
   | false=>
    have:k∈Region.ready .any ops ah:=by
     refine mem_ready.2 ⟨?_,ops[k],by simp[X],fun e he hb=> ?_⟩
     .
      have me:k<ah.size:=I.n▸X;simpa[me]using hl
     .
      have hm:=(jR (ops:=ops) (k:=k) (j:=e.on) (by simp[X])).2 ⟨e,he,hb,rfl⟩;have:=T.back _ _ hm;exact ih e.on this B_
    rw[hr]at this; cases this
 obtain⟨xs,hx,mj⟩:∃xs:Nat->Cd,(∀k,V k (xs k))/\∀k,V k (yH ops a k)->xs k=yH ops a k:=by
  classical
  refine⟨fun k=>if V k (yH ops a k)then yH ops a k else(hV k).choose,fun k=> ?_,fun k X=>by simp only[C7 X]⟩
  by_cases X:V k (yH ops a k)
  . simp only[C7 X]; exact X
  . simp only[C8 X]; exact(hV k).choose_spec
 obtain⟨tr,y,h0,hs,hf⟩:=cF xs hx ops.toList 0 be h
 have it:∀i o,ops[i]? = some o->tr (i+1)=(tr i).put o.dst (y i):=fun i o ho=>by
  have:=(hs i o (by simpa using ho)).1;simpa using this
 have mg:∀i,i<ops.size->ah.getD i false=true->b9 i=true->y i=yH ops a i:=fun i hi mf dP=>by
  have:=(hs i ops[i] (by simp[hi])).2.1;simp only[Nat.zero_add]at this;exact(this dP).1.trans (mj i (I.call i mf dP).2)
 have ml:∀i o,ops[i]? = some o->b9 i=false->∀D v W,bj post i D->J D v W->aJ b9 G pre i (tr i) D v W->yu P ops o (tr i) (y i) W:=fun i o ho dP=>by
  have:=(hs i o (by simpa using ho)).2.2;simp only[Nat.zero_add]at this;exact this dP
 have Y:∀k,k<ops.size->y k=yH ops a k:=fun k X=>(Jg S T I h0 it mg ml k X fun j Z=>all j (by have:=Z.lt T; omega)).2.2 (all k X)
 have E:tr ops.size=a:=by
  have hz:=YL h0 it ops.size (Cl _)
  have mh:∀t,(tr ops.size).tmps[t]? = a.tmps[t]? :=fun t=>by
   obtain⟨s1,s2⟩:=vY T rfl h0 it ops.size (Cl _)
   by_cases hw:∃j,j<ops.size/\yf ops j=some t
   .
    obtain⟨j,Z,M⟩:=hw;rw[s1 j t Z M,Y j Z];unfold yH at_;simp only[M];have hb:t<a.tmps.size:=by rw[I.size]; exact T.inb j t M
    rw[Array.getElem?_eq_getElem hb]; rfl
   . rw[s2 t fun j Z M=>hw ⟨j,Z,M⟩,I.old t fun j Z M=>hw ⟨j,qo M,M⟩]
  have:(tr ops.size).tmps=a.tmps:=Array.ext_getElem? mh;have ks:(tr ops.size).defers=a.defers:=hz.2.trans I.defs.symm
  cases htr:tr ops.size with
  | mk t1 d1=>
   rw[htr]at this ks;simp only at this ks;subst this ks;rfl
 simp only[Nat.zero_add,Array.length_toList]at hf;rw[E]at hf
 exact hf _ _ W (fun j Z=>by unfold done; rw[all j Z]; simp) I.j fun p hp mb=>by
  obtain⟨h1,h2⟩:=S.fin p hp;refine⟨by unfold done; rw[mb,all p.1 h1]; rfl,by unfold yH; rw[h2],?_⟩;rw[<- h2];exact(I.call p.1 (all p.1 h1) mb).1
theorem vQ (hm:P.follows .mixedOrders=true) (M:∀v,J (fun _=>false) v w.drew) (ht:tidy ops be.tmps.size=true) (E:cS ops b9 pre post=true)
  (Y:∀k,∃x,V k x) (I:∀D v X W,(∀j,D j=true->v j=X j)->J D v W->J D X W)
  (T:∀D v k j W W' x,j≠k->b9 j=true->b9 k=true->J D v W->Sx k W W'->G j x W->G j x W')
  (Z:∀a W c,a.defers=be.defers->bf c W->Q (.panic c) a W)
  (h:RC P ops Q J b9 V G Sx bf pre post 0 ops.toList be):(Code.region id ops true).wp P Q be w:=
 Z_ hm (Inv P ops J b9 V G pre post be) (jy M) (bW ht E Y I T Z h) (bY ht E Y I T Z h)
def jz:Op->Bool
 | .nilCheck _ | .go _ | .defer _ | .send _ _ | .recv _ _ _ | .select _ _=>false
 | .call c=>match c.callee with
  | .builtin .len | .builtin .cap | .builtin .min | .builtin .max | .builtin .append | .builtin .copy=>true
  | _=>false
 | _=>true
theorem UW {s:Sem Cd} {P:Program} (h:Sem.run P (do pure (Next.value (<- s))) W = .ok r W'):(∃v,r = .value v)\/r = .skip:=by
 rw[Sem.run_bind]at h
 cases hs:Sem.run P s W with
 | ok v W1=>
  rw[hs]at h;simp only[Result.andThen_ok,Sem.run_pure,Result.ok.injEq]at h;exact .inl ⟨v,h.1.symm⟩
 | halt x W1=>rw[hs]at h; cases h
theorem Gg {m:Sem Bool} {f:Bool->Cd} {P:Program} (h:Sem.run P (do let b <- m; pure (Next.value (f b))) W = .ok r W'):(∃v,r = .value v)\/r = .skip:=by
 rw[Sem.run_bind]at h
 cases hs:Sem.run P m W with
 | ok v W1=>
  rw[hs]at h;simp only[Result.andThen_ok,Sem.run_pure,Result.ok.injEq]at h;exact .inl ⟨_,h.1.symm⟩
 | halt x W1=>rw[hs]at h; cases h
theorem Gh {s:Sem Unit} {P:Program} (h:Sem.run P (do s; pure Next.skip) W = .ok r W'):(∃v,r = .value v)\/r = .skip:=by
 rw[Sem.run_bind]at h
 cases hs:Sem.run P s W with
 | ok v W1=>
  rw[hs]at h;simp only[Result.andThen_ok,Sem.run_pure,Result.ok.injEq]at h;exact .inr h.1.symm
 | halt x W1=>rw[hs]at h; cases h
theorem Yl {P:Program} (E:jz o.op=true) (h:(execOp ρ o).run P W = .ok r W'):(∃v,r = .value v)\/r = .skip:=by
 obtain⟨dst,Z,T,X,I,M⟩:=o
 cases Z
 case call c=>
  obtain⟨callee,args,Y⟩:=c
  cases callee with
  | value f=>cases E
  | invoke x m=>cases E
  | builtin b=>cases b<;>first | (cases E; done) | exact UW h
 all_goals first
  | (cases E; done)
  | exact UW h
  | exact Gh h
  | (simp only[execOp,Sem.run_pure,Result.ok.injEq]at h; exact .inl ⟨_,h.1.symm⟩)
  | (simp only[execOp]at h; exact Gg h)
theorem bm {k:Nat} (a':Act) (x:Cd) (hc:b9 k=false) (hst:jz o.op=true) (hw:Region.wanted o (yielded ops a.tmps)=true)
  (h:∀D v W,bj post k D->J D v W->aJ b9 G pre k a D v W->∀K:Act->Cc->Prop,Hid (K a' W)->o.wp P a W K (fun _ _ _=>False)) (t:Tmp) (hd:o.dst=some t) (ht:t<a.tmps.size) (X:a'=a.put o.dst x)
  (M:RC P ops Q J b9 V G Sx bf pre post (k+1) rest a'):RC P ops Q J b9 V G Sx bf pre post k (o::rest) a:=by
 unfold RC;rw[C8 (by rw[hc]; simp)];refine⟨x,fun D v W Z Y hf=> ?_,X▸M⟩;have h:=h D v W Z Y hf (fun T W'=>T=a'/\W'=W) ⟨rfl,rfl⟩;unfold yu;rw[C7 hw]
 have I:∀v,a.put o.dst v=a'->v=x:=fun v hv=>by
  rw[X,hd]at hv;have E:=xP (v:=v) ht;rw[hv,xP ht]at E
  injection E with E
  exact E.symm
 unfold Oper.wp at h
 cases M:(execOp a.eval o).run P W with
 | ok r W'=>
  rw[M]at h
  rcases Yl hst M with⟨v,rfl⟩ | rfl
  .
   rw[Oper.upon_value]at h;obtain⟨E,rfl⟩:=h;exact .inl (by rw[I v E])
  .
   rw[Oper.upon_skip]at h;obtain⟨E,rfl⟩:=h;exact .inr ⟨rfl,(I _ E).symm⟩
 | halt r W'=>
  rw[M]at h
  cases r<;>exact h.elim
theorem RP {k:Nat} (hc:b9 k=false) (hst:jz o.op=true) (hw:Region.wanted o (yielded ops a.tmps)=true)
  (t:Tmp) (hd:o.dst=some t) (ht:Nat.ble (t+1) a.tmps.size=true) (h:∀D v W,bj post k D->J D v W->aJ b9 G pre k a D v W->∀K:Act->Cc->Prop,Hid (K a' W)->o.wp P a W K (fun _ _ _=>False)) (E:a'=a.put o.dst x)
  (I:RC P ops Q J b9 V G Sx bf pre post (k+1) rest a'):RC P ops Q J b9 V G Sx bf pre post k (o::rest) a:=bm a' x hc hst hw h t hd (Ca ht) E I
theorem aK {k:Nat} {o:Oper} {a:Act} {x:Cd} (t:Tmp) (M:RC P ops Q J b9 V G Sx bf pre post (k+1) rest a') (hc:b9 k=false:=by exact rfl) (hst:jz o.op=true:=by exact rfl) (hw:Region.wanted o (yielded ops a.tmps)=true:=by exact rfl) (hd:o.dst=some t:=by exact rfl) (ht:Nat.ble (t+1) a.tmps.size=true:=by exact rfl)
  (h:∀D v W,bj post k D->J D v W->aJ b9 G pre k a D v W->∀K:Act->Cc->Prop,Hid (K a' W)->o.wp P a W K (fun _ _ _=>False):=by (intro D X W' hc T Y K E; go_step; exact E.out)) (I:a'=a.put o.dst x:=by exact rfl):RC P ops Q J b9 V G Sx bf pre post k (o::rest) a:=RP hc hst hw t hd ht h I M
theorem aV {k:Nat} {o:Oper} {a:Act} {x:Cd} (t:Tmp) (φ : ∀D v W,J D v W->Φ W) (T:RC P ops Q J b9 V G Sx bf pre post (k+1) rest a') (hc:b9 k=false:=by exact rfl) (hst:jz o.op=true:=by exact rfl) (hw:Region.wanted o (yielded ops a.tmps)=true:=by exact rfl) (hd:o.dst=some t:=by exact rfl) (ht:Nat.ble (t+1) a.tmps.size=true:=by exact rfl)
  (h:∀W,Φ W->∀K:Act->World->Prop,Hid (K a' W)->o.wp P a W K (fun _ _ _=>False):=by (intro W' X K E; go_step; exact E.out)) (M:a'=a.put o.dst x:=by exact rfl):RC P ops Q J b9 V G Sx bf pre post k (o::rest) a:=RP hc hst hw t hd ht (fun D v W _ I _ K E=>h W (φ D v W I) K E) M T
theorem fh {k:Nat} {o:Oper} {a:Act} {x:Cd} (M:ops=L) (t:Tmp) (φ : ∀D v W,J D v W->Φ W) (X:RC P ops Q J b9 V G Sx bf pre post (k+1) rest a') (hc:b9 k=false:=by exact rfl) (hst:jz o.op=true:=by exact rfl) (hw:Region.wanted o (yielded L a.tmps)=true:=by exact rfl) (hd:o.dst=some t:=by exact rfl) (ht:Nat.ble (t+1) a.tmps.size=true:=by exact rfl)
  (h:∀W,Φ W->∀K:Act->World->Prop,Hid (K a' W)->o.wp P a W K (fun _ _ _=>False):=by (intro W' Y K E; go_step; exact E.out)) (T:a'=a.put o.dst x:=by exact rfl):RC P ops Q J b9 V G Sx bf pre post k (o::rest) a:=RP hc hst (by rw[M]; exact hw) t hd ht (fun D v W _ I _ K E=>h W (φ D v W I) K E) T X
theorem cJ {k:Nat} {o:Oper} {a:Act} {x:Cd} (I:ops=L) (t:Tmp) (T:RC P ops Q J b9 V G Sx bf pre post (k+1) rest a') (hc:b9 k=false:=by exact rfl) (hst:jz o.op=true:=by exact rfl) (hw:Region.wanted o (yielded L a.tmps)=true:=by exact rfl) (hd:o.dst=some t:=by exact rfl) (ht:Nat.ble (t+1) a.tmps.size=true:=by exact rfl)
  (h:∀W,∀K:Act->World->Prop,Hid (K a' W)->o.wp P a W K (fun _ _ _=>False):=by (intro W' K E; go_step; exact E.out)) (M:a'=a.put o.dst x:=by exact rfl):RC P ops Q J b9 V G Sx bf pre post k (o::rest) a:=RP hc hst (by rw[I]; exact hw) t hd ht (fun D v W _ X _ K E=>h W K E) M T
theorem cM {k:Nat} (hc:b9 k=false) (hw:Region.wanted o (yielded ops a.tmps)=false)
  (E:RC P ops Q J b9 V G Sx bf pre post (k+1) rest (a.put o.dst Cf)):RC P ops Q J b9 V G Sx bf pre post k (o::rest) a:=by
 unfold RC;rw[C8 (by rw[hc]; simp)];refine⟨Cf,fun D v W _ _ _=> ?_,E⟩;unfold yu;rw[C8 (by rw[hw]; simp)]
theorem aB {k:Nat} {o:Oper} {rest:List Oper} {a:Act} (hc:b9 k=true) (hb:∀t,o.dst=some t->t<a.tmps.size) (hw:Region.wanted o (yielded ops a.tmps)=true)
  (h:∀D v W,bj post k D->J D v W->aJ b9 G pre k a D v W->∀K:Act->Cc->Prop,Hid (∀x W',Sx k W W'->J (upd D k) (aQ v k (dv o x)) W'->G k (dv o x) W'->V k (dv o x)->K (a.put o.dst x) W')->o.wp P a W K (fun e _ W'=>match e with | .panic c=>bf c W' | _=>False))
  (X:∀x,V k x->RC P ops Q J b9 V G Sx bf pre post (k+1) rest (a.put o.dst x)):RC P ops Q J b9 V G Sx bf pre post k (o::rest) a:=by
 unfold RC;rw[C7 hc];refine⟨fun D v W cw hj hf=> ?_,X⟩;have h:=h D v W cw hj hf (fun dP W'=>∃x,dP=a.put o.dst x/\Sx k W W'/\J (upd D k) (aQ v k (dv o x)) W'/\G k (dv o x) W'/\V k (dv o x)) (fun x W' E Z Y h4=>⟨x,rfl,E,Z,Y,h4⟩);unfold aZ;rw[C7 hw]
 have I:∀u W',(∃x,a.put o.dst u=a.put o.dst x/\Sx k W W'/\J (upd D k) (aQ v k (dv o x)) W'/\G k (dv o x) W'/\V k (dv o x))->Sx k W W'/\J (upd D k) (aQ v k (dv o u)) W'/\G k (dv o u) W'/\V k (dv o u):=fun u W' ⟨x,hv,E,Y,Z⟩=>by
  have:dv o u=dv o x:=by
   unfold dv
   cases hd:o.dst with
   | none=>rfl
   | some t=>
    rw[hd]at hv;have E:=xP (v:=u) (hb t hd);rw[hv,xP (hb t hd)]at E
    injection E with E
    exact E.symm
  rw[this];exact⟨E,Y,Z⟩
 unfold Oper.wp at h;unfold Qj
 cases X:(execOp a.eval o).run P W with
 | ok r W'=>
  rw[X]at h
  cases r
  case value v=>exact I v W' h
  case skip=>exact I Cf W' h
  case enter f args=>
   rw[Oper.upon_enter]at h;refine Calls.mono h fun e T M=> ?_
   cases e with
   | returned v=>exact I v T M
   | panicked c=>exact M
   | outgrown=>obtain⟨_,_,M⟩:=M; exact M.elim
  case defer d=>
   rw[Oper.upon_defer]at h;obtain⟨x,h,-⟩:=h;have E:=congrArg Act.defers h;rw[qt,qt]at E;exact absurd (congrArg List.length E) C3
  case row row args=>
   rw[Oper.upon_row]at h;exact Rows.mono h fun v T M=>I v T M
  all_goals exact h.elim
 | halt r W'=>
  rw[X]at h
  cases r<;>exact h
theorem sk {k:Nat} (E:ops=L) (I:RC P ops Q J b9 V G Sx bf pre post (k+1) rest (a.put o.dst Cf)) (hc:b9 k=false:=by exact rfl) (hw:Region.wanted o (yielded L a.tmps)=false:=by exact rfl):RC P ops Q J b9 V G Sx bf pre post k (o::rest) a:=cM hc (by rw[E]; exact hw) I
theorem dE {k:Nat} {o:Oper} {rest:List Oper} {a:Act} (h:∀D v W,bj post k D->J D v W->aJ b9 G pre k a D v W->∀K:Act->Cc->Prop,Hid (∀x W',Sx k W W'->J (upd D k) (aQ v k (dv o x)) W'->G k (dv o x) W'->V k (dv o x)->K (a.put o.dst x) W')->o.wp P a W K (fun e _ W'=>match e with | .panic c=>bf c W' | _=>False))
  (I:∀x,V k x->RC P ops Q J b9 V G Sx bf pre post (k+1) rest (a.put o.dst x)) (hc:b9 k=true:=by exact rfl) (E:∀t,o.dst=some t->t<a.tmps.size:=by (intro t ht; cases ht)) (hw:Region.wanted o (yielded ops a.tmps)=true:=by exact rfl):RC P ops Q J b9 V G Sx bf pre post k (o::rest) a:=aB hc E hw h I
/-- operations that no one asks for, many at once -/
def Hb (b9:Nat->Bool) (L:Array Oper):Nat->Nat->List Oper->Act->Bool
 | 0,_,_,_=>true
 | _+1,_,[],_=>false
 | m+1,k,o::rest,a=> !b9 k&&(!Region.wanted o (yielded L a.tmps)&&Hb b9 L m (k+1) rest (a.put o.dst Cf))
def Gi:Nat->List Oper->Act->Act
 | 0,_,a=>a
 | _+1,[],a=>a
 | m+1,o::rest,a=>Gi m rest (a.put o.dst Cf)
theorem aD {k:Nat} (h:a=b) (E:RC P ops Q J b9 V G Sx bf pre post k l b):RC P ops Q J b9 V G Sx bf pre post k l a:=h▸E
theorem cW {k:Nat} (h:a=⟨#[x0,x1,x2,x3,x4,x5,x6,x7,x8,x9,d9,ci,dc,cx,dk,cN,cy,bq,cY,ce,cg,bt,dd,br],d⟩) (E:RC P ops Q J b9 V G Sx bf pre post k l ⟨#[x0,x1,x2,x3,x4,x5,x6,x7,x8,x9,d9,ci,dc,cx,dk,cN,cy,bq,cY,ce,cg,bt,dd,br],d⟩):RC P ops Q J b9 V G Sx bf pre post k l a:=h▸E
theorem dR {k:Nat} (h:a=⟨#[x0,x1,x2,x3,x4,x5,x6,x7,x8,x9,d9,ci,dc,cx,dk,cN,cy,bq,cY,ce,cg,bt,dd,br,f7,eM,dy,dx,er,fe,ec,fl,ek,fm,f9,em,eW,fd,dl,f8],d⟩) (E:RC P ops Q J b9 V G Sx bf pre post k l ⟨#[x0,x1,x2,x3,x4,x5,x6,x7,x8,x9,d9,ci,dc,cx,dk,cN,cy,bq,cY,ce,cg,bt,dd,br,f7,eM,dy,dx,er,fe,ec,fl,ek,fm,f9,em,eW,fd,dl,f8],d⟩):RC P ops Q J b9 V G Sx bf pre post k l a:=h▸E
theorem cV {k:Nat} (h:a=⟨#[x0,x1,x2,x3,x4,x5,x6,x7,x8,x9,d9,ci,dc,cx,dk,cN,cy,bq,cY,ce,cg,bt,dd,br,f7,eM,dy,dx,er,fe,ec,fl,ek,fm,f9,em,eW,fd,dl,f8,gd,fZ,fX,fV,gj,gg,fY,gh,g8,fW,g9,gi],d⟩) (E:RC P ops Q J b9 V G Sx bf pre post k l ⟨#[x0,x1,x2,x3,x4,x5,x6,x7,x8,x9,d9,ci,dc,cx,dk,cN,cy,bq,cY,ce,cg,bt,dd,br,f7,eM,dy,dx,er,fe,ec,fl,ek,fm,f9,em,eW,fd,dl,f8,gd,fZ,fX,fV,gj,gg,fY,gh,g8,fW,g9,gi],d⟩):RC P ops Q J b9 V G Sx bf pre post k l a:=h▸E
theorem dQ {k:Nat} (h:a=⟨#[x0,x1,x2,x3,x4,x5,x6,x7,x8,x9,d9,ci,dc,cx,dk,cN,cy,bq,cY,ce,cg,bt,dd,br,f7,eM,dy,dx,er,fe,ec,fl,ek,fm,f9,em,eW,fd,dl,f8,gd,fZ,fX,fV,gj,gg,fY,gh,g8,fW,g9,gi,iR,iY,iZ,iX,iP,iU,iS,iT,iW,iQ],d⟩) (E:RC P ops Q J b9 V G Sx bf pre post k l ⟨#[x0,x1,x2,x3,x4,x5,x6,x7,x8,x9,d9,ci,dc,cx,dk,cN,cy,bq,cY,ce,cg,bt,dd,br,f7,eM,dy,dx,er,fe,ec,fl,ek,fm,f9,em,eW,fd,dl,f8,gd,fZ,fX,fV,gj,gg,fY,gh,g8,fW,g9,gi,iR,iY,iZ,iX,iP,iU,iS,iT,iW,iQ],d⟩):RC P ops Q J b9 V G Sx bf pre post k l a:=h▸E
theorem dJ {k:Nat} (h:a=⟨#[x0,x1,x2,x3,x4,x5,x6,x7,x8,x9,d9,ci,dc,cx,dk,cN,cy,bq,cY,ce,cg,bt,dd,br,f7,eM,dy,dx,er,fe,ec,fl,ek,fm,f9,em,eW,fd,dl,f8,gd,fZ,fX,fV,gj,gg,fY,gh,g8,fW,g9,gi,iR,iY,iZ,iX,iP,iU,iS,iT,iW,iQ,jd,jb,k8,kw,ka,kc,k7,k6],d⟩) (E:RC P ops Q J b9 V G Sx bf pre post k l ⟨#[x0,x1,x2,x3,x4,x5,x6,x7,x8,x9,d9,ci,dc,cx,dk,cN,cy,bq,cY,ce,cg,bt,dd,br,f7,eM,dy,dx,er,fe,ec,fl,ek,fm,f9,em,eW,fd,dl,f8,gd,fZ,fX,fV,gj,gg,fY,gh,g8,fW,g9,gi,iR,iY,iZ,iX,iP,iU,iS,iT,iW,iQ,jd,jb,k8,kw,ka,kc,k7,k6],d⟩):RC P ops Q J b9 V G Sx bf pre post k l a:=h▸E
theorem cT {k:Nat} (h:a=⟨#[x0,x1,x2,x3,x4,x5,x6,x7,x8,x9,d9,ci,dc,cx,dk,cN,cy,bq,cY,ce,cg,bt,dd,br,f7,eM,dy,dx,er,fe,ec,fl,ek,fm,f9,em,eW,fd,dl,f8,gd,fZ,fX,fV,gj,gg,fY,gh,g8,fW,g9,gi,iR,iY,iZ,iX,iP,iU,iS,iT,iW,iQ,jd,jb,k8,kw,ka,kc,k7,k6,lW,lM,l6,lw,lg,lI,lP,lH,lE,lK,lG,m8,lJ,l9,l3,lO,m7,lQ,lN,lk,lF,lC,ln,lh,l8,lf,lZ,lj,lX,lY,gG,gY,gD,gn,gL,iy,gI,iB,h9,iJ,gN,gz,gW,gO,gT,gF,ig,gZ,gX,iq,gE,gV,gH,iI,ip,gt,gQ,gk,hZ,iz,iu,iC,iD,ik,iL,gr,ij,gK,iF,gp,iA,ir,gJ,gM,iM,gC,iK,iH,gB,gA,iG,iN,gR,iO,iE,iv,gP],d⟩) (E:RC P ops Q J b9 V G Sx bf pre post k l ⟨#[x0,x1,x2,x3,x4,x5,x6,x7,x8,x9,d9,ci,dc,cx,dk,cN,cy,bq,cY,ce,cg,bt,dd,br,f7,eM,dy,dx,er,fe,ec,fl,ek,fm,f9,em,eW,fd,dl,f8,gd,fZ,fX,fV,gj,gg,fY,gh,g8,fW,g9,gi,iR,iY,iZ,iX,iP,iU,iS,iT,iW,iQ,jd,jb,k8,kw,ka,kc,k7,k6,lW,lM,l6,lw,lg,lI,lP,lH,lE,lK,lG,m8,lJ,l9,l3,lO,m7,lQ,lN,lk,lF,lC,ln,lh,l8,lf,lZ,lj,lX,lY,gG,gY,gD,gn,gL,iy,gI,iB,h9,iJ,gN,gz,gW,gO,gT,gF,ig,gZ,gX,iq,gE,gV,gH,iI,ip,gt,gQ,gk,hZ,iz,iu,iC,iD,ik,iL,gr,ij,gK,iF,gp,iA,ir,gJ,gM,iM,gC,iK,iH,gB,gA,iG,iN,gR,iO,iE,iv,gP],d⟩):RC P ops Q J b9 V G Sx bf pre post k l a:=h▸E
theorem bL {k:Nat} {nh mN mF og pF mh oj mE pE mg oQ oF nk pz oI mt oO nT n7 mH M pe mZ po nJ pn mq oJ oY nK mj nX oP nW mx pf n6 mO nG nF oK mC oM oZ pc oH ne nM pB nz pg mA mU n9 ml mz mp ph X ms pi mJ oy pA nd ks I oh oo T nL mb mT mf mr mB oN n5 oT nH mu it nC mX Y pC nY mQ mP my mR pu mK Z mw pD mS nn oe pw oC pd nP nO nj oV mW n8 E nE nZ nN nI mG mY me oW ma nR dP mM nw mD mn nS ni oE mI nv mL nc nQ mV pj:Cd} (h:a=⟨#[x0,x1,x2,x3,x4,x5,x6,x7,x8,x9,d9,ci,dc,cx,dk,cN,cy,bq,cY,ce,cg,bt,dd,br,f7,eM,dy,dx,er,fe,ec,fl,ek,fm,f9,em,eW,fd,dl,f8,gd,fZ,fX,fV,gj,gg,fY,gh,g8,fW,g9,gi,iR,iY,iZ,iX,iP,iU,iS,iT,iW,iQ,jd,jb,k8,kw,ka,kc,k7,k6,lW,lM,l6,lw,lg,lI,lP,lH,lE,lK,lG,m8,lJ,l9,l3,lO,m7,lQ,lN,lk,lF,lC,ln,lh,l8,lf,lZ,lj,lX,lY,gG,gY,gD,gn,gL,iy,gI,iB,h9,iJ,gN,gz,gW,gO,gT,gF,ig,gZ,gX,iq,gE,gV,gH,iI,ip,gt,gQ,gk,hZ,iz,iu,iC,iD,ik,iL,gr,ij,gK,iF,gp,iA,ir,gJ,gM,iM,gC,iK,iH,gB,gA,iG,iN,gR,iO,iE,iv,gP,nh,mN,mF,og,pF,mh,oj,mE,pE,mg,oQ,oF,nk,pz,oI,mt,oO,nT,n7,mH,M,pe,mZ,po,nJ,pn,mq,oJ,oY,nK,mj,nX,oP,nW,mx,pf,n6,mO,nG,nF,oK,mC,oM,oZ,pc,oH,ne,nM,pB,nz,pg,mA,mU,n9,ml,mz,mp,ph,X,ms,pi,mJ,oy,pA,nd,ks,I,oh,oo,T,nL,mb,mT,mf,mr,mB,oN,n5,oT,nH,mu,it,nC,mX,Y,pC,nY,mQ,mP,my,mR,pu,mK,Z,mw,pD,mS,nn,oe,pw,oC,pd,nP,nO,nj,oV,mW,n8,E,nE,nZ,nN,nI,mG,mY,me,oW,ma,nR,dP,mM,nw,mD,mn,nS,ni,oE,mI,nv,mL,nc,nQ,mV,pj],d⟩) (hr:RC P ops Q J b9 V G Sx bf pre post k l ⟨#[x0,x1,x2,x3,x4,x5,x6,x7,x8,x9,d9,ci,dc,cx,dk,cN,cy,bq,cY,ce,cg,bt,dd,br,f7,eM,dy,dx,er,fe,ec,fl,ek,fm,f9,em,eW,fd,dl,f8,gd,fZ,fX,fV,gj,gg,fY,gh,g8,fW,g9,gi,iR,iY,iZ,iX,iP,iU,iS,iT,iW,iQ,jd,jb,k8,kw,ka,kc,k7,k6,lW,lM,l6,lw,lg,lI,lP,lH,lE,lK,lG,m8,lJ,l9,l3,lO,m7,lQ,lN,lk,lF,lC,ln,lh,l8,lf,lZ,lj,lX,lY,gG,gY,gD,gn,gL,iy,gI,iB,h9,iJ,gN,gz,gW,gO,gT,gF,ig,gZ,gX,iq,gE,gV,gH,iI,ip,gt,gQ,gk,hZ,iz,iu,iC,iD,ik,iL,gr,ij,gK,iF,gp,iA,ir,gJ,gM,iM,gC,iK,iH,gB,gA,iG,iN,gR,iO,iE,iv,gP,nh,mN,mF,og,pF,mh,oj,mE,pE,mg,oQ,oF,nk,pz,oI,mt,oO,nT,n7,mH,M,pe,mZ,po,nJ,pn,mq,oJ,oY,nK,mj,nX,oP,nW,mx,pf,n6,mO,nG,nF,oK,mC,oM,oZ,pc,oH,ne,nM,pB,nz,pg,mA,mU,n9,ml,mz,mp,ph,X,ms,pi,mJ,oy,pA,nd,ks,I,oh,oo,T,nL,mb,mT,mf,mr,mB,oN,n5,oT,nH,mu,it,nC,mX,Y,pC,nY,mQ,mP,my,mR,pu,mK,Z,mw,pD,mS,nn,oe,pw,oC,pd,nP,nO,nj,oV,mW,n8,E,nE,nZ,nN,nI,mG,mY,me,oW,ma,nR,dP,mM,nw,mD,mn,nS,ni,oE,mI,nv,mL,nc,nQ,mV,pj],d⟩):RC P ops Q J b9 V G Sx bf pre post k l a:=h▸hr
theorem aH {k:Nat} (h:∀D v W,(∀j,j<k->D j=b9 j)->J D v W->aJ b9 G pre k a D v W->Q .normal a W):RC P ops Q J b9 V G Sx bf pre post k [] a:=h
theorem aM (J:(Nat->Bool)->(Nat->Cd)->Cc->Prop) (b9:Nat->Bool) (V:Nat->Cd->Prop) (G:Nat->Cd->Cc->Prop) (Sx:Nat->Cc->Cc->Prop) (bf:List PanicEntry->Cc->Prop) (pre:Nat->List (Nat×Option Tmp)) (post:Nat->List Nat)
  (hm:P.follows .mixedOrders=true) (ht:tidy ops be.tmps.size=true) (I:cS ops b9 pre post=true)
  (hV:∀k,∃x,V k x) (M:∀v,J (fun _=>false) v w.drew) (T:∀D v X W,(∀j,D j=true->v j=X j)->J D v W->J D X W)
  (Z:∀D v k j W W' x,j≠k->b9 j=true->b9 k=true->J D v W->Sx k W W'->G j x W->G j x W')
  (hP:∀a W c,a.defers=be.defers->bf c W->Q (.panic c) a W)
  (h:∀E Y,E=ops->(∀a W,Q .normal a W->Y .normal a W)->RC P E Y J b9 V G Sx bf pre post 0 ops.toList be):(Code.region id ops true).wp P Q be w:=
 vQ hm M ht I hV T Z hP (h ops Q rfl fun _ _ h=>h)
theorem bz (J:Nat->(Nat->Bool)->(Nat->Cd)->Cc->Prop) (b9:Nat->Bool) (V:Nat->Cd->Prop) (G:Nat->Cd->Cc->Prop) (Sx:Nat->Cc->Cc->Prop) (bf:List PanicEntry->Cc->Prop) (pre:Nat->List (Nat×Option Tmp)) (post:Nat->List Nat)
  (Z:P.follows .mixedOrders=true) (ht:tidy ops be.tmps.size=true) (M:cS ops b9 pre post=true) (Y:∀k,∃x,V k x)
  (h:∀I,Hid (I=w.heap.size)->(∀v,J I (fun _=>false) v w.drew)/\(∀D v T W,(∀j,D j=true->v j=T j)->J I D v W->J I D T W)/\
   (∀D v k j W W' x,j≠k->b9 j=true->b9 k=true->J I D v W->Sx k W W'->G j x W->G j x W')/\(∀a W c,a.defers=be.defers->bf c W->Q (.panic c) a W)/\
   ∀E X,E=ops->(∀a W,Q .normal a W->X .normal a W)->RC P E X (J I) b9 V G Sx bf pre post 0 ops.toList be):(Code.region id ops true).wp P Q be w:=
 let ⟨h1,h2,h3,h4,h5⟩:=h _ rfl
 aM (J w.heap.size) b9 V G Sx bf pre post Z ht M Y h1 h2 h3 h4 h5
end
def inl (l:List Nat) (k:Nat):Bool:=l.contains k
def ge:List (Nat×Cd)->Nat->Cd->Prop
 | [],_,_=>True
 | (i,e)::r,k,x=>if k=i then x=e else ge r k x
theorem bX (l:List (Nat×Cd)) (k:Nat):∃x,ge l k x:=by
 induction l with
 | nil=>exact⟨Cf,trivial⟩
 | cons p r ih=>
  obtain⟨i,e⟩:=p;unfold ge
  by_cases h:k=i
  . exact⟨e,by rw[C7 h]⟩
  . obtain⟨x,E⟩:=ih; exact⟨x,by rw[C8 h]; exact E⟩
theorem dZ {P:Program} {ops:Array Oper} {Q:Exit->Act->Cc->Prop} {J:(Nat->Bool)->(Nat->Cd)->Cc->Prop} {b9:Nat->Bool} {l:List (Nat×Cd)} {G:Nat->Cd->Cc->Prop} {Sx:Nat->Cc->Cc->Prop} {bf:List PanicEntry->Cc->Prop} {pre:Nat->List (Nat×Option Tmp)} {post:Nat->List Nat}
  {k:Nat} {o:Oper} {rest:List Oper} {a:Act} (e:Cd) (T:∀x,ge l k x->x=e) (hc:b9 k=true) (M:∀t,o.dst=some t->t<a.tmps.size) (hw:Region.wanted o (yielded ops a.tmps)=true)
  (h:∀D v W,bj post k D->J D v W->aJ b9 G pre k a D v W->∀K:Act->Cc->Prop,Hid (∀x W',Sx k W W'->J (upd D k) (aQ v k (dv o x)) W'->G k (dv o x) W'->ge l k (dv o x)->K (a.put o.dst x) W')->o.wp P a W K (fun e _ W'=>match e with | .panic c=>bf c W' | _=>False))
  (E:RC P ops Q J b9 (ge l) G Sx bf pre post (k+1) rest (a.put o.dst e)):RC P ops Q J b9 (ge l) G Sx bf pre post k (o::rest) a:=
 aB hc M hw h fun x I=>T x I▸E
def gv:List (Nat×(Cd->Prop))->Nat->Cd->Prop
 | [],_,_=>True
 | (i,e)::r,k,x=>if k=i then e x else gv r k x
theorem bk (l:List (Nat×(Cd->Prop))) (h:∀p∈l,∃x,p.2 x) (k:Nat):∃x,gv l k x:=by
 induction l with
 | nil=>exact⟨Cf,trivial⟩
 | cons p r ih=>
  obtain⟨i,e⟩:=p;unfold gv
  by_cases hk:k=i
  . obtain⟨x,E⟩:=h _ (.head _); exact⟨x,by rw[C7 hk]; exact E⟩
  . obtain⟨x,E⟩:=ih fun p I=>h p (.tail _ I); exact⟨x,by rw[C8 hk]; exact E⟩
def pl {α : Type} : List (Nat×List α)->Nat->List α
 | [],_=> []
 | (i,e)::r,k=>if k=i then e else pl r k
def Any (_ _:Cc):Prop:=True
theorem any : Any W W':=trivial
def aU (_:Nat) (_:Cd) (_:Cc):Prop:=True
theorem none_ {k:Nat} : aU k x W:=trivial
def eh (b:Bool) (x y:Cd):Cd:=match b with | false=>x | true=>y
theorem dw (h:g<n):Value.pointer (some ⟨n,0,none⟩)≠ .pointer (some ⟨g,0,none⟩):=by
 intro e; injection e with e; injection e with e; injection e with e; omega
theorem du {a b:Nat} (h:Value.slice (some ⟨n,0,none⟩) a b = Cq (some ⟨g,0,none⟩) a b):n=g:=by
 injection h with e; injection e with e; injection e with e
theorem cL (h:Value.pointer (some ⟨n,0,none⟩) = .pointer (some ⟨g,0,none⟩)):n=g:=by
 injection h with e; injection e with e; injection e with e
end aj
end Go.Proofs.YtffmbepfbienaaaGreat
