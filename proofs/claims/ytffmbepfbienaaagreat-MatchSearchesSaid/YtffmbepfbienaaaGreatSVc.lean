import Derived.Test.YtffmbepfbienaaaGreatSVa
import Derived.Great.BuildSlice
import Derived.Deep.DeepAppendWide
import Derived.Test.YtffmbepfbienaaaGreatSQj
import Derived.Lib.SmallJoins
import Derived.Deep.Upon
import Derived.Deep.SlicePairs
set_option linter.unusedVariables false
set_option linter.unusedSimpArgs false
set_option maxHeartbeats 6400000
set_option maxRecDepth 1000000
open Go.Value renaming slice->Ex,bool->Ez,int->Ey,agg->Ej,pointer->Ek,tuple->Ev
open Go.IntKind renaming i64->Ew
open Go.Ending renaming returned->Eh
open Go.Proofs.Tryz renaming prog->Ec
open Go renaming Calls->Ed,World->Ee,Value->Ef,TypeId->Ei,undef->Em
open Nat renaming le_refl->Eo,lt_or_ge->Ep
open Go.World renaming cell?->Er
open Go.RowKit.Below renaming refl->Et
namespace Go.Proofs.YtffmbepfbienaaaGreat
open Go.RowKit
variable {CA cs:Array Ef} {i n t:Nat} {R:Nat->Nat->Option Rat} {r:Nat->Option Rat} {v:Ef}
theorem FB.ak {w:Ee} {o:Option Rat} (h:FB w v o):∃a s n c b t m d,v = Ej #[Ez a,Ex s n c,Ez b,Ex t m d]:=by
 cases o with
 | none=>exact eJ.ak h
 | some r=>exact FR.ak h
def YT (b:Bool):Int:=if b then 0 else 8
theorem ZN {o:Option Rat} (w:Ee) (h:FB w v o):Ed Ec 58 #[v] w fun e w'=>e = Eh (Ey Ew (YT o.isSome))/\zf w w':=by
 cases o with
 | none=>exact J9 w h
 | some r=>exact xK w h
theorem vU {o:Option Rat} (w:Ee) (h:FB w v o):Ed Ec 86 #[v] w fun e w'=>e = Eh (Ey Ew (YT o.isSome))/\zf w w':=by
 cases o with
 | none=>exact Q9 w h
 | some r=>exact ZK w h
def kj:Option Rat->Bool
 | some r=> !decide (r<0)
 | none=>false
theorem FB.neg {w:Ee} {a b:Bool} {s t:Ef} {o:Option Rat} (h:FB w (Ej #[Ez a,s,Ez b,t]) o):kj o=(o.isSome && !a):=by
 cases o with
 | none=>rfl
 | some r=>
  obtain⟨_,_,_,_,_,_,e,_⟩:=FR.bW h;simp only[Value.agg.injEq,Array.mk.injEq,List.cons.injEq,and_true,Value.bool.injEq]at e;rw[e.1]; simp[kj]
theorem Xa {P:Program} (t e:Ei) (n sz:Nat) (cs:Array Ef) (i:Nat) (d:TypeDesc) (w:Ee) (ht:P.underlying t=some (.array n e)) (N:P.underlying e=some d)
  (hd:(match d with | .struct _ | .array _ _=>true | _=>false)=true) (I:(P.info? e).map (·.size)=some sz) (h:i<n) :
  (Instr.index t (Ej cs) (Ey Ew i)).run P w = .ok (Ej (cs.extract (i*sz) (i*sz+sz))) w:=by
 have E:(isAgg e).run P w = .ok true w:=by
  unfold isAgg;rw[Sem.run_bind,run_underlying N w]
  cases d<;>simp_all
 cases hq:P.info? e with
 | none=>simp[hq]at I
 | some j=>
  have M:j.size=sz:=by simpa[hq]using I
  have J:(0:Int)<=(i:Int)/\(i:Int)<(n:Int):=D5
  simp[Instr.index,run_underlying ht,asIntOf,J,part,E,sizeOf,typeInfo,hq,M,go_sem,Sem.run_bind,h]
theorem QX.code {w:Ee} (h:QX w cs r) {i:Nat} (J:i<4):∃a1 a2 I a4 a5 a6 E a8,cs.extract (4+i*4) (8+i*4)=#[Ez a1,Ex a2 I a4,Ez a5,Ex a6 E a8]/\
  FB w (Ej #[Ez a1,Ex a2 I a4,Ez a5,Ex a6 E a8]) (r i):=by
 obtain⟨h1,Z,h3,Y⟩:=h;obtain⟨a1,a2,I,a4,a5,a6,E,a8,X,T,M,N,f⟩:=Y i J;refine⟨a1,a2,I,a4,a5,a6,E,a8,?_,f⟩;apply Array.ext'
 simp only[Array.toList_extract,List.extract_eq_take_drop];have e:∀j:Nat,cs.toList[j]? = cs[j]? :=fun j=>by first | rfl | exact Array.getElem?_toList.symm | exact Array.getElem?_toList
 apply List.ext_getElem?
 intro j;rw[List.getElem?_take];rw[List.getElem?_drop,e]
 rcases(show j=0\/j=1\/j=2\/j=3\/4<=j by omega)with rfl | rfl | rfl | rfl | g
 . rw[E8 D5]; exact X
 . rw[E8 D5]; exact T
 . rw[E8 D5]; exact M
 . rw[E8 D5]; exact N
 . rw[E9 D5]; simp; omega
theorem QX.ix {w:Ee} (h:QX w cs r) {i:Nat} (J:i<4):∃a1 a2 I a4 a5 a6 E a8,
  (∀w',(Instr.index 81 (Ej (cs.extract 4 20)) (Ey Ew i)).run Ec w' = .ok (Ej #[Ez a1,Ex a2 I a4,Ez a5,Ex a6 E a8]) w')/\
  FB w (Ej #[Ez a1,Ex a2 I a4,Ez a5,Ex a6 E a8]) (r i):=by
 obtain⟨a1,a2,I,a4,a5,a6,E,a8,e,f⟩:=h.code J;refine⟨a1,a2,I,a4,a5,a6,E,a8,fun w'=> ?_,f⟩;rw[Xa 81 28 4 4 _ i _ w' Tryz.underlying81 Tryz.underlying28 rfl D6 J];rw[Array.extract_extract,<- e]
 congr 3
 have:=h.1
 congr 2; omega
theorem QX.one {w:Ee} {g:Nat} (h:QX w CA r) (E:ai w g 83 CA):dW w (Ex (some ⟨g,0,none⟩) 1 1) 1 (fun _=>CA) (fun _=>r):=by
 refine⟨fun _ _=>h,_,_,rfl,Eo _,fun _=>⟨g,0,rfl,E.lt,fun t ht j I=> ?_⟩⟩;obtain rfl:t=0:=D5
 have:=E.cell j
 show w.cell? ⟨g,0+0*20+j,none⟩=CA[j]?
 rw[show 0+0*20+j=j by omega];exact this
def Cp {α : Type} (a b : α) (t:Nat) : α:=if t=0 then a else b
theorem VW (ht:t<n) (E:i<4) (h:(R t i).isSome=false):xh R n=false:=
 Jb (i:=t+1) (by unfold xh; rw[ZZ (i:=i+1) (by unfold z'; rw[h,Bool.and_false]) 4 D5,Bool.and_false]) n D5
theorem VX (E:i<4) (h:(r i).isSome=false):z' r 4=false:=
 ZZ (i:=i+1) (by unfold z'; rw[h,Bool.and_false]) 4 D5
theorem YU (E:z' r i=true) (h:(r i).isSome=true):z' r (i+1)=true:=by unfold z'; rw[E,h]; rfl
theorem Kc (E:xh R t=true) (h:z' (R t) 4=true):xh R (t+1)=true:=by unfold xh; rw[E,h]; rfl
theorem UX {CS:Nat->Array Ef} (w:Ee) (h:dW w v n CS R) (hn:n<=1000) :
  Ed Ec 146 #[v] w fun e w'=>e = Eh (Ez (xh R n))/\zf w w':=by
 have HS:=E6 h;obtain⟨ao,cap,rfl⟩:=h.ak;clear h
 go_enter Tryz.func146,Tryz.ntmps146
 go_wp2_with fail
 go_loopw [9] (fun I wr=>∃t:Nat,t<=n/\I = Ey Ew t/\xh R t=true/\Below w.heap.size w wr/\av w wr) (fun I _=>n-(intOf I).toNat)
 case atStart=>exact⟨0,by omega,rfl,rfl,zh,zj⟩
 case round=>
  obtain⟨t,ht,rfl,hw,B,I⟩:=hrel
  rcases Ep t n with tn | tn
  .
   have b9:decide ((t:Int)<(n:Int))=true:=E_ D5;obtain⟨b,o,rfl,hb,E⟩:=HS.out.at tn;have qx:=HS.out.1 t tn;obtain⟨C,hC⟩:∃C,CS t=C:=⟨_,rfl⟩;rw[hC]at E qx;have N:=qx.1;have M:=qx.2.1;have aX:∀j,j<C.size->wr.cell? ⟨b,o+t*20+j,none⟩=C[j]? :=fun j hj=>(B.cell (p:=⟨b,_,none⟩) hb).trans (E j D5);have ia:(Tryz.prog.info? 83).map (·.size)=some C.size:=by rw[N]; kernel_rfl
   have Z:(C.extract 4 20).size=16:=by rw[Array.size_extract]; omega
   have ib:(Tryz.prog.info? 81).map (·.size)=some (C.extract 4 20).size:=by rw[Z]; kernel_rfl
   have HQ:Hid (QX w C (R t)):=E6 qx;clear E hC qx
   repeat' (first | (refine j8 rfl 83 (.tmp 11) rfl b (o+t*20) rfl C _ aX Tryz.underlying83 rfl ia ?_) | (refine zF rfl 83 (.tmp 4) (.tmp 12) rfl wr.heap.size C rfl rfl 83 ZT zw ia N.symm M (fun Y r2=> ?_); have hD:∀j,j<(C.extract 4 20).size->Y.cell? ⟨wr.heap.size,4+j,none⟩=(C.extract 4 20)[j]? :=(fun j hj=>by have:=r2.bz.cell (4+j); rw[this,Array.getElem?_extract,E8 D5])) | (refine j8 rfl 81 (.tmp 13) rfl wr.heap.size 4 rfl (C.extract 4 20) _ hD Tryz.underlying81 rfl ib ?_) | go_values | go_skip | go_guarded | go_step | go_upon)
   have B2:Below w.heap.size w Y:=r2.below (B.alloc B.size _) B.size;have k2:av w Y:=I.trans (av.trans zj (r2.af rfl));clear r2 aX ia M N hD ib Z;obtain⟨D,T⟩:∃D,C.extract 4 20=D:=⟨_,rfl⟩;rw[T];have HX:∀i:Nat,i<4->∃a1 a2 a3 a4 a5 a6 a7 a8,(∀w',(Instr.index 81 (Ej D) (Ey Ew i)).run Ec w' = .ok (Ej #[Ez a1,Ex a2 a3 a4,Ez a5,Ex a6 a7 a8]) w')/\FB w (Ej #[Ez a1,Ex a2 a3 a4,Ez a5,Ex a6 a7 a8]) (R t i):=fun i hi=>by rw[<- T]; exact HQ.out.ix hi
   have aY:=E6 HX;clear HX HQ T
   go_loopw [15] (fun I wq=>∃i:Nat,i<=4/\I = Ey Ew i/\z' (R t) i=true/\Below w.heap.size w wq/\av w wq) (fun I _=>4-(intOf I).toNat)
   case atStart=>exact⟨0,by omega,rfl,rfl,B2,k2⟩
   case round=>
    clear B I B2 k2;obtain⟨i,hi,rfl,hq,B,I⟩:=hrel
    rcases Ep i 4 with i4 | i4
    .
     have be:decide ((i:Int)<4)=true:=E_ D5;obtain⟨a1,a2,a3,a4,a5,a6,a7,a8,ix,fb⟩:=aY.out i i4;have ck:∀w',av w w'->Ed Ec 58 #[Ej #[Ez a1,Ex a2 a3 a4,Ez a5,Ex a6 a7 a8]] w' fun e Y=>e = Eh (Ey Ew (YT (R t i).isSome))/\zf w' Y:=fun w' k=>ZN w' (fb.af k);have NO:=fun h=>VW (R:=R) tn i4 h;have J:=fun h=>YU hq h;obtain⟨s,hs⟩:∃s,(R t i).isSome=s:=⟨_,rfl⟩;rw[hs]at ck NO J;clear fb hs hq;have zz:=B.size;go_wp2_with fail
     refine(ck _ (I.trans zj)).mono ?_;rintro e w5 ⟨rfl,X⟩;have B5:Below w.heap.size w w5:=zT X;have k5:av w w5:=(I.trans zj).aJ X;clear X ck ix B I
     cases s with
     | false=>
      have e8:(YT false==0)=false:=rfl;have N0:=NO rfl;clear NO J;rw[show YT false=8 from rfl]
      go_wp2
      go_returns
      exact⟨by rw[N0]; rfl,zh⟩
     | true=>
      have Y0:=J rfl;clear NO J;rw[show YT true=0 from rfl]
      go_wp2
      go_roundw
      case rel=>exact⟨i+1,by omega,by go_num,Y0,B5,k5⟩
      case measure=>simp[intOf]; omega
    .
     obtain rfl:i=4:=D5
     have Y0:=Kc hw hq
     go_wp2
     go_roundw
     case rel=>exact⟨t+1,by omega,by go_num,Y0,B,I⟩
     case measure=>simp[intOf]; omega
  .
   obtain rfl:t=n:=D5
   go_wp2
   go_returns
   exact⟨by rw[hw]; rfl,B⟩
theorem UY {C:Array Ef} (w:Ee) (h:QX w C r):Ed Ec 111 #[Ej C] w fun e w'=>e = Eh (Ez (z' r 4))/\zf w w':=by
 have aY:=h.1;have aX:=h.2.1;have HQ:=E6 h.2.2.2;clear h
 go_enter Tryz.func111,Tryz.ntmps111
 go_wp2_with fail
 go_loopw [3] (fun J wr=>∃i:Nat,i<=4/\J = Ey Ew i/\z' r i=true/\ai wr w.heap.size 83 C/\Below w.heap.size w wr/\av w wr) (fun J _=>4-(intOf J).toNat)
 case atStart=>exact⟨0,by omega,rfl,rfl,zw,zh,zj⟩
 case round=>
  obtain⟨i,hi,rfl,X,M,B,J⟩:=hrel
  rcases Ep i 4 with Y | Y
  .
   have b9:decide ((i:Int)<4)=true:=E_ D5;obtain⟨a1,a2,a3,a4,a5,a6,a7,a8,h0,h1,h2,h3,fb⟩:=HQ.out i Y;have c0:Er wr ⟨w.heap.size,4+i*4,none⟩=_:=M.c _ h0;have c1:Er wr ⟨w.heap.size,4+i*4+1,none⟩=_:=M.c _ h1;have c2:Er wr ⟨w.heap.size,4+i*4+2,none⟩=_:=M.c _ h2;have c3:Er wr ⟨w.heap.size,4+i*4+3,none⟩=_:=M.c _ h3;have T:∀w',av w w'->Ed Ec 86 #[Ej #[Ez a1,Ex a2 a3 a4,Ez a5,Ex a6 a7 a8]] w' fun e w2=>e = Eh (Ey Ew (YT (r i).isSome))/\zf w' w2:=fun w' k=>vU w' (fb.af k);have N:=fun h=>VX (r:=r) Y h;have E:=fun h=>YU X h;obtain⟨s,hs⟩:∃s,(r i).isSome=s:=⟨_,rfl⟩;rw[hs]at T N E;clear fb hs X h0 h1 h2 h3;go_wp2_with fail
   refine(T _ (J.trans zj)).mono ?_;rintro e Z ⟨rfl,I⟩;have B5:Below w.heap.size w Z:=zT I;have k5:av w Z:=(J.trans zj).aJ I;have o5:ai Z w.heap.size 83 C:=ai.au I;clear I T B J M c0 c1 c2 c3
   cases s with
   | false=>
    have N0:=N rfl;clear N E;rw[show YT false=8 from rfl]
    go_wp2
    go_returns
    exact⟨by rw[N0]; rfl,zh⟩
   | true=>
    have Y0:=E rfl;clear N E;rw[show YT true=0 from rfl]
    go_wp2
    go_roundw
    case rel=>exact⟨i+1,by omega,by go_num,Y0,o5,B5,k5⟩
    case measure=>simp[intOf]; omega
  .
   obtain rfl:i=4:=D5
   go_wp2
   go_returns
   exact⟨by rw[X]; rfl,B⟩
theorem Hg {o:Option Rat} (w:Ee) (h:FB w v o):Ed Ec 112 #[v] w fun e w'=>e = Eh (Ez (kj o))/\zf w w':=by
 obtain⟨a1,a2,X,a4,a5,a6,N,a8,rfl⟩:=h.ak;have M:=h.neg;have I:∀w',av w w'->Ed Ec 86 #[Ej #[Ez a1,Ex a2 X a4,Ez a5,Ex a6 N a8]] w' fun e Z=>e = Eh (Ey Ew (YT o.isSome))/\zf w' Z:=fun w' k=>vU w' (h.af k);rw[M];obtain⟨s,T⟩:∃s,o.isSome=s:=⟨_,rfl⟩;rw[T]at I|-;clear h M T
 go_enter Tryz.func112,Tryz.ntmps112
 go_wp2_with fail
 refine(I _ zj).mono ?_;rintro e J ⟨rfl,E⟩;have B:Below w.heap.size w J:=zT E;have Y:ai J w.heap.size 28 #[Ez a1,Ex a2 X a4,Ez a5,Ex a6 N a8]:=ai.au E;have c0:=Y.c 0 rfl;clear E I
 cases s with
 | false=>
  rw[show YT false=8 from rfl]
  go_wp2
  go_returns
  exact⟨rfl,zh⟩
 | true=>
  rw[show YT true=0 from rfl]
  go_wp2
  go_returns
  exact⟨rfl,zh⟩
theorem BT (C:Array Ef) (h:C.size=20):∃c0 c1 c2 c3 c4 c5 c6 c7 c8 c9 E Z J aX X Y N I T M,C=#[c0,c1,c2,c3,c4,c5,c6,c7,c8,c9,E,Z,J,aX,X,Y,N,I,T,M]:=by
 obtain⟨l⟩:=C;replace h:l.length=20:=h
 match l,h with
 | [c0,c1,c2,c3,c4,c5,c6,c7,c8,c9,E,Z,J,aX,X,Y,N,I,T,M],_=>exact⟨_,_,_,_,_,_,_,_,_,_,_,_,_,_,_,_,_,_,_,_,rfl⟩
theorem GD:∃E z,Tryz.prog.info? 83=some E/\E.size=20/\E.zero=some z/\z.cells=ZT:=by
 obtain⟨E,I⟩:∃E,Tryz.prog.info? 83=some E:=Option.isSome_iff_exists.1 D6;have M:(Tryz.prog.info? 83).map (·.size)=some 20:=by kernel_rfl
 have J:((Tryz.prog.info? 83).bind (·.zero)).map (·.cells)=some #[Ey Ew 0,Ey Ew 0,Ey Ew 0,Ey Ew 0,Ez false,Ex none 0 0,Ez false,Ex none 0 0,Ez false,Ex none 0 0,Ez false,Ex none 0 0,Ez false,Ex none 0 0,Ez false,Ex none 0 0,Ez false,Ex none 0 0,Ez false,Ex none 0 0]:=by kernel_rfl
 rw[I]at M J;simp only[Option.map_some,Option.some.injEq,Option.bind_some]at M J;obtain⟨z,N,e⟩:=Option.map_eq_some_iff.1 J;exact⟨E,z,I,M,N,e⟩
theorem BU (C:Array Ef) (h:C.size=20):Instr.fill (fun i=>some (i*20,20)) ((Array.range (1*20)).map ((ZT:Array Ef)[· % 20]!)) [(0,Ej C)]=some C:=by
 obtain⟨c0,c1,c2,c3,c4,c5,c6,c7,c8,c9,E,Z,J,aX,X,Y,N,I,T,M,rfl⟩:=BT C h
 kernel_rfl
section
variable {ops:Array Oper} {rest:List Oper} {o:Oper} {a:Act} {w:Ee} {Q:Exit->Act->Ee->Prop}
theorem Jd {K:Act->Ee->Prop} (x:Operand) (M:o.op = .buildSlice 76 1 #[(0,x)]) (C:Array Ef) (N:a.eval x = Ej C) (h:C.size=20)
  (I:K (a.put o.dst (Ex (some ⟨w.heap.size,0,none⟩) 1 1)) (w.alloc (.cells C 83))):o.wp Ec a w K Q:=by
 obtain⟨Y,z,J,E,T,X⟩:=GD;refine wp_buildSlice 76 83 1 _ M C Y z Tryz.underlying76 J T (by rw[E]; decide) (by rw[E]; decide) ?_ I;rw[E,X];simp only[List.map_toArray,List.map_cons,List.map_nil,N];exact BU C h
theorem Hh (hw:Region.wanted o (yielded ops a.tmps)=true) (x:Operand) (E:o.op = .buildSlice 76 1 #[(0,x)]) (C:Array Ef) (J:a.eval x = Ej C) (h:C.size=20)
  (I:wpList Ec ops Q rest (a.put o.dst (Ex (some ⟨w.heap.size,0,none⟩) 1 1)) (w.alloc (.cells C 83))):wpList Ec ops Q (o::rest) a w:=by
 unfold wpList;rw[E8 hw];exact .inl (Jd x E C J h I)
end
def XF (r s:Nat->Option Rat) (o:Option Rat):Bool×Int:=
 if z' r 4&&z' s 4 then(if kj o then(xi (rq r) (rq s) (rq (fun _=>o) 0) 4,0)else(false,2))else(false,8)
theorem Kd (r:Nat->Option Rat):xh (fun _=>r) 1=z' r 4:=by
 show (true&&z' r 4)=_
 rw[Bool.true_and]
theorem Zt {o:Option Rat} (h:kj o=true):∃q,o=some q/\0<=q:=by
 cases o with
 | none=>cases h
 | some r=>exact⟨r,rfl,Rat.not_lt.1 (by unfold kj at h; simpa using h)⟩
theorem BV {Z:Array Ef} {vf:Ef} {M E:Nat->Option Rat} {o:Option Rat} (w:Ee) (ha:QX w CA M) (hb:QX w Z E) (hf:FB w vf o) (sa:∀i,i<4->sz (rq M i) 500) (sb:∀i,i<4->sz (rq E i) 500) (sf:sz (rq (fun _=>o) 0) 500) :
  Ed Ec 73 #[Ej CA,Ej Z,vf] w fun e w'=>e = Eh (Ev #[Ez (XF M E o).1,Ey Ew (XF M E o).2])/\zf w w':=by
 have ia:(Tryz.prog.info? 83).map (·.size)=some CA.size:=by rw[ha.1]; kernel_rfl
 have ib:(Tryz.prog.info? 83).map (·.size)=some Z.size:=by rw[hb.1]; kernel_rfl
 have za:=ha.1;have zb:=hb.1;obtain⟨t1,t2,t3,t4,t5,t6,t7,t8,rfl⟩:=hf.ak;have bh:∀w',av w w'->Ed Ec 111 #[Ej CA] w' fun e T=>e = Eh (Ez (z' M 4))/\zf w' T:=fun w' k=>UY w' (ha.af k);have b9:∀w',av w w'->Ed Ec 111 #[Ej Z] w' fun e T=>e = Eh (Ez (z' E 4))/\zf w' T:=fun w' k=>UY w' (hb.af k);have ck:∀w',av w w'->Ed Ec 112 #[Ej #[Ez t1,Ex t2 t3 t4,Ez t5,Ex t6 t7 t8]] w' fun e T=>e = Eh (Ez (kj o))/\zf w' T:=fun w' k=>Hg w' (hf.af k)
 have nr:z' M 4=true->z' E 4=true->kj o=true->∀w',av w w'->Ed Ec 113 #[Ej CA,Ej Z,Ej #[Ez t1,Ex t2 t3 t4,Ez t5,Ex t6 t7 t8]] w' fun e T=>e = Eh (Ez (xi (rq M) (rq E) (rq (fun _=>o) 0) 4))/\zf w' T:=fun h1 h2 h3 w' k=>by
  obtain⟨q,rfl,-⟩:=Zt h3;exact BS w' ((ha.qv h1).af k) ((hb.qv h2).af k) (FR.af hf k) sa sb sf
 have HN:Hid (XF M E o=if z' M 4&&z' E 4 then(if kj o then(xi (rq M) (rq E) (rq (fun _=>o) 0) 4,0)else(false,2))else(false,8)):=E6 rfl;generalize XF M E o=N at *;generalize xi (rq M) (rq E) (rq (fun _=>o) 0) 4=nq at *;generalize z' M 4=wa at *;generalize z' E 4=wb at *;generalize kj o=lo at *;clear ha hb hf sa sb sf
 go_enter Tryz.func73,Tryz.ntmps73
 repeat' (first | (refine zO rfl 83 (.tmp 3) rfl w.heap.size rfl 83 CA _ zw Tryz.underlying83 rfl ia ?_) | go_values | go_skip | go_guarded | go_step | go_upon)
 refine(bh _ zj).mono ?_;rintro e w1 ⟨rfl,I⟩;have B:Below w.heap.size w w1:=zT I;have kk:av w w1:=av.aJ zj I;have oa:ai w1 w.heap.size 83 CA:=ai.au I;have ob:ai w1 (w.heap.size+1) 83 Z:=ai.au I;have Y:ai w1 (w.heap.size+1+1) 28 #[Ez t1,Ex t2 t3 t4,Ez t5,Ex t6 t7 t8]:=ai.au I;clear I bh
 cases wa with
 | false=>
  clear ck nr b9;go_wp2_with fail
  go_returns
  exact⟨by rw[HN.out]; rfl,zh⟩
 | true=>
  dsimp only
  repeat' (first | (refine ZL rfl 83 (.tmp 4) rfl (w.heap.size+1) rfl 83 Z _ ob Tryz.underlying83 rfl ib ?_) | go_values | go_skip | go_guarded | go_step | go_upon)
  refine(b9 _ (kk.trans zj)).mono ?_;rintro e T ⟨rfl,J⟩;replace kk:av w T:=(kk.trans zj).aJ J;replace oa:ai T w.heap.size 83 CA:=ai.au J;replace ob:ai T (w.heap.size+1) 83 Z:=ai.au J;replace Y:ai T (w.heap.size+1+1) 28 #[Ez t1,Ex t2 t3 t4,Ez t5,Ex t6 t7 t8]:=ai.au J;replace B:Below w.heap.size w T:=zT J;clear J b9
  cases wb with
  | false=>
   clear ck nr;go_wp2_with fail
   go_returns
   exact⟨by rw[HN.out]; rfl,zh⟩
  | true=>
   have aY:=Y.c 0 rfl;have aX:=Y.c 1 rfl;have be:=Y.c 2 rfl;have bg:=Y.c 3 rfl;replace nr:=nr rfl rfl;go_wp2_with fail
   refine(ck _ (kk.trans zj)).mono ?_;rintro e w4 ⟨rfl,X⟩;replace kk:av w w4:=(kk.trans zj).aJ X;replace oa:ai w4 w.heap.size 83 CA:=ai.au X;replace ob:ai w4 (w.heap.size+1) 83 Z:=ai.au X;replace Y:ai w4 (w.heap.size+1+1) 28 #[Ez t1,Ex t2 t3 t4,Ez t5,Ex t6 t7 t8]:=ai.au X;replace B:Below w.heap.size w w4:=zT X;clear X ck aY aX be bg
   cases lo with
   | false=>
    clear nr;go_wp2_with fail
    go_returns
    exact⟨by rw[HN.out]; rfl,zh⟩
   | true=>
    have aY:=Y.c 0 rfl;have aX:=Y.c 1 rfl;have be:=Y.c 2 rfl;have bg:=Y.c 3 rfl;replace nr:=nr rfl;dsimp only
    repeat' (first | (refine zO rfl 83 (.tmp 3) rfl w.heap.size rfl 83 CA _ oa Tryz.underlying83 rfl ia ?_) | (refine zO rfl 83 (.tmp 4) rfl (w.heap.size+1) rfl 83 Z _ ob Tryz.underlying83 rfl ib ?_) | go_values | go_skip | go_guarded | go_step | go_upon)
    refine(nr _ (kk.trans zj)).mono ?_;rintro e w5 ⟨rfl,bi⟩;have B5:Below w.heap.size w w5:=zT bi;clear bi nr kk oa ob Y B aY aX be bg;dsimp only;go_wp2_with fail
    go_returns
    exact⟨by rw[HN.out]; rfl,zh⟩
end Go.Proofs.YtffmbepfbienaaaGreat
/- Rows of the call's own whose cells are no zp: what is appended, and what stays. -/
namespace Go.Proofs.YtffmbepfbienaaaGreat
section
open Go.RowKit
variable {l xs:List Ef} {a9 n size:Nat} {e:Ei} {v:Ef} {w':Ee}
structure aW (w:Ee) (a9:Nat) (e:Ei) (size:Nat) (v:Ef) (n:Nat) (xs:List Ef):Prop where
 own:w.ownsRow a9 e size v n xs
 eQ:∀g cur,v.ownBlock=some g->w.heap[g]? = some (.cells cur e (0,0))->zU cur=true
theorem aW.nil (w:Ee) (a9:Nat) (e:Ei) (size:Nat):aW w a9 e size (Ex none 0 0) 0 []:=⟨World.ownsRow_nil w a9 e size,fun _ _ h=>by cases h⟩
theorem ZO {a b:Array Ef} : zU (a++b)=(zU a&&zU b):=by unfold zU; simp
theorem jS : zU l.toArray=true↔∀u∈l,qG u=true:=by unfold zU; simp[List.all_eq_true]; rfl
theorem Y3 {z:Array Ef} (h:zU z=true) (n:Nat):zU (Builtin.zeroCells z n)=true:=by
 have N:∀u∈z.toList,qG u=true:=jS.1 (by simpa using h);unfold zU;rw[List.all_eq_true];intro v hv;unfold Builtin.zeroCells at hv;rw[Array.toList_map,List.mem_map]at hv;obtain⟨i,J,rfl⟩:=hv;have E:i<n*z.size:=by simpa using J
 have I:0<z.size:=by rcases Nat.eq_zero_or_pos z.size with h0 | h0; (rw[h0]at E; omega); exact h0
 have M:i%z.size<z.size:=Nat.mod_lt _ I;rw[getElem!_pos z _ M];exact N _ D8
theorem Jm (h:∀u∈l,qG u=true):∀u∈l.take n,qG u=true:=fun u E=>h u (List.mem_of_mem_take E)
theorem Wf (h:∀u∈l,qG u=true):∀u∈l.drop n,qG u=true:=fun u E=>h u (List.mem_of_mem_drop E)
section
variable {P:Program} (w:Ee)
theorem Qd (a9:Nat) (t ty e:Ei) (i:TypeInfo) (z:Ef) (size X:Nat) (ht:P.underlying t=some (.slice e)) (hi:P.info? e=some i) (hz:i.zero=some z)
  (aX:i.size=size) (be:i.bytes=X) (ce:z.cells.size=size) (bl:zU z.cells=true) (bt:0<size)
  (v:Ef) (n:Nat) (xs:List Ef) (T:aW w a9 e size v n xs)
  (a:Addr) (m c:Nat) (E:List Ef) (hm:0<m) (hl:E.length=m*size) (N:∀j u,E[j]? = some u->w.cell? (a.add j)=some u) (h1:∀u∈E,u.oneCell'=true) (aY:zU E.toArray=true)
  (bg:n+m<=maxLen) (J:((n+m)+(n+m) / 4+192)*X<=281474976710656) (b9:a9<=w.heap.size) :
  ∃v' w',(Builtin.append_ #[t,t] ty #[v,Ex (some a) m c]).run P w = .ok v' w'/\aW w' a9 e size v' (n+m) (xs++E)/\w.grownBy w' v.ownBlock:=by
 obtain⟨v',w',hr,h2,h3,-⟩:=run_append_own_wide (P:=P) w a9 t ty e i z size X ht hi hz aX be ce bt v n xs T.own a m c E hl N h1 bg J b9;refine⟨v',w',hr,⟨h2,?_⟩,h3⟩;subst aX;subst be
 intro g' cn M I;have bh:=jS.1 aY;have ci:n+m<=9223372036854775807:=by simp only[maxLen]at bg; omega
 rcases T.own.2 with⟨rfl,rfl⟩ | ⟨g,cap,cur,rfl,hbg,hg,hnc,hcm,hcs,htake⟩
 .
  rw[run_append_nil (P:=P) w t ty e i z ht hi hz a m c E hl N hm D5 (by simp only[Nat.zero_add]at J; exact Nat.le_trans (Nat.mul_le_mul_right _ D5) J)]at hr
  injection hr with e1 e2
  subst e1 e2
  injection M with M
  have Z:w.heap.size=g':=M;subst Z;have hx:=heap_alloc_new w.drew (.cells (E.toArray++Builtin.zeroCells z.cells (grownCap w m 0 e-m)) e);rw[show w.drew.heap.size=w.heap.size from rfl]at hx;rw[hx]at I
  injection I with I
  injection I with I
  rw[<- I,ZO,aY,Y3 bl]; rfl
 .
  have cg:=T.eQ g cur rfl hg;have Y:∀u∈cur.toList,qG u=true:=jS.1 (by simpa using cg)
  by_cases hroom:n+m<=cap
  .
   have bi:n*i.size+E.length<=cur.size:=by rw[hl,hcs,<- Nat.add_mul]; exact Nat.mul_le_mul_right _ hroom
   rw[run_append_room (P:=P) w t ty e i ht hi g n cap cur hg a m c E hl N h1 hroom bi]at hr
   injection hr with e1 e2
   subst e1 e2
   injection M with M
   have Z:g=g':=M;subst Z;rw[setRow_heap w g cur _ e _ hg]at I
   injection I with I
   injection I with I
   rw[<- I,jS];intro u hu;simp only[List.mem_append]at hu
   rcases hu with(hu | hu) | hu
   . exact Jm Y u hu
   . exact bh u hu
   . exact Wf Y u hu
  .
   have holds:∀j u,xs[j]? = some u->w.cell? ((⟨g,0,none⟩:Addr).add j)=some u:=T.own.cells (g:=g) rfl;rw[run_append_grow (P:=P) w t ty e i z ht hi hz ⟨g,0,none⟩ n cap xs T.own.1 holds a m c E hl N D5 D5 (growslice_fits_wide D5 J)]at hr
   injection hr with e1 e2
   subst e1 e2
   injection M with M
   have Z:w.heap.size=g':=M;subst Z;have hx:=heap_alloc_new w.drew (.cells (xs.toArray++E.toArray++Builtin.zeroCells z.cells (grownCap w (n+m) cap e-(n+m))) e);rw[show w.drew.heap.size=w.heap.size from rfl]at hx;rw[hx]at I
   injection I with I
   injection I with I
   have br:zU xs.toArray=true:=by rw[<- htake,jS]; exact Jm Y
   rw[<- I,ZO,ZO,br,aY,Y3 bl]; rfl
theorem Z3 {o:Oper} {a:Act} {K:Act->Ee->Prop} {Q:Exit->Act->Ee->Prop} (s x:Operand) (t:Ei)
  (ho:o.op = .call { callee:= .builtin .append,args:=#[s,x],argTypes:=#[t,t] })
  (a9:Nat) (e:Ei) (i:TypeInfo) (z:Ef) (size I:Nat) (ht:P.underlying t=some (.slice e)) (hi:P.info? e=some i) (hz:i.zero=some z)
  (T:i.size=size) (Z:i.bytes=I) (b9:z.cells.size=size) (bg:zU z.cells=true) (aY:0<size)
  (v:Ef) (n:Nat) (xs:List Ef) (hs:a.eval s=v) (X:aW w a9 e size v n xs)
  (ad:Addr) (m c:Nat) (E:List Ef) (hx:a.eval x = Ex (some ad) m c) (hm:0<m) (hl:E.length=m*size) (M:∀j u,E[j]? = some u->w.cell? (ad.add j)=some u) (h1:∀u∈E,u.oneCell'=true) (be:zU E.toArray=true)
  (aX:n+m<=maxLen) (J:((n+m)+(n+m) / 4+192)*I<=281474976710656) (N:a9<=w.heap.size)
  (h:∀Y w',aW w' a9 e size Y (n+m) (xs++E)->w.grownBy w' v.ownBlock->K (a.put o.dst Y) w'):o.wp P a w K Q:=by
 obtain⟨Y,w',hr,h2,h3⟩:=Qd (P:=P) w a9 t o.type e i z size I ht hi hz T Z b9 bg aY v n xs X ad m c E hm hl M h1 be aX J N;unfold Oper.wp execOp;simp only[ho,resolve,invoke,builtin,Sem.run_bind,Sem.run_pure,Result.andThen_ok,List.map_toArray,List.map_cons,List.map_nil,hs,hx,hr];exact h Y w' h2 h3
end
theorem aW.drew {w:Ee} (h:aW w a9 e size v n xs):aW w.drew a9 e size v n xs:=⟨h.own.drew,h.eQ⟩
theorem aW.bT {w:Ee} (h:aW w a9 e size v n xs) (J:∀g,v.ownBlock=some g->w'.heap[g]? = w.heap[g]?):aW w' a9 e size v n xs:=by
 refine⟨⟨h.own.1,?_⟩,fun g E hv hc=>h.eQ g E hv ((J g hv).symm.trans hc)⟩
 rcases h.own.2 with a | ⟨g,cap,E,rfl,I,hg,r⟩
 . exact .inl a
 . exact .inr ⟨g,cap,E,rfl,I,(J g rfl).trans hg,r⟩
theorem aW.lt {w:Ee} (h:aW w a9 e size v n xs):∀g,v.ownBlock=some g->a9<=g/\g<w.heap.size:=by
 intro g hg
 rcases h.own.2 with⟨rfl,_⟩ | ⟨g',cap,cur,rfl,hbg,hh,_⟩
 . cases hg
 . cases hg; exact⟨hbg,ai.lt (w:=w) (t:=e) (cs:=cur) hh⟩
theorem aW.ae {w:Ee} (h:aW w a9 e size v n xs) (E:zf w w'):aW w' a9 e size v n xs:=h.bT fun g hg=>E.block g (h.lt g hg).2
theorem aW.alloc {w:Ee} (h:aW w a9 e size v n xs) (o:Obj):aW (w.alloc o) a9 e size v n xs:=h.ae ((Et _ _).alloc (Eo _) o)
theorem aW.af {w:Ee} (h:aW w a9 e size v n xs) (hg:w.grownBy w' v.ownBlock):av w w':=by
 intro x l hl;obtain⟨h0,ao,cap,rfl,Z,h3,Y⟩:=hl;refine⟨h0,ao,cap,rfl,Z,h3,fun T=> ?_⟩;obtain⟨b,o,rfl,N,hc⟩:=Y T
 have M:v.ownBlock≠some b:=by
  intro J
  rcases h.own.2 with⟨rfl,_⟩ | ⟨g,cap',cur,rfl,hbg,hh,_⟩
  . cases J
  .
   injection J with J
   have X:g=b:=J;subst X;have hp:0<l.length:=List.length_pos_iff.2 T;have I:=hc 0 hp;rw[ai.cell (w:=w) (t:=e) (cs:=cur) hh]at I;exact Xw (h.eQ g cur rfl hh) I
 refine⟨b,o,rfl,Nat.lt_of_lt_of_le N hg.size,fun t ht=> ?_⟩;have E:=hc t ht;unfold Er at E|-;rw[hg.block b N (Ne.symm M)]; exact E
end
section
open Go.RowKit
variable {l:List Int} {xs:List Ef} {a9 n size:Nat} {e:Ei} {v:Ef} {w':Ee}
def aM (w:Ee) (v:Ef) (l:List Int):Prop:=∃ao cap,v = Ex ao l.length cap/\l.length<=cap/\(l≠ []->∃b o,ao=some ⟨b,o,none⟩/\b<w.heap.size/\∀t,t<l.length->w.cell? ⟨b,o+t,none⟩=some (Ey Ew (l.getD t 0)))
theorem aM.ae {w:Ee} (h:aM w v l) (s:zf w w'):aM w' v l:=by
 obtain⟨ao,cap,e,hc,J⟩:=h;refine⟨ao,cap,e,hc,fun M=> ?_⟩;obtain⟨b,o,I,E,N⟩:=J M;exact⟨b,o,I,Nat.lt_of_lt_of_le E s.size,fun t ht=>(s.cell (p:=⟨b,_,none⟩) E).trans (N t ht)⟩
theorem aM.nil (w:Ee):aM w (Ex none 0 0) []:=⟨none,0,rfl,Eo _,fun h=>absurd rfl h⟩
theorem aM.ak {w:Ee} (h:aM w v l):∃ao cap,v = Ex ao l.length cap:=by obtain⟨ao,cap,e,_⟩:=h; exact⟨ao,cap,e⟩
def ints (l:List Int):List Ef:=l.map (Ey Ew)
theorem XG (l:List Int) (x:Int):ints (l ++ [x])=ints l ++ [Ey Ew x]:=by unfold ints; simp
theorem aW.ints {w:Ee} (h:aW w a9 e 1 v n (ints l)):aM w v l:=by
 have E:n=l.length:=by have:=h.own.1; unfold Go.Proofs.YtffmbepfbienaaaGreat.ints at this; simpa using this.symm
 subst E
 rcases h.own.2 with⟨rfl,h0⟩ | ⟨g,cap,cur,rfl,h1,h2,h3,h4,h5,h6⟩
 .
  have:l = []:=List.eq_nil_of_length_eq_zero h0;subst this;exact aM.nil w
 .
  refine⟨_,cap,rfl,h3,fun _=>⟨g,0,rfl,(Array.getElem?_eq_some_iff.1 h2).1,fun t ht=> ?_⟩⟩;have c:=h.own.cells (g:=g) rfl t (Ey Ew (l.getD t 0)) (by unfold Go.Proofs.YtffmbepfbienaaaGreat.ints; simp[List.getD,ht]);rw[Addr.add_lit]at c;exact c
section
variable {ops:Array Oper} {rest:List Oper} {o:Oper} {a:Act} {w:Ee} {Q:Exit->Act->Ee->Prop}
theorem Cg:∃E z,Tryz.prog.info? 3=some E/\E.size=1/\E.bytes=8/\E.zero=some z/\z.cells=#[Ey Ew 0]:=by
 obtain⟨E,I⟩:∃E,Tryz.prog.info? 3=some E:=Option.isSome_iff_exists.1 D6;have M:(Tryz.prog.info? 3).map (·.size)=some 1:=by kernel_rfl
 have J:((Tryz.prog.info? 3).bind (·.zero)).map (·.cells)=some #[Ey Ew 0]:=by kernel_rfl
 have N:(Tryz.prog.info? 3).map (·.bytes)=some 8:=by kernel_rfl
 rw[I]at M J N;simp only[Option.map_some,Option.some.injEq,Option.bind_some]at M J N;obtain⟨z,T,e⟩:=Option.map_eq_some_iff.1 J;exact⟨E,z,I,M,N,T,e⟩
theorem Vh (M:o.guard=none) (s x:Operand) (ho:o.op = .call { callee:= .builtin .append,args:=#[s,x],argTypes:=#[46,46] })
  (a9 n:Nat) (v:Ef) (l:List Int) (hs:a.eval s=v) (I:aW w a9 3 1 v n (ints l)) (g:Nat) (y:Int) (Z:a.eval x = Ex (some ⟨g,0,none⟩) 1 1) (hb:ai w g 3 #[Ey Ew y]) (hn:n<=100000) (E:a9<=w.heap.size)
  (h:∀J w',aW w' a9 3 1 J (n+1) (ints (l ++ [y]))->w.grownBy w' v.ownBlock->wpList Ec ops Q rest (a.put o.dst J) w'):wpList Ec ops Q (o::rest) a w:=by
 obtain⟨ie,z,Y,h2,h3,X,N⟩:=Cg;refine wpList_plain M fun K hK=> ?_;refine Z3 w s x 46 ho a9 3 ie z 1 8 Tryz.underlying46 Y X h2 h3 (by rw[N]; rfl) (by rw[N]; rfl) D5 v n (ints l) hs I ⟨g,0,none⟩ 1 1 [Ey Ew y] Z D5 rfl (fun j u hj=> ?_) (fun u T=> ?_) rfl (by unfold maxLen; omega) D5 E (fun J w' hr hg=>hK _ _ (h J w' ?_ hg))
 .
  have hc:=hb.cell j;rw[show (⟨g,0,none⟩:Addr).add j=⟨g,0+j,none⟩ from Addr.add_lit ..,Nat.zero_add,hc];simpa using hj
 .
  simp only[List.mem_cons,List.not_mem_nil,or_false]at T;rw[T]; rfl
 . rw[XG]; exact hr
end
def Z4 (n:Nat) (R:Nat->Nat->Option Rat) (q:Nat->Option Rat) (o:Option Rat):List Int×Int:=
 if 500<n then([],4)else if xh R n&&z' q 4 then(if kj o then(jA R q (rq (fun _=>o) 0) n,0)else([],2))else([],8)
theorem Wg (R:Nat->Nat->Option Rat) (q:Nat->Option Rat) (off:Rat) {n:Nat} (E:n<=1000):(jA R q off n).length<=100000:=by have:=ZM R q off n; omega
theorem aW.len {w:Ee} (h:aW w a9 e size v n xs):∃a c,v = Ex a n c:=by
 rcases h.own.2 with⟨rfl,rfl⟩ | ⟨g,cap,cur,rfl,_⟩
 . exact⟨_,_,rfl⟩
 . exact⟨_,_,rfl⟩
theorem aW.below {w E:Ee} (h:aW w a9 e size v n xs) (hg:w.grownBy w' v.ownBlock) (J:Below E.heap.size E w) (I:E.heap.size<=a9):Below E.heap.size E w':=
 J.grown hg J.size fun k M=>Nat.le_trans I (h.lt k M).1
theorem aW.bz {w:Ee} {b:Nat} {t:Ei} {cs:Array Ef} (h:aW w a9 e size v n xs) (hg:w.grownBy w' v.ownBlock) (E:ai w b t cs) (I:b<a9):ai w' b t cs:=
 (hg.block b E.lt fun J=>by have:=(h.lt b J.symm).1; omega).trans E
set_option maxHeartbeats 6400000 in
set_option maxRecDepth 1000000 in
theorem Ch {vf:Ef} {CS:Nat->Array Ef} {R:Nat->Nat->Option Rat} {Y:Array Ef} {q:Nat->Option Rat} {o:Option Rat} (w:Ee) (h:dW w v n CS R) (hn:n<=1000) (hq:QX w Y q) (hf:FB w vf o) (sR:∀t,t<n->∀i,i<4->sz (rq (R t) i) 500) (sq:∀i,i<4->sz (rq q i) 500) (sf:sz (rq (fun _=>o) 0) 500) :
  Ed Ec 110 #[v,Ej Y,vf] w fun e w'=>∃u,e = Eh (Ev #[u,Ey Ew (Z4 n R q o).2])/\aM w' u (Z4 n R q o).1/\zf w w':=by
 have ia:(Tryz.prog.info? 83).map (·.size)=some Y.size:=by rw[hq.1]; kernel_rfl
 have za:=hq.1;obtain⟨t1,t2,t3,t4,t5,t6,t7,t8,rfl⟩:=hf.ak;obtain⟨ao,cap,rfl⟩:=h.ak;have HS:=E6 h;have wl:∀w',zf w w'->Ed Ec 146 #[Ex ao n cap] w' fun e w2=>e = Eh (Ez (xh R n))/\zf w' w2:=fun w' s=>UX w' (h.ae s) hn
 have wq:∀w' g,av w w'->ai w' g 83 Y->Ed Ec 146 #[Ex (some ⟨g,0,none⟩) 1 1] w' fun e w2=>e = Eh (Ez (z' q 4))/\zf w' w2:=fun w' g k hb=>by
  have:=UX w' ((hq.af k).one hb) D5;rw[Kd]at this;exact this
 have ck:∀w',av w w'->Ed Ec 58 #[Ej #[Ez t1,Ex t2 t3 t4,Ez t5,Ex t6 t7 t8]] w' fun e w2=>e = Eh (Ey Ew (YT o.isSome))/\zf w' w2:=fun w' k=>ZN w' (hf.af k)
 have nr:xh R n=true->z' q 4=true->kj o=true->∀t,t<n->∀w',av w w'->Ed Ec 147 #[Ej (CS t),Ej Y,Ej #[Ez t1,Ex t2 t3 t4,Ez t5,Ex t6 t7 t8]] w' fun e w2=>e = Eh (Ev #[Ez (xi (rq (R t)) (rq q) (rq (fun _=>o) 0) 4),Ey Ew 0])/\zf w' w2:=fun h1 h2 h3 t ht w' k=>by
  obtain⟨z,rfl,-⟩:=Zt h3;exact BR w' (((h.1 t ht).qv (YS h1 t ht)).af k) ((hq.qv h2).af k) (FR.af hf k) (sR t ht) sq sf
 have hl:=hf.neg;have HN:Hid (Z4 n R q o=if 500<n then([],4)else if xh R n&&z' q 4 then(if kj o then(jA R q (rq (fun _=>o) 0) n,0)else([],2))else([],8)):=E6 rfl;generalize Z4 n R q o=N at *;have HF:∀t,jA R q (rq (fun _=>o) 0) (t+1)=if xi (rq (R t)) (rq q) (rq (fun _=>o) 0) 4 then jA R q (rq (fun _=>o) 0) t ++ [(t:Int)]else jA R q (rq (fun _=>o) 0) t:=fun t=>rfl
 have ek:jA R q (rq (fun _=>o) 0) 0 = []:=rfl;have cy:∀t,t<=n->(jA R q (rq (fun _=>o) 0) t).length<=100000:=fun t ht=>Wg _ _ _ D5;generalize hfd:jA R q (rq (fun _=>o) 0)=fd at *;obtain⟨nf,dk⟩:∃nf:Nat->Bool,∀t,xi (rq (R t)) (rq q) (rq (fun _=>o) 0) 4=nf t:=⟨_,fun _=>rfl⟩;simp only[dk]at nr HF;have dP:=E6 HF;have cU:=E6 cy;clear HF cy hfd dk;generalize xh R n=wa at *;generalize z' q 4=wb at *;generalize kj o=lo at *;generalize o.isSome=so at *;clear h hq hf sR sq sf
 go_enter Tryz.func110,Tryz.ntmps110
 by_cases g5:500<n
 .
  have er:(500:Int)<(n:Int):=D5
  have T:Hid (N=([],4)):=E6 (by rw[HN.out,E8 g5]);clear HN wl wq ck nr;go_wp2_with fail
  go_returns
  exact⟨_,by rw[T.out]; rfl,by rw[T.out]; exact aM.nil _,zh⟩
 have er:¬(500:Int)<(n:Int):=D5
 have E:Hid (N=if wa&&wb then(if lo then(fd n,0)else([],2))else([],8)):=E6 (by rw[HN.out,E9 g5]);clear HN;go_wp2_with fail
 refine(wl _ zh).mono ?_;rintro e w1 ⟨rfl,bg⟩;have J:av w w1:=av.aJ zj bg;have oq:ai w1 w.heap.size 83 Y:=ai.au bg;have I:ai w1 (w.heap.size+1) 28 #[Ez t1,Ex t2 t3 t4,Ez t5,Ex t6 t7 t8]:=ai.au bg;have B:Below w.heap.size w w1:=zT bg;clear bg;clear wl
 cases wa with
 | false=>
  have T:Hid (N=([],8)):=E6 E.out;clear E wq ck nr;go_wp2_with fail
  go_returns
  exact⟨_,by rw[T.out]; rfl,by rw[T.out]; exact aM.nil _,zh⟩
 | true=>
  have fe:=B.size;dsimp only
  repeat' (first | ((with_reducible show wpList _ _ _ (⟨some 22,_,_,_,_,_⟩::_) _ _); refine ZL rfl 83 (.tmp 4) rfl w.heap.size rfl 83 Y _ oq Tryz.underlying83 rfl ia ?_) | ((with_reducible show wpList _ _ _ (⟨some 23,_,_,_,_,_⟩::_) _ _); refine Hh rfl (.tmp 22) rfl Y rfl za ?_) | go_values | go_skip | go_guarded | go_step | go_upon)
  refine(wq _ _ (J.trans zj) zw).mono ?_;rintro e w2 ⟨rfl,aX⟩;replace J:av w w2:=(J.trans zj).aJ aX;replace oq:ai w2 w.heap.size 83 Y:=ai.au aX;replace I:ai w2 (w.heap.size+1) 28 #[Ez t1,Ex t2 t3 t4,Ez t5,Ex t6 t7 t8]:=ai.au aX;replace B:Below w.heap.size w w2:=zT aX;clear aX;clear wq
  cases wb with
  | false=>
   have T:Hid (N=([],8)):=E6 E.out;clear E ck nr;go_wp2_with fail
   go_returns
   exact⟨_,by rw[T.out]; rfl,by rw[T.out]; exact aM.nil _,zh⟩
  | true=>
   replace nr:=nr rfl rfl;have b9:=I.c 0 rfl;have aY:=I.c 1 rfl;have bh:=I.c 2 rfl;have bl:=I.c 3 rfl;go_wp2_with fail
   refine(ck _ (J.trans zj)).mono ?_;rintro e w3 ⟨rfl,bi⟩;clear b9 aY bh bl;replace J:av w w3:=(J.trans zj).aJ bi;replace oq:ai w3 w.heap.size 83 Y:=ai.au bi;replace I:ai w3 (w.heap.size+1) 28 #[Ez t1,Ex t2 t3 t4,Ez t5,Ex t6 t7 t8]:=ai.au bi;replace B:Below w.heap.size w w3:=zT bi;clear bi;clear ck;have b9:=I.c 0 rfl;have aY:=I.c 1 rfl;have bh:=I.c 2 rfl;have bl:=I.c 3 rfl
   cases so with
   | false=>
    have e0:lo=false:=hl;rw[e0]at E;have T:Hid (N=([],2)):=E6 E.out;clear E nr hl;rw[show YT false=8 from rfl];go_wp2_with fail
    go_returns
    exact⟨_,by rw[T.out]; rfl,by rw[T.out]; exact aM.nil _,zh⟩
   | true=>
    rw[show YT true=0 from rfl]
    cases t1 with
    | true=>
     have e0:lo=false:=hl;rw[e0]at E;have T:Hid (N=([],2)):=E6 E.out;clear E nr hl;go_wp2_with fail
     go_returns
     exact⟨_,by rw[T.out]; rfl,by rw[T.out]; exact aM.nil _,zh⟩
    | false=>
     have e0:lo=true:=hl;rw[e0]at E;have dl:Hid (N=(fd n,0)):=E6 E.out;replace nr:=nr e0;clear hl e0 E;go_wp2_with fail
     clear b9 aY bh bl
     go_loopw [8,38] (fun oo J wr=>∃ (t:Nat) (ow:Ef),ow=oo/\t<=n/\J = Ey Ew t/\aW wr (w.heap.size+2) 3 1 ow (fd t).length (ints (fd t))/\ai wr w.heap.size 83 Y/\ai wr (w.heap.size+1) 28 #[Ez false,Ex t2 t3 t4,Ez t5,Ex t6 t7 t8]/\Below w.heap.size w wr/\av w wr) (fun _ J _=>n-(intOf J).toNat)
     case atStart=>exact⟨0,_,rfl,Nat.zero_le _,rfl,by rw[ek]; exact aW.nil _ _ _ _,zw,zw,zh,J.trans zj⟩
     case round=>
      obtain⟨t,ow,rfl,ht,rfl,hr,zq,zc,zB,zk⟩:=hrel;clear oq I B J;have oq:=zq;have I:=zc;have B:=zB;have J:=zk;clear zq zc zB zk;obtain⟨oa,cg,rfl⟩:=hr.len;have HR:=E6 hr;clear hr
      rcases Ep t n with tn | tn
      .
       have f9:decide ((t:Int)<(n:Int))=true:=E_ D5;obtain⟨b,o',rfl,hb,M⟩:=HS.out.at tn;have qx:=HS.out.1 t tn;have nc:=nr t tn;have cN:=E6 (dP.out t);have dy:=cU.out t ht;obtain⟨C,hC⟩:∃C,CS t=C:=⟨_,rfl⟩;rw[hC]at M qx nc;have cx:=qx.1;have ce:=qx.2.1;have dc:∀j,j<C.size->wr.cell? ⟨b,o'+t*20+j,none⟩=C[j]? :=fun j hj=>(B.cell (p:=⟨b,_,none⟩) hb).trans (M j D5);have ic:(Tryz.prog.info? 83).map (·.size)=some C.size:=by rw[cx]; kernel_rfl
       generalize nf t=nt at *;have zz:=B.size;have b9:=I.c 0 rfl;have aY:=I.c 1 rfl;have bh:=I.c 2 rfl;have bl:=I.c 3 rfl;have lc:=I.lt;clear M hC qx nr
       repeat' (first | ((with_reducible show wpList _ _ _ (⟨some 42,_,_,_,_,_⟩::_) _ _); refine j8 rfl 83 (.tmp 41) rfl b (o'+t*20) rfl C _ dc Tryz.underlying83 rfl ic ?_) | ((with_reducible show wpList _ _ _ (⟨none,.store _ _ _,_,_,_,_⟩::_) _ _); refine zF rfl 83 (.tmp 10) (.tmp 42) rfl wr.heap.size C rfl rfl 83 ZT zw ic cx.symm ce (fun w5 r5=> ?_); have ci:=r5.bG (oq.alloc _) D5; have Z:=r5.bG (I.alloc _) D5; have d9:=r5.bz; have dz:=Z.c 0 rfl; have ed:=Z.c 1 rfl; have ey:=Z.c 2 rfl; have eW:=Z.c 3 rfl) | ((with_reducible show wpList _ _ _ (⟨some 44,_,_,_,_,_⟩::_) _ _); refine zO rfl 83 (.tmp 10) rfl wr.heap.size rfl 83 C _ d9 Tryz.underlying83 rfl ic ?_) | ((with_reducible show wpList _ _ _ (⟨some 45,_,_,_,_,_⟩::_) _ _); refine zO rfl 83 (.tmp 4) rfl w.heap.size rfl 83 Y _ ci Tryz.underlying83 rfl ia ?_) | go_values | go_skip | go_guarded | go_step | go_upon)
       have B5:Below w.heap.size w w5:=r5.below (B.alloc B.size _) B.size;have kw:av wr w5:=av.trans zj (r5.af rfl);have dx:aW w5 (w.heap.size+2) 3 1 (Ex oa (fd t).length cg) (fd t).length (ints (fd t)):=(HR.out.alloc _).bT fun g hg=>r5.only.2 g (by have:=(HR.out.lt g hg).2; omega);refine(nc _ (J.trans kw)).mono ?_;rintro e w6 ⟨rfl,X⟩;have cn:ai w6 w.heap.size 83 Y:=ci.ae X;have br:ai w6 (w.heap.size+1) 28 #[Ez false,Ex t2 t3 t4,Ez t5,Ex t6 t7 t8]:=Z.ae X;have B6:Below w.heap.size w w6:=zt B5 (Eo _) X;have k6:av w w6:=(J.trans kw).aJ X;have bt:=E6 (dx.ae X);clear r5 ci Z d9 dz ed ey eW b9 aY bh bl X B5 kw dx nc dc ic ce oq I B J HR lc zz cx;have zz:=B6.size;have lc:=br.lt
       cases nt with
       | false=>
        go_wp2_with fail
        go_roundw
        case rel=>exact⟨t+1,_,rfl,by omega,by go_num,by rw[cN.out]; exact bt.out,cn,br,B6,k6⟩
        case measure=>simp[intOf]; omega
       | true=>
        dsimp only
        repeat' (first | ((with_reducible show wpList _ _ _ (⟨some 57,_,_,_,_,_⟩::_) _ _); refine Vh rfl (.tmp 54) (.tmp 56) rfl (w.heap.size+2) (fd t).length (Ex oa (fd t).length cg) (fd t) rfl (bt.out.alloc _) w6.heap.size t rfl (ai.new _ _ _) dy D9 (fun v' w7 co be=> ?_)) | go_values | go_skip | go_guarded | go_step | go_upon)
        obtain⟨fl,f8,rfl⟩:=co.len;have r6:=bt.out.alloc (.cells #[Ey Ew (t:Int)] 3);have eM:=r6.bz be (cn.alloc _) D5;have f7:=r6.bz be (br.alloc _) D5;have B7:=r6.below be (B6.alloc B6.size _) D5;have k7:av w w7:=(k6.alloc _).trans (r6.af be);have em:=E6 co;clear r6 be co bt cn br B6 k6 dy
        go_roundw
        case rel=>exact⟨t+1,_,rfl,by omega,by go_num,by rw[cN.out]; simpa using em.out,eM,f7,B7,k7⟩
        case measure=>simp[intOf]; omega
      .
       obtain rfl:t=n:=D5
       go_wp2_with fail
       go_returns
       exact⟨_,by rw[dl.out]; rfl,by rw[dl.out]; exact HR.out.ints,B⟩
end
section
open Go.RowKit
variable {cs:Array Ef} {x y:Int} {k p q:Nat->Int} {a b c d v:Ef} {w w':Ee}
def eT (w:Ee) (x y:Int) (a b c d:Ef):Prop:=az w (Ej #[a,b]) x/\az w (Ej #[c,d]) y
theorem eT.af (h:eT w x y a b c d) (k:av w w'):eT w' x y a b c d:=⟨h.1.af k,h.2.af k⟩
theorem az.bJ (h:az w (Ej #[a,b]) x):∃g s n c,a = Ez g/\b = Ex s n c:=by
 obtain⟨s,e,E⟩:=h;obtain⟨ao,cap,rfl⟩:=E.ak;simp only[Value.agg.injEq,Array.mk.injEq,List.cons.injEq,and_true]at e;exact⟨_,_,_,_,e.1,e.2⟩
set_option maxHeartbeats 6400000 in
set_option maxRecDepth 1000000 in
theorem Kj {a' b' c' Z:Ef} (w:Ee) (h:eT w x y a b c d) (I:eT w x y a' b' c' Z) (fx:fits x) (fy:fits y) :
  Ed Ec 16 #[Ej #[a,b,c,d],Ej #[a',b',c',Z]] w fun e w'=>e = Eh (Ez true)/\zf w w':=by
 have s1:∀w',zf w w'->Ed Ec 44 #[Ej #[a,b],Ej #[a',b']] w' fun e N=>e = Eh (Ez true)/\zf w' N:=fun w' J=>by
  have:=UB w' (h.1.ae J) (I.1.ae J) fx fx
  rwa[E_ rfl]at this
 have s2:∀w',zf w w'->Ed Ec 44 #[Ej #[c,d],Ej #[c',Z]] w' fun e N=>e = Eh (Ez true)/\zf w' N:=fun w' J=>by
  have:=UB w' (h.2.ae J) (I.2.ae J) fy fy
  rwa[E_ rfl]at this
 obtain⟨g1,t1,n1,q1,rfl,rfl⟩:=h.1.bJ;obtain⟨g2,t2,n2,q2,rfl,rfl⟩:=h.2.bJ;obtain⟨g3,t3,n3,q3,rfl,rfl⟩:=I.1.bJ;obtain⟨g4,t4,n4,q4,rfl,rfl⟩:=I.2.bJ;clear h I fx fy
 go_enter Tryz.func16,Tryz.ntmps16
 go_wp2_with fail
 refine(s1 _ zh).mono ?_;rintro e T ⟨rfl,E⟩;have B:Below w.heap.size w T:=zT E;have oa:ai T w.heap.size 28 #[Ez g1,Ex t1 n1 q1,Ez g2,Ex t2 n2 q2]:=ai.au E;have Y:ai T (w.heap.size+1) 28 #[Ez g3,Ex t3 n3 q3,Ez g4,Ex t4 n4 q4]:=ai.au E;clear E s1;have b9:=oa.q2;have aX:=oa.q3;have X:=Y.q2;have aY:=Y.q3;go_wp2_with fail
 refine(s2 _ B).mono ?_;rintro e N ⟨rfl,M⟩;have B2:=zt B (Eo _) M;clear oa Y b9 aX X aY M B s2
 go_wp2
 go_returns
 exact⟨rfl,zh⟩
def QM (w:Ee) (cs:Array Ef) (k p q:Nat->Int):Prop:=cs.size=20/\cs.all (·.oneCell')=true/\(∀i,i<4->cs[i]? = some (Ey Ew (k i)))/\
 ∀i,i<4->∃a b c d,cs[4+i*4]? = some a/\cs[4+i*4+1]? = some b/\cs[4+i*4+2]? = some c/\cs[4+i*4+3]? = some d/\eT w (p i) (q i) a b c d
theorem QM.af (h:QM w cs k p q) (X:av w w'):QM w' cs k p q:=by
 obtain⟨J,E,Y,h4⟩:=h;refine⟨J,E,Y,fun i I=> ?_⟩;obtain⟨a,b,c,d,T,N,Z,M,f⟩:=h4 i I;exact⟨a,b,c,d,T,N,Z,M,f.af X⟩
theorem QM.ae (h:QM w cs k p q) (s:zf w w'):QM w' cs k p q:=h.af (av.ae s)
theorem QN.qm {a:aV} (h:QN w v a):∃cs,v = Ej cs/\QM w cs (kA a) (fun i=>cP (cA a i) a.n) (fun i=>cQ (cA a i) a.n):=by
 obtain⟨c0,c1,c2,c3,c4,c5,c6,c7,c8,c9,N,Z,T,aX,X,Y,rfl,h0,E,J,I⟩:=h;refine⟨_,rfl,rfl,?_,fun i M=> ?_,fun i M=> ?_⟩
 .
  obtain⟨_,_,_,_,rfl,rfl⟩:=h0.1.bJ;obtain⟨_,_,_,_,rfl,rfl⟩:=h0.2.bJ;obtain⟨_,_,_,_,rfl,rfl⟩:=E.1.bJ;obtain⟨_,_,_,_,rfl,rfl⟩:=E.2.bJ;obtain⟨_,_,_,_,rfl,rfl⟩:=J.1.bJ;obtain⟨_,_,_,_,rfl,rfl⟩:=J.2.bJ;obtain⟨_,_,_,_,rfl,rfl⟩:=I.1.bJ;obtain⟨_,_,_,_,rfl,rfl⟩:=I.2.bJ;simp[Value.oneCell']
 . rcases(show i=0\/i=1\/i=2\/i=3 by omega)with rfl | rfl | rfl | rfl<;>rfl
 .
  rcases(show i=0\/i=1\/i=2\/i=3 by omega)with rfl | rfl | rfl | rfl
  . exact⟨_,_,_,_,rfl,rfl,rfl,rfl,h0⟩
  . exact⟨_,_,_,_,rfl,rfl,rfl,rfl,E⟩
  . exact⟨_,_,_,_,rfl,rfl,rfl,rfl,J⟩
  . exact⟨_,_,_,_,rfl,rfl,rfl,rfl,I⟩
def CR:PL:= [(0,0),(4,0),(1,1),(3,2)]
def C' (i:Nat):Int:=match i with | 0=>0 | 1=>1 | 2=>2 | _=>3
def kT (k:Nat->Int) (i:Nat):Int:=k (XA 2 0 3 1 i)
def GJ (l:PL):List Ef:=l.flatMap fun p=> [Ey Ew p.1,Ey Ew p.2]
theorem X' (l:PL):(GJ l).length=l.length*2:=by
 induction l with
 | nil=>rfl
 | cons p r ih=>show ((GJ r).length+1+1)=_; rw[ih]; simp only[List.length_cons]; omega
theorem Qa (l:PL):∀t,t<l.length->(GJ l)[t*2]? = some (Ey Ew (l.getD t (0,0)).1)/\(GJ l)[t*2+1]? = some (Ey Ew (l.getD t (0,0)).2):=by
 induction l with
 | nil=>intro t h; cases h
 | cons p r ih=>
  intro t h
  match t with
  | 0=>exact⟨rfl,rfl⟩
  | t+1=>
   have:=ih t (by simp only[List.length_cons]at h; omega);rw[show (t+1)*2=t*2+1+1 by omega];exact this
theorem bP.own {a9 n:Nat} {l:PL} (h:w.ownsRow a9 23 2 v n (GJ l)) (E:∀k,-9223372036854775808<=(l.getD k (0,0)).1/\(l.getD k (0,0)).1<=9223372036854775807/\-9223372036854775808<=(l.getD k (0,0)).2/\(l.getD k (0,0)).2<=9223372036854775807):bP w v l:=by
 have I:n=l.length:=by have:=h.1; rw[X']at this; omega
 subst I
 rcases h.2 with⟨rfl,h0⟩ | ⟨g,cap,cur,rfl,h1,h2,h3,h4,h5,h6⟩
 .
  have:l = []:=List.eq_nil_of_length_eq_zero h0;subst this;exact⟨E,none,0,rfl,Eo _,fun h=>absurd rfl h⟩
 .
  refine⟨E,_,cap,rfl,h3,fun _=>⟨g,0,rfl,?_,fun t ht=> ?_⟩⟩
  . exact(Array.getElem?_eq_some_iff.1 h2).1
  .
   have c:=h.cells (g:=g) rfl;have a:=c (t*2) _ (Qa l t ht).1;have b:=c (t*2+1) _ (Qa l t ht).2;rw[Addr.add_lit]at a b;rw[Nat.zero_add]at *;exact⟨a,b⟩
def Dr (n:Nat) (x:Ef):Prop:=∃a c,x = Ex a n c
def CU (a:aV) (x:Int):Nat->Nat
 | 0=>0
 | m+1=>CU a x m+if kA a m=x then 1 else 0
open Go.RowKit
theorem QM.qf {a:aV} (hn:0<a.n) (N:cX a) (h:QM w cs (kA a) (fun i=>cP (cA a i) a.n) (fun i=>cQ (cA a i) a.n)):QF w cs (kA a) (rA a):=by
 obtain⟨Z,h2,h3,T⟩:=h;refine⟨Z,h2,h3,fun i J=> ?_⟩;obtain⟨a',b,c,d,M,c1,c2,c3,I,E⟩:=T i J;have X:cP (cA a i) a.n=(rA a i).num:=by unfold cP rA; rw[E9 D5]
 have Y:cQ (cA a i) a.n=((rA a i).den:Int):=by unfold cQ rA; rw[E9 D5]
 dsimp only at I E;rw[X]at I;rw[Y]at E;obtain⟨g,s,m,t,rfl,rfl⟩:=I.bJ;obtain⟨g',s',m',t',rfl,rfl⟩:=E.bJ;have z:=(Ve N hn i).fits D5;exact⟨_,_,_,_,_,_,_,_,M,c1,c2,c3,bU.mk' I E (qR _) (KO _) z.1 z.2⟩
structure fZ (l:PL) (a:aV) (m:Nat->Nat):Prop where
 lt:∀i,i<4->m i<l.length
 k:∀i,i<4->kA a i=(m i:Int)
 x2:rA a 0*(((pt l (m 1)).1-(pt l (m 0)).1:Int):Rat)-rA a 1*(((pt l (m 1)).2-(pt l (m 0)).2:Int):Rat)=(((pt l (m 2)).1-(pt l (m 0)).1:Int):Rat)
 y2:rA a 0*(((pt l (m 1)).2-(pt l (m 0)).2:Int):Rat)+rA a 1*(((pt l (m 1)).1-(pt l (m 0)).1:Int):Rat)=(((pt l (m 2)).2-(pt l (m 0)).2:Int):Rat)
 x3:rA a 2*(((pt l (m 1)).1-(pt l (m 0)).1:Int):Rat)-rA a 3*(((pt l (m 1)).2-(pt l (m 0)).2:Int):Rat)=(((pt l (m 3)).1-(pt l (m 0)).1:Int):Rat)
 y3:rA a 2*(((pt l (m 1)).2-(pt l (m 0)).2:Int):Rat)+rA a 3*(((pt l (m 1)).1-(pt l (m 0)).1:Int):Rat)=(((pt l (m 3)).2-(pt l (m 0)).2:Int):Rat)
end
end Go.Proofs.YtffmbepfbienaaaGreat
/- Lists of quads that a function collects. -/
namespace Go.Proofs.YtffmbepfbienaaaGreat
section
open Go.RowKit
variable {qa:List aV} {a9:Nat} {ow v:Ef} {w':Ee}
def dQ (w:Ee) (v:Ef) (qa:List aV):Prop:=∃ao cap,v = Ex ao qa.length cap/\qa.length<=cap/\∃E:Nat->Array Ef,(∀t,t<qa.length->QF w (E t) (kA (qa.getD t zK)) (rA (qa.getD t zK)))/\
 (0<qa.length->∃b o,ao=some ⟨b,o,none⟩/\b<w.heap.size/\UT w b o qa.length E)
theorem dQ.ae {w:Ee} (h:dQ w v qa) (s:zf w w'):dQ w' v qa:=by
 obtain⟨ao,cap,e,hc,N,M,J⟩:=h;refine⟨ao,cap,e,hc,N,fun t ht=>(M t ht).ae s,fun T=> ?_⟩;obtain⟨b,o,I,E,Y⟩:=J T;exact⟨b,o,I,Nat.lt_of_lt_of_le E s.size,fun t ht j X=>(s.cell (p:=⟨b,_,none⟩) E).trans (Y t ht j X)⟩
theorem dQ.nil (w:Ee):dQ w (Ex none 0 0) []:=⟨none,0,rfl,Eo _,fun _=>#[],fun t ht=>(by cases ht),fun h=>(by cases h)⟩
theorem dQ.ak {w:Ee} (h:dQ w v qa):∃ao cap,v = Ex ao qa.length cap:=by obtain⟨ao,cap,e,_⟩:=h; exact⟨ao,cap,e⟩
theorem QF.qx {w:Ee} {cs:Array Ef} {k:Nat->Int} {r:Nat->Rat} (h:QF w cs k r):QX w cs (fun i=>some (r i)):=by
 refine⟨h.1,h.2.1,h.eQ,fun i E=> ?_⟩;obtain⟨a1,a2,T,a4,a5,a6,N,a8,M,J,X,I,f⟩:=h.2.2.2 i E;exact⟨a1,a2,T,a4,a5,a6,N,a8,M,J,X,I,f⟩
theorem dQ.fC {w:Ee} (h:dQ w v qa):∃E,dW w v qa.length E (fun t i=>some (rA (qa.getD t zK) i))/\∀t,t<qa.length->QF w (E t) (kA (qa.getD t zK)) (rA (qa.getD t zK)):=by
 obtain⟨ao,cap,e,hc,E,I,J⟩:=h;exact⟨E,⟨fun t ht=>(I t ht).qx,ao,cap,e,hc,J⟩,I⟩
def Qe (l:List (Array Ef)):List Ef:=l.flatMap (·.toList)
theorem V_ (l:List (Array Ef)) (c:Array Ef):Qe (l ++ [c])=Qe l++c.toList:=by unfold Qe; simp
theorem Jn:∀ (l:List (Array Ef)) (t j:Nat),(∀c∈l,c.size=20)->t<l.length->j<20->(Qe l)[t*20+j]? = (l.getD t #[])[j]?
 | [],t,j,_,ht,_=>by cases ht
 | c::l,0,j,hs,_,hj=>by
  have h0:c.size=20:=hs c (List.mem_cons.2 (.inl rfl))
  show (c.toList++Qe l)[0*20+j]? = _
  rw[List.getElem?_append_left (by simp; omega),show 0*20+j=j by omega];simp[List.getD]
 | c::l,t+1,j,hs,ht,hj=>by
  have h0:c.size=20:=hs c (List.mem_cons.2 (.inl rfl));have I:=Jn l t j (fun x E=>hs x (List.mem_cons.2 (.inr E))) (by simpa using ht) hj
  show (c.toList++Qe l)[(t+1)*20+j]? = _
  rw[List.getElem?_append_right (by simp; omega)];rw[show (t+1)*20+j-c.toList.length=t*20+j by simp; omega,I];simp[List.getD]
def bk (w:Ee) (a9:Nat) (ow:Ef) (qa:List aV):Prop:=∃cs:List (Array Ef),aW w a9 83 20 ow qa.length (Qe cs)/\cs.length=qa.length/\∀t,t<qa.length->QF w (cs.getD t #[]) (kA (qa.getD t zK)) (rA (qa.getD t zK))
theorem bk.nil (w:Ee) (a9:Nat):bk w a9 (Ex none 0 0) []:=⟨[],aW.nil _ _ _ _,rfl,fun t ht=>(by cases ht)⟩
theorem bk.bT {w:Ee} (h:bk w a9 ow qa) (I:∀g,ow.ownBlock=some g->w'.heap[g]? = w.heap[g]?) (M:av w w'):bk w' a9 ow qa:=by
 obtain⟨cs,J,E,N⟩:=h;exact⟨cs,J.bT I,E,fun t ht=>(N t ht).af M⟩
theorem bk.lt {w:Ee} (h:bk w a9 ow qa):∀g,ow.ownBlock=some g->a9<=g/\g<w.heap.size:=by obtain⟨cs,E,_⟩:=h; exact E.lt
theorem bk.ae {w:Ee} (h:bk w a9 ow qa) (s:zf w w'):bk w' a9 ow qa:=h.bT (fun g hg=>s.block g (h.lt g hg).2) (av.ae s)
theorem bk.len {w:Ee} (h:bk w a9 ow qa):∃a c,ow = Ex a qa.length c:=by obtain⟨cs,E,_⟩:=h; exact E.len
theorem bk.fW {w:Ee} (h:bk w a9 ow qa):dQ w ow qa:=by
 obtain⟨cs,I,X,E⟩:=h
 rcases I.own.2 with⟨rfl,h0⟩ | ⟨g,cap,cur,rfl,g1,g2,g3,g4,g5,g6⟩
 .
  have:qa = []:=List.eq_nil_of_length_eq_zero h0;subst this;exact dQ.nil w
 .
  refine⟨_,cap,rfl,g3,fun t=>cs.getD t #[],E,fun _=>⟨g,0,rfl,(Array.getElem?_eq_some_iff.1 g2).1,fun t ht j N=> ?_⟩⟩
  have M:∀c∈cs,c.size=20:=fun c hc=>by
   obtain⟨i,J,e⟩:=List.getElem_of_mem hc;have:=(E i D5).1;rw[List.getD,List.getElem?_eq_getElem J,Option.getD_some,e]at this;exact this
  have e:=Jn cs t j M D5 N;have T:=(E t ht).1;have hv:(cs.getD t #[])[j]? = some ((cs.getD t #[])[j]'D5):=by rw[Array.getElem?_eq_getElem]
  have c:=I.own.cells (g:=g) rfl (t*20+j) _ (e.trans hv);rw[Addr.add_lit]at c;rw[<- Nat.add_assoc]at c;rw[c,hv]
theorem bk.snoc {w:Ee} {ow M:Ef} {a:aV} {c:Array Ef} {xs:List Ef} {cs:List (Array Ef)} (T:aW w' a9 83 20 M (qa.length+1) (Qe cs++c.toList)) (J:cs.length=qa.length) (X:∀t,t<qa.length->QF w' (cs.getD t #[]) (kA (qa.getD t zK)) (rA (qa.getD t zK)))
  (N:QF w' c (kA a) (rA a)):bk w' a9 M (qa ++ [a]):=by
 refine⟨cs ++ [c],by rw[V_]; simpa using T,by simp[J],fun t ht=> ?_⟩;simp only[List.length_append,List.length_cons,List.length_nil]at ht
 rcases Ep t qa.length with g | g
 .
  have I:(cs ++ [c]).getD t #[]=cs.getD t #[]:=by simp[List.getD,List.getElem?_append_left (show t<cs.length by omega)]
  have E:(qa ++ [a]).getD t zK=qa.getD t zK:=by simp[List.getD,List.getElem?_append_left g]
  rw[I,E]; exact X t g
 .
  obtain rfl:t=qa.length:=D5
  have I:(cs ++ [c]).getD qa.length #[]=c:=by simp[List.getD,<- J]
  have E:(qa ++ [a]).getD qa.length zK=a:=by simp[List.getD]
  rw[I,E]; exact N
theorem Hp:∃E z,Tryz.prog.info? 83=some E/\E.size=20/\E.bytes<=1000/\E.zero=some z/\z.cells.size=20/\zU z.cells=true:=by
 obtain⟨E,z,J,N,T,M⟩:=GD;have I:((Tryz.prog.info? 83).map (fun i=>decide (i.bytes<=1000)))=some true:=by kernel_rfl
 rw[J]at I;simp only[Option.map_some,Option.some.injEq,decide_eq_true_eq]at I;exact⟨E,z,J,N,I,T,by rw[M]; rfl,by rw[M]; rfl⟩
section
variable {ops:Array Oper} {rest:List Oper} {o:Oper} {a:Act} {w:Ee} {Q:Exit->Act->Ee->Prop}
theorem Jo {K:Act->Ee->Prop} (s x:Operand) (ho:o.op = .call { callee:= .builtin .append,args:=#[s,x],argTypes:=#[76,76] })
  (a9:Nat) (v:Ef) (qa:List aV) (A:aV) (c:Array Ef) (hs:a.eval s=v) (M:bk w a9 v qa) (g:Nat) (hx:a.eval x = Ex (some ⟨g,0,none⟩) 1 1) (hb:ai w g 83 c) (X:QF w c (kA A) (rA A)) (hn:qa.length<=100000) (I:a9<=w.heap.size)
  (h:∀T w',bk w' a9 T (qa ++ [A])->w.grownBy w' v.ownBlock->av w w'->K (a.put o.dst T) w'):o.wp Ec a w K Q:=by
 obtain⟨ie,z,h1,h2,h3,h4,h5,h6⟩:=Hp;obtain⟨cs,r1,r2,r3⟩:=M;have N:=X.1;have J:=X.2.1
 have E:((qa.length+1)+(qa.length+1) / 4+192)*ie.bytes<=281474976710656:=
  Nat.le_trans (Nat.mul_le_mul (show (qa.length+1)+(qa.length+1) / 4+192<=200000 by omega) h3) D5
 refine Z3 w s x 76 ho a9 83 ie z 20 ie.bytes Tryz.underlying76 h1 h4 h2 rfl h5 h6 D5 v qa.length (Qe cs) hs r1 ⟨g,0,none⟩ 1 1 c.toList hx D5 (by simp[N]) (fun j u hj=> ?_) (fun u hu=> ?_) (by simpa using X.eQ) (by unfold maxLen; omega) E I (fun T w' hr hg=> ?_)
 .
  have Z:=hb.cell j;rw[show (⟨g,0,none⟩:Addr).add j=⟨g,0+j,none⟩ from Addr.add_lit ..,Nat.zero_add,Z];simpa using hj
 . exact(Array.all_eq_true_iff_forall_mem.1 J) u (by simpa using hu)
 .
  have Y:=r1.af hg;exact h T w' (bk.snoc (w:=w) (ow:=v) (xs:= []) hr r2 (fun t ht=>(r3 t ht).af Y) (X.af Y)) hg Y
theorem Jp (M:o.guard=none) (s x:Operand) (Y:o.op = .call { callee:= .builtin .append,args:=#[s,x],argTypes:=#[76,76] })
  (a9:Nat) (v:Ef) (qa:List aV) (A:aV) (c:Array Ef) (hs:a.eval s=v) (I:bk w a9 v qa) (g:Nat) (Z:a.eval x = Ex (some ⟨g,0,none⟩) 1 1) (hb:ai w g 83 c) (N:QF w c (kA A) (rA A)) (hn:qa.length<=100000) (E:a9<=w.heap.size)
  (h:∀J w',bk w' a9 J (qa ++ [A])->w.grownBy w' v.ownBlock->av w w'->wpList Ec ops Q rest (a.put o.dst J) w'):wpList Ec ops Q (o::rest) a w:=
 wpList_plain M fun _ hK=>Jo s x Y a9 v qa A c hs I g Z hb N hn E fun J w' X T h3=>hK _ _ (h J w' X T h3)
theorem GK (E:o.guard=none) (x:Operand) (J:o.op = .buildSlice 76 1 #[(0,x)]) (C:Array Ef) (N:a.eval x = Ej C) (h:C.size=20)
  (I:wpList Ec ops Q rest (a.put o.dst (Ex (some ⟨w.heap.size,0,none⟩) 1 1)) (w.alloc (.cells C 83))):wpList Ec ops Q (o::rest) a w:=
 wpList_plain E fun _ M=>Jd x J C N h (M _ _ I)
end
def yO (l:PL) (most:Int):Int×List aV:=
 if z6 l≠0 then(z6 l,[])else if most<0\/12<most then(2,[])else(0,qs l (yy (min most (l.length:Int)).toNat))
theorem Gf {l:PL} (n i:Nat):(qs l ((yy n).take i)).length<=(yy n).length:=by
 have:=J8 l ((yy n).take i);rw[List.length_take]at this;omega
theorem Vi {n m:Nat} {x:P4} (h:Zp n x=true) (E:n<=m) (i:Nat):K4 x i<m:=by
 have:=ZJ h;unfold K4 XA
 split<;>omega
end
section
open Go.RowKit Go.Shelf
variable {cs:Array Ef} {qa:List aV} {Bs G a9 g i:Nat} {l:PL} {t:Ei} {ow v:Ef} {A B C W W' w w':Ee}
theorem Js {P:Program} (E:Array Ei) (t:Ei) (x y:Int) (w:Ee):(Builtin.min_ E t #[Ey Ew x,Ey Ew y]).run P w = .ok (Ey Ew (min x y)) w:=by
 have e:min x y=if y<x then y else x:=by split<;>omega
 rw[e]
 by_cases h1:y<x<;>simp[Builtin.min_,Builtin.min2,go_sem,h1]
attribute [local go_sem] Oper.semAt_some
attribute [local go_sem high] Js
def dt (w:Ee) (l:PL) (most:Int) (e:Ending) (w':Ee):Prop:=∃u,e = Eh (Ev #[u,Ey Ew (yO l most).1])/\dQ w' u (yO l most).2/\zf w w'
theorem dt.none {most c:Int} (h:yO l most=(c,[])) (st:zf w w'):dt w l most (Eh (Ev #[Ex none 0 0,Ey Ew c])) w':=
 ⟨_,by rw[h],by rw[h]; exact dQ.nil w',st⟩
theorem Wi (most:Int) (w:Ee) (hv:bP w v l) (hl:l.length<=1000) (h:z6 l≠0\/most<0\/12<most) :
  Ed Ec 71 #[v,Ey Ew most] w (dt w l most):=by
 have X:∀w',zf w w'->Ed Ec 37 #[v] w' fun e w2=>e = Eh (Ey Ew (z6 l))/\zf w' w2:=fun w' hs=>kU w' (hv.ae hs) hl;obtain⟨ao,cap,rfl⟩:=hv.ak;have I:z6 l≠0->Hid (yO l most=(z6 l,[])):=fun h=>E6 (by unfold yO; rw[E8 h]);have J:z6 l=0->Hid (yO l most=(2,[])):=fun h0=>E6 (by unfold yO; rw[E9 (by rw[h0]; simp),E8 (h.resolve_left (by rw[h0]; simp))]);have M:z6 l=0->most<0\/12<most:=fun h0=>h.resolve_left (by rw[h0]; simp);generalize l.length=n at *;obtain⟨c,N⟩:∃c,z6 l=c:=⟨_,rfl⟩;rw[N]at X I J M;clear hv N h
 go_enter Tryz.func71,Tryz.ntmps71
 go_wp2_with fail
 refine(X _ zh).mono ?_;rintro e T ⟨rfl,E⟩;have B:Below w.heap.size w T:=zT E;have o4:ai T (w.heap.size+1) 76 #[Ex none 0 0]:=ai.au E;have o5:ai T (w.heap.size+1+1) 32 #[Ey Ew 0]:=ai.au E;clear E X;have c4:=o4.c 0 rfl;have c5:=o5.c 0 rfl;have f4:=o4.fr;have f5:=o5.fr;have Y:=o4.lt;have Z:=o5.lt
 by_cases hc:c=0
 .
  have h2:=J hc;replace M:=M hc;clear I J;subst hc
  by_cases g1:most<0
  .
   go_wp2_with fail
   refine bodyPost_ret (by simp[results,Tryz.results71,go_sem,c4,c5,f4,f5,Y,Z]; rfl) rfl ?_;exact dt.none h2.out zh
  .
   have g2:12<most:=M.resolve_left g1;go_wp2_with fail
   refine bodyPost_ret (by simp[results,Tryz.results71,go_sem,c4,c5,f4,f5,Y,Z]; rfl) rfl ?_;exact dt.none h2.out zh
 .
  have h1:=I hc;have aX:(c==0)=false:=by simpa using hc
  clear I J M;go_wp2_with fail
  refine bodyPost_ret (by simp[results,Tryz.results71,go_sem,c4,c5,f4,f5,Y,Z]; rfl) rfl ?_;exact dt.none h1.out zh
theorem KF.trans (h:KF Bs G A B) (k:KF Bs G B C):KF Bs G A C:=⟨k.1.trans h.1,k.2.trans h.2⟩
def NA (W:Ee) (G:Nat):Prop:=W.heap.size<=G\/∃t cs,ai W G t cs/\zU cs=true
structure AK (Bs G:Nat) (W W':Ee):Prop where
 others:KeepsOthers W W'
 kf:KF Bs G W W'
theorem AK.trans (h:AK Bs G A B) (k:AK Bs G B C):AK Bs G A C:=⟨h.others.trans k.others,KF.trans h.kf k.kf⟩
theorem AK.ae (h:zf W W') (h0:Bs<W.heap.size) (I:G<W.heap.size):AK Bs G W W':=
 ⟨⟨h.size,fun k o E _=>(h.block k (Array.getElem?_eq_some_iff.1 E).1).trans E⟩,h.block _ h0,h.block _ I⟩
theorem AK.alloc (o:Obj) (h0:Bs<W.heap.size) (E:G<W.heap.size):AK Bs G W (W.alloc o):=AK.ae ((Et _ _).alloc (Eo _) o) h0 E
theorem AK.row {old:Array Ef} (h:aZ g t old cs W W') (h0:Bs≠g) (I:G≠g):AK Bs G W W':=by
 refine⟨⟨Nat.le_of_eq h.only.1.symm,fun k o E hc=> ?_⟩,h.only.2 _ h0,h.only.2 _ I⟩;rw[h.only.2 k (fun e=>by subst e; rw[show W.heap[k]? = _ from h.was]at E; cases E; cases hc)]; exact E
theorem bk.cells (h:bk W a9 ow qa):∀g,ow.ownBlock=some g->∃cs t,W.heap[g]? = some (.cells cs t (0,0)):=by
 obtain⟨cs,E,_⟩:=h;intro g hg
 rcases E.own.2 with⟨rfl,_⟩ | ⟨g',cap,cur,rfl,hbg,hh,_⟩
 . cases hg
 . cases hg; exact⟨_,_,hh⟩
theorem bk.bz {b:Nat} (h:bk w a9 ow qa) (hg:w.grownBy w' ow.ownBlock) (E:ai w b t cs) (I:b<a9):ai w' b t cs:=
 (hg.block b E.lt fun J=>by have:=(h.lt b J.symm).1; omega).trans E
theorem bk.below {E:Ee} (h:bk w a9 ow qa) (hg:w.grownBy w' ow.ownBlock) (J:Below E.heap.size E w) (I:E.heap.size<=a9):Below E.heap.size E w':=
 J.grown hg J.size fun k M=>Nat.le_trans I (h.lt k M).1
theorem AK.grow (h:bk W a9 ow qa) (hg:W.grownBy W' ow.ownBlock) (h0:Bs<a9) (N:G<a9) (M:Bs<W.heap.size) (I:G<W.heap.size):AK Bs G W W':=by
 refine⟨KeepsOthers.of_grownBy hg fun j o J E=> ?_,hg.block _ M fun e=> ?_,hg.block _ I fun e=> ?_⟩
 .
  obtain⟨cs,t,e⟩:=h.cells j J;rw[e]at E; cases E; rfl
 . have:=(h.lt _ e.symm).1; omega
 . have:=(h.lt _ e.symm).1; omega
theorem AK.cell (h0:Bs≠g) (E:G≠g):AK Bs G W (W.setCell ⟨g,i,none⟩ v):=
 ⟨KeepsOthers.setCell _ _ _,Below.heap_setCell _ _ _ _ h0,Below.heap_setCell _ _ _ _ E⟩
theorem NA.alloc (h:NA W G) (o:Obj) (I:W.heap.size=G->∃cs t,o = .cells cs t/\zU cs=true):NA (W.alloc o) G:=by
 rcases h with h | ⟨t,cs,h,E⟩
 .
  rcases Ep W.heap.size G with g | g
  . exact .inl D9
  .
   have e:W.heap.size=G:=D5
   obtain⟨cs,t,rfl,E⟩:=I e;exact .inr ⟨t,cs,ai.bO e,E⟩
 . exact .inr ⟨t,cs,h.alloc o,E⟩
theorem NA.kept (h:NA W G) (k:W'.heap[G]? = W.heap[G]?):NA W' G:=by
 rcases h with h | ⟨t,cs,h,E⟩
 .
  left
  rw[Array.getElem?_eq_none h]at k;exact Array.getElem?_eq_none_iff.1 k
 . exact .inr ⟨t,cs,k.trans h,E⟩
theorem NA.set {x:Int} (h:NA W G):NA (W.setCell ⟨G,i,none⟩ (Ey Ew x)) G/\av W (W.setCell ⟨G,i,none⟩ (Ey Ew x)):=by
 rcases h with h | ⟨t,cs,h,I⟩
 .
  have J:(W.setCell ⟨G,i,none⟩ (Ey Ew x)).heap.size=W.heap.size:=World.size_setCell ..;refine⟨.inl (by rw[J]; exact h),fun v l T=> ?_⟩;obtain⟨h0,ao,cap,rfl,N,Y,M⟩:=T;refine⟨h0,ao,cap,rfl,N,Y,fun E=> ?_⟩;obtain⟨b,o,rfl,X,hc⟩:=M E;refine⟨b,o,rfl,by rw[J]; exact X,fun t ht=> ?_⟩;have e:=Below.heap_setCell W ⟨G,i,none⟩ (Ey Ew x) b (show b≠G by omega);have:=hc t ht;unfold Er at this|-;rw[e]; exact this
 . exact⟨.inr ⟨t,_,h.bL i _,jr I rfl⟩,av.only h I ((bK.refl _ _).set)⟩
theorem Gg (most:Int) (w:Ee) (hv:bP w v l) (hl:l.length<=1000) (hc:z6 l=0) (h0:0<=most) (h1:most<=12) (h7:(min most (l.length:Int)).toNat<=7) :
  Ed Ec 71 #[v,Ey Ew most] w (dt w l most):=by
 have cN:Fence.wide.round=none:=rfl
 have ck:∀w',zf w w'->Ed Ec 37 #[v] w' fun e w2=>e = Eh (Ey Ew 0)/\zf w' w2:=fun w' hs=>by
  have:=kU w' (hv.ae hs) hl
  rwa[hc]at this
 have HS:Hid (yO l most=(0,qs l (yy (min most (l.length:Int)).toNat))):=E6 (by unfold yO; rw[E9 (by rw[hc]; simp),E9 D5]);have HP:=E6 hv;have gz:=E6 hc;obtain⟨ao,cap,rfl⟩:=hv.ak;obtain⟨len,be⟩:∃n,l.length=n:=⟨_,rfl⟩;have HL:=E6 be;rw[be]at HP HS h7 ck|-;obtain⟨n,hn⟩:∃n,(min most (len:Int)).toNat=n:=⟨_,rfl⟩;rw[hn]at HS h7;have gI:min most (len:Int)=(n:Int):=D5
 have gO:n<=len:=D5
 clear hv be hc hn;have g1:decide (most<0)=false:=E' D5;have g2:decide (12<most)=false:=E' D5;refine(callsIn_wide (n:=3)).1 ?_;refine callsIn_of_wp_marks Tryz.func71 rfl trivial ?_ cN;simp only[Tryz.ntmps71,List.size_toArray,List.length_cons,List.length_nil,Nat.reduceAdd,Nat.reduceSub,Array.replicate_succ,Array.replicate_zero,List.push_toArray,List.append_toArray,List.nil_append,List.cons_append]
 gi_wp2_with fail
 refine⟨trivial,?_⟩
 gi_at_call 37
 refine(callsIn_wide (n:=2)).2 ?_;refine(ck _ zh).mono ?_;rintro e E ⟨rfl,bh⟩;have B:Below w.heap.size w E:=zT bh;have o2:ai E w.heap.size 55 #[Ex ao len cap]:=ai.au bh;have o4:ai E (w.heap.size+1) 76 #[Ex none 0 0]:=ai.au bh;have o5:ai E (w.heap.size+1+1) 32 #[Ey Ew 0]:=ai.au bh;clear bh ck;have c2:Er E ⟨w.heap.size,0,none⟩=_:=o2.c 0 rfl;have l2:=o2.lt;have f2:=o2.fr
 gi_wp2_with (refine⟨trivial,?_⟩; gi_at_call 106; refine(Wh Fence.wide 2 trivial cN _ _).mono ?_; rintro e w' ⟨rfl,rfl⟩)
 obtain⟨W0,T⟩:∃W0,(E.alloc (.cells #[Ex none 0 0] 76)).alloc (.cells #[Ey Ew (n:Nat)] 3)=W0:=⟨_,rfl⟩;rw[T];have zB:=B.size;have b2:ai W0 w.heap.size 55 #[Ex ao len cap]:=by rw[<- T]; exact zw
 have b4:ai W0 (w.heap.size+1) 76 #[Ex none 0 0]:=by rw[<- T]; exact zw
 have b5:ai W0 (w.heap.size+1+1) 32 #[Ey Ew 0]:=by rw[<- T]; exact zw
 have b7:ai W0 E.heap.size 76 #[Ex none 0 0]:=by rw[<- T]; exact zw
 have bn:ai W0 (E.heap.size+1) 3 #[Ey Ew (n:Nat)]:=by rw[<- T]; exact ai.bO D8
 have gn:Below w.heap.size w W0:=by rw[<- T]; exact zh
 have gM:W0.heap.size=E.heap.size+2:=by rw[<- T]; simp
 have l5:=o5.lt;clear T o2 o4 o5 c2 l2 f2 B;have hG:W0.heap.size+2=E.heap.size+4:=D5
 have hL:W0.heap.size+1=E.heap.size+3:=D5
 refine Kl cN (show 1<=3 by omega) (gf:=141) (lb:=#[Ek (some ⟨E.heap.size+1,0,none⟩)]) rfl trivial (enters_of Tryz.func141 D6 rfl)
  (Kp:=KF (E.heap.size+1) (E.heap.size+4)) (S:=fun xs=>xs=yy n) (El:=fun pre x=>Zp n x=true/\pre.length<36/\pre=(yy n).take pre.length) (Pr:=fun A=>ai A (E.heap.size+1) 3 #[Ey Ew (n:Nat)])
  (by rw[hG]; exact Jr 2 (E.heap.size+1) (E.heap.size+4) n h7 D5) (fun o o'=>(bn.alloc o).alloc o') (fun _=>rfl) KF.trans
  (fun A o o' ho hc=>⟨World.putObj_heap_other D5,World.putObj_heap_other D5⟩)
  (fun(pre:List P4) W=>ai W w.heap.size 55 #[Ex ao len cap]/\ai W (w.heap.size+1) 76 #[Ex none 0 0]/\ai W (w.heap.size+1+1) 32 #[Ey Ew 0]/\(∃ow,ai W E.heap.size 76 #[ow]/\bk W (E.heap.size+5) ow (qs l pre))/\Below w.heap.size w W/\NA W (E.heap.size+4))
  ⟨?al,?dr,?st⟩ ?io ?h0
  (fun(x:P4) a' W=>∃p,a' = { tmps:=#[Ex ao len cap,Ey Ew most,Ek (some ⟨w.heap.size,0,none⟩),Em,Ek (some ⟨w.heap.size+1,0,none⟩),Ek (some ⟨w.heap.size+1+1,0,none⟩),Ey Ew 0,Ek (some ⟨E.heap.size,0,none⟩),Ek (some ⟨p,0,none⟩),Em,Em,Em,Em,Ex ao len cap,Ey Ew 0,Ey Ew 0,Ez false,Em,Ey Ew most,Ez false,Ez false,Ey Ew most,Ez false,Ez false,Ey Ew most,Ex ao len cap,Ey Ew (len:Nat),Ey Ew (n:Nat),.func (.func 141) #[] #[Ek (some ⟨E.heap.size+1,0,none⟩)],Ej #[Ey Ew (x.1:Nat),Ey Ew (x.2.1:Nat),Ey Ew (x.2.2.1:Nat),Ey Ew (x.2.2.2:Nat)],Em,Em,Em,Em,Em,Em,Em,Em,Em,Em,Em,Em,Em,Em,Em,Em,Em,Em,Em,Em,Em],defers:= [] }/\ai W p 80 #[Ey Ew (x.1:Nat),Ey Ew (x.2.1:Nat),Ey Ew (x.2.2.1:Nat),Ey Ew (x.2.2.2:Nat)])
  ?ao ?assign ?body ?done
 case al=>
  rintro pre W o ho ⟨a2,a4,a5,⟨ow,I,hc⟩,N,hN⟩;rw[hG]at ho;exact⟨a2.alloc o,a4.alloc o,a5.alloc o,⟨ow,I.alloc o,hc.ae ((Et _ _).alloc (Eo _) o)⟩,N.alloc N.size o,hN.alloc o ho⟩
 case dr=>
  rintro pre W m ⟨a2,a4,a5,⟨ow,I,hc⟩,N,hN⟩;exact⟨a2.drewN m,a4.drewN m,a5.drewN m,⟨ow,I.drewN m,hc.bT (fun _ _=>rfl) ((av.refl _).drewN m)⟩,yX N m,hN.kept rfl⟩
 case st=>
  rintro pre W i x ⟨a2,a4,a5,⟨ow,I,hc⟩,N,hN⟩;rw[hG];exact⟨a2.aH D5,a4.aH D5,a5.aH D5,⟨ow,I.aH D5,hc.bT (fun g hg=>Below.heap_setCell _ _ _ g (show g≠E.heap.size+4 by have:=(hc.lt g hg).1; omega)) (hN.set).2⟩,N.setCell (p:=⟨E.heap.size+4,i,none⟩) (show w.heap.size<=E.heap.size+4 by omega) _,(hN.set).1⟩
 case io=>
  rintro pre W o o' ⟨a2,a4,a5,⟨ow,I,hc⟩,N,hN⟩ ho Y;rw[hL]at ho|-;have nb:∀g t cs,ai W g t cs->g≠E.heap.size+3:=fun g t cs h e=>by subst e; rw[show W.heap[E.heap.size+3]? = _ from h]at ho; cases ho; cases Y
  have kp:av W (W.putObj (E.heap.size+3) o'):=fun v l h=>kz h (grownBy_putObj' W _ o') (fun r e=>by cases e; exact⟨o,ho,Y⟩);refine⟨?_,?_,?_,⟨ow,?_,hc.bT (fun g hg=>World.putObj_heap_other (by have:=(hc.lt g hg).1; omega)) kp⟩,?_,hN.kept (World.putObj_heap_other D5)⟩
  . exact yi a2 (grownBy_putObj' W _ o') (fun r e=>by cases e; exact⟨o,ho,Y⟩)
  . exact yi a4 (grownBy_putObj' W _ o') (fun r e=>by cases e; exact⟨o,ho,Y⟩)
  . exact yi a5 (grownBy_putObj' W _ o') (fun r e=>by cases e; exact⟨o,ho,Y⟩)
  . exact yi I (grownBy_putObj' W _ o') (fun r e=>by cases e; exact⟨o,ho,Y⟩)
  . exact N.grown (grownBy_putObj' W _ o') N.size (fun k hk=>by cases hk; omega)
 case h0=>exact⟨b2,b4,b5,⟨_,b7,bk.nil _ _⟩,gn,.inl D5⟩
 case ao=>
  rintro x a' W o o' ⟨p,e,hb⟩ ho Y;exact⟨p,e,yi hb (grownBy_putObj' W _ o') (fun r e=>by cases e; exact⟨o,ho,Y⟩)⟩
 case assign=>
  rintro pre x W K' ⟨a2,a4,a5,⟨ow,I,hc⟩,N,hN⟩ cy bi;have z:=I.lt;unfold Kn Km;dsimp only;generalize x.1=ka at bi|-;generalize x.2.1=kb at bi|-;generalize x.2.2.1=kc at bi|-;generalize x.2.2.2=kd at bi|-
  gi_wp2
  have st:zf W (W.alloc (.cells #[Ey Ew (ka:Nat),Ey Ew (kb:Nat),Ey Ew (kc:Nat),Ey Ew (kd:Nat)] 80)):=(Et _ _).alloc (Eo _) _;exact bi _ _ (KeepsOthers.alloc _ _) ⟨st.block _ D5,st.block _ D5⟩ ⟨a2.alloc _,a4.alloc _,a5.alloc _,⟨ow,I.alloc _,hc.ae st⟩,N.alloc N.size _,hN.kept (st.block _ D5)⟩ ⟨_,rfl,ai.new _ _ _⟩
 case body=>
  rintro pre x a' W ⟨gt,eW⟩ ⟨a2,a4,a5,⟨ow,I,hc⟩,N,hN⟩ ⟨p,rfl,bo⟩ ⟨bl,fd,ce⟩ cy;rw[hG]at cy;have dP:bP W (Ex ao len cap) l:=HP.out.ae N;have d9:∀i,K4 x i<l.length:=Vi bl (by have:=HL.out; omega);have cx:∀i,kK (pt l (K4 x i)).1 (pt l (K4 x i)).2:=fun i=>Zv gz.out _ (d9 i);have HA:Hid (qs l (pre ++ [x])=if 0<jB l (K4 x)then qs l pre ++ [yA l (K4 x)]else qs l pre):=E6 (K5 l pre x)
  have gF:(qs l pre).length<=100000:=by
   rw[ce];have:=Gf (l:=l) n pre.length;have:=(KZ n h7).1;omega
  have cf:Ed Ec 107 #[Ex ao len cap,Ej #[Ey Ew (x.1:Nat),Ey Ew (x.2.1:Nat),Ey Ew (x.2.2.1:Nat),Ey Ew (x.2.2.2:Nat)]] W fun e w'=>e = Eh (Ev #[Ej (qZ (yA l (K4 x))),Ez (decide (0<(yA l (K4 x)).n))])/\zf W w':=Hk x.1 x.2.1 x.2.2.1 x.2.2.2 W dP d9 cx;have hz:jB l (K4 x)=0->(yA l (K4 x)).n=0:=fun h=>by rw[QY _ _ h]; rfl
  have hp:0<jB l (K4 x)->0<(yA l (K4 x)).n/\cX (yA l (K4 x)):=fun h=>⟨by rw[(qU l _ h).2.1]; exact h,YX cx h⟩;have hw:=J5 l (K4 x);obtain⟨A,hA⟩:∃A,yA l (K4 x)=A:=⟨_,rfl⟩;rw[hA]at cf HA hz hp;obtain⟨wd,f9⟩:∃z,jB l (K4 x)=z:=⟨_,rfl⟩;rw[f9]at HA hz hp hw;generalize x.1=ka at *;generalize x.2.1=kb at *;generalize x.2.2.1=kc at *;generalize x.2.2.2=kd at *;clear hA f9 dP d9 cx bl ce eW gt;have l7:=I.lt;have zW:=N.size;obtain⟨Z,oc,rfl⟩:=hc.len;have HC:=E6 hc;clear hc;have fl:W.cell? ⟨w.heap.size,0,none⟩=some (Ex ao len cap):=a2.c 0 rfl;have gd:W.cell? ⟨p,0,none⟩=some (Ey Ew (ka:Nat)):=bo.c 0 rfl;have fe:W.cell? ⟨p,1,none⟩=some (Ey Ew (kb:Nat)):=bo.c 1 rfl;have gH:W.cell? ⟨p,2,none⟩=some (Ey Ew (kc:Nat)):=bo.c 2 rfl;have gG:W.cell? ⟨p,3,none⟩=some (Ey Ew (kd:Nat)):=bo.c 3 rfl
  gi_upto_region 9 with fail
  refine yI D6 ?_
  repeat' (first | go_values | go_skip | go_guarded | go_step | go_upon)
  refine cf.mono ?_;rintro e W1 ⟨rfl,M⟩;have ci:AK (E.heap.size+1) (E.heap.size+4) W W1:=AK.ae M D5 D5;replace a2:=a2.ae M;replace a4:=a4.ae M;replace a5:=a5.ae M;replace I:=I.ae M;have B1:Below w.heap.size w W1:=zt N (Eo _) M;have cn:=E6 (HC.out.ae M);have N1:=hN.kept ci.kf.2;have gN:E.heap.size+4<W1.heap.size:=Nat.lt_of_lt_of_le cy M.size;clear fl gd fe gH gG bo cf M HC N l7;have l7:=I.lt;dsimp only
  repeat' (first | ((with_reducible show wpList _ _ _ (⟨none,.store _ _ _,_,_,_,_⟩::_) _ _); refine zF rfl 160 (.tmp 9) (.tmp 34) rfl W1.heap.size (qZ A) rfl rfl 160 #[Ey Ew 0,Ey Ew 0,Ey Ew 0,Ey Ew 0,Ey Ew 0,Ey Ew 0,Ey Ew 0,Ey Ew 0,Ey Ew 0] zw D6 rfl (Zu A) (fun W2 r2=> ?_)) | go_values | go_skip | go_guarded | go_step | go_upon)
  have o9:=r2.bz;have bt:AK (E.heap.size+1) (E.heap.size+4) W W2:=(ci.trans (AK.alloc _ D5 D5)).trans (AK.row r2 D5 D5);replace a2:=r2.bG (a2.alloc _) D5;replace a4:=r2.bG (a4.alloc _) D5;replace a5:=r2.bG (a5.alloc _) D5;replace I:=r2.bG (I.alloc _) D5;have B2:Below w.heap.size w W2:=r2.below (B1.alloc B1.size _) B1.size;have cg:=E6 ((cn.out.ae ((Et _ _).alloc (Eo _) _)).bT (fun g hg=>r2.only.2 g (by have:=(cn.out.lt g hg).2; omega)) (r2.af rfl));have N2:=N1.kept (show W2.heap[E.heap.size+4]? = _ from((AK.alloc (.cells Uk 160) D5 D5).trans (AK.row r2 D5 D5)).kf.2);have s2:W2.heap.size=W1.heap.size+1:=by rw[r2.only.1,World.size_alloc]
  have gB:E.heap.size+4<W2.heap.size:=D5
  clear ci r2 cn N1 B1;dsimp only[xf,Act.put];generalize W1.heap.size=pa at *
  by_cases hd:0<wd
  .
   obtain⟨aX,bg⟩:=hp hd;have dx:Hid (qs l (pre ++ [x])=qs l pre ++ [A]):=E6 (by rw[HA.out,E8 hd]);have g8:decide (0<A.n)=true:=E_ aX;have cq:=Hl A W2 bg aX;have co:=E6 (E7 aX bg);clear HA hz hp aX bg
   gi_upto_region 11 with fail
   refine yI D6 ?_
   repeat' (first | ((with_reducible show wpList _ _ _ (⟨some 39,_,_,_,_,_⟩::_) _ _); refine zO rfl 160 (.tmp 9) rfl pa rfl 160 (qZ A) _ o9 Tryz.underlying160 rfl D6 ?_) | go_values | go_skip | go_guarded | go_step | go_upon)
   refine cq.mono ?_;rintro e W3 ⟨cs,rfl,em,⟨dk,er⟩,J⟩;have dy:=bt.trans (AK.ae J D5 D5);replace a2:=a2.ae J;replace a4:=a4.ae J;replace a5:=a5.ae J;replace I:=I.ae J;have B3:Below w.heap.size w W3:=zt B2 (Eo _) J;have cU:=E6 (cg.out.ae J);have N3:=N2.kept (AK.ae J (Bs:=E.heap.size+1) (G:=E.heap.size+4) D5 D5).kf.2;have gL:E.heap.size+4<W3.heap.size:=Nat.lt_of_lt_of_le gB J.size
   have hq:QF W3 cs (kA A) (rA A):=by
    obtain⟨CA,e,qm⟩:=em.qm
    injection e with e
    subst e;exact QM.qf co.out.1 co.out.2 qm
   have dz:=E6 hq;have ic:(Tryz.prog.info? 83).map (·.size)=some cs.size:=by rw[dk]; kernel_rfl
   clear hq em cq J cg N2 B2 co o9 bt l7;have l7:=I.lt;dsimp only
   repeat' (first | ((with_reducible show wpList _ _ _ (⟨none,.store _ _ _,_,_,_,_⟩::_) _ _); refine zF rfl 83 (.tmp 11) (.tmp 41) rfl W3.heap.size cs rfl rfl 83 ZT zw ic dk.symm er (fun W4 r4=> ?_)) | go_values | go_skip | go_guarded | go_step | go_upon)
   have gC:=r4.bz;have gA:AK (E.heap.size+1) (E.heap.size+4) W W4:=(dy.trans (AK.alloc _ D5 D5)).trans (AK.row r4 D5 D5);replace a2:=r4.bG (a2.alloc _) D5;replace a4:=r4.bG (a4.alloc _) D5;replace a5:=r4.bG (a5.alloc _) D5;replace I:=r4.bG (I.alloc _) D5;have B4:Below w.heap.size w W4:=r4.below (B3.alloc B3.size _) B3.size;have ey:av W3 W4:=av.trans zj (r4.af rfl);have dl:=E6 ((cU.out.ae ((Et _ _).alloc (Eo _) _)).bT (fun g hg=>r4.only.2 g (by have:=(cU.out.lt g hg).2; omega)) (r4.af rfl));have ft:=E6 (dz.out.af ey);have N4:=N3.kept (show W4.heap[E.heap.size+4]? = _ from((AK.alloc (.cells ZT 83) D5 D5).trans (AK.row r4 D5 D5)).kf.2);have s4:W4.heap.size=W3.heap.size+1:=by rw[r4.only.1,World.size_alloc]
   have gP:E.heap.size+4<W4.heap.size:=D5
   clear dy r4 cU N3 B3 dz ey;dsimp only[xf,Act.put];generalize W3.heap.size=pq at *;have c7:W4.cell? ⟨E.heap.size,0,none⟩=some (Ex Z (qs l pre).length oc):=I.c 0 rfl
   gi_upto_region 14 with fail
   refine yI D6 ?_
   repeat' (first | ((with_reducible show wpList _ _ _ (⟨some 47,_,_,_,_,_⟩::_) _ _); refine zO rfl 83 (.tmp 11) rfl pq rfl 83 cs _ gC Tryz.underlying83 rfl ic ?_) | ((with_reducible show wpList _ _ _ (⟨some 48,_,_,_,_,_⟩::_) _ _); refine GK rfl (.tmp 47) rfl cs rfl dk ?_) | ((with_reducible show wpList _ _ _ (⟨some 49,_,_,_,_,_⟩::_) _ _); refine Jp rfl (.tmp 46) (.tmp 48) rfl (E.heap.size+5) (Ex Z (qs l pre).length oc) (qs l pre) A cs rfl (dl.out.ae ((Et _ _).alloc (Eo _) _)) W4.heap.size rfl (ai.new _ _ _) (ft.out.af zj) gF D9 (fun v' W5 dc aY k5=> ?_); obtain⟨gE,g9,rfl⟩:=dc.len; have b9:ai W5 E.heap.size 76 #[Ex Z (qs l pre).length oc]:=(aY.block _ (I.alloc _).lt (fun e=>by have:=(dl.out.lt _ e.symm).1; omega)).trans (I.alloc _); have gK:W5.cell? ⟨E.heap.size,0,none⟩=some (Ex Z (qs l pre).length oc):=b9.c 0 rfl; have gJ:=b9.fr; have gQ:=b9.lt) | go_values | go_skip | go_guarded | go_step | go_upon)
   dsimp only[xf,Act.put]
   gi_wp2
   have r4:=dl.out.ae ((Et W4.heap.size W4).alloc (Eo _) (.cells cs 83));have eM:AK (E.heap.size+1) (E.heap.size+4) W4 (W4.alloc (.cells cs 83)):=AK.alloc _ D5 D5;have f8:AK (E.heap.size+1) (E.heap.size+4) (W4.alloc (.cells cs 83)) W5:=AK.grow r4 aY D5 D5 D9 D9;have ed:AK (E.heap.size+1) (E.heap.size+4) W5 (W5.setCell ⟨E.heap.size,0,none⟩ (Ex gE ((qs l pre).length+1) g9)):=AK.cell D5 D5;have ek:=((gA.trans eM).trans f8).trans ed;have d2:=r4.bz aY (a2.alloc _) D5;have d4:=r4.bz aY (a4.alloc _) D5;have d5:=r4.bz aY (a5.alloc _) D5;have B5:=r4.below aY (B4.alloc B4.size (.cells cs 83)) D5;refine⟨ek.others.from _,ek.kf,d2.aH D5,d4.aH D5,d5.aH D5,⟨_,b9.bL 0 _,?_⟩,B5.setCell (p:=⟨E.heap.size,0,none⟩) (show w.heap.size<=E.heap.size by omega) _,((N4.kept eM.kf.2).kept f8.kf.2).kept ed.kf.2⟩;rw[dx.out,show (qs l pre).length+1=(qs l pre ++ [A]).length by simp];exact dc.bT (fun g hg=>Below.heap_setCell _ _ _ g (show g≠E.heap.size by have:=(dc.lt g hg).1; omega)) (av.only b9 rfl ((bK.refl _ _).set))
  .
   have h0:wd=0:=D5
   have gD:=hz h0;have g8:decide (0<A.n)=false:=E' D5;have dx:Hid (qs l (pre ++ [x])=qs l pre):=E6 (by rw[HA.out,E9 hd]);clear HA hz hp gD
   gi_wp2
   exact⟨bt.others.from _,bt.kf,a2,a4,a5,⟨_,I,by rw[dx.out]; exact cg.out⟩,B2,N2⟩
 case done=>
  rintro D xs W hD rfl ⟨a2,a4,a5,⟨ow,I,hc⟩,N,hN⟩ hKd;obtain⟨Z,oc,rfl⟩:=hc.len;have nD:∀g t cs,ai W g t cs->g≠D:=fun g t cs h e=>by subst e; rw[show W.heap[g]? = _ from h]at hKd; cases hKd
  have n4:=nD _ _ _ a4;have n5:=nD _ _ _ a5;have c7:W.cell? ⟨E.heap.size,0,none⟩=_:=I.c 0 rfl;have c4:W.cell? ⟨w.heap.size+1,0,none⟩=_:=a4.c 0 rfl;have c5:W.cell? ⟨w.heap.size+1+1,0,none⟩=_:=a5.c 0 rfl;have l4:=a4.lt;have l7:=I.lt;have f4:=a4.fr;have f5:=a5.fr;have f7:=I.fr;clear nD
  gi_wp2
  have d7:=I.lt;have e4:ai ((W.setCell ⟨w.heap.size+1,0,none⟩ (Ex Z (qs l (yy n)).length oc)).setCell ⟨w.heap.size+1+1,0,none⟩ (Ey Ew 0)) (w.heap.size+1) 76 #[Ex Z (qs l (yy n)).length oc]:=(a4.bL 0 _).aH D5;have e5:ai ((W.setCell ⟨w.heap.size+1,0,none⟩ (Ex Z (qs l (yy n)).length oc)).setCell ⟨w.heap.size+1+1,0,none⟩ (Ey Ew 0)) (w.heap.size+1+1) 32 #[Ey Ew 0]:=(a5.aH D5).bL 0 _;have k1:av W (W.setCell ⟨w.heap.size+1,0,none⟩ (Ex Z (qs l (yy n)).length oc)):=av.only a4 rfl ((bK.refl _ _).set);have k2:av (W.setCell ⟨w.heap.size+1,0,none⟩ (Ex Z (qs l (yy n)).length oc)) ((W.setCell ⟨w.heap.size+1,0,none⟩ (Ex Z (qs l (yy n)).length oc)).setCell ⟨w.heap.size+1+1,0,none⟩ (Ey Ew 0)):=av.only (a5.aH D5) rfl ((bK.refl _ _).set);have hX:∀k,k≠w.heap.size+1->k≠w.heap.size+1+1->((W.setCell ⟨w.heap.size+1,0,none⟩ (Ex Z (qs l (yy n)).length oc)).setCell ⟨w.heap.size+1+1,0,none⟩ (Ey Ew 0)).heap[k]? = W.heap[k]? :=fun k h1 h2=>(Below.heap_setCell _ ⟨w.heap.size+1+1,0,none⟩ _ k h2).trans (Below.heap_setCell _ ⟨w.heap.size+1,0,none⟩ _ k h1);have BX:=(N.setCell (p:=⟨w.heap.size+1,0,none⟩) (show w.heap.size<=w.heap.size+1 by omega) (Ex Z (qs l (yy n)).length oc)).setCell (p:=⟨w.heap.size+1+1,0,none⟩) (show w.heap.size<=w.heap.size+1+1 by omega) (Ey Ew 0);have CX:=hc.bT (fun g hg=>hX g (by have:=(hc.lt g hg).1; omega) (by have:=(hc.lt g hg).1; omega)) (k1.trans k2);have jd:=(hX D (Ne.symm n4) (Ne.symm n5)).trans hKd;generalize (W.setCell ⟨w.heap.size+1,0,none⟩ (Ex Z (qs l (yy n)).length oc)).setCell ⟨w.heap.size+1+1,0,none⟩ (Ey Ew 0)=X at e4 e5 BX CX jd|-;clear hX k1 k2 c4 c5 c7 f4 f5 f7 l4 l7;have br:∀r,some D=some r->∃o:Obj,X.heap[r]? = some o/\o.isCells=false:=fun r e=>by cases e; exact⟨_,jd,rfl⟩
  have E4:=yi e4 (grownBy_putObj' X D (.deferred none)) br;have E5:=yi e5 (grownBy_putObj' X D (.deferred none)) br;have q4:Er (X.putObj D (.deferred none)) ⟨w.heap.size+1,0,none⟩=_:=E4.c 0 rfl;have q5:Er (X.putObj D (.deferred none)) ⟨w.heap.size+1+1,0,none⟩=_:=E5.c 0 rfl;refine⟨by simp,.inl ⟨_,_,rfl,run_takeDeferred jd,?_⟩⟩;refine⟨Ev #[Ex Z (qs l (yy n)).length oc,Ey Ew 0],?_,⟨_,by rw[HS.out],?_,?_⟩⟩
  . simp[results,Tryz.results71,go_sem,q4,q5]
  .
   rw[HS.out];exact(CX.bT (fun g hg=>World.putObj_heap_other (fun e=>by subst e; obtain⟨cs,t,h⟩:=CX.cells g hg; rw[h]at jd; cases jd)) (fun v l h=>kz h (grownBy_putObj' X D _) br)).fW
  . exact BX.grown (grownBy_putObj' X D _) BX.size (fun k hk=>by cases hk; omega)
theorem Gh (most:Int) (w:Ee) (hv:bP w v l) (I:l.length<=1000) (N:0<=most->most<=12->(min most (l.length:Int)).toNat<=7):Ed Ec 71 #[v,Ey Ew most] w (dt w l most):=by
 by_cases h:z6 l≠0\/most<0\/12<most
 . exact Wi most w hv I h
 .
  have M:z6 l=0:=by
   rcases Decidable.em (z6 l=0)with g | g
   . exact g
   . exact absurd (.inl g) h
  have E:0<=most:=D5
  have J:most<=12:=D5
  exact Gg most w hv I M E J (N E J)
end
section
open Go.RowKit
attribute [local go_sem high] Js
theorem Vk (a b c d:Nat):(Qp a b c d).length<=d:=by unfold Qp; simp
theorem Zx {α β : Type} (f : α->List β) (m:Nat):∀l:List α,(∀x∈l,(f x).length<=m)->(l.flatMap f).length<=l.length*m
 | [],_=>by simp
 | x::l,h=>by
  have I:=h x (List.mem_cons.2 (.inl rfl));have J:=Zx f m l (fun y E=>h y (List.mem_cons.2 (.inr E)));rw[List.flatMap_cons,List.length_append,List.length_cons,Nat.succ_mul];omega
theorem Vl (n a b c:Nat) (E:n<=7) (hc:c<=n):(Y' n a b c).length<=49:=by
 unfold Y';refine Nat.le_trans (Zx _ 7 _ (fun x _=>Nat.le_trans (Vk _ _ _ _) E)) ?_;rw[List.length_range']; omega
theorem Vm (n a b:Nat) (E:n<=7) (I:b<=n):(Yk n a b).length<=343:=by
 unfold Yk;refine Nat.le_trans (Zx _ 49 _ (fun x _=>Vl n a x n E (Eo _))) ?_;rw[List.length_range']; omega
theorem Gi (n a:Nat) (E:n<=7) (I:a<=n):(Ya n a).length<=2401:=by
 unfold Ya;refine Nat.le_trans (Zx _ 343 _ (fun x _=>Vm n x n E (Eo _))) ?_;rw[List.length_range']; omega
theorem Vn {v:Ef} {l:PL} (most:Int) (w:Ee) (hv:bP w v l) (hl:l.length<=1000) (hc:z6 l=0) (h0:0<=most) (h1:most<=12) (h7:(min most (l.length:Int)).toNat<=7) :
  Ed Ec 33 #[v,Ey Ew most] w (dt w l most):=by
 have ck:∀w',zf w w'->Ed Ec 62 #[v] w' fun e w2=>e = Eh (Ey Ew 0)/\zf w' w2:=fun w' hs=>by
  have:=Zr w' (hv.ae hs) hl
  rwa[hc]at this
 have HS:Hid (yO l most=(0,qs l (yy (min most (l.length:Int)).toNat))):=E6 (by unfold yO; rw[E9 (by rw[hc]; simp),E9 D5]);have HP:=E6 hv;have bh:=E6 hc;obtain⟨ao,cap,rfl⟩:=hv.ak;obtain⟨len,E⟩:∃n,l.length=n:=⟨_,rfl⟩;have HL:=E6 E;rw[E]at HP HS h7 ck|-;obtain⟨n,hn⟩:∃n,(min most (len:Int)).toNat=n:=⟨_,rfl⟩;rw[hn]at HS h7;have ci:min most (len:Int)=(n:Int):=D5
 have dx:n<=len:=D5
 clear hv E hc hn;have g1:decide (most<0)=false:=E' D5;have g2:decide (12<most)=false:=E' D5
 -- the four calls' contracts, of four indices in order
 have cw:∀a b c d:Nat,a<b->b<c->c<d->d<n->∀w',zf w w'->Ed Ec 74 #[Ex ao len cap,Ej #[Ey Ew (a:Nat),Ey Ew (b:Nat),Ey Ew (c:Nat),Ey Ew (d:Nat)]] w' fun e w2=>e = Eh (Ey Ew (jB l (K4 (a,b,c,d))))/\zf w' w2:=fun a b c d q1 q2 q3 q4 w' hs=>by
  have Y:∀i,K4 (a,b,c,d) i<l.length:=by have:=HL.out; exact Vi (n:=n) (by unfold Zp; simp; omega) D5
  exact Vb a b c d _ rfl w' (HP.out.ae hs) Y (fun i=>Zv bh.out _ (Y i))
 have cc:∀a b c d:Nat,a<b->b<c->c<d->d<n->0<jB l (K4 (a,b,c,d))->∀w',zf w w'->Ed Ec 75 #[Ex ao len cap,Ej #[Ey Ew (a:Nat),Ey Ew (b:Nat),Ey Ew (c:Nat),Ey Ew (d:Nat)]] w' fun e w2=>∃cs,e = Eh (Ej cs)/\QF w2 cs (kA (yA l (K4 (a,b,c,d)))) (rA (yA l (K4 (a,b,c,d))))/\zf w' w2:=fun a b c d q1 q2 q3 q4 hw w' hs=>by
  have Y:∀i,K4 (a,b,c,d) i<l.length:=by have:=HL.out; exact Vi (n:=n) (by unfold Zp; simp; omega) D5
  exact Ce a b c d _ rfl w' (HP.out.ae hs) (by have:=HL.out; omega) Y (fun i=>Zv bh.out _ (Y i)) hw
 have HQ:∀xs x,Hid (qs l (xs ++ [x])=if 0<jB l (K4 x)then qs l xs ++ [yA l (K4 x)]else qs l xs):=fun xs x=>E6 (K5 l xs x)
 have T:∀a b c d:Nat,a<n->b<=n->c<=n->d<=n->(qs l (((Ya n a++Yk n a b)++Y' n a b c)++Qp a b c d)).length<=100000:=fun a b c d q1 q2 q3 q4=>by
  refine Nat.le_trans (J8 _ _) ?_;have e1:=Gi n a h7 D5;have e2:=Vm n a b h7 q2;have e3:=Vl n a b c h7 q3;have e4:=Vk a b c d;simp only[List.length_append];omega
 clear h0 h1
 go_enter Tryz.func33,Tryz.ntmps33
 go_wp2_with fail
 refine(ck _ zh).mono ?_;rintro e w1 ⟨rfl,bg⟩;have B:Below w.heap.size w w1:=zT bg;clear bg ck;go_wp2_with fail
 go_loopw [8,9] (fun sl0 sl1 wr=>∃a:Nat,0<=a/\a<=n/\sl1 = Ey Ew a/\(∃N,sl0=N/\bk wr w.heap.size N (qs l (Ya n a)))/\Below w.heap.size w wr) (fun _ sl1 _=>n-(intOf sl1).toNat)
 case atStart=>exact⟨0,by omega,by omega,by go_num,⟨_,rfl,by rw[Br]; exact bk.nil _ _⟩,zh⟩
 case round=>
  obtain⟨a,-,ha,rfl,⟨ow,rfl,hc⟩,X⟩:=hrel;clear B;have B:=X;clear X
  rcases Ep a n with an | an
  .
   have dk:decide ((a:Int)<(n:Int))=true:=E_ D5;obtain⟨oa,oc,rfl⟩:=hc.len;have J:=E6 hc;clear hc;go_wp2_with fail
   go_loopw [8,10] (fun sl0 sl1 wr=>∃b:Nat,(a+1)<=b/\b<=n/\sl1 = Ey Ew b/\(∃N,sl0=N/\bk wr w.heap.size N (qs l (Ya n a++Yk n a b)))/\Below w.heap.size w wr) (fun _ sl1 _=>n-(intOf sl1).toNat)
   case atStart=>exact⟨(a+1),by omega,by omega,by go_num,⟨_,rfl,by rw[Bq,List.append_nil]; exact J.out⟩,zh⟩
   case round=>
    obtain⟨b,cy,hb,rfl,⟨ow,rfl,hc⟩,X⟩:=hrel;clear B J;have B:=X;clear X
    rcases Ep b n with bn | bn
    .
     have dl:decide ((b:Int)<(n:Int))=true:=E_ D5;obtain⟨oa,oc,rfl⟩:=hc.len;have J:=E6 hc;clear hc;go_wp2_with fail
     go_loopw [8,11] (fun sl0 sl1 wr=>∃c:Nat,(b+1)<=c/\c<=n/\sl1 = Ey Ew c/\(∃N,sl0=N/\bk wr w.heap.size N (qs l ((Ya n a++Yk n a b)++Y' n a b c)))/\Below w.heap.size w wr) (fun _ sl1 _=>n-(intOf sl1).toNat)
     case atStart=>exact⟨(b+1),by omega,by omega,by go_num,⟨_,rfl,by rw[Bp,List.append_nil]; exact J.out⟩,zh⟩
     case round=>
      obtain⟨c,cN,co,rfl,⟨ow,rfl,hc⟩,X⟩:=hrel;clear B J;have B:=X;clear X
      rcases Ep c n with cn | cn
      .
       have cx:decide ((c:Int)<(n:Int))=true:=E_ D5;obtain⟨oa,oc,rfl⟩:=hc.len;have J:=E6 hc;clear hc;go_wp2_with fail
       go_loopw [8,12] (fun sl0 sl1 wr=>∃d:Nat,(c+1)<=d/\d<=n/\sl1 = Ey Ew d/\(∃N,sl0=N/\bk wr w.heap.size N (qs l (((Ya n a++Yk n a b)++Y' n a b c)++Qp a b c d)))/\Below w.heap.size w wr) (fun _ sl1 _=>n-(intOf sl1).toNat)
       case atStart=>exact⟨(c+1),by omega,by omega,by go_num,⟨_,rfl,by rw[Bo,List.append_nil]; exact J.out⟩,zh⟩
       case round=>
        obtain⟨d,d9,cU,rfl,⟨ow,rfl,hc⟩,X⟩:=hrel;clear B J;have B:=X;clear X
        rcases Ep d n with dn | dn
        .
         have dc:decide ((d:Int)<(n:Int))=true:=E_ D5;obtain⟨oa,oc,rfl⟩:=hc.len;have J:=E6 hc;have be:=cw a b c d D5 D5 D5 dn;have I:=cc a b c d D5 D5 D5 dn;have HX:=HQ (((Ya n a++Yk n a b)++Y' n a b c)++Qp a b c d) (a,b,c,d);have HD:Hid (((Ya n a++Yk n a b)++Y' n a b c)++Qp a b c (d+1)=(((Ya n a++Yk n a b)++Y' n a b c)++Qp a b c d) ++ [(a,b,c,d)]):=E6 (by rw[Bt D5,<- List.append_assoc]);have E:=T a b c d an D5 D5 D5;rw[<- HD.out]at HX;clear hc cw cc HQ T HD;generalize hxs:qs l (((Ya n a++Yk n a b)++Y' n a b c)++Qp a b c d)=xs at J HX E|-;clear hxs;obtain⟨wd,bl⟩:∃z,jB l (K4 (a,b,c,d))=z:=⟨_,rfl⟩;rw[bl]at be I HX;obtain⟨A,hA⟩:∃z,yA l (K4 (a,b,c,d))=z:=⟨_,rfl⟩;rw[hA]at I HX;clear bl hA;have zz:=B.size;go_wp2_with fail
         refine(be _ zh).mono ?_;rintro e w3 ⟨rfl,Z⟩;have M:ai w3 wr.heap.size 80 #[Ey Ew (a:Nat),Ey Ew (b:Nat),Ey Ew (c:Nat),Ey Ew (d:Nat)]:=ai.au Z;have B3:Below w.heap.size w w3:=zT Z;have sK:zf wr w3:=zt (by first | exact zh | exact(Et _ _).alloc (Eo _) _) (Eo _) Z;have b9:=E6 (J.out.ae sK);clear Z sK J B be zz;have c0:=M.c 0 rfl;have c1:=M.c 1 rfl;have c2:=M.c 2 rfl;have c3:=M.c 3 rfl
         by_cases hd:0<wd
         .
          have aY:Hid (qs l (((Ya n a++Yk n a b)++Y' n a b c)++Qp a b c (d+1))=xs ++ [A]):=E6 (by rw[HX.out,E8 hd]);replace I:=I hd;clear HX;go_wp2_with fail
          refine(I _ B3).mono ?_;rintro e w4 ⟨cs,rfl,hq,aX⟩;have B4:Below w.heap.size w w4:=zt B3 (Eo _) aX;have bi:=E6 (b9.out.ae aX);have cg:=hq.1;have br:=E6 hq;have zz:=B4.size;clear aX B3 b9 hq I M c0 c1 c2 c3;dsimp only
          repeat' (first | ((with_reducible show wpList _ _ _ (⟨some 68,_,_,_,_,_⟩::_) _ _); refine GK rfl (.tmp 67) rfl cs rfl cg ?_) | ((with_reducible show wpList _ _ _ (⟨some 69,_,_,_,_,_⟩::_) _ _); refine Jp rfl (.tmp 64) (.tmp 68) rfl w.heap.size (Ex oa xs.length oc) xs A cs rfl (bi.out.ae ((Et _ _).alloc (Eo _) _)) w4.heap.size rfl (ai.new _ _ _) (br.out.af zj) E D9 (fun v' w5 ce bt k5=> ?_)) | go_values | go_skip | go_guarded | go_step | go_upon)
          go_roundw
          case rel=>exact⟨d+1,by omega,by omega,by go_num,⟨_,rfl,by rw[aY.out]; exact ce⟩,(bi.out.ae ((Et _ _).alloc (Eo _) _)).below bt (B4.alloc B4.size _) D5⟩
          case measure=>simp[intOf]; omega
         .
          have aY:Hid (qs l (((Ya n a++Yk n a b)++Y' n a b c)++Qp a b c (d+1))=xs):=E6 (by rw[HX.out,E9 hd]);clear HX I;go_wp2_with fail
          go_roundw
          case rel=>exact⟨d+1,by omega,by omega,by go_num,⟨_,rfl,by rw[aY.out]; exact b9.out⟩,B3⟩
          case measure=>simp[intOf]; omega
        .
         obtain rfl:n=d:=D5
         have HD:Hid ((Ya n a++Yk n a b)++Y' n a b (c+1)=((Ya n a++Yk n a b)++Y' n a b c)++Qp a b c n):=E6 (by rw[Bu D5,<- List.append_assoc]);go_wp2_with fail
         go_roundw
         case rel=>exact⟨c+1,by omega,by omega,by go_num,⟨_,rfl,by rw[HD.out]; exact hc⟩,B⟩
         case measure=>simp[intOf]; omega
      .
       obtain rfl:n=c:=D5
       have HD:Hid (Ya n a++Yk n a (b+1)=(Ya n a++Yk n a b)++Y' n a b n):=E6 (by rw[Bv D5,<- List.append_assoc]);go_wp2_with fail
       go_roundw
       case rel=>exact⟨b+1,by omega,by omega,by go_num,⟨_,rfl,by rw[HD.out]; exact hc⟩,B⟩
       case measure=>simp[intOf]; omega
    .
     obtain rfl:n=b:=D5
     have HD:Hid (Ya n (a+1)=Ya n a++Yk n a n):=E6 (by rw[Bx]);go_wp2_with fail
     go_roundw
     case rel=>exact⟨a+1,by omega,by omega,by go_num,⟨_,rfl,by rw[HD.out]; exact hc⟩,B⟩
     case measure=>simp[intOf]; omega
  .
   obtain rfl:n=a:=D5
   obtain⟨oa,oc,rfl⟩:=hc.len;go_wp2_with fail
   go_returns
   exact⟨_,by rw[HS.out]; rfl,by rw[HS.out]; exact hc.fW,B⟩
end
section
open Go.ChangeShapes Go.WideShapes Go.ChangeAt Go.RowKit Go.Joins
variable {v:Ef} {W':Ee}
section
variable {H:Type} {enc:Ei×Ef->H} {P:Program}
theorem Ko {f:Func} {s:ChangeSpec} {apart Z N aX:Bool} {W:Ee} {args:Array Ef} {ds gs:List (DataW H)} {E pa pv:List MemPlace}
  (hW:DataW.Whole enc P f.params.toList s.vars apart W args.toList ds gs E)
  (X:∀ (b:Nat) (sp:Nat->Bool) (hd:Bool),DataW.TrodAll enc P W' b sp hd f.resultTypes.toList (v.resultList f.resultTypes.size) (s.fn H (ds++gs)).results [])
  (I:∀sp:Nat->Bool,(∀p∈E,sp p.block=true)->DataW.TrodAll enc P W' 0 sp true f.params.toList args.toList (s.fn H (ds++gs)).args pa)
  (M:∀sp:Nat->Bool,(∀p∈E,sp p.block=true)->DataW.TrodVars enc P W' sp s.vars (s.fn H (ds++gs)).vars pv)
  (T:E=pa++pv) (hb:Below W.heap.size W W')
  (be:∀ (j:Nat) (t:Ei) (r:Ef),f.resultTypes[j]? = some t->(v.resultList f.resultTypes.size)[j]? = some r->Value.okWide P W' .any 0 t r) :
  s.post enc P f apart Z N aX W args v W':=by
 have b9:∀p∈E,p.block<W.heap.size:=fun p J=>hW.lt p J;have Y:∀p∈E,(fun b=>decide (b<W.heap.size)) p.block=true:=fun p J=>by simpa using b9 p J
 refine⟨ds,gs,E,[],pa,pv,hW,X _ _ _,I _ Y,M _ Y,World.keptBut_mono (fun p J=>⟨J,?_⟩) (hb.frame (· ∈E)),fun _=> ?_⟩
 .
  rw[T,List.mem_append]at J;exact Or.inr J
 .
  obtain⟨_,_,_,_,_,hz,hn⟩:=hW;refine⟨be,_,_,([]++pa)++pv,⟨[]++pa,pv,trodAll_append (I _ (fun _ _=>rfl)) (X _ _ _),M _ (fun _ _=>rfl),rfl,?_,?_⟩,?_⟩
  .
   intro b off J;have aY:MemPlace.cell b off∈E:=by rw[T]; simpa using J
   rw[hb.frozen (b9 _ aY)];exact hz b off aY
  .
   intro ha;have:=hn ha;rw[T]at this;simpa using this
  .
   intro p J _;rw[T];simpa using J
theorem Kq {W:Ee} (E:Below W.heap.size W W') {p:MemPlace} (I:p.block<W.heap.size):W.sameAt W' p:=by
 cases p with
 | cell b o=>exact E.cell (p:=⟨b,o,none⟩) I
 | map b=>exact E.block b I
theorem vj {W:Ee} (K:Kids P (· < P.types.size)) (N:∀t e,t<P.types.size->P.underlying t=some (.slice e)->0<P.cellsOf e) (Y:Below W.heap.size W W') {M:Nat->Bool} :
  ∀{I:List Ei} {X:List Ef} {T:List (DataW H)} {J:List MemPlace},(∀t∈I,t<P.types.size)->DataW.TrodAll enc P W 0 (fun _=>true) true I X T J->(∀p∈J,M p.block=true)->DataW.TrodAll enc P W' 0 M true I X T J
 | [],[],[],_,_,h,_=>h
 | _::_,_::_,_::_,_,hT,⟨p,q,⟨n,h1⟩,h2,e⟩,hs=>
  ⟨p,q,⟨n,DataW.trod_respare K N n _ _ _ (hT _ (List.mem_cons.2 (Or.inl rfl))) (DataW.trod_carry n _ _ _ h1 (fun x E=>Kq Y (DataW.trod_lt n _ _ _ h1 x E))) (fun x E=>hs x (by rw[e]; exact List.mem_append_left _ E))⟩,
   vj K N Y (fun t ht=>hT t (List.mem_cons.2 (Or.inr ht))) h2 (fun x E=>hs x (by rw[e]; exact List.mem_append_right _ E)),e⟩
theorem Vr {w:Ee} {b o:Nat} (h:w.cell? ⟨b,o,none⟩=some v):b<w.heap.size:=by
 rcases Ep b w.heap.size with g | g
 . exact g
 . simp[Er,Array.getElem?_eq_none g]at h
end
theorem C5:Kids Ec (· < Tryz.prog.types.size):=kids_rows D6 D6
theorem Cl:∀t e,t<Tryz.prog.types.size->Tryz.prog.underlying t=some (.slice e)->0<Tryz.prog.cellsOf e:=slices_full_of Ec D6
theorem Hu:Tryz.prog.cellsOf 172=1:=by kernel_rfl
theorem Hv:Tryz.prog.cellsOf 24=1:=by kernel_rfl
theorem Hw:Tryz.prog.cellsOf 4=1:=by kernel_rfl
theorem Hx:Tryz.prog.cellsOf 26=2:=by kernel_rfl
theorem Wt:Tryz.prog.cellsOf 28=4:=by kernel_rfl
section
variable {H:Type} {enc:Ei×Ef->H} {W:Ee} {a9:Nat} {ah:Bool} {n:Nat}
theorem Kr {y:DataW H×List MemPlace} (h:DataW.trod enc Ec W a9 (fun _=>true) ah n 24 [v]=some y):∃l,aA W v l:=by
 rcases open_ints Tryz.underlying24 Tryz.underlying172 Hu h with⟨e,_⟩ | ⟨a,len,cap,zs,e,_,hle,_,hl,_,hcell,hwf⟩
 .
  simp only[List.cons.injEq,and_true]at e;subst e;exact⟨[],aA.nil W⟩
 .
  simp only[List.cons.injEq,and_true]at e;subst e;rw[E8 rfl]at hl;have lt:(zs.take len).length=len:=by rw[List.length_take]; omega
  refine⟨zs.take len,fun x J=> ?_,some a,cap,by rw[lt],by omega,(fun h=>by cases h),fun E=> ?_⟩
  .
   have:=Go.bounds_u32 (hwf x (List.mem_of_mem_take J));omega
  .
   have I:0<zs.length:=by
    rcases Nat.eq_zero_or_pos len with h0 | h0
    . exact absurd (by rw[h0,List.take_zero]) E
    . omega
   obtain⟨b,off,rfl,hc⟩:=Go.ints_at hcell I;refine⟨b,off,rfl,Vr (hc 0 I),fun t ht=> ?_⟩;rw[lt]at ht;rw[hc t D5];simp[List.getD,List.getElem?_take,ht]
theorem XL {N M:Ef} {y:DataW H×List MemPlace} (h:DataW.trod enc Ec W a9 (fun _=>true) ah n 26 [N,M]=some y):∃g l,N = Ez g/\aA W M l:=by
 obtain⟨xs,m,_,_,_,E,I⟩:=DataW.trod_struct Tryz.underlying26 h;have h0:=I 0 _ rfl;have J:=I 1 _ rfl
 match xs,E with
 | [x0,x1],_=>
  simp[Hw,Hv]at h0 J;obtain⟨b,e,_⟩:=DataW.trod_bool Tryz.underlying4 h0;obtain⟨l,E⟩:=Kr J;simp only[List.cons.injEq,and_true]at e;exact⟨b,l,e,E⟩
theorem ZQ {cs:List Ef} {y:DataW H×List MemPlace} (h:DataW.trod enc Ec W a9 (fun _=>true) ah n 28 cs=some y) :
  ∃gx M gy J la lb,cs = [Ez gx,M,Ez gy,J]/\aA W M la/\aA W J lb:=by
 obtain⟨xs,m,_,_,hc,N,E⟩:=DataW.trod_struct Tryz.underlying28 h;rw[Wt]at hc;have h0:=E 0 _ rfl;have I:=E 1 _ rfl
 match xs,N,cs,hc with
 | [x0,x1],_,[c0,c1,c2,c3],_=>
  simp[Hx]at h0 I;obtain⟨gx,la,rfl,X⟩:=XL h0;obtain⟨gy,lb,rfl,T⟩:=XL I;exact⟨gx,c1,gy,c3,la,lb,rfl,X,T⟩
end
theorem Vs {n:Int} (h:(Lit.int Ew n).wf=true) : -9223372036854775808<=n/\n<=9223372036854775807:=Go.bounds_i64 h
end
section
open Go.RowKit
variable {g n:Nat} {LA LB:Nat->Nat} {O:Nat->Option Rat} {tg:Ei} {v:Ef}
def Cq (w:Ee) (v:Ef) (n:Nat) (O:Nat->Option Rat) (LA LB:Nat->Nat):Prop:=∃b o cap,v = Ex (some ⟨b,o,none⟩) n cap/\n<=cap/\b<w.heap.size/\
 ∀t,t<n->∃a1 a2 a4 a5 a6 a8,w.cell? ⟨b,o+t*4,none⟩=some (Ez a1)/\w.cell? ⟨b,o+t*4+1,none⟩=some (Ex a2 (LA t) a4)/\w.cell? ⟨b,o+t*4+2,none⟩=some (Ez a5)/\w.cell? ⟨b,o+t*4+3,none⟩=some (Ex a6 (LB t) a8)/\FB w (Ej #[Ez a1,Ex a2 (LA t) a4,Ez a5,Ex a6 (LB t) a8]) (O t)
def jo (most:Nat) (o:Option Rat) (p q:Nat):Bool:=decide (p<=most)&&decide (q<=most)&&o.isSome
def xQ (most:Nat) (O:Nat->Option Rat) (LA LB:Nat->Nat):Nat->Bool
 | 0=>true
 | t+1=>xQ most O LA LB t&&jo most (O t) (LA t) (LB t)
theorem VZ {most:Nat} {i:Nat} (h:xQ most O LA LB i=false):∀m,i<=m->xQ most O LA LB m=false:=by
 intro m E
 induction m with
 | zero=>
      obtain rfl:i=0:=D5
      exact h
 | succ m ih=>
  rcases Ep m i with g | g
  .
   obtain rfl:i=m+1:=D5
   exact h
  . unfold xQ; rw[ih g]; rfl
theorem BY {a1 a5:Bool} {a2 a6:Option Addr} {p q a4 a8:Nat} {o:Option Rat} (most:Nat) (w:Ee) (J:ai w g tg #[Ey Ew most]) (M:FB w (Ej #[Ez a1,Ex a2 p a4,Ez a5,Ex a6 q a8]) o) :
  Ed Ec 82 #[Ej #[Ez a1,Ex a2 p a4,Ez a5,Ex a6 q a8],Ek (some ⟨g,0,none⟩)] w fun e w'=>e = Eh (Ez (!jo most o p q))/\zf w w':=by
 have hl:=J.lt;have cc:=J.q0;have E:∀w',av w w'->Ed Ec 58 #[Ej #[Ez a1,Ex a2 p a4,Ez a5,Ex a6 q a8]] w' fun e w2=>e = Eh (Ey Ew (YT o.isSome))/\zf w' w2:=fun w' k=>ZN w' (M.af k);unfold jo;obtain⟨s,N⟩:∃s,o.isSome=s:=⟨_,rfl⟩;rw[N]at E|-;clear J M N
 by_cases h1:p<=most
 .
  by_cases h2:q<=most
  .
   rw[E_ h1,E_ h2];have T:¬(most:Int)<(p:Int):=D5
   have Z:¬(most:Int)<(q:Int):=D5
   clear h1 h2
   go_enter Tryz.func82,Tryz.ntmps82
   go_wp2_with fail
   refine(E _ zj).mono ?_;rintro e Y ⟨rfl,I⟩;have X:Below w.heap.size w Y:=zT I;clear E I
   cases s with
   | false=>
    have e8:(YT false==0)=false:=rfl;rw[show YT false=8 from rfl]
    go_wp2
    go_returns
    exact⟨rfl,X⟩
   | true=>
    rw[show YT true=0 from rfl]
    go_wp2
    go_returns
    exact⟨rfl,X⟩
  .
   rw[E_ h1,E' h2];have T:¬(most:Int)<(p:Int):=D5
   have Z:(most:Int)<(q:Int):=D5
   clear h1 h2 E
   go_enter Tryz.func82,Tryz.ntmps82
   go_wp2
   go_returns
   exact⟨rfl,zh⟩
 .
  rw[E' h1];have T:(most:Int)<(p:Int):=D5
  clear h1 E
  go_enter Tryz.func82,Tryz.ntmps82
  go_wp2
  go_returns
  exact⟨rfl,zh⟩
theorem Hi (most:Nat) (w:Ee) (h:Cq w v n O LA LB) (hb:ai w g tg #[Ey Ew most]) (hn:n<=1000) :
  Ed Ec 122 #[v,.func (.func 82) #[] #[Ek (some ⟨g,0,none⟩)]] w fun e w'=>∃i,e = Eh (Ey Ew i)/\decide (0<=i) = !xQ most O LA LB n/\zf w w':=by
 obtain⟨b,of,cap,rfl,hc,J,E⟩:=h;have HC:=E6 E;have CL:∀w',zf w w'->∀a1 a2 p a4 a5 a6 q a8 o,FB w (Ej #[Ez a1,Ex a2 p a4,Ez a5,Ex a6 q a8]) o->Ed Ec 82 #[Ej #[Ez a1,Ex a2 p a4,Ez a5,Ex a6 q a8],Ek (some ⟨g,0,none⟩)] w' fun e w2=>e = Eh (Ez (!jo most o p q))/\zf w' w2:=fun w' s a1 a2 p a4 a5 a6 q a8 o Y=>BY most w' (hb.ae s) (Y.af (av.ae s));clear E hb
 go_enter Tryz.func122,Tryz.ntmps122
 go_wp2_with fail
 go_loopw [8] (fun kk wr=>∃t:Nat,t<=n/\kk = Ey Ew t/\xQ most O LA LB t=true/\Below w.heap.size w wr) (fun kk _=>n-(intOf kk).toNat)
 case atStart=>exact⟨0,by omega,rfl,rfl,zh⟩
 case round=>
  obtain⟨t,ht,rfl,hw,B⟩:=hrel
  rcases Ep t n with tn | tn
  .
   have aX:decide ((t:Int)<(n:Int))=true:=E_ D5;obtain⟨a1,a2,a4,a5,a6,a8,h0,h1,h2,h3,Y⟩:=HC.out t tn;have c0:wr.cell? ⟨b,of+t*4,none⟩=some (Ez a1):=(B.cell (p:=⟨b,_,none⟩) J).trans h0;have c1:wr.cell? ⟨b,of+t*4+1,none⟩=some (Ex a2 (LA t) a4):=(B.cell (p:=⟨b,_,none⟩) J).trans h1;have c2:wr.cell? ⟨b,of+t*4+2,none⟩=some (Ez a5):=(B.cell (p:=⟨b,_,none⟩) J).trans h2;have c3:wr.cell? ⟨b,of+t*4+3,none⟩=some (Ex a6 (LB t) a8):=(B.cell (p:=⟨b,_,none⟩) J).trans h3;have M:=fun w' (s:zf w w')=>CL w' s a1 a2 (LA t) a4 a5 a6 (LB t) a8 (O t) Y;have Z:jo most (O t) (LA t) (LB t)=false->xQ most O LA LB n=false:=fun e=>VZ (i:=t+1) (by unfold xQ; rw[e,Bool.and_false]) n D5;have I:jo most (O t) (LA t) (LB t)=true->xQ most O LA LB (t+1)=true:=fun e=>by unfold xQ; rw[hw,e]; rfl
   obtain⟨s,hs⟩:∃s,jo most (O t) (LA t) (LB t)=s:=⟨_,rfl⟩;rw[hs]at M Z I;obtain⟨L1,X⟩:∃x,LA t=x:=⟨_,rfl⟩;obtain⟨L2,N⟩:∃x,LB t=x:=⟨_,rfl⟩;rw[X]at c1 M;rw[N]at c3 M;clear hs Y X N CL h0 h1 h2 h3;go_wp2_with fail
   refine(M _ zh).mono ?_;rintro e w1 ⟨rfl,T⟩;have B1:Below w.heap.size w w1:=zT T;clear M T B c0 c1 c2 c3
   cases s with
   | false=>
    have N0:=Z rfl;clear Z I;rw[show (!false)=true from rfl]
    go_wp2
    go_returns
    exact⟨_,rfl,by rw[N0]; simp,B1⟩
   | true=>
    have Y0:=I rfl;clear Z I;rw[show (!true)=false from rfl]
    go_wp2
    go_roundw
    case rel=>exact⟨t+1,by omega,by go_num,Y0,B1⟩
    case measure=>simp[intOf]; omega
  .
   obtain rfl:t=n:=D5
   go_wp2
   go_returns
   exact⟨_,rfl,by rw[hw]; rfl,B⟩
theorem UZ (most:Nat) (w:Ee) (h:Cq w v n O LA LB) (hn:n<=1000) :
  Ed Ec 41 #[Ey Ew most,v] w fun e w'=>e = Eh (Ez (xQ most O LA LB n))/\zf w w':=by
 have N:∀w' (g:Nat) (tg:Ei),zf w w'->ai w' g tg #[Ey Ew most]->Ed Ec 122 #[v,.func (.func 82) #[] #[Ek (some ⟨g,0,none⟩)]] w' fun e T=>∃i,e = Eh (Ey Ew i)/\decide (0<=i) = !xQ most O LA LB n/\zf w' T:=fun w' g tg s M=>by
  refine Hi most w' ?_ M hn;obtain⟨b,o,cap,e,hc,I,E⟩:=h;refine⟨b,o,cap,e,hc,Nat.lt_of_lt_of_le I s.size,fun t ht=> ?_⟩;obtain⟨a1,a2,a4,a5,a6,a8,h0,h1,h2,h3,hf⟩:=E t ht;exact⟨a1,a2,a4,a5,a6,a8,(s.cell (p:=⟨b,_,none⟩) I).trans h0,(s.cell (p:=⟨b,_,none⟩) I).trans h1,(s.cell (p:=⟨b,_,none⟩) I).trans h2,(s.cell (p:=⟨b,_,none⟩) I).trans h3,hf.af (av.ae s)⟩
 have Y:∀w' (g:Nat) (tg:Ei),zf w w'->ai w' g tg #[Ey Ew most]->Ed Ec 81 #[v,.func (.func 82) #[] #[Ek (some ⟨g,0,none⟩)]] w' fun e T=>e = Eh (Ez (!xQ most O LA LB n))/\zf w' T:=fun w' g tg s M=>by
  have ix:=N w' g tg s M;obtain⟨b,o,cap,rfl,hc,I,E⟩:=h;clear N E M;generalize xQ most O LA LB n=L at *
  go_enter Tryz.func81,Tryz.ntmps81
  go_wp2_with fail
  refine ix.mono ?_;rintro e Z ⟨i,rfl,X,J⟩;clear ix
  cases L with
  | true=>
   have g1:¬0<=i:=by simpa using X
   go_wp2
   go_returns
   exact⟨rfl,J⟩
  | false=>
   have g1:0<=i:=by simpa using X
   go_wp2
   go_returns
   exact⟨rfl,J⟩
 obtain⟨b,o,cap,rfl,hc,I,E⟩:=h;clear N E;generalize xQ most O LA LB n=L at *
 go_enter Tryz.func41,Tryz.ntmps41
 go_wp2_with fail
 refine(Y _ w.heap.size 3 zh (ai.new _ _ _)).mono ?_;rintro e Z ⟨rfl,J⟩;have B1:=bA w J;clear Y J
 go_wp2
 go_returns
 exact⟨by cases L<;>rfl,B1⟩
end
section
open Go.RowKit
variable {w:Ee}
theorem QF.fits {cs:Array Ef} {k:Nat->Int} {r:Nat->Rat} (h:QF w cs k r) (i:Nat) (E:i<4):Go.Proofs.YtffmbepfbienaaaGreat.fits (r i).num/\Go.Proofs.YtffmbepfbienaaaGreat.fits ((r i).den:Int):=by
 obtain⟨a1,a2,T,a4,a5,a6,N,a8,M,J,X,I,f⟩:=h.2.2.2 i E;exact f.fit
theorem dQ.at {v:Ef} {qa:List aV} (h:dQ w v qa):∃ (ao:Option Addr) (cap:Nat) (E:Nat->Array Ef),v = Ex ao qa.length cap/\∀t,t<qa.length->∃b o,ao=some ⟨b,o,none⟩/\b<w.heap.size/\QF w (E t) (kA (qa.getD t zK)) (rA (qa.getD t zK))/\∀j,j<20->w.cell? ⟨b,o+t*20+j,none⟩=(E t)[j]? :=by
 obtain⟨ao,cap,e,hc,E,M,J⟩:=h;refine⟨ao,cap,E,e,fun t ht=> ?_⟩;obtain⟨b,o,I,N,T⟩:=J D5;exact⟨b,o,I,N,M t ht,T t ht⟩
theorem Ci:∃E z,Tryz.prog.info? 23=some E/\E.size=2/\E.bytes=16/\E.zero=some z/\z.cells.size=2:=by
 obtain⟨E,I⟩:∃E,Tryz.prog.info? 23=some E:=Option.isSome_iff_exists.1 D6;have M:(Tryz.prog.info? 23).map (·.size)=some 2:=by kernel_rfl
 have J:((Tryz.prog.info? 23).bind (·.zero)).map (·.cells.size)=some 2:=by kernel_rfl
 have N:(Tryz.prog.info? 23).map (·.bytes)=some 16:=by kernel_rfl
 rw[I]at M J N;simp only[Option.map_some,Option.some.injEq,Option.bind_some]at M J N;obtain⟨z,T,e⟩:=Option.map_eq_some_iff.1 J;exact⟨E,z,I,M,N,T,e⟩
theorem Vo {ops:Array Oper} {rest:List Oper} {o:Oper} {a:Act} {w:Ee} {Q:Exit->Act->Ee->Prop} (Y:o.guard=none) (s x:Operand) (ho:o.op = .call { callee:= .builtin .append,args:=#[s,x],argTypes:=#[55,55] })
  (g:Nat) (hs:a.eval s = Ex (some ⟨g,0,none⟩) 0 0) (hb:ai w g 23 #[]) (v:Ef) (l:PL) (hx:a.eval x=v) (hv:bP w v l) (hl:l.length<=100000)
  (h:∀M w',bP w' M l->w.grownBy w' (some g)->wpList Ec ops Q rest (a.put o.dst M) w'):wpList Ec ops Q (o::rest) a w:=by
 obtain⟨ie,z,h1,h2,h3,h4,h5⟩:=Ci;refine wpList_plain Y fun K hK=> ?_
 rcases Nat.eq_zero_or_pos l.length with h0 | h0
 .
  have e0:l = []:=List.eq_nil_of_length_eq_zero h0;subst e0;obtain⟨X,ao,cap,rfl,hc,-⟩:=hv
  have J:Src Ec ie.size 55 (Ex ao 0 cap) 0 [] w:=by
   cases ao with
   | none=>exact Src.ofNil w Tryz.underlying55 cap
   | some ad=>exact Src.ofSlice w Tryz.underlying55 ad 0 cap [] D8 (fun j u E=>by cases E) (fun u T=>by cases T)
  have N:=run_append_nothing w 55 55 o.type 23 ie Tryz.underlying55 h1 (some ⟨g,0,none⟩) 0 0 (Eo _) _ J;unfold Oper.wp execOp;simp only[ho,resolve,invoke,builtin,Sem.run_bind,Sem.run_pure,Result.andThen_ok,List.map_toArray,List.map_cons,List.map_nil,hs,hx,List.length_nil];rw[N];exact hK _ _ (h _ w ⟨X,_,0,rfl,Eo _,fun Z=>absurd rfl Z⟩ ⟨rfl,rfl,rfl,Eo _,fun _ _ _=>rfl⟩)
 .
  obtain⟨ao,cap,rfl⟩:=hv.ak;obtain⟨-,hc,hm⟩:=hv.cells;obtain⟨b,of,rfl,aX,I⟩:=hm h0;refine wp_append_own_wide w s x 55 ho g 23 ie z 2 16 Tryz.underlying55 h1 h4 h2 h3 h5 D5 (Ex (some ⟨g,0,none⟩) 0 0) 0 [] hs ⟨rfl,.inr ⟨g,0,#[],rfl,Eo _,hb,Eo _,by unfold maxLen; omega,rfl,rfl⟩⟩ ⟨b,of,none⟩ l.length cap (GJ l) hx (X' l) (fun j u E=> ?_) (fun u T=> ?_) (by unfold maxLen; omega) D5 (Nat.le_of_lt hb.lt) (fun M w' N hg _=> ?_)
  .
   have aY:j<l.length*2:=by
    rcases Ep j (GJ l).length with g | g
    . rwa[X']at g
    . rw[List.getElem?_eq_none g]at E; cases E
   rw[show (⟨b,of,none⟩:Addr).add j=⟨b,of+j,none⟩ from Addr.add_lit ..];obtain⟨q1,q2⟩:=Qa l (j / 2) D5;obtain⟨p1,p2⟩:=I (j / 2) D5
   rcases(show j=j / 2*2\/j=j / 2*2+1 by omega)with e | e
   .
    rw[e]at E|-;rw[q1]at E; rw[<- E]; exact p1
   .
    rw[e]at E|-;rw[q2]at E; rw[<- E,<- Nat.add_assoc]; exact p2
  .
   unfold GJ at T;obtain⟨p,-,hp⟩:=List.mem_flatMap.1 T;simp only[List.mem_cons,List.not_mem_nil,or_false]at hp
   rcases hp with rfl | rfl<;>rfl
  .
   rw[Nat.zero_add,List.nil_append]at N;exact hK _ _ (h M w' (bP.own N hv.1) hg)
theorem GL (x y:Int) (w:Ee):(Op.equalIn 10000 23 (Ej #[Ey Ew x,Ey Ew y]) (Ej #[Ey Ew x,Ey Ew y])).run Ec w = .ok true w:=by
 have one:∀k:Int,(Op.equalIn 9999 2 (Ey Ew k) (Ey Ew k)).run Ec w = .ok true w:=fun k=>by
  have:(Op.equalIn 9999 2 (Ey Ew k) (Ey Ew k)).run Ec w = .ok (k==k) w:=by kernel_rfl
  rw[this]; simp
 have p0:(part 2 #[Ey Ew x,Ey Ew y] 0).run Ec w = .ok (Ey Ew x) w:=by kernel_rfl
 have p1:(part 2 #[Ey Ew x,Ey Ew y] 1).run Ec w = .ok (Ey Ew y) w:=by kernel_rfl
 have E:(Tryz.prog.fieldsOf 23).toList.map (fun f=>(decide (f.name = "_"),f.type,f.offset)) = [(false,2,0),(false,2,1)]:=by kernel_rfl
 rw[show (10000:Nat)=9999+1 from rfl,run_equalIn_struct w 9999 _ _ _ D6 D6];generalize (Tryz.prog.fieldsOf 23).toList=fs at E
 rcases fs with _ | ⟨f0,_ | ⟨f1,_ | ⟨f2,r⟩⟩⟩
 . exact absurd (congrArg List.length E) D8
 . exact absurd (congrArg List.length E) D8
 .
  simp only[List.map_cons,List.map_nil,List.cons.injEq,Prod.mk.injEq,decide_eq_false_iff_not,and_true]at E;obtain⟨⟨J,I,o0⟩,M,N,o1⟩:=E;simp only[Op.eqFields,I,N,o0,o1,ne_eq,J,M,not_false_eq_true,if_true,Sem.run_bind,p0,p1,one,Result.andThen_ok,Bool.not_true,Bool.false_eq_true,if_false,Sem.run_pure]
 . exact absurd (congrArg List.length E) D8
end
end Go.Proofs.YtffmbepfbienaaaGreat
/- Points and indices as arguments. -/
namespace Go.Proofs.YtffmbepfbienaaaGreat
open Go.ChangeShapes Go.WideShapes Go.ChangeAt Go.RowKit Go.Joins
section
variable {H:Type} {enc:Ei×Ef->H} {W:Ee} {a9:Nat} {ah:Bool}
set_option maxRecDepth 100000 in
theorem Jy {r:Reach} {b0:Nat} {v:Ef} {d:DataW H} {p:List MemPlace} (hv:Value.okWide Ec W r b0 55 v) (h:DataW.Trod enc Ec W a9 (fun _=>true) ah 55 v d p):∃l,bP W v l:=by
 obtain⟨a0,M,I,rfl⟩:=okWide_slice Tryz.underlying55 hv;obtain⟨N,hf⟩:=h;replace hf:DataW.trod enc Ec W a9 (fun _=>true) ah N 55 [Ex a0 M I]=some (d,p):=hf
 rcases Deep.open_slice_pairs Tryz.underlying55 Tryz.underlying23 D6 rfl rfl D6 D6 hf with⟨e,_⟩ | ⟨a,len,cap,m,n,V0,V1,D0,D1,P0,P1,e,_,hle,_,hm,_,hx⟩
 .
  simp only[List.cons.injEq,and_true]at e;rw[e];exact⟨[],fun k=>by simp,none,0,rfl,Eo _,fun h=>absurd rfl h⟩
 .
  simp only[List.cons.injEq,and_true]at e;rw[e];rw[E8 rfl]at hm
  have Z:∀i,i<len->∃z:Int×Int,(V0 i = Ey Ew z.1/\V1 i = Ey Ew z.2)/\(-9223372036854775808<=z.1/\z.1<=9223372036854775807/\-9223372036854775808<=z.2/\z.2<=9223372036854775807):=fun i hi=>by
   obtain⟨-,-,h0,X⟩:=hx i D5;obtain⟨x,Y,_,w0⟩:=DataW.trod_int Tryz.underlying2 h0;obtain⟨y,T,_,w1⟩:=DataW.trod_int Tryz.underlying2 X;simp only[List.cons.injEq,and_true]at Y T;have b0:=Vs w0;have b1:=Vs w1;exact⟨(x,y),⟨Y,T⟩,b0.1,b0.2,b1.1,b1.2⟩
  obtain⟨z,Z⟩:=Deep.choose_lt Z
  have gl:∀k,((List.range len).map z).getD k (0,0)=if k<len then z k else(0,0):=fun k=>by
   by_cases g:k<len
   . rw[E8 g]; simp[List.getD,g]
   . rw[E9 g]; simp[List.getD,g]
  refine⟨(List.range len).map z,fun k=> ?_,some a,cap,by simp,by simpa using hle,fun aX=> ?_⟩
  .
   rw[gl]
   by_cases g:k<len
   . rw[E8 g]; exact(Z k g).2
   . rw[E9 g]; simp
  .
   have hp:0<len:=by
    rcases Nat.eq_zero_or_pos len with h0 | h0
    . exact absurd (by rw[h0]; rfl) aX
    . exact h0
   obtain⟨b,off,J⟩:=a
   have E:J=none:=by
    have h0:=(hx 0 D5).1;simpa[Addr.add]using World.cell?_spot h0
   subst E;have c0:=(hx 0 D5).1;refine⟨b,off,rfl,?_,fun t ht=> ?_⟩
   .
    have:W.cell? ⟨b,off+0*2,none⟩=some (V0 0):=by rw[<- Go.WideShapes.add_plain]; exact c0
    exact Vr this
   .
    rw[List.length_map,List.length_range]at ht;rw[gl,E8 ht];obtain⟨h0,X,-,-⟩:=hx t D5;obtain⟨⟨Y,T⟩,-⟩:=Z t ht;rw[Go.WideShapes.add_plain]at h0 X;exact⟨by rw[h0,Y],by rw[show off+t*2+1=off+(t*2+1) by omega,X,T]⟩
end
end Go.Proofs.YtffmbepfbienaaaGreat
