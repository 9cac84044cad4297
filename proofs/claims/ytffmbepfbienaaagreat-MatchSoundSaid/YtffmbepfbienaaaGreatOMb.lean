import Derived.Great.BuildSlice
import Derived.Deep.DeepAppendWide
import Derived.Test.YtffmbepfbienaaaGreatOQj
import Derived.Lib.SmallJoins
import Derived.Deep.SlicePairs
set_option linter.unusedVariables false
set_option linter.unusedSimpArgs false
set_option maxHeartbeats 6400000
set_option maxRecDepth 1000000
open Go.Value renaming slice->Ex,bool->Ez,int->Ey,agg->Ej,pointer->Ek,tuple->Ev
open Go.IntKind renaming i64->Ew
open Go.Ending renaming returned->Eh
open Go.Proofs.Tryz renaming prog->Ed
open Go renaming Calls->Ee,World->Ef,Value->Ei,TypeId->Em,bodyPost_ret->Eo
open Nat renaming le_refl->Ep,lt_or_ge->Er
namespace Go.Proofs.YtffmbepfbienaaaGreat
open Go.RowKit
variable {cs:Array Ei} {i n t:Nat} {R:Nat->Nat->Option Rat} {r:Nat->Option Rat} {v:Ei}
theorem FB.ak {w:Ef} {o:Option Rat} (h:FB w v o):∃a s n c b t m d,v = Ej #[Ez a,Ex s n c,Ez b,Ex t m d]:=by
 cases o with
 | none=>exact eD.ak h
 | some r=>exact FR.ak h
def QQ (b:Bool):Int:=if b then 0 else 8
theorem Zs {o:Option Rat} (w:Ef) (h:FB w v o):Ee Ed 58 #[v] w fun e w'=>e = Eh (Ey Ew (QQ o.isSome))/\zf w w':=by
 cases o with
 | none=>exact JR w h
 | some r=>exact xC w h
theorem JX {o:Option Rat} (w:Ef) (h:FB w v o):Ee Ed 86 #[v] w fun e w'=>e = Eh (Ey Ew (QQ o.isSome))/\zf w w':=by
 cases o with
 | none=>exact QH w h
 | some r=>exact Zp w h
def YH:Option Rat->Bool
 | some r=> !decide (r<0)
 | none=>false
theorem FB.neg {w:Ef} {a b:Bool} {s t:Ei} {o:Option Rat} (h:FB w (Ej #[Ez a,s,Ez b,t]) o):YH o=(o.isSome && !a):=by
 cases o with
 | none=>rfl
 | some r=>
  obtain⟨_,_,_,_,_,_,e,_⟩:=FR.bU h;simp only[Value.agg.injEq,Array.mk.injEq,List.cons.injEq,and_true,Value.bool.injEq]at e;rw[e.1]; simp[YH]
theorem Y2 {P:Program} (t e:Em) (n sz:Nat) (cs:Array Ei) (i:Nat) (d:TypeDesc) (w:Ef) (ht:P.underlying t=some (.array n e)) (M:P.underlying e=some d)
  (hd:(match d with | .struct _ | .array _ _=>true | _=>false)=true) (I:(P.info? e).map (·.size)=some sz) (h:i<n) :
  (Instr.index t (Ej cs) (Ey Ew i)).run P w = .ok (Ej (cs.extract (i*sz) (i*sz+sz))) w:=by
 have E:(isAgg e).run P w = .ok true w:=by
  unfold isAgg;rw[Sem.run_bind,run_underlying M w]
  cases d<;>simp_all
 cases hq:P.info? e with
 | none=>simp[hq]at I
 | some j=>
  have J:j.size=sz:=by simpa[hq]using I
  have N:(0:Int)<=(i:Int)/\(i:Int)<(n:Int):=D6
  simp[Instr.index,run_underlying ht,asIntOf,N,part,E,sizeOf,typeInfo,hq,J,go_sem,Sem.run_bind,h]
theorem QX.code {w:Ef} (h:QX w cs r) {i:Nat} (hi:i<4):∃a1 a2 J I E M T N,cs.extract (4+i*4) (8+i*4)=#[Ez a1,Ex a2 J I,Ez E,Ex M T N]/\
  FB w (Ej #[Ez a1,Ex a2 J I,Ez E,Ex M T N]) (r i):=by
 obtain⟨h1,h2,h3,h4⟩:=h;obtain⟨a1,a2,J,I,E,M,T,N,X,c1,Z,Y,f⟩:=h4 i hi;refine⟨a1,a2,J,I,E,M,T,N,?_,f⟩;apply Array.ext'
 simp only[Array.toList_extract,List.extract_eq_take_drop];have e:∀j:Nat,cs.toList[j]? = cs[j]? :=fun j=>by first | rfl | exact Array.getElem?_toList.symm | exact Array.getElem?_toList
 apply List.ext_getElem?
 intro j;rw[List.getElem?_take];rw[List.getElem?_drop,e]
 rcases(show j=0\/j=1\/j=2\/j=3\/4<=j by omega)with rfl | rfl | rfl | rfl | g
 . rw[E9 D6]; exact X
 . rw[E9 D6]; exact c1
 . rw[E9 D6]; exact Z
 . rw[E9 D6]; exact Y
 . rw[E_ D6]; simp; omega
theorem QX.ix {w:Ef} (h:QX w cs r) {i:Nat} (X:i<4):∃a1 a2 J I E M T N,
  (∀w',(Instr.index 81 (Ej (cs.extract 4 20)) (Ey Ew i)).run Ed w' = .ok (Ej #[Ez a1,Ex a2 J I,Ez E,Ex M T N]) w')/\
  FB w (Ej #[Ez a1,Ex a2 J I,Ez E,Ex M T N]) (r i):=by
 obtain⟨a1,a2,J,I,E,M,T,N,e,f⟩:=h.code X;refine⟨a1,a2,J,I,E,M,T,N,fun w'=> ?_,f⟩;rw[Y2 81 28 4 4 _ i _ w' Tryz.underlying81 Tryz.underlying28 rfl D7 X];rw[Array.extract_extract,<- e]
 congr 3
 have:=h.1
 congr 2; omega
theorem QX.one {w:Ef} {g:Nat} {E:Array Ei} (h:QX w E r) (I:ai w g 83 E):dO w (Ex (some ⟨g,0,none⟩) 1 1) 1 (fun _=>E) (fun _=>r):=by
 refine⟨fun _ _=>h,_,_,rfl,Ep _,fun _=>⟨g,0,rfl,I.lt,fun t ht j J=> ?_⟩⟩;obtain rfl:t=0:=D6
 have:=I.cell j
 show w.cell? ⟨g,0+0*20+j,none⟩=E[j]?
 rw[show 0+0*20+j=j by omega];exact this
def CZ {α : Type} (a b : α) (t:Nat) : α:=if t=0 then a else b
theorem VW (ht:t<n) (E:i<4) (h:(R t i).isSome=false):xe R n=false:=
 QP (i:=t+1) (by unfold xe; rw[QO (i:=i+1) (by unfold yM; rw[h,Bool.and_false]) 4 D6,Bool.and_false]) n D6
theorem JY (E:yM r i=true) (h:(r i).isSome=true):yM r (i+1)=true:=by unfold yM; rw[E,h]; rfl
theorem JZ (E:xe R t=true) (h:yM (R t) 4=true):xe R (t+1)=true:=by unfold xe; rw[E,h]; rfl
theorem U3 {CS:Nat->Array Ei} (w:Ef) (h:dO w v n CS R) (hn:n<=1000) :
  Ee Ed 146 #[v] w fun e w'=>e = Eh (Ez (xe R n))/\zf w w':=by
 have HS:=E7 h;obtain⟨ao,cap,rfl⟩:=h.ak;clear h
 go_enter Tryz.func146,Tryz.ntmps146
 go_wp2_with fail
 go_loopw [9] (fun I wr=>∃t:Nat,t<=n/\I = Ey Ew t/\xe R t=true/\Below w.heap.size w wr/\av w wr) (fun I _=>n-(intOf I).toNat)
 case atStart=>exact⟨0,by omega,rfl,rfl,zh,zw⟩
 case round=>
  obtain⟨t,ht,rfl,hw,B,I⟩:=hrel
  rcases Er t n with tn | tn
  .
   have bf:decide ((t:Int)<(n:Int))=true:=E' D6;obtain⟨b,o,rfl,hb,E⟩:=HS.out.at tn;have qx:=HS.out.1 t tn;obtain⟨C,hC⟩:∃C,CS t=C:=⟨_,rfl⟩;rw[hC]at E qx;have X:=qx.1;have M:=qx.2.1;have Z:∀j,j<C.size->wr.cell? ⟨b,o+t*20+j,none⟩=C[j]? :=fun j hj=>(B.cell (p:=⟨b,_,none⟩) hb).trans (E j D6);have ia:(Tryz.prog.info? 83).map (·.size)=some C.size:=by rw[X]; kernel_rfl
   have Y:(C.extract 4 20).size=16:=by rw[Array.size_extract]; omega
   have ib:(Tryz.prog.info? 81).map (·.size)=some (C.extract 4 20).size:=by rw[Y]; kernel_rfl
   have HQ:Hid (QX w C (R t)):=E7 qx;clear E hC qx
   repeat' (first | (refine kK rfl 83 (.tmp 11) rfl b (o+t*20) rfl C _ Z Tryz.underlying83 rfl ia ?_) | (refine zL rfl 83 (.tmp 4) (.tmp 12) rfl wr.heap.size C rfl rfl 83 Zz zC ia X.symm M (fun w2 r2=> ?_); have hD:∀j,j<(C.extract 4 20).size->w2.cell? ⟨wr.heap.size,4+j,none⟩=(C.extract 4 20)[j]? :=(fun j hj=>by have:=r2.bI.cell (4+j); rw[this,Array.getElem?_extract,E9 D6])) | (refine kK rfl 81 (.tmp 13) rfl wr.heap.size 4 rfl (C.extract 4 20) _ hD Tryz.underlying81 rfl ib ?_) | go_values | go_skip | go_guarded | go_step | go_upon)
   have B2:Below w.heap.size w w2:=r2.below (B.alloc B.size _) B.size;have k2:av w w2:=I.trans (av.trans zw (r2.af rfl));clear r2 Z ia M X hD ib Y;obtain⟨D,N⟩:∃D,C.extract 4 20=D:=⟨_,rfl⟩;rw[N];have HX:∀i:Nat,i<4->∃a1 a2 a3 a4 a5 a6 a7 a8,(∀w',(Instr.index 81 (Ej D) (Ey Ew i)).run Ed w' = .ok (Ej #[Ez a1,Ex a2 a3 a4,Ez a5,Ex a6 a7 a8]) w')/\FB w (Ej #[Ez a1,Ex a2 a3 a4,Ez a5,Ex a6 a7 a8]) (R t i):=fun i hi=>by rw[<- N]; exact HQ.out.ix hi
   have b9:=E7 HX;clear HX HQ N
   go_loopw [15] (fun I wq=>∃i:Nat,i<=4/\I = Ey Ew i/\yM (R t) i=true/\Below w.heap.size w wq/\av w wq) (fun I _=>4-(intOf I).toNat)
   case atStart=>exact⟨0,by omega,rfl,rfl,B2,k2⟩
   case round=>
    clear B I B2 k2;obtain⟨i,hi,rfl,hq,B,I⟩:=hrel
    rcases Er i 4 with i4 | i4
    .
     have be:decide ((i:Int)<4)=true:=E' D6;obtain⟨a1,a2,a3,a4,a5,a6,a7,a8,ix,fb⟩:=b9.out i i4;have ck:∀w',av w w'->Ee Ed 58 #[Ej #[Ez a1,Ex a2 a3 a4,Ez a5,Ex a6 a7 a8]] w' fun e w2=>e = Eh (Ey Ew (QQ (R t i).isSome))/\zf w' w2:=fun w' k=>Zs w' (fb.af k);have NO:=fun h=>VW (R:=R) tn i4 h;have J:=fun h=>JY hq h;obtain⟨s,hs⟩:∃s,(R t i).isSome=s:=⟨_,rfl⟩;rw[hs]at ck NO J;clear fb hs hq;have zz:=B.size;go_wp2_with fail
     refine(ck _ (I.trans zw)).mono ?_;rintro e w5 ⟨rfl,T⟩;have B5:Below w.heap.size w w5:=yI T;have k5:av w w5:=(I.trans zw).aI T;clear T ck ix B I
     cases s with
     | false=>
      have e8:(QQ false==0)=false:=rfl;have N0:=NO rfl;clear NO J;rw[show QQ false=8 from rfl]
      go_wp2
      go_returns
      exact⟨by rw[N0]; rfl,zh⟩
     | true=>
      have Y0:=J rfl;clear NO J;rw[show QQ true=0 from rfl]
      go_wp2
      go_roundw
      case rel=>exact⟨i+1,by omega,by go_num,Y0,B5,k5⟩
      case measure=>simp[intOf]; omega
    .
     obtain rfl:i=4:=D6
     have Y0:=JZ hw hq
     go_wp2
     go_roundw
     case rel=>exact⟨t+1,by omega,by go_num,Y0,B,I⟩
     case measure=>simp[intOf]; omega
  .
   obtain rfl:t=n:=D6
   go_wp2
   go_returns
   exact⟨by rw[hw]; rfl,B⟩
theorem Cj (C:Array Ei) (h:C.size=20):∃c0 c1 c2 c3 c4 c5 c6 c7 c8 c9 Y T N M E X I b9 Z J,C=#[c0,c1,c2,c3,c4,c5,c6,c7,c8,c9,Y,T,N,M,E,X,I,b9,Z,J]:=by
 obtain⟨l⟩:=C;replace h:l.length=20:=h
 match l,h with
 | [c0,c1,c2,c3,c4,c5,c6,c7,c8,c9,Y,T,N,M,E,X,I,b9,Z,J],_=>exact⟨_,_,_,_,_,_,_,_,_,_,_,_,_,_,_,_,_,_,_,_,rfl⟩
theorem GU:∃E z,Tryz.prog.info? 83=some E/\E.size=20/\E.zero=some z/\z.cells=Zz:=by
 obtain⟨E,I⟩:∃E,Tryz.prog.info? 83=some E:=Option.isSome_iff_exists.1 D7;have M:(Tryz.prog.info? 83).map (·.size)=some 20:=by kernel_rfl
 have J:((Tryz.prog.info? 83).bind (·.zero)).map (·.cells)=some #[Ey Ew 0,Ey Ew 0,Ey Ew 0,Ey Ew 0,Ez false,Ex none 0 0,Ez false,Ex none 0 0,Ez false,Ex none 0 0,Ez false,Ex none 0 0,Ez false,Ex none 0 0,Ez false,Ex none 0 0,Ez false,Ex none 0 0,Ez false,Ex none 0 0]:=by kernel_rfl
 rw[I]at M J;simp only[Option.map_some,Option.some.injEq,Option.bind_some]at M J;obtain⟨z,N,e⟩:=Option.map_eq_some_iff.1 J;exact⟨E,z,I,M,N,e⟩
theorem Ck (C:Array Ei) (h:C.size=20):Instr.fill (fun i=>some (i*20,20)) ((Array.range (1*20)).map ((Zz:Array Ei)[· % 20]!)) [(0,Ej C)]=some C:=by
 obtain⟨c0,c1,c2,c3,c4,c5,c6,c7,c8,c9,Y,T,N,M,E,X,I,b9,Z,J,rfl⟩:=Cj C h
 kernel_rfl
section
variable {ops:Array Oper} {rest:List Oper} {o:Oper} {a:Act} {w:Ef} {Q:Exit->Act->Ef->Prop}
theorem QS {K:Act->Ef->Prop} (x:Operand) (I:o.op = .buildSlice 76 1 #[(0,x)]) (C:Array Ei) (J:a.eval x = Ej C) (h:C.size=20)
  (M:K (a.put o.dst (Ex (some ⟨w.heap.size,0,none⟩) 1 1)) (w.alloc (.cells C 83))):o.wp Ed a w K Q:=by
 obtain⟨Y,z,T,E,X,N⟩:=GU;refine wp_buildSlice 76 83 1 _ I C Y z Tryz.underlying76 T X (by rw[E]; decide) (by rw[E]; decide) ?_ M;rw[E,N];simp only[List.map_toArray,List.map_cons,List.map_nil,J];exact Ck C h
theorem Hv (hw:Region.wanted o (yielded ops a.tmps)=true) (x:Operand) (I:o.op = .buildSlice 76 1 #[(0,x)]) (C:Array Ei) (J:a.eval x = Ej C) (h:C.size=20)
  (E:wpList Ed ops Q rest (a.put o.dst (Ex (some ⟨w.heap.size,0,none⟩) 1 1)) (w.alloc (.cells C 83))):wpList Ed ops Q (o::rest) a w:=by
 unfold wpList;rw[E9 hw];exact .inl (QS x I C J h E)
end
def Ds (r s:Nat->Option Rat) (o:Option Rat):Bool×Int:=
 if yM r 4&&yM s 4 then(if YH o then(qP (rq r) (rq s) (rq (fun _=>o) 0) 4,0)else(false,2))else(false,8)
theorem J0 (r:Nat->Option Rat):xe (fun _=>r) 1=yM r 4:=by
 show (true&&yM r 4)=_
 rw[Bool.true_and]
theorem QT {o:Option Rat} (h:YH o=true):∃q,o=some q/\0<=q:=by
 cases o with
 | none=>cases h
 | some r=>exact⟨r,rfl,Rat.not_lt.1 (by unfold YH at h; simpa using h)⟩
end Go.Proofs.YtffmbepfbienaaaGreat
/- Rows of the call's own whose cells are no zp: what is appended, and what stays. -/
namespace Go.Proofs.YtffmbepfbienaaaGreat
section
open Go.RowKit
variable {l xs:List Ei} {a9 n size:Nat} {e:Em} {v:Ei} {w':Ef}
structure aX (w:Ef) (a9:Nat) (e:Em) (size:Nat) (v:Ei) (n:Nat) (xs:List Ei):Prop where
 own:w.ownsRow a9 e size v n xs
 eL:∀g cur,v.ownBlock=some g->w.heap[g]? = some (.cells cur e (0,0))->zV cur=true
theorem aX.nil (w:Ef) (a9:Nat) (e:Em) (size:Nat):aX w a9 e size (Ex none 0 0) 0 []:=⟨World.ownsRow_nil w a9 e size,fun _ _ h=>by cases h⟩
theorem Zu {a b:Array Ei} : zV (a++b)=(zV a&&zV b):=by unfold zV; simp
theorem jK : zV l.toArray=true↔∀u∈l,qR u=true:=by unfold zV; simp[List.all_eq_true]; rfl
theorem YL {z:Array Ei} (h:zV z=true) (n:Nat):zV (Builtin.zeroCells z n)=true:=by
 have I:∀u∈z.toList,qR u=true:=jK.1 (by simpa using h);unfold zV;rw[List.all_eq_true];intro v hv;unfold Builtin.zeroCells at hv;rw[Array.toList_map,List.mem_map]at hv;obtain⟨i,N,rfl⟩:=hv;have E:i<n*z.size:=by simpa using N
 have J:0<z.size:=by rcases Nat.eq_zero_or_pos z.size with h0 | h0; (rw[h0]at E; omega); exact h0
 have M:i%z.size<z.size:=Nat.mod_lt _ J;rw[getElem!_pos z _ M];exact I _ D9
theorem Q_ (h:∀u∈l,qR u=true):∀u∈l.take n,qR u=true:=fun u E=>h u (List.mem_of_mem_take E)
theorem Wk (h:∀u∈l,qR u=true):∀u∈l.drop n,qR u=true:=fun u E=>h u (List.mem_of_mem_drop E)
section
variable {P:Program} (w:Ef)
theorem XY (a9:Nat) (t ty e:Em) (i:TypeInfo) (z:Ei) (size X:Nat) (ht:P.underlying t=some (.slice e)) (hi:P.info? e=some i) (hz:i.zero=some z)
  (b9:i.size=size) (bg:i.bytes=X) (ci:z.cells.size=size) (bl:zV z.cells=true) (cg:0<size)
  (v:Ei) (n:Nat) (xs:List Ei) (T:aX w a9 e size v n xs)
  (a:Addr) (m c:Nat) (E:List Ei) (hm:0<m) (hl:E.length=m*size) (N:∀j u,E[j]? = some u->w.cell? (a.add j)=some u) (h1:∀u∈E,u.oneCell'=true) (be:zV E.toArray=true)
  (bi:n+m<=maxLen) (J:((n+m)+(n+m) / 4+192)*X<=281474976710656) (bf:a9<=w.heap.size) :
  ∃v' w',(Builtin.append_ #[t,t] ty #[v,Ex (some a) m c]).run P w = .ok v' w'/\aX w' a9 e size v' (n+m) (xs++E)/\w.grownBy w' v.ownBlock:=by
 obtain⟨v',w',hr,h2,h3,-⟩:=run_append_own_wide (P:=P) w a9 t ty e i z size X ht hi hz b9 bg ci cg v n xs T.own a m c E hl N h1 bi J bf;refine⟨v',w',hr,⟨h2,?_⟩,h3⟩;subst b9;subst bg
 intro g' cx M I;have bh:=jK.1 be;have cn:n+m<=9223372036854775807:=by simp only[maxLen]at bi; omega
 rcases T.own.2 with⟨rfl,rfl⟩ | ⟨g,cap,cur,rfl,hbg,hg,hnc,hcm,hcs,htake⟩
 .
  rw[run_append_nil (P:=P) w t ty e i z ht hi hz a m c E hl N hm D6 (by simp only[Nat.zero_add]at J; exact Nat.le_trans (Nat.mul_le_mul_right _ D6) J)]at hr
  injection hr with e1 e2
  subst e1 e2
  injection M with M
  have Y:w.heap.size=g':=M;subst Y;have hx:=heap_alloc_new w.drew (.cells (E.toArray++Builtin.zeroCells z.cells (grownCap w m 0 e-m)) e);rw[show w.drew.heap.size=w.heap.size from rfl]at hx;rw[hx]at I
  injection I with I
  injection I with I
  rw[<- I,Zu,be,YL bl]; rfl
 .
  have bt:=T.eL g cur rfl hg;have Z:∀u∈cur.toList,qR u=true:=jK.1 (by simpa using bt)
  by_cases hroom:n+m<=cap
  .
   have br:n*i.size+E.length<=cur.size:=by rw[hl,hcs,<- Nat.add_mul]; exact Nat.mul_le_mul_right _ hroom
   rw[run_append_room (P:=P) w t ty e i ht hi g n cap cur hg a m c E hl N h1 hroom br]at hr
   injection hr with e1 e2
   subst e1 e2
   injection M with M
   have Y:g=g':=M;subst Y;rw[setRow_heap w g cur _ e _ hg]at I
   injection I with I
   injection I with I
   rw[<- I,jK];intro u hu;simp only[List.mem_append]at hu
   rcases hu with(hu | hu) | hu
   . exact Q_ Z u hu
   . exact bh u hu
   . exact Wk Z u hu
  .
   have holds:∀j u,xs[j]? = some u->w.cell? ((⟨g,0,none⟩:Addr).add j)=some u:=T.own.cells (g:=g) rfl;rw[run_append_grow (P:=P) w t ty e i z ht hi hz ⟨g,0,none⟩ n cap xs T.own.1 holds a m c E hl N D6 D6 (growslice_fits_wide D6 J)]at hr
   injection hr with e1 e2
   subst e1 e2
   injection M with M
   have Y:w.heap.size=g':=M;subst Y;have hx:=heap_alloc_new w.drew (.cells (xs.toArray++E.toArray++Builtin.zeroCells z.cells (grownCap w (n+m) cap e-(n+m))) e);rw[show w.drew.heap.size=w.heap.size from rfl]at hx;rw[hx]at I
   injection I with I
   injection I with I
   have ce:zV xs.toArray=true:=by rw[<- htake,jK]; exact Q_ Z
   rw[<- I,Zu,Zu,ce,be,YL bl]; rfl
theorem ZG {o:Oper} {a:Act} {K:Act->Ef->Prop} {Q:Exit->Act->Ef->Prop} (s x:Operand) (t:Em)
  (ho:o.op = .call { callee:= .builtin .append,args:=#[s,x],argTypes:=#[t,t] })
  (a9:Nat) (e:Em) (i:TypeInfo) (z:Ei) (size I:Nat) (ht:P.underlying t=some (.slice e)) (hi:P.info? e=some i) (hz:i.zero=some z)
  (M:i.size=size) (b9:i.bytes=I) (bg:z.cells.size=size) (bh:zV z.cells=true) (bf:0<size)
  (v:Ei) (n:Nat) (xs:List Ei) (hs:a.eval s=v) (X:aX w a9 e size v n xs)
  (ad:Addr) (m c:Nat) (E:List Ei) (hx:a.eval x = Ex (some ad) m c) (hm:0<m) (hl:E.length=m*size) (N:∀j u,E[j]? = some u->w.cell? (ad.add j)=some u) (h1:∀u∈E,u.oneCell'=true) (Z:zV E.toArray=true)
  (be:n+m<=maxLen) (J:((n+m)+(n+m) / 4+192)*I<=281474976710656) (T:a9<=w.heap.size)
  (h:∀Y w',aX w' a9 e size Y (n+m) (xs++E)->w.grownBy w' v.ownBlock->K (a.put o.dst Y) w'):o.wp P a w K Q:=by
 obtain⟨Y,w',hr,h2,h3⟩:=XY (P:=P) w a9 t o.type e i z size I ht hi hz M b9 bg bh bf v n xs X ad m c E hm hl N h1 Z be J T;unfold Oper.wp execOp;simp only[ho,resolve,invoke,builtin,Sem.run_bind,Sem.run_pure,Result.andThen_ok,List.map_toArray,List.map_cons,List.map_nil,hs,hx,hr];exact h Y w' h2 h3
end
theorem aX.drew {w:Ef} (h:aX w a9 e size v n xs):aX w.drew a9 e size v n xs:=⟨h.own.drew,h.eL⟩
theorem aX.bO {w:Ef} (h:aX w a9 e size v n xs) (J:∀g,v.ownBlock=some g->w'.heap[g]? = w.heap[g]?):aX w' a9 e size v n xs:=by
 refine⟨⟨h.own.1,?_⟩,fun g E hv hc=>h.eL g E hv ((J g hv).symm.trans hc)⟩
 rcases h.own.2 with a | ⟨g,cap,E,rfl,I,hg,r⟩
 . exact .inl a
 . exact .inr ⟨g,cap,E,rfl,I,(J g rfl).trans hg,r⟩
theorem aX.lt {w:Ef} (h:aX w a9 e size v n xs):∀g,v.ownBlock=some g->a9<=g/\g<w.heap.size:=by
 intro g hg
 rcases h.own.2 with⟨rfl,_⟩ | ⟨g',cap,cur,rfl,hbg,hh,_⟩
 . cases hg
 . cases hg; exact⟨hbg,ai.lt (w:=w) (t:=e) (cs:=cur) hh⟩
theorem aX.ae {w:Ef} (h:aX w a9 e size v n xs) (E:zf w w'):aX w' a9 e size v n xs:=h.bO fun g hg=>E.block g (h.lt g hg).2
theorem aX.alloc {w:Ef} (h:aX w a9 e size v n xs) (o:Obj):aX (w.alloc o) a9 e size v n xs:=h.ae ((Below.refl _ _).alloc (Ep _) o)
theorem aX.af {w:Ef} (h:aX w a9 e size v n xs) (hg:w.grownBy w' v.ownBlock):av w w':=by
 intro x l hl;obtain⟨h0,ao,cap,rfl,h1,h3,Z⟩:=hl;refine⟨h0,ao,cap,rfl,h1,h3,fun T=> ?_⟩;obtain⟨b,o,rfl,N,hc⟩:=Z T
 have M:v.ownBlock≠some b:=by
  intro J
  rcases h.own.2 with⟨rfl,_⟩ | ⟨g,cap',cur,rfl,hbg,hh,_⟩
  . cases J
  .
   injection J with J
   have X:g=b:=J;subst X;have Y:0<l.length:=List.length_pos_iff.2 T;have I:=hc 0 Y;rw[ai.cell (w:=w) (t:=e) (cs:=cur) hh]at I;exact Xm (h.eL g cur rfl hh) I
 refine⟨b,o,rfl,Nat.lt_of_lt_of_le N hg.size,fun t ht=> ?_⟩;have E:=hc t ht;unfold World.cell? at E|-;rw[hg.block b N (Ne.symm M)]; exact E
end
section
open Go.RowKit
variable {l:List Int} {xs:List Ei} {a9 n size:Nat} {e:Em} {v:Ei} {w':Ef}
def aF (w:Ef) (v:Ei) (l:List Int):Prop:=∃ao cap,v = Ex ao l.length cap/\l.length<=cap/\(l≠ []->∃b o,ao=some ⟨b,o,none⟩/\b<w.heap.size/\∀t,t<l.length->w.cell? ⟨b,o+t,none⟩=some (Ey Ew (l.getD t 0)))
theorem aF.ae {w:Ef} (h:aF w v l) (s:zf w w'):aF w' v l:=by
 obtain⟨ao,cap,e,hc,J⟩:=h;refine⟨ao,cap,e,hc,fun N=> ?_⟩;obtain⟨b,o,I,E,M⟩:=J N;exact⟨b,o,I,Nat.lt_of_lt_of_le E s.size,fun t ht=>(s.cell (p:=⟨b,_,none⟩) E).trans (M t ht)⟩
theorem aF.nil (w:Ef):aF w (Ex none 0 0) []:=⟨none,0,rfl,Ep _,fun h=>absurd rfl h⟩
theorem aF.ak {w:Ef} (h:aF w v l):∃ao cap,v = Ex ao l.length cap:=by obtain⟨ao,cap,e,_⟩:=h; exact⟨ao,cap,e⟩
def ints (l:List Int):List Ei:=l.map (Ey Ew)
theorem Xy (l:List Int) (x:Int):ints (l ++ [x])=ints l ++ [Ey Ew x]:=by unfold ints; simp
theorem aX.ints {w:Ef} (h:aX w a9 e 1 v n (ints l)):aF w v l:=by
 have E:n=l.length:=by have:=h.own.1; unfold Go.Proofs.YtffmbepfbienaaaGreat.ints at this; simpa using this.symm
 subst E
 rcases h.own.2 with⟨rfl,h0⟩ | ⟨g,cap,cur,rfl,h1,h2,h3,h4,h5,h6⟩
 .
  have:l = []:=List.eq_nil_of_length_eq_zero h0;subst this;exact aF.nil w
 .
  refine⟨_,cap,rfl,h3,fun _=>⟨g,0,rfl,(Array.getElem?_eq_some_iff.1 h2).1,fun t ht=> ?_⟩⟩;have c:=h.own.cells (g:=g) rfl t (Ey Ew (l.getD t 0)) (by unfold Go.Proofs.YtffmbepfbienaaaGreat.ints; simp[List.getD,ht]);rw[Addr.add_lit]at c;exact c
section
variable {ops:Array Oper} {rest:List Oper} {o:Oper} {a:Act} {w:Ef} {Q:Exit->Act->Ef->Prop}
theorem Cv:∃E z,Tryz.prog.info? 3=some E/\E.size=1/\E.bytes=8/\E.zero=some z/\z.cells=#[Ey Ew 0]:=by
 obtain⟨E,I⟩:∃E,Tryz.prog.info? 3=some E:=Option.isSome_iff_exists.1 D7;have M:(Tryz.prog.info? 3).map (·.size)=some 1:=by kernel_rfl
 have J:((Tryz.prog.info? 3).bind (·.zero)).map (·.cells)=some #[Ey Ew 0]:=by kernel_rfl
 have N:(Tryz.prog.info? 3).map (·.bytes)=some 8:=by kernel_rfl
 rw[I]at M J N;simp only[Option.map_some,Option.some.injEq,Option.bind_some]at M J N;obtain⟨z,T,e⟩:=Option.map_eq_some_iff.1 J;exact⟨E,z,I,M,N,T,e⟩
theorem Ve (M:o.guard=none) (s x:Operand) (ho:o.op = .call { callee:= .builtin .append,args:=#[s,x],argTypes:=#[46,46] })
  (a9 n:Nat) (v:Ei) (l:List Int) (hs:a.eval s=v) (I:aX w a9 3 1 v n (ints l)) (g:Nat) (y:Int) (hx:a.eval x = Ex (some ⟨g,0,none⟩) 1 1) (Y:ai w g 3 #[Ey Ew y]) (hn:n<=100000) (E:a9<=w.heap.size)
  (h:∀J w',aX w' a9 3 1 J (n+1) (ints (l ++ [y]))->w.grownBy w' v.ownBlock->wpList Ed ops Q rest (a.put o.dst J) w'):wpList Ed ops Q (o::rest) a w:=by
 obtain⟨ie,z,h1,h2,h3,h4,T⟩:=Cv;refine wpList_plain M fun K Z=> ?_;refine ZG w s x 46 ho a9 3 ie z 1 8 Tryz.underlying46 h1 h4 h2 h3 (by rw[T]; rfl) (by rw[T]; rfl) D6 v n (ints l) hs I ⟨g,0,none⟩ 1 1 [Ey Ew y] hx D6 rfl (fun j u hj=> ?_) (fun u N=> ?_) rfl (by unfold maxLen; omega) D6 E (fun J w' X hg=>Z _ _ (h J w' ?_ hg))
 .
  have hc:=Y.cell j;rw[show (⟨g,0,none⟩:Addr).add j=⟨g,0+j,none⟩ from Addr.add_lit ..,Nat.zero_add,hc];simpa using hj
 .
  simp only[List.mem_cons,List.not_mem_nil,or_false]at N;rw[N]; rfl
 . rw[Xy]; exact X
end
def ZH (n:Nat) (R:Nat->Nat->Option Rat) (q:Nat->Option Rat) (o:Option Rat):List Int×Int:=
 if 500<n then([],4)else if xe R n&&yM q 4 then(if YH o then(jo R q (rq (fun _=>o) 0) n,0)else([],2))else([],8)
theorem Wl (R:Nat->Nat->Option Rat) (q:Nat->Option Rat) (off:Rat) {n:Nat} (E:n<=1000):(jo R q off n).length<=100000:=by have:=Zr R q off n; omega
theorem aX.len {w:Ef} (h:aX w a9 e size v n xs):∃a c,v = Ex a n c:=by
 rcases h.own.2 with⟨rfl,rfl⟩ | ⟨g,cap,cur,rfl,_⟩
 . exact⟨_,_,rfl⟩
 . exact⟨_,_,rfl⟩
theorem aX.below {w E:Ef} (h:aX w a9 e size v n xs) (hg:w.grownBy w' v.ownBlock) (J:Below E.heap.size E w) (I:E.heap.size<=a9):Below E.heap.size E w':=
 J.grown hg J.size fun k M=>Nat.le_trans I (h.lt k M).1
theorem aX.bI {w:Ef} {b:Nat} {t:Em} {cs:Array Ei} (h:aX w a9 e size v n xs) (hg:w.grownBy w' v.ownBlock) (E:ai w b t cs) (J:b<a9):ai w' b t cs:=
 (hg.block b E.lt fun I=>by have:=(h.lt b I.symm).1; omega).trans E
set_option maxHeartbeats 6400000 in
set_option maxRecDepth 1000000 in
theorem Cw {vf:Ei} {CS:Nat->Array Ei} {R:Nat->Nat->Option Rat} {Z:Array Ei} {q:Nat->Option Rat} {o:Option Rat} (w:Ef) (h:dO w v n CS R) (hn:n<=1000) (hq:QX w Z q) (hf:FB w vf o) (sR:∀t,t<n->∀i,i<4->sz (rq (R t) i) 500) (sq:∀i,i<4->sz (rq q i) 500) (sf:sz (rq (fun _=>o) 0) 500) :
  Ee Ed 110 #[v,Ej Z,vf] w fun e w'=>∃u,e = Eh (Ev #[u,Ey Ew (ZH n R q o).2])/\aF w' u (ZH n R q o).1/\zf w w':=by
 have ia:(Tryz.prog.info? 83).map (·.size)=some Z.size:=by rw[hq.1]; kernel_rfl
 have za:=hq.1;obtain⟨t1,t2,t3,t4,t5,t6,t7,t8,rfl⟩:=hf.ak;obtain⟨ao,cap,rfl⟩:=h.ak;have HS:=E7 h;have wl:∀w',zf w w'->Ee Ed 146 #[Ex ao n cap] w' fun e w2=>e = Eh (Ez (xe R n))/\zf w' w2:=fun w' s=>U3 w' (h.ae s) hn
 have wq:∀w' g,av w w'->ai w' g 83 Z->Ee Ed 146 #[Ex (some ⟨g,0,none⟩) 1 1] w' fun e w2=>e = Eh (Ez (yM q 4))/\zf w' w2:=fun w' g k hb=>by
  have:=U3 w' ((hq.af k).one hb) D6;rw[J0]at this;exact this
 have ck:∀w',av w w'->Ee Ed 58 #[Ej #[Ez t1,Ex t2 t3 t4,Ez t5,Ex t6 t7 t8]] w' fun e w2=>e = Eh (Ey Ew (QQ o.isSome))/\zf w' w2:=fun w' k=>Zs w' (hf.af k)
 have nr:xe R n=true->yM q 4=true->YH o=true->∀t,t<n->∀w',av w w'->Ee Ed 147 #[Ej (CS t),Ej Z,Ej #[Ez t1,Ex t2 t3 t4,Ez t5,Ex t6 t7 t8]] w' fun e w2=>e = Eh (Ev #[Ez (qP (rq (R t)) (rq q) (rq (fun _=>o) 0) 4),Ey Ew 0])/\zf w' w2:=fun h1 h2 h3 t ht w' k=>by
  obtain⟨z,rfl,-⟩:=QT h3;exact Ci w' (((h.1 t ht).qv (YD h1 t ht)).af k) ((hq.qv h2).af k) (FR.af hf k) (sR t ht) sq sf
 have hl:=hf.neg;have HN:Hid (ZH n R q o=if 500<n then([],4)else if xe R n&&yM q 4 then(if YH o then(jo R q (rq (fun _=>o) 0) n,0)else([],2))else([],8)):=E7 rfl;generalize ZH n R q o=N at *;have HF:∀t,jo R q (rq (fun _=>o) 0) (t+1)=if qP (rq (R t)) (rq q) (rq (fun _=>o) 0) 4 then jo R q (rq (fun _=>o) 0) t ++ [(t:Int)]else jo R q (rq (fun _=>o) 0) t:=fun t=>rfl
 have eS:jo R q (rq (fun _=>o) 0) 0 = []:=rfl;have dl:∀t,t<=n->(jo R q (rq (fun _=>o) 0) t).length<=100000:=fun t ht=>Wl _ _ _ D6;generalize hfd:jo R q (rq (fun _=>o) 0)=fd at *;obtain⟨nf,dt⟩:∃nf:Nat->Bool,∀t,qP (rq (R t)) (rq q) (rq (fun _=>o) 0) 4=nf t:=⟨_,fun _=>rfl⟩;simp only[dt]at nr HF;have ek:=E7 HF;have dy:=E7 dl;clear HF dl hfd dt;generalize xe R n=wa at *;generalize yM q 4=wb at *;generalize YH o=lo at *;generalize o.isSome=so at *;clear h hq hf sR sq sf
 go_enter Tryz.func110,Tryz.ntmps110
 by_cases g5:500<n
 .
  have ec:(500:Int)<(n:Int):=D6
  have T:Hid (N=([],4)):=E7 (by rw[HN.out,E9 g5]);clear HN wl wq ck nr;go_wp2_with fail
  go_returns
  exact⟨_,by rw[T.out]; rfl,by rw[T.out]; exact aF.nil _,zh⟩
 have ec:¬(500:Int)<(n:Int):=D6
 have E:Hid (N=if wa&&wb then(if lo then(fd n,0)else([],2))else([],8)):=E7 (by rw[HN.out,E_ g5]);clear HN;go_wp2_with fail
 refine(wl _ zh).mono ?_;rintro e w1 ⟨rfl,be⟩;have J:av w w1:=av.aI zw be;have oq:ai w1 w.heap.size 83 Z:=ai.au be;have I:ai w1 (w.heap.size+1) 28 #[Ez t1,Ex t2 t3 t4,Ez t5,Ex t6 t7 t8]:=ai.au be;have B:Below w.heap.size w w1:=yI be;clear be;clear wl
 cases wa with
 | false=>
  have T:Hid (N=([],8)):=E7 E.out;clear E wq ck nr;go_wp2_with fail
  go_returns
  exact⟨_,by rw[T.out]; rfl,by rw[T.out]; exact aF.nil _,zh⟩
 | true=>
  have fe:=B.size;dsimp only
  repeat' (first | ((with_reducible show wpList _ _ _ (⟨some 22,_,_,_,_,_⟩::_) _ _); refine Xt rfl 83 (.tmp 4) rfl w.heap.size rfl 83 Z _ oq Tryz.underlying83 rfl ia ?_) | ((with_reducible show wpList _ _ _ (⟨some 23,_,_,_,_,_⟩::_) _ _); refine Hv rfl (.tmp 22) rfl Z rfl za ?_) | go_values | go_skip | go_guarded | go_step | go_upon)
  refine(wq _ _ (J.trans zw) zC).mono ?_;rintro e w2 ⟨rfl,bf⟩;replace J:av w w2:=(J.trans zw).aI bf;replace oq:ai w2 w.heap.size 83 Z:=ai.au bf;replace I:ai w2 (w.heap.size+1) 28 #[Ez t1,Ex t2 t3 t4,Ez t5,Ex t6 t7 t8]:=ai.au bf;replace B:Below w.heap.size w w2:=yI bf;clear bf;clear wq
  cases wb with
  | false=>
   have T:Hid (N=([],8)):=E7 E.out;clear E ck nr;go_wp2_with fail
   go_returns
   exact⟨_,by rw[T.out]; rfl,by rw[T.out]; exact aF.nil _,zh⟩
  | true=>
   replace nr:=nr rfl rfl;have b9:=I.c 0 rfl;have bh:=I.c 1 rfl;have bi:=I.c 2 rfl;have br:=I.c 3 rfl;go_wp2_with fail
   refine(ck _ (J.trans zw)).mono ?_;rintro e w3 ⟨rfl,bg⟩;clear b9 bh bi br;replace J:av w w3:=(J.trans zw).aI bg;replace oq:ai w3 w.heap.size 83 Z:=ai.au bg;replace I:ai w3 (w.heap.size+1) 28 #[Ez t1,Ex t2 t3 t4,Ez t5,Ex t6 t7 t8]:=ai.au bg;replace B:Below w.heap.size w w3:=yI bg;clear bg;clear ck;have b9:=I.c 0 rfl;have bh:=I.c 1 rfl;have bi:=I.c 2 rfl;have br:=I.c 3 rfl
   cases so with
   | false=>
    have e0:lo=false:=hl;rw[e0]at E;have T:Hid (N=([],2)):=E7 E.out;clear E nr hl;rw[show QQ false=8 from rfl];go_wp2_with fail
    go_returns
    exact⟨_,by rw[T.out]; rfl,by rw[T.out]; exact aF.nil _,zh⟩
   | true=>
    rw[show QQ true=0 from rfl]
    cases t1 with
    | true=>
     have e0:lo=false:=hl;rw[e0]at E;have T:Hid (N=([],2)):=E7 E.out;clear E nr hl;go_wp2_with fail
     go_returns
     exact⟨_,by rw[T.out]; rfl,by rw[T.out]; exact aF.nil _,zh⟩
    | false=>
     have e0:lo=true:=hl;rw[e0]at E;have d9:Hid (N=(fd n,0)):=E7 E.out;replace nr:=nr e0;clear hl e0 E;go_wp2_with fail
     clear b9 bh bi br
     go_loopw [8,38] (fun oo J wr=>∃ (t:Nat) (ow:Ei),ow=oo/\t<=n/\J = Ey Ew t/\aX wr (w.heap.size+2) 3 1 ow (fd t).length (ints (fd t))/\ai wr w.heap.size 83 Z/\ai wr (w.heap.size+1) 28 #[Ez false,Ex t2 t3 t4,Ez t5,Ex t6 t7 t8]/\Below w.heap.size w wr/\av w wr) (fun _ J _=>n-(intOf J).toNat)
     case atStart=>exact⟨0,_,rfl,Nat.zero_le _,rfl,by rw[eS]; exact aX.nil _ _ _ _,zC,zC,zh,J.trans zw⟩
     case round=>
      obtain⟨t,ow,rfl,ht,rfl,hr,zq,zc,zB,zk⟩:=hrel;clear oq I B J;have oq:=zq;have I:=zc;have B:=zB;have J:=zk;clear zq zc zB zk;obtain⟨oa,ci,rfl⟩:=hr.len;have HR:=E7 hr;clear hr
      rcases Er t n with tn | tn
      .
       have fl:decide ((t:Int)<(n:Int))=true:=E' D6;obtain⟨b,o',rfl,hb,M⟩:=HS.out.at tn;have qx:=HS.out.1 t tn;have nc:=nr t tn;have dx:=E7 (ek.out t);have dc:=dy.out t ht;obtain⟨C,hC⟩:∃C,CS t=C:=⟨_,rfl⟩;rw[hC]at M qx nc;have cn:=qx.1;have cg:=qx.2.1;have cZ:∀j,j<C.size->wr.cell? ⟨b,o'+t*20+j,none⟩=C[j]? :=fun j hj=>(B.cell (p:=⟨b,_,none⟩) hb).trans (M j D6);have ic:(Tryz.prog.info? 83).map (·.size)=some C.size:=by rw[cn]; kernel_rfl
       generalize nf t=nt at *;have zz:=B.size;have b9:=I.c 0 rfl;have bh:=I.c 1 rfl;have bi:=I.c 2 rfl;have br:=I.c 3 rfl;have lc:=I.lt;clear M hC qx nr
       repeat' (first | ((with_reducible show wpList _ _ _ (⟨some 42,_,_,_,_,_⟩::_) _ _); refine kK rfl 83 (.tmp 41) rfl b (o'+t*20) rfl C _ cZ Tryz.underlying83 rfl ic ?_) | ((with_reducible show wpList _ _ _ (⟨none,.store _ _ _,_,_,_,_⟩::_) _ _); refine zL rfl 83 (.tmp 10) (.tmp 42) rfl wr.heap.size C rfl rfl 83 Zz zC ic cn.symm cg (fun w5 r5=> ?_); have cy:=r5.bc (oq.alloc _) D6; have Y:=r5.bc (I.alloc _) D6; have dP:=r5.bI; have f8:=Y.c 0 rfl; have er:=Y.c 1 rfl; have ey:=Y.c 2 rfl; have ed:=Y.c 3 rfl) | ((with_reducible show wpList _ _ _ (⟨some 44,_,_,_,_,_⟩::_) _ _); refine yg rfl 83 (.tmp 10) rfl wr.heap.size rfl 83 C _ dP Tryz.underlying83 rfl ic ?_) | ((with_reducible show wpList _ _ _ (⟨some 45,_,_,_,_,_⟩::_) _ _); refine yg rfl 83 (.tmp 4) rfl w.heap.size rfl 83 Z _ cy Tryz.underlying83 rfl ia ?_) | go_values | go_skip | go_guarded | go_step | go_upon)
       have B5:Below w.heap.size w w5:=r5.below (B.alloc B.size _) B.size;have kw:av wr w5:=av.trans zw (r5.af rfl);have dk:aX w5 (w.heap.size+2) 3 1 (Ex oa (fd t).length ci) (fd t).length (ints (fd t)):=(HR.out.alloc _).bO fun g hg=>r5.only.2 g (by have:=(HR.out.lt g hg).2; omega);refine(nc _ (J.trans kw)).mono ?_;rintro e w6 ⟨rfl,X⟩;have cx:ai w6 w.heap.size 83 Z:=cy.ae X;have ce:ai w6 (w.heap.size+1) 28 #[Ez false,Ex t2 t3 t4,Ez t5,Ex t6 t7 t8]:=Y.ae X;have B6:Below w.heap.size w w6:=zA B5 (Ep _) X;have k6:av w w6:=(J.trans kw).aI X;have bt:=E7 (dk.ae X);clear r5 cy Y dP f8 er ey ed b9 bh bi br X B5 kw dk nc cZ ic cg oq I B J HR lc zz cn;have zz:=B6.size;have lc:=ce.lt
       cases nt with
       | false=>
        go_wp2_with fail
        go_roundw
        case rel=>exact⟨t+1,_,rfl,by omega,by go_num,by rw[dx.out]; exact bt.out,cx,ce,B6,k6⟩
        case measure=>simp[intOf]; omega
       | true=>
        dsimp only
        repeat' (first | ((with_reducible show wpList _ _ _ (⟨some 57,_,_,_,_,_⟩::_) _ _); refine Ve rfl (.tmp 54) (.tmp 56) rfl (w.heap.size+2) (fd t).length (Ex oa (fd t).length ci) (fd t) rfl (bt.out.alloc _) w6.heap.size t rfl (ai.new _ _ _) dc E6 (fun v' w7 cN bl=> ?_)) | go_values | go_skip | go_guarded | go_step | go_upon)
        obtain⟨f9,eM,rfl⟩:=cN.len;have r6:=bt.out.alloc (.cells #[Ey Ew (t:Int)] 3);have em:=r6.bI bl (cx.alloc _) D6;have f7:=r6.bI bl (ce.alloc _) D6;have B7:=r6.below bl (B6.alloc B6.size _) D6;have k7:av w w7:=(k6.alloc _).trans (r6.af bl);have eW:=E7 cN;clear r6 bl cN bt cx ce B6 k6 dc
        go_roundw
        case rel=>exact⟨t+1,_,rfl,by omega,by go_num,by rw[dx.out]; simpa using eW.out,em,f7,B7,k7⟩
        case measure=>simp[intOf]; omega
      .
       obtain rfl:t=n:=D6
       go_wp2_with fail
       go_returns
       exact⟨_,by rw[d9.out]; rfl,by rw[d9.out]; exact HR.out.ints,B⟩
end
section
open Go.RowKit
variable {cs:Array Ei} {x y:Int} {k p q:Nat->Int} {a b c d v:Ei} {w w':Ef}
def eO (w:Ef) (x y:Int) (a b c d:Ei):Prop:=az w (Ej #[a,b]) x/\az w (Ej #[c,d]) y
theorem eO.af (h:eO w x y a b c d) (k:av w w'):eO w' x y a b c d:=⟨h.1.af k,h.2.af k⟩
theorem az.bF (h:az w (Ej #[a,b]) x):∃g s n c,a = Ez g/\b = Ex s n c:=by
 obtain⟨s,e,E⟩:=h;obtain⟨ao,cap,rfl⟩:=E.ak;simp only[Value.agg.injEq,Array.mk.injEq,List.cons.injEq,and_true]at e;exact⟨_,_,_,_,e.1,e.2⟩
set_option maxHeartbeats 6400000 in
set_option maxRecDepth 1000000 in
theorem J8 {a' b' c' d':Ei} (w:Ef) (h:eO w x y a b c d) (J:eO w x y a' b' c' d') (Z:fits x) (fy:fits y) :
  Ee Ed 16 #[Ej #[a,b,c,d],Ej #[a',b',c',d']] w fun e w'=>e = Eh (Ez true)/\zf w w':=by
 have s1:∀w',zf w w'->Ee Ed 44 #[Ej #[a,b],Ej #[a',b']] w' fun e N=>e = Eh (Ez true)/\zf w' N:=fun w' M=>by
  have:=Qr w' (h.1.ae M) (J.1.ae M) Z Z
  rwa[E' rfl]at this
 have s2:∀w',zf w w'->Ee Ed 44 #[Ej #[c,d],Ej #[c',d']] w' fun e N=>e = Eh (Ez true)/\zf w' N:=fun w' M=>by
  have:=Qr w' (h.2.ae M) (J.2.ae M) fy fy
  rwa[E' rfl]at this
 obtain⟨g1,t1,n1,q1,rfl,rfl⟩:=h.1.bF;obtain⟨g2,t2,n2,q2,rfl,rfl⟩:=h.2.bF;obtain⟨g3,t3,n3,q3,rfl,rfl⟩:=J.1.bF;obtain⟨g4,t4,n4,q4,rfl,rfl⟩:=J.2.bF;clear h J Z fy
 go_enter Tryz.func16,Tryz.ntmps16
 go_wp2_with fail
 refine(s1 _ zh).mono ?_;rintro e w1 ⟨rfl,E⟩;have B:Below w.heap.size w w1:=yI E;have Y:ai w1 w.heap.size 28 #[Ez g1,Ex t1 n1 q1,Ez g2,Ex t2 n2 q2]:=ai.au E;have ob:ai w1 (w.heap.size+1) 28 #[Ez g3,Ex t3 n3 q3,Ez g4,Ex t4 n4 q4]:=ai.au E;clear E s1;have b9:=Y.q2;have X:=Y.q3;have T:=ob.q2;have be:=ob.q3;go_wp2_with fail
 refine(s2 _ B).mono ?_;rintro e N ⟨rfl,I⟩;have B2:=zA B (Ep _) I;clear Y ob b9 X T be I B s2
 go_wp2
 go_returns
 exact⟨rfl,zh⟩
def QM (w:Ef) (cs:Array Ei) (k p q:Nat->Int):Prop:=cs.size=20/\cs.all (·.oneCell')=true/\(∀i,i<4->cs[i]? = some (Ey Ew (k i)))/\
 ∀i,i<4->∃a b c d,cs[4+i*4]? = some a/\cs[4+i*4+1]? = some b/\cs[4+i*4+2]? = some c/\cs[4+i*4+3]? = some d/\eO w (p i) (q i) a b c d
theorem QM.af (h:QM w cs k p q) (M:av w w'):QM w' cs k p q:=by
 obtain⟨Y,N,Z,X⟩:=h;refine⟨Y,N,Z,fun i hi=> ?_⟩;obtain⟨a,b,c,d,E,T,J,I,f⟩:=X i hi;exact⟨a,b,c,d,E,T,J,I,f.af M⟩
theorem QM.ae (h:QM w cs k p q) (s:zf w w'):QM w' cs k p q:=h.af (av.ae s)
theorem QN.qm {a:aU} (h:QN w v a):∃cs,v = Ej cs/\QM w cs (kA a) (fun i=>cP (cA a i) a.n) (fun i=>cQ (cA a i) a.n):=by
 obtain⟨c0,c1,c2,c3,c4,c5,c6,c7,c8,c9,Z,X,T,N,M,Y,rfl,h0,E,J,I⟩:=h;refine⟨_,rfl,rfl,?_,fun i hi=> ?_,fun i hi=> ?_⟩
 .
  obtain⟨_,_,_,_,rfl,rfl⟩:=h0.1.bF;obtain⟨_,_,_,_,rfl,rfl⟩:=h0.2.bF;obtain⟨_,_,_,_,rfl,rfl⟩:=E.1.bF;obtain⟨_,_,_,_,rfl,rfl⟩:=E.2.bF;obtain⟨_,_,_,_,rfl,rfl⟩:=J.1.bF;obtain⟨_,_,_,_,rfl,rfl⟩:=J.2.bF;obtain⟨_,_,_,_,rfl,rfl⟩:=I.1.bF;obtain⟨_,_,_,_,rfl,rfl⟩:=I.2.bF;simp[Value.oneCell']
 . rcases(show i=0\/i=1\/i=2\/i=3 by omega)with rfl | rfl | rfl | rfl<;>rfl
 .
  rcases(show i=0\/i=1\/i=2\/i=3 by omega)with rfl | rfl | rfl | rfl
  . exact⟨_,_,_,_,rfl,rfl,rfl,rfl,h0⟩
  . exact⟨_,_,_,_,rfl,rfl,rfl,rfl,E⟩
  . exact⟨_,_,_,_,rfl,rfl,rfl,rfl,J⟩
  . exact⟨_,_,_,_,rfl,rfl,rfl,rfl,I⟩
def De:PL:= [(0,0),(4,0),(1,1),(3,2)]
def Du (i:Nat):Int:=match i with | 0=>0 | 1=>1 | 2=>2 | _=>3
def kT (k:Nat->Int) (i:Nat):Int:=k (Xq 2 0 3 1 i)
def Cu (l:PL):List Ei:=l.flatMap fun p=> [Ey Ew p.1,Ey Ew p.2]
theorem Gx (l:PL):(Cu l).length=l.length*2:=by
 induction l with
 | nil=>rfl
 | cons p r ih=>show ((Cu r).length+1+1)=_; rw[ih]; simp only[List.length_cons]; omega
theorem Vd (l:PL):∀t,t<l.length->(Cu l)[t*2]? = some (Ey Ew (l.getD t (0,0)).1)/\(Cu l)[t*2+1]? = some (Ey Ew (l.getD t (0,0)).2):=by
 induction l with
 | nil=>intro t h; cases h
 | cons p r ih=>
  intro t h
  match t with
  | 0=>exact⟨rfl,rfl⟩
  | t+1=>
   have:=ih t (by simp only[List.length_cons]at h; omega);rw[show (t+1)*2=t*2+1+1 by omega];exact this
theorem bT.own {a9 n:Nat} {l:PL} (h:w.ownsRow a9 23 2 v n (Cu l)) (E:∀k,-9223372036854775808<=(l.getD k (0,0)).1/\(l.getD k (0,0)).1<=9223372036854775807/\-9223372036854775808<=(l.getD k (0,0)).2/\(l.getD k (0,0)).2<=9223372036854775807):bT w v l:=by
 have I:n=l.length:=by have:=h.1; rw[Gx]at this; omega
 subst I
 rcases h.2 with⟨rfl,h0⟩ | ⟨g,cap,cur,rfl,h1,h2,h3,h4,h5,h6⟩
 .
  have:l = []:=List.eq_nil_of_length_eq_zero h0;subst this;exact⟨E,none,0,rfl,Ep _,fun h=>absurd rfl h⟩
 .
  refine⟨E,_,cap,rfl,h3,fun _=>⟨g,0,rfl,?_,fun t ht=> ?_⟩⟩
  . exact(Array.getElem?_eq_some_iff.1 h2).1
  .
   have c:=h.cells (g:=g) rfl;have a:=c (t*2) _ (Vd l t ht).1;have b:=c (t*2+1) _ (Vd l t ht).2;rw[Addr.add_lit]at a b;rw[Nat.zero_add]at *;exact⟨a,b⟩
def DG (n:Nat) (x:Ei):Prop:=∃a c,x = Ex a n c
def Df (a:aU) (x:Int):Nat->Nat
 | 0=>0
 | m+1=>Df a x m+if kA a m=x then 1 else 0
open Go.RowKit
theorem QM.qf {a:aU} (hn:0<a.n) (M:cW a) (h:QM w cs (kA a) (fun i=>cP (cA a i) a.n) (fun i=>cQ (cA a i) a.n)):QF w cs (kA a) (rA a):=by
 obtain⟨X,h2,h3,Z⟩:=h;refine⟨X,h2,h3,fun i hi=> ?_⟩;obtain⟨a',b,c,d,c0,c1,J,N,I,E⟩:=Z i hi;have T:cP (cA a i) a.n=(rA a i).num:=by unfold cP rA; rw[E_ D6]
 have Y:cQ (cA a i) a.n=((rA a i).den:Int):=by unfold cQ rA; rw[E_ D6]
 dsimp only at I E;rw[T]at I;rw[Y]at E;obtain⟨g,s,m,t,rfl,rfl⟩:=I.bF;obtain⟨g',s',m',t',rfl,rfl⟩:=E.bF;have z:=(Va M hn i).fits D6;exact⟨_,_,_,_,_,_,_,_,c0,c1,J,N,bX.mk' I E (qM _) (KJ _) z.1 z.2⟩
structure fE (l:PL) (a:aU) (m:Nat->Nat):Prop where
 lt:∀i,i<4->m i<l.length
 k:∀i,i<4->kA a i=(m i:Int)
 x2:rA a 0*(((pt l (m 1)).1-(pt l (m 0)).1:Int):Rat)-rA a 1*(((pt l (m 1)).2-(pt l (m 0)).2:Int):Rat)=(((pt l (m 2)).1-(pt l (m 0)).1:Int):Rat)
 y2:rA a 0*(((pt l (m 1)).2-(pt l (m 0)).2:Int):Rat)+rA a 1*(((pt l (m 1)).1-(pt l (m 0)).1:Int):Rat)=(((pt l (m 2)).2-(pt l (m 0)).2:Int):Rat)
 x3:rA a 2*(((pt l (m 1)).1-(pt l (m 0)).1:Int):Rat)-rA a 3*(((pt l (m 1)).2-(pt l (m 0)).2:Int):Rat)=(((pt l (m 3)).1-(pt l (m 0)).1:Int):Rat)
 y3:rA a 2*(((pt l (m 1)).2-(pt l (m 0)).2:Int):Rat)+rA a 3*(((pt l (m 1)).1-(pt l (m 0)).1:Int):Rat)=(((pt l (m 3)).2-(pt l (m 0)).2:Int):Rat)
end
end Go.Proofs.YtffmbepfbienaaaGreat
/- Lists of quads that a function collects. -/
namespace Go.Proofs.YtffmbepfbienaaaGreat
section
open Go.RowKit
variable {qa:List aU} {a9:Nat} {ow v:Ei} {w':Ef}
def dJ (w:Ef) (v:Ei) (qa:List aU):Prop:=∃ao cap,v = Ex ao qa.length cap/\qa.length<=cap/\∃E:Nat->Array Ei,(∀t,t<qa.length->QF w (E t) (kA (qa.getD t zH)) (rA (qa.getD t zH)))/\
 (0<qa.length->∃b o,ao=some ⟨b,o,none⟩/\b<w.heap.size/\U0 w b o qa.length E)
theorem dJ.ae {w:Ef} (h:dJ w v qa) (s:zf w w'):dJ w' v qa:=by
 obtain⟨ao,cap,e,hc,J,T,M⟩:=h;refine⟨ao,cap,e,hc,J,fun t ht=>(T t ht).ae s,fun Y=> ?_⟩;obtain⟨b,o,I,E,X⟩:=M Y;exact⟨b,o,I,Nat.lt_of_lt_of_le E s.size,fun t ht j N=>(s.cell (p:=⟨b,_,none⟩) E).trans (X t ht j N)⟩
theorem dJ.nil (w:Ef):dJ w (Ex none 0 0) []:=⟨none,0,rfl,Ep _,fun _=>#[],fun t ht=>(by cases ht),fun h=>(by cases h)⟩
theorem dJ.ak {w:Ef} (h:dJ w v qa):∃ao cap,v = Ex ao qa.length cap:=by obtain⟨ao,cap,e,_⟩:=h; exact⟨ao,cap,e⟩
theorem QF.qx {w:Ef} {cs:Array Ei} {k:Nat->Int} {r:Nat->Rat} (h:QF w cs k r):QX w cs (fun i=>some (r i)):=by
 refine⟨h.1,h.2.1,h.eL,fun i X=> ?_⟩;obtain⟨a1,a2,T,M,E,Z,a7,a8,I,Y,N,J,f⟩:=h.2.2.2 i X;exact⟨a1,a2,T,M,E,Z,a7,a8,I,Y,N,J,f⟩
theorem dJ.fI {w:Ef} (h:dJ w v qa):∃E,dO w v qa.length E (fun t i=>some (rA (qa.getD t zH) i))/\∀t,t<qa.length->QF w (E t) (kA (qa.getD t zH)) (rA (qa.getD t zH)):=by
 obtain⟨ao,cap,e,hc,E,I,J⟩:=h;exact⟨E,⟨fun t ht=>(I t ht).qx,ao,cap,e,hc,J⟩,I⟩
def XZ (l:List (Array Ei)):List Ei:=l.flatMap (·.toList)
theorem V9 (l:List (Array Ei)) (c:Array Ei):XZ (l ++ [c])=XZ l++c.toList:=by unfold XZ; simp
theorem Ja:∀ (l:List (Array Ei)) (t j:Nat),(∀c∈l,c.size=20)->t<l.length->j<20->(XZ l)[t*20+j]? = (l.getD t #[])[j]?
 | [],t,j,_,ht,_=>by cases ht
 | c::l,0,j,hs,_,hj=>by
  have h0:c.size=20:=hs c (List.mem_cons.2 (.inl rfl))
  show (c.toList++XZ l)[0*20+j]? = _
  rw[List.getElem?_append_left (by simp; omega),show 0*20+j=j by omega];simp[List.getD]
 | c::l,t+1,j,hs,ht,hj=>by
  have h0:c.size=20:=hs c (List.mem_cons.2 (.inl rfl));have E:=Ja l t j (fun x I=>hs x (List.mem_cons.2 (.inr I))) (by simpa using ht) hj
  show (c.toList++XZ l)[(t+1)*20+j]? = _
  rw[List.getElem?_append_right (by simp; omega)];rw[show (t+1)*20+j-c.toList.length=t*20+j by simp; omega,E];simp[List.getD]
def bk (w:Ef) (a9:Nat) (ow:Ei) (qa:List aU):Prop:=∃cs:List (Array Ei),aX w a9 83 20 ow qa.length (XZ cs)/\cs.length=qa.length/\∀t,t<qa.length->QF w (cs.getD t #[]) (kA (qa.getD t zH)) (rA (qa.getD t zH))
theorem bk.nil (w:Ef) (a9:Nat):bk w a9 (Ex none 0 0) []:=⟨[],aX.nil _ _ _ _,rfl,fun t ht=>(by cases ht)⟩
theorem bk.bO {w:Ef} (h:bk w a9 ow qa) (J:∀g,ow.ownBlock=some g->w'.heap[g]? = w.heap[g]?) (E:av w w'):bk w' a9 ow qa:=by
 obtain⟨cs,M,I,N⟩:=h;exact⟨cs,M.bO J,I,fun t ht=>(N t ht).af E⟩
theorem bk.lt {w:Ef} (h:bk w a9 ow qa):∀g,ow.ownBlock=some g->a9<=g/\g<w.heap.size:=by obtain⟨cs,E,_⟩:=h; exact E.lt
theorem bk.ae {w:Ef} (h:bk w a9 ow qa) (s:zf w w'):bk w' a9 ow qa:=h.bO (fun g hg=>s.block g (h.lt g hg).2) (av.ae s)
theorem bk.len {w:Ef} (h:bk w a9 ow qa):∃a c,ow = Ex a qa.length c:=by obtain⟨cs,E,_⟩:=h; exact E.len
theorem bk.fF {w:Ef} (h:bk w a9 ow qa):dJ w ow qa:=by
 obtain⟨cs,I,X,E⟩:=h
 rcases I.own.2 with⟨rfl,h0⟩ | ⟨g,cap,cur,rfl,g1,g2,g3,g4,g5,g6⟩
 .
  have:qa = []:=List.eq_nil_of_length_eq_zero h0;subst this;exact dJ.nil w
 .
  refine⟨_,cap,rfl,g3,fun t=>cs.getD t #[],E,fun _=>⟨g,0,rfl,(Array.getElem?_eq_some_iff.1 g2).1,fun t ht j M=> ?_⟩⟩
  have J:∀c∈cs,c.size=20:=fun c hc=>by
   obtain⟨i,N,e⟩:=List.getElem_of_mem hc;have:=(E i D6).1;rw[List.getD,List.getElem?_eq_getElem N,Option.getD_some,e]at this;exact this
  have e:=Ja cs t j J D6 M;have T:=(E t ht).1;have hv:(cs.getD t #[])[j]? = some ((cs.getD t #[])[j]'D6):=by rw[Array.getElem?_eq_getElem]
  have c:=I.own.cells (g:=g) rfl (t*20+j) _ (e.trans hv);rw[Addr.add_lit]at c;rw[<- Nat.add_assoc]at c;rw[c,hv]
theorem bk.snoc {w:Ef} {ow M:Ei} {a:aU} {c:Array Ei} {xs:List Ei} {cs:List (Array Ei)} (T:aX w' a9 83 20 M (qa.length+1) (XZ cs++c.toList)) (J:cs.length=qa.length) (X:∀t,t<qa.length->QF w' (cs.getD t #[]) (kA (qa.getD t zH)) (rA (qa.getD t zH)))
  (N:QF w' c (kA a) (rA a)):bk w' a9 M (qa ++ [a]):=by
 refine⟨cs ++ [c],by rw[V9]; simpa using T,by simp[J],fun t ht=> ?_⟩;simp only[List.length_append,List.length_cons,List.length_nil]at ht
 rcases Er t qa.length with g | g
 .
  have I:(cs ++ [c]).getD t #[]=cs.getD t #[]:=by simp[List.getD,List.getElem?_append_left (show t<cs.length by omega)]
  have E:(qa ++ [a]).getD t zH=qa.getD t zH:=by simp[List.getD,List.getElem?_append_left g]
  rw[I,E]; exact X t g
 .
  obtain rfl:t=qa.length:=D6
  have I:(cs ++ [c]).getD qa.length #[]=c:=by simp[List.getD,<- J]
  have E:(qa ++ [a]).getD qa.length zH=a:=by simp[List.getD]
  rw[I,E]; exact N
theorem H9:∃E z,Tryz.prog.info? 83=some E/\E.size=20/\E.bytes<=1000/\E.zero=some z/\z.cells.size=20/\zV z.cells=true:=by
 obtain⟨E,z,M,N,T,J⟩:=GU;have I:((Tryz.prog.info? 83).map (fun i=>decide (i.bytes<=1000)))=some true:=by kernel_rfl
 rw[M]at I;simp only[Option.map_some,Option.some.injEq,decide_eq_true_eq]at I;exact⟨E,z,M,N,I,T,by rw[J]; rfl,by rw[J]; rfl⟩
section
variable {ops:Array Oper} {rest:List Oper} {o:Oper} {a:Act} {w:Ef} {Q:Exit->Act->Ef->Prop}
theorem Jb {K:Act->Ef->Prop} (s x:Operand) (ho:o.op = .call { callee:= .builtin .append,args:=#[s,x],argTypes:=#[76,76] })
  (a9:Nat) (v:Ei) (qa:List aU) (A:aU) (c:Array Ei) (hs:a.eval s=v) (J:bk w a9 v qa) (g:Nat) (hx:a.eval x = Ex (some ⟨g,0,none⟩) 1 1) (hb:ai w g 83 c) (T:QF w c (kA A) (rA A)) (hn:qa.length<=100000) (I:a9<=w.heap.size)
  (h:∀X w',bk w' a9 X (qa ++ [A])->w.grownBy w' v.ownBlock->av w w'->K (a.put o.dst X) w'):o.wp Ed a w K Q:=by
 obtain⟨Z,z,h1,h2,h3,h4,h5,h6⟩:=H9;obtain⟨cs,r1,r2,r3⟩:=J;have M:=T.1;have N:=T.2.1
 have E:((qa.length+1)+(qa.length+1) / 4+192)*Z.bytes<=281474976710656:=
  Nat.le_trans (Nat.mul_le_mul (show (qa.length+1)+(qa.length+1) / 4+192<=200000 by omega) h3) D6
 refine ZG w s x 76 ho a9 83 Z z 20 Z.bytes Tryz.underlying76 h1 h4 h2 rfl h5 h6 D6 v qa.length (XZ cs) hs r1 ⟨g,0,none⟩ 1 1 c.toList hx D6 (by simp[M]) (fun j u hj=> ?_) (fun u hu=> ?_) (by simpa using T.eL) (by unfold maxLen; omega) E I (fun X w' hr hg=> ?_)
 .
  have Y:=hb.cell j;rw[show (⟨g,0,none⟩:Addr).add j=⟨g,0+j,none⟩ from Addr.add_lit ..,Nat.zero_add,Y];simpa using hj
 . exact(Array.all_eq_true_iff_forall_mem.1 N) u (by simpa using hu)
 .
  have kp:=r1.af hg;exact h X w' (bk.snoc (w:=w) (ow:=v) (xs:= []) hr r2 (fun t ht=>(r3 t ht).af kp) (T.af kp)) hg kp
theorem Jc (M:o.guard=none) (s x:Operand) (X:o.op = .call { callee:= .builtin .append,args:=#[s,x],argTypes:=#[76,76] })
  (a9:Nat) (v:Ei) (qa:List aU) (A:aU) (c:Array Ei) (T:a.eval s=v) (I:bk w a9 v qa) (g:Nat) (Y:a.eval x = Ex (some ⟨g,0,none⟩) 1 1) (hb:ai w g 83 c) (N:QF w c (kA A) (rA A)) (hn:qa.length<=100000) (E:a9<=w.heap.size)
  (h:∀J w',bk w' a9 J (qa ++ [A])->w.grownBy w' v.ownBlock->av w w'->wpList Ed ops Q rest (a.put o.dst J) w'):wpList Ed ops Q (o::rest) a w:=
 wpList_plain M fun _ hK=>Jb s x X a9 v qa A c T I g Y hb N hn E fun J w' h1 Z h3=>hK _ _ (h J w' h1 Z h3)
theorem GZ (E:o.guard=none) (x:Operand) (I:o.op = .buildSlice 76 1 #[(0,x)]) (C:Array Ei) (J:a.eval x = Ej C) (h:C.size=20)
  (M:wpList Ed ops Q rest (a.put o.dst (Ex (some ⟨w.heap.size,0,none⟩) 1 1)) (w.alloc (.cells C 83))):wpList Ed ops Q (o::rest) a w:=
 wpList_plain E fun _ N=>QS x I C J h (N _ _ M)
end
def zO (l:PL) (most:Int):Int×List aU:=
 if zP l≠0 then(zP l,[])else if most<0\/12<most then(2,[])else(0,qs l (yr (min most (l.length:Int)).toNat))
theorem Gy {l:PL} (n i:Nat):(qs l ((yr n).take i)).length<=(yr n).length:=by
 have:=JQ l ((yr n).take i);rw[List.length_take]at this;omega
theorem Vf {n m:Nat} {x:P4} (h:vY n x=true) (E:n<=m) (i:Nat):K4 x i<m:=by
 have:=Zo h;unfold K4 Xq
 split<;>omega
end
section
open Go.ChangeShapes Go.WideShapes Go.ChangeAt Go.RowKit Go.Joins
variable {v:Ei} {W':Ef}
section
variable {H:Type} {enc:Em×Ei->H} {P:Program}
theorem Kh {f:Func} {s:ChangeSpec} {apart Z J b9:Bool} {W:Ef} {args:Array Ei} {ds gs:List (DataW H)} {E pa pv:List MemPlace}
  (hW:DataW.Whole enc P f.params.toList s.vars apart W args.toList ds gs E)
  (Y:∀ (b:Nat) (sp:Nat->Bool) (hd:Bool),DataW.TrodAll enc P W' b sp hd f.resultTypes.toList (v.resultList f.resultTypes.size) (s.fn H (ds++gs)).results [])
  (M:∀sp:Nat->Bool,(∀p∈E,sp p.block=true)->DataW.TrodAll enc P W' 0 sp true f.params.toList args.toList (s.fn H (ds++gs)).args pa)
  (I:∀sp:Nat->Bool,(∀p∈E,sp p.block=true)->DataW.TrodVars enc P W' sp s.vars (s.fn H (ds++gs)).vars pv)
  (T:E=pa++pv) (hb:Below W.heap.size W W')
  (bg:∀ (j:Nat) (t:Em) (r:Ei),f.resultTypes[j]? = some t->(v.resultList f.resultTypes.size)[j]? = some r->Value.okWide P W' .any 0 t r) :
  s.post enc P f apart Z J b9 W args v W':=by
 have bf:∀p∈E,p.block<W.heap.size:=fun p N=>hW.lt p N;have X:∀p∈E,(fun b=>decide (b<W.heap.size)) p.block=true:=fun p N=>by simpa using bf p N
 refine⟨ds,gs,E,[],pa,pv,hW,Y _ _ _,M _ X,I _ X,World.keptBut_mono (fun p N=>⟨N,?_⟩) (hb.frame (· ∈E)),fun _=> ?_⟩
 .
  rw[T,List.mem_append]at N;exact Or.inr N
 .
  obtain⟨_,_,_,_,_,hz,hn⟩:=hW;refine⟨bg,_,_,([]++pa)++pv,⟨[]++pa,pv,trodAll_append (M _ (fun _ _=>rfl)) (Y _ _ _),I _ (fun _ _=>rfl),rfl,?_,?_⟩,?_⟩
  .
   intro b off N;have be:MemPlace.cell b off∈E:=by rw[T]; simpa using N
   rw[hb.frozen (bf _ be)];exact hz b off be
  .
   intro ha;have:=hn ha;rw[T]at this;simpa using this
  .
   intro p N _;rw[T];simpa using N
theorem Ki {W:Ef} (I:Below W.heap.size W W') {p:MemPlace} (E:p.block<W.heap.size):W.sameAt W' p:=by
 cases p with
 | cell b o=>exact I.cell (p:=⟨b,o,none⟩) E
 | map b=>exact I.block b E
theorem kQ {W:Ef} (K:Kids P (· < P.types.size)) (T:∀t e,t<P.types.size->P.underlying t=some (.slice e)->0<P.cellsOf e) (N:Below W.heap.size W W') {Y:Nat->Bool} :
  ∀{J:List Em} {M:List Ei} {X:List (DataW H)} {I:List MemPlace},(∀t∈J,t<P.types.size)->DataW.TrodAll enc P W 0 (fun _=>true) true J M X I->(∀p∈I,Y p.block=true)->DataW.TrodAll enc P W' 0 Y true J M X I
 | [],[],[],_,_,h,_=>h
 | _::_,_::_,_::_,_,hT,⟨p,q,⟨n,h1⟩,h2,e⟩,hs=>
  ⟨p,q,⟨n,DataW.trod_respare K T n _ _ _ (hT _ (List.mem_cons.2 (Or.inl rfl))) (DataW.trod_carry n _ _ _ h1 (fun x E=>Ki N (DataW.trod_lt n _ _ _ h1 x E))) (fun x E=>hs x (by rw[e]; exact List.mem_append_left _ E))⟩,
   kQ K T N (fun t ht=>hT t (List.mem_cons.2 (Or.inr ht))) h2 (fun x E=>hs x (by rw[e]; exact List.mem_append_right _ E)),e⟩
theorem Vo {w:Ef} {b o:Nat} (h:w.cell? ⟨b,o,none⟩=some v):b<w.heap.size:=by
 rcases Er b w.heap.size with g | g
 . exact g
 . simp[World.cell?,Array.getElem?_eq_none g]at h
end
theorem Dj:Kids Ed (· < Tryz.prog.types.size):=kids_rows D7 D7
theorem CJ:∀t e,t<Tryz.prog.types.size->Tryz.prog.underlying t=some (.slice e)->0<Tryz.prog.cellsOf e:=slices_full_of Ed D7
theorem Bj:Tryz.prog.cellsOf 172=1:=by kernel_rfl
theorem Bk:Tryz.prog.cellsOf 24=1:=by kernel_rfl
theorem Bl:Tryz.prog.cellsOf 4=1:=by kernel_rfl
theorem Bm:Tryz.prog.cellsOf 26=2:=by kernel_rfl
theorem WC:Tryz.prog.cellsOf 28=4:=by kernel_rfl
section
variable {H:Type} {enc:Em×Ei->H} {W:Ef} {a9:Nat} {ah:Bool} {n:Nat}
theorem Kj {y:DataW H×List MemPlace} (h:DataW.trod enc Ed W a9 (fun _=>true) ah n 24 [v]=some y):∃l,aA W v l:=by
 rcases open_ints Tryz.underlying24 Tryz.underlying172 Bj h with⟨e,_⟩ | ⟨a,len,cap,zs,e,_,hle,_,hl,_,hcell,hwf⟩
 .
  simp only[List.cons.injEq,and_true]at e;subst e;exact⟨[],aA.nil W⟩
 .
  simp only[List.cons.injEq,and_true]at e;subst e;rw[E9 rfl]at hl;have lt:(zs.take len).length=len:=by rw[List.length_take]; omega
  refine⟨zs.take len,fun x J=> ?_,some a,cap,by rw[lt],by omega,(fun h=>by cases h),fun E=> ?_⟩
  .
   have:=Go.bounds_u32 (hwf x (List.mem_of_mem_take J));omega
  .
   have I:0<zs.length:=by
    rcases Nat.eq_zero_or_pos len with h0 | h0
    . exact absurd (by rw[h0,List.take_zero]) E
    . omega
   obtain⟨b,off,rfl,hc⟩:=Go.ints_at hcell I;refine⟨b,off,rfl,Vo (hc 0 I),fun t ht=> ?_⟩;rw[lt]at ht;rw[hc t D6];simp[List.getD,List.getElem?_take,ht]
theorem Xz {I M:Ei} {y:DataW H×List MemPlace} (h:DataW.trod enc Ed W a9 (fun _=>true) ah n 26 [I,M]=some y):∃g l,I = Ez g/\aA W M l:=by
 obtain⟨xs,m,_,_,_,E,J⟩:=DataW.trod_struct Tryz.underlying26 h;have h0:=J 0 _ rfl;have N:=J 1 _ rfl
 match xs,E with
 | [x0,x1],_=>
  simp[Bl,Bk]at h0 N;obtain⟨b,e,_⟩:=DataW.trod_bool Tryz.underlying4 h0;obtain⟨l,E⟩:=Kj N;simp only[List.cons.injEq,and_true]at e;exact⟨b,l,e,E⟩
theorem Zx {cs:List Ei} {y:DataW H×List MemPlace} (h:DataW.trod enc Ed W a9 (fun _=>true) ah n 28 cs=some y) :
  ∃gx J gy I la lb,cs = [Ez gx,J,Ez gy,I]/\aA W J la/\aA W I lb:=by
 obtain⟨xs,m,_,_,hc,X,E⟩:=DataW.trod_struct Tryz.underlying28 h;rw[WC]at hc;have h0:=E 0 _ rfl;have M:=E 1 _ rfl
 match xs,X,cs,hc with
 | [x0,x1],_,[c0,c1,c2,c3],_=>
  simp[Bm]at h0 M;obtain⟨gx,la,rfl,N⟩:=Xz h0;obtain⟨gy,lb,rfl,T⟩:=Xz M;exact⟨gx,c1,gy,c3,la,lb,rfl,N,T⟩
end
theorem Vp {n:Int} (h:(Lit.int Ew n).wf=true) : -9223372036854775808<=n/\n<=9223372036854775807:=Go.bounds_i64 h
end
section
open Go.RowKit
variable {cs:Array Ei} {B g gc i j k l:Nat} {r s:Rat} {t tc:Em} {u va vb x y z:Ei} {a w:Ef}
theorem XU (J:ai w g t cs) (I:cs[i]? = some u) (k:Nat):(w.setCell ⟨g,i,none⟩ u).heap[k]? = w.heap[k]? :=by
 unfold ai at J
 by_cases e:g=k
 .
  subst e
  have M:cs.setIfInBounds i u=cs:=by
   apply Array.ext_getElem?
   intro j;rw[Array.getElem?_setIfInBounds]
   split
   .
    rename_i h; subst h
    have E:i<cs.size:=by
     rcases Er i cs.size with g | g
     . exact g
     . rw[Array.getElem?_eq_none g]at I; cases I
    rw[E9 E,I]
   . rfl
  simp[World.setCell,Array.getElem?_modify,J,M]
 . simp[World.setCell,Array.getElem?_modify,e]
theorem JV (h:Below B a w) {g i:Nat} {t:Em} {cs:Array Ei} {u:Ei} (I:ai w g t cs) (E:cs[i]? = some u):Below B a (w.setCell ⟨g,i,none⟩ u):=
 ⟨h.os,h.tape,h.output,by have:=h.size; simpa[World.setCell]using this,fun k J=>(XU I E k).trans (h.block k J)⟩
theorem Ht (h:Below B a w) (hg:B<=g):Below B a ((((w.setCell ⟨g,i,none⟩ x).setCell ⟨g,j,none⟩ y).setCell ⟨g,k,none⟩ z).setCell ⟨g,l,none⟩ u):=
 Below.setCell (Below.setCell (Below.setCell (Below.setCell h hg _) hg _) hg _) hg _
theorem Hu {r:Nat} (I:ai w r t cs) (E:zV cs=true):av w ((((w.setCell ⟨r,i,none⟩ x).setCell ⟨r,j,none⟩ y).setCell ⟨r,k,none⟩ z).setCell ⟨r,l,none⟩ u):=
 av.only I E ((bJ.refl _ _).set.set.set.set)
theorem Cf (w:Ef) (ha:FR w va r) (hb:FR w vb s) (s0:s≠0) (g1:fits (r.num*s.den)) (g4:fits (r.den*s.num)) :
  Ee Ed 129 #[va,vb] w fun e w'=>∃u v,e = Eh (Ev #[u,v])/\az w' u (r.num*s.den)/\az w' v (r.den*s.num)/\zf w w':=by
 have fa:=ha.fit;have fb:=hb.fit
 have ze:∀w' u,az w' u s.num->Ee Ed 97 #[u] w' fun e J=>e = Eh (Ez false)/\zf w' J:=fun w' u h1=>by
  have:=UF w' h1;rw[Ea (UM s0)]at this;exact this
 have m2:∀w' u v,az w' u r.den->az w' v s.num->Ee Ed 55 #[u,v] w' fun e J=>∃v,e = Eh (Ev #[v,Ey Ew 0])/\az J v (r.den*s.num)/\zf w' J:=fun w' u v h1 h2=>by
  have:=VT w' h1 h2 fa.2 fb.1;rw[zQ g4,zJ g4]at this;exact this
 have cN:∀w' u v,FR w' u r->FR w' v s->Ee Ed 60 #[u,v] w' fun e J=>∃v,e = Eh v/\az J v (r.num*s.den)/\zf w' J:=fun w' u v h1 h2=>k9 w' h1 h2 g1;have T:=ha;have X:=hb;obtain⟨a2,a3,a4,a6,a7,a8,rfl,na,da,-⟩:=ha.bU;obtain⟨b2,b3,b4,b6,b7,b8,rfl,N,db,-⟩:=hb.bU;obtain⟨ga,bf⟩:∃g,decide (r<0)=g:=⟨_,rfl⟩;obtain⟨gb,be⟩:∃g,decide (s<0)=g:=⟨_,rfl⟩;rw[bf]at na T|-;rw[be]at N X|-;have Fa:=E7 T;have Fb:=E7 X;have M:=E7 da;have I:=E7 N;clear bf be na da N db ha hb T X fa fb;clear g1 g4 s0
 go_enter Tryz.func129,Tryz.ntmps129
 go_wp2_with fail
 refine(ze _ _ (I.out.af zw)).mono ?_;rintro e w1 ⟨rfl,st⟩;have B:=bA w st;have kp:=kB w st;have oa:ai w1 w.heap.size 28 #[Ez ga,Ex a2 a3 a4,Ez false,Ex a6 a7 a8]:=ai.au st;have ob:ai w1 (w.heap.size+1) 28 #[Ez gb,Ex b2 b3 b4,Ez false,Ex b6 b7 b8]:=ai.au st;have Z:ai w1 (w.heap.size+1+1) 26 #[Ez false,Ex none 0 0]:=ai.au st;have Y:ai w1 (w.heap.size+1+1+1) 26 #[Ez false,Ex none 0 0]:=ai.au st;replace Fa:=E7 (Fa.out.af kp);replace Fb:=E7 (Fb.out.af kp);replace M:=E7 (M.out.af kp);replace I:=E7 (I.out.af kp);clear kp;clear st;obtain⟨bi,ce,bt,bl⟩:=oa.r3;have la:=oa.lt;obtain⟨ci,cn,bg,cx⟩:=ob.r3;have lb:=ob.lt;have lp:=Z.lt;have lq:=Y.lt;clear ze;have d9:w.heap.size+1+1+1<w1.heap.size:=Y.lt;have dk:=B.size
 go_upto_region 3 with fail
 refine aj.c_ w w1 [.o w.heap.size 28 #[Ez ga,Ex a2 a3 a4,Ez false,Ex a6 a7 a8],.o (w.heap.size+1) 28 #[Ez gb,Ex b2 b3 b4,Ez false,Ex b6 b7 b8],.s (w.heap.size+1+1) 26 #[Ez false,Ex none 0 0] 11 [2] aj.v1,.s (w.heap.size+1+1+1) 26 #[Ez false,Ex none 0 0] 12 [10] aj.v1] [2,7,10,11,12] [(2,vQ),(7,vS 0),(10,vQ)] [(2,dD (r.num*s.den)),(7,cD (r.den*s.num) 0),(10,dD (r.den*s.num))] [(10,[(7,some 17)]),(11,[(2,some 12)]),(12,[(10,some 20)]),(13,[(2,some 12),(7,some 17),(10,some 20)])] [(2,[11]),(10,[12])] (by simp only[aV]; exact⟨zh,zw,zC,zC,zC,zC,trivial⟩) (fun N0 cy b9 Q' E hQ=> ?_);clear bi ce bt bl la ci cn bg cx lb lp lq;clear cy;refine aj.aS 10 (fun _ _ _ h=>h.e.1.r3) ?_;refine aj.aS 11 (fun _ _ _ h=>h.e.2.1.r3) ?_;refine aj.sC E (fun D v' W' h _=>cN W' _ _ (Fa.out.af h.k) (Fb.out.af h.k)) ?_;rintro _ ⟨N1,N2,N3,N4,rfl⟩;refine aj.aB (b:=⟨#[_,_,_,_,_,_,_,_,_,_,_,_,_,_,_,_,_,_,_,_,_],_⟩) rfl ?_;refine aj.aG 13 ?_;refine aj.aS 14 (fun _ _ _ h=>E8 h.e.1.q2 h.e.1.q3) ?_;refine aj.aG 15 ?_;refine aj.aS 16 (fun _ _ _ h=>h.e.2.1.r1) ?_;refine aj.sC E (fun D v' W' h _=>m2 W' _ _ (M.out.af h.k) (I.out.af h.k)) ?_;rintro _ ⟨dx,dl,dc,dt,rfl⟩;refine aj.aB (b:=⟨#[_,_,_,_,_,_,_,_,_,_,_,_,_,_,_,_,_,_,_,_,_],_⟩) rfl ?_
 repeat refine aj.aG _ ?_
 refine aj.sC E (fun D v' W' _ hf=>kt W' (hf (7,some 17) (.head _) rfl).2.2.get) ?_;rintro _ ⟨D1,D2,D3,D4,rfl⟩;refine aj.aB (b:=⟨#[_,_,_,_,_,_,_,_,_,_,_,_,_,_,_,_,_,_,_,_,_],_⟩) rfl ?_;refine aj.sS E ?_;refine aj.sS E ?_;refine aj.sE (fun _ v' J B jk hl _ _ hf=> ?_);simp only[xZ,qk]at hl;obtain⟨oa,ob,Z,Y,-⟩:=hl;have Z:ai J (w.heap.size+1+1) 26 #[Ez N1,Ex N2 N3 N4]:=Z;have Y:ai J (w.heap.size+1+1+1) 26 #[Ez D1,Ex D2 D3 D4]:=Y;have FN:Hid (az J (Ej #[Ez N1,Ex N2 N3 N4]) (r.num*s.den)):=(hf (2,some 12) (.head _) rfl).2.2;have FD:Hid (az J (Ej #[Ez D1,Ex D2 D3 D4]) (r.den*s.num)):=(hf (10,some 20) (.tail _ (.tail _ (.head _))) rfl).2.2;replace Fa:=E7 (Fa.out.af jk);replace Fb:=E7 (Fb.out.af jk);replace M:=E7 (M.out.af jk);replace I:=E7 (I.out.af jk);clear hf jk;refine hQ _ _ ?_;clear hQ E Q' b9;have la:=oa.lt;have lb:=ob.lt;obtain⟨bh,cg⟩:=Z.r1;have lp:=Z.lt;obtain⟨cZ,br⟩:=Y.r1;have lq:=Y.lt;go_wp2_with fail
 refine Eo (by simp[results,Tryz.results129,go_sem,la,lb,bh,cg,lp,cZ,br,lq]; rfl) rfl ?_;exact⟨_,_,rfl,FN.out.af zw,FD.out.af zw,zh⟩
theorem Cg (w:Ef) (ha:FR w va r) (hb:FR w vb s) (s0:s≠0) (g1:fits (r.num*s.den)) (g4:fits (r.den*s.num)) :
  Ee Ed 52 #[va,vb,.func (.func 129) #[] #[]] w fun e w'=>∃v,e = Eh (Ev #[v,Ey Ew 0])/\FR w' v (r / s)/\zf w w':=by
 have cl:∀w' u v,FR w' u r->FR w' v s->Ee Ed 129 #[u,v] w' fun e T=>∃u v,e = Eh (Ev #[u,v])/\az T u (r.num*s.den)/\az T v (r.den*s.num)/\zf w' T:=fun w' u v h1 h2=>Cf w' h1 h2 s0 g1 g4
 have rd:∀w' u v,az w' u (r.num*s.den)->az w' v (r.den*s.num)->Ee Ed 92 #[u,v] w' fun e T=>∃v,e = Eh v/\FR T v (r / s)/\zf w' T:=fun w' u v h1 h2=>by
  have:=vZ w' h1 h2 g1 g4 (Qy r s0);rw[Qx r s0]at this;exact this
 obtain⟨a1,a2,a3,a4,a5,a6,a7,a8,rfl⟩:=ha.ak;obtain⟨b1,b2,b3,b4,b5,b6,b7,b8,rfl⟩:=hb.ak;have N:=E7 ha;have M:=E7 hb;clear ha hb g1 g4 s0
 go_enter_defers Tryz.func52,Tryz.ntmps52
 go_wp2_with fail
 refine(xC _ (N.out.af zw)).mono ?_;rintro e w1 ⟨rfl,st⟩;have B:=bA w st;have kp:=kB w st;have J:ai w1 w.heap.size 28 #[Ez a1,Ex a2 a3 a4,Ez a5,Ex a6 a7 a8]:=ai.au st;have E:ai w1 (w.heap.size+1) 28 #[Ez b1,Ex b2 b3 b4,Ez b5,Ex b6 b7 b8]:=ai.au st;have or:ai w1 (w.heap.size+1+1) 28 jN:=ai.au st;have I:ai w1 (w.heap.size+1+1+1) 32 #[Ey Ew 0]:=ai.au st;replace N:=E7 (N.out.af kp);replace M:=E7 (M.out.af kp);clear kp;clear st;go_wp2_with fail
 refine(xN _).mono ?_;rintro e T ⟨rfl,st⟩;have sk:=bA w1 st;replace B:=bS B sk;replace J:=J.ae sk;replace E:=E.ae sk;replace or:=or.ae sk;replace I:=I.ae sk;replace N:=E7 (N.out.ae sk);replace M:=E7 (M.out.ae sk);clear st sk;have la:=J.lt;obtain⟨b9,bf,X,bg⟩:=E.r3;have lb:=E.lt;have lr:=or.lt;have le:=I.lt;go_wp2_with fail
 refine(xC _ (M.out.af zw)).mono ?_;rintro e w3 ⟨rfl,st⟩;have sk:=bA T st;replace B:=bS B sk;replace J:=J.ae sk;replace E:=E.ae sk;replace or:=or.ae sk;replace I:=I.ae sk;replace N:=E7 (N.out.ae sk);replace M:=E7 (M.out.ae sk);clear st sk la b9 bf X bg lb lr le;go_wp2_with fail
 refine(xN _).mono ?_;rintro e w4 ⟨rfl,st⟩;have sk:=bA w3 st;replace B:=bS B sk;replace J:=J.ae sk;replace E:=E.ae sk;replace or:=or.ae sk;replace I:=I.ae sk;replace N:=E7 (N.out.ae sk);replace M:=E7 (M.out.ae sk);clear st sk;obtain⟨bi,ce,bt,bl⟩:=J.r3;have la:=J.lt;obtain⟨b9,bf,X,bg⟩:=E.r3;have lb:=E.lt;have lr:=or.lt;have le:=I.lt;go_wp2_with fail
 refine(cl _ _ _ (N.out.af zw) (M.out.af zw)).mono ?_;rintro e w5 ⟨vn,vd,rfl,Y,be,st⟩;have sk:=bA w4 st;replace B:=bS B sk;replace J:=J.ae sk;replace E:=E.ae sk;replace or:=or.ae sk;replace I:=I.ae sk;replace N:=E7 (N.out.ae sk);replace M:=E7 (M.out.ae sk);clear st sk bi ce bt bl la b9 bf X bg lb lr le;obtain⟨n1,n2,n3,n4,rfl⟩:=Y.ak;obtain⟨d1,d2,d3,d4,rfl⟩:=be.ak;have Fn:=E7 Y;clear Y;have Fd:=E7 be;clear be;go_wp2_with fail
 refine(rd _ _ _ (Fn.out.af zw) (Fd.out.af zw)).mono ?_;rintro e w6 ⟨vq,rfl,Z,st⟩;have sk:=bA w5 st;replace B:=bS B sk;replace J:=J.ae sk;replace E:=E.ae sk;replace or:=or.ae sk;replace I:=I.ae sk;replace N:=E7 (N.out.ae sk);replace M:=E7 (M.out.ae sk);replace Fn:=E7 (Fn.out.ae sk);replace Fd:=E7 (Fd.out.ae sk);clear st sk;have la:=J.lt;have lb:=E.lt;obtain⟨br,ci,cn,bh,fr,lr⟩:=or.s3;have cg:=I.q0;have fe:=I.fr;have le:=I.lt;obtain⟨q1,q2,q3,q4,q5,q6,q7,q8,rfl⟩:=Z.ak;have Fq:=E7 Z;clear Z;go_wp2_with fail
 refine leaves_cons (f:=56) (args:=#[Ek (some ⟨w.heap.size+1+1+1,0,none⟩)]) D9 (by simp[go_sem]) ?_;refine(xV _ _).mono ?_;rintro e u' cx ⟨rfl,rfl,rfl⟩;refine⟨_,by simp[results,Tryz.results52,go_sem,la,lb,br,ci,cn,bh,fr,lr,cg,fe,le]; rfl,?_⟩;exact⟨_,rfl,Fq.out.af zw,zh⟩
theorem Ch (w:Ef) (Z:FR w va r) (M:FR w vb s) (I:sz r i) (hs:sz s j) (X:i+j<=4095) (s0:s≠0) :
  Ee Ed 90 #[va,vb] w fun e w'=>∃v,e = Eh (Ev #[v,Ey Ew 0])/\FR w' v (r / s)/\zf w w':=by
 have d1:zi (r.den:Int)<=bp i:=by rw[xY]; exact I.2
 have d2:zi (s.den:Int)<=bp j:=by rw[xY]; exact hs.2
 have g1:=yB (yK I.1 d2) X;have g4:=yB (yK d1 hs.1) X;have bo:∀w' u v,FR w' u r->FR w' v s->Ee Ed 52 #[u,v,.func (.func 129) #[] #[]] w' fun e w2=>∃v,e = Eh (Ev #[v,Ey Ew 0])/\FR w2 v (r / s)/\zf w' w2:=fun w' u v h1 h2=>Cg w' h1 h2 s0 g1 g4;obtain⟨a1,a2,a3,a4,a5,a6,a7,a8,rfl⟩:=Z.ak;obtain⟨b1,b2,b3,b4,b5,b6,b7,b8,rfl⟩:=M.ak;have Y:=E7 Z;have N:=E7 M;clear Z M I hs X g1 g4 d1 d2 s0
 go_enter Tryz.func90,Tryz.ntmps90
 go_wp2_with fail
 refine(bo _ _ _ (Y.out.af zw) (N.out.af zw)).mono ?_;rintro e w1 ⟨vq,rfl,E,st⟩;have B:=bA w st;have kp:=kB w st;have oa:ai w1 w.heap.size 28 #[Ez a1,Ex a2 a3 a4,Ez a5,Ex a6 a7 a8]:=ai.au st;have ob:ai w1 (w.heap.size+1) 28 #[Ez b1,Ex b2 b3 b4,Ez b5,Ex b6 b7 b8]:=ai.au st;have or:ai w1 (w.heap.size+1+1) 28 jN:=ai.au st;replace Y:=E7 (Y.out.af kp);replace N:=E7 (N.out.af kp);clear kp;clear st;have la:=oa.lt;have lb:=ob.lt;obtain⟨T,b9,be,J,fr,lr⟩:=or.s3;obtain⟨q1,q2,q3,q4,q5,q6,q7,q8,rfl⟩:=E.ak;have Fq:=E7 E;clear E;go_wp2_with fail
 refine Eo (by simp[results,Tryz.results90,go_sem,la,lb,T,b9,be,J,fr,lr]; rfl) rfl ?_;exact⟨_,rfl,Fq.out.af zw,zh⟩
theorem GT (a1:Bool) (a2:Option Addr) (J I:Nat) (E:Bool) (M:Option Addr) (T N:Nat) {gc:Nat} {tc:Em} (w:Ef) (hc:ai w gc tc #[Ey Ew 0]) :
  Ee Ed 76 #[Ek (some ⟨gc,0,none⟩),Ej #[Ez a1,Ex a2 J I,Ez E,Ex M T N],Ey Ew 0] w fun e w'=>e = Eh (Ej #[Ez a1,Ex a2 J I,Ez E,Ex M T N])/\zf w w':=by
 have hl:=hc.lt;have h1:¬w.heap.size=gc:=D6
 have h2:¬w.heap.size+1=gc:=D6
 have h3:¬gc=w.heap.size:=D6
 have h4:¬gc=w.heap.size+1:=D6
 have Y:w.cell? ⟨gc,0,none⟩=some (Ey Ew 0):=hc.c 0 rfl;have X:=hc.fr 0;have Z:=E7 hc;clear hc
 go_enter Tryz.func76,Tryz.ntmps76
 go_wp2_with fail
 refine Eo (by simp[results,Tryz.results76,go_sem,h1,h2,h3,h4,Y,X]; rfl) rfl ?_;exact⟨rfl,Below.alloc (Below.alloc (JV (Below.refl _ _) Z.out rfl) D9 _) D9 _⟩
theorem k_ (w:Ef) (hc:ai w gc tc #[Ey Ew 0]) (I:FR w va r) :
  Ee Ed 76 #[Ek (some ⟨gc,0,none⟩),va,Ey Ew 0] w fun e w'=>∃v,e = Eh v/\FR w' v r/\zf w w':=by
 obtain⟨a1,a2,N,M,J,T,Y,X,rfl⟩:=I.ak;refine(GT a1 a2 N M J T Y X w hc).mono ?_;rintro e w' ⟨rfl,E⟩;exact⟨_,rfl,I.ae E,E⟩
theorem U1 (x:Int) {gc:Nat} {tc:Em} (w:Ef) (hc:ai w gc tc #[Ey Ew 0]) (x0 : -9223372036854775808<=x) (Z:x<=9223372036854775807) :
  Ee Ed 66 #[Ek (some ⟨gc,0,none⟩),Ey Ew x] w fun e w'=>∃v,e = Eh v/\FR w' v ((x:Rat))/\zf w w':=by
 have KP:∀w' u,zf w w'->FR w' u ((x:Rat))->Ee Ed 76 #[Ek (some ⟨gc,0,none⟩),u,Ey Ew 0] w' fun e M=>∃v,e = Eh v/\FR M v ((x:Rat))/\zf w' M:=fun w' u st h=>k_ w' (hc.ae st) h;have CL:∀w',zf w w'->Ee Ed 77 #[Ey Ew x,Ey Ew 1] w' fun e M=>∃v,e = Eh (Ev #[v,Ey Ew 0])/\FR M v ((x:Rat))/\zf w' M:=fun w' st=>by have:=QJ x 1 w' x0 Z D8 D8 D8; rw[YE]at this; exact this
 generalize (x:Rat)=r at *;clear hc x0 Z
 go_enter Tryz.func66,Tryz.ntmps66
 go_wp2_with fail
 refine(CL _ zh).mono ?_;rintro e w1 ⟨be,rfl,E,st⟩;have B:=bA w st;have or:ai w1 w.heap.size 28 jN:=ai.au st;clear st;obtain⟨br,bh,bf,bl,bi,b9,bt,bg,rfl⟩:=E.ak;have J:=E7 E;clear E;go_wp2_with fail
 refine(KP _ _ zh (J.out.af zw)).mono ?_;rintro e M ⟨vq,rfl,I,st⟩;have sk:=bA w1 st;replace B:=bS B sk;replace or:=or.ae sk;replace J:=E7 (J.out.ae sk);clear st sk;obtain⟨T,X,Y,N,fr,lr⟩:=or.s3;obtain⟨q1,q2,q3,q4,q5,q6,q7,q8,rfl⟩:=I.ak;have Fq:=E7 I;clear I;go_wp2_with fail
 refine Eo (by simp[results,Tryz.results66,go_sem,T,X,Y,N,fr,lr]; rfl) rfl ?_;exact⟨_,rfl,Fq.out.af zw,zh⟩
theorem Gk (w:Ef) (hc:ai w gc tc #[Ey Ew 0]) (ha:FR w va r) (X:FR w vb s) (hr:sz r i) (hs:sz s j) (hk:i+j<=4094) :
  Ee Ed 83 #[Ek (some ⟨gc,0,none⟩),va,vb] w fun e w'=>∃v,e = Eh v/\FR w' v (r+s)/\zf w w':=by
 have KP:∀w' u,zf w w'->FR w' u (r+s)->Ee Ed 76 #[Ek (some ⟨gc,0,none⟩),u,Ey Ew 0] w' fun e M=>∃v,e = Eh v/\FR M v (r+s)/\zf w' M:=fun w' u st h=>k_ w' (hc.ae st) h;have CL:∀w',zf w w'->Ee Ed 123 #[va,vb] w' fun e M=>∃v,e = Eh (Ev #[v,Ey Ew 0])/\FR M v (r+s)/\zf w' M:=fun w' st=>B_ w' (ha.ae st) (X.ae st) hr hs hk;obtain⟨a1,a2,a3,a4,a5,a6,a7,a8,rfl⟩:=ha.ak;obtain⟨b1,b2,b3,b4,b5,b6,b7,b8,rfl⟩:=X.ak;clear ha X hr hs hk hc;generalize r+s=t at *
 go_enter Tryz.func83,Tryz.ntmps83
 go_wp2_with fail
 refine(CL _ zh).mono ?_;rintro e N ⟨bg,rfl,E,st⟩;have B:=bA w st;have Y:ai N w.heap.size 28 #[Ez a1,Ex a2 a3 a4,Ez a5,Ex a6 a7 a8]:=ai.au st;have ob:ai N (w.heap.size+1) 28 #[Ez b1,Ex b2 b3 b4,Ez b5,Ex b6 b7 b8]:=ai.au st;have or:ai N (w.heap.size+1+1) 28 jN:=ai.au st;clear st;obtain⟨ce,bl,bh,bt,br,bf,cg,bi,rfl⟩:=E.ak;have J:=E7 E;clear E;go_wp2_with fail
 refine(KP _ _ zh (J.out.af zw)).mono ?_;rintro e M ⟨vq,rfl,I,st⟩;have sk:=bA N st;replace B:=bS B sk;replace Y:=Y.ae sk;replace ob:=ob.ae sk;replace or:=or.ae sk;replace J:=E7 (J.out.ae sk);clear st sk;have la:=Y.lt;have lb:=ob.lt;obtain⟨Z,b9,be,T,fr,lr⟩:=or.s3;obtain⟨q1,q2,q3,q4,q5,q6,q7,q8,rfl⟩:=I.ak;have Fq:=E7 I;clear I;go_wp2_with fail
 refine Eo (by simp[results,Tryz.results83,go_sem,la,lb,Z,b9,be,T,fr,lr]; rfl) rfl ?_;exact⟨_,rfl,Fq.out.af zw,zh⟩
theorem VV (w:Ef) (hc:ai w gc tc #[Ey Ew 0]) (ha:FR w va r) (X:FR w vb s) (hr:sz r i) (hs:sz s j) (hk:i+j<=4094) :
  Ee Ed 78 #[Ek (some ⟨gc,0,none⟩),va,vb] w fun e w'=>∃v,e = Eh v/\FR w' v (r-s)/\zf w w':=by
 have KP:∀w' u,zf w w'->FR w' u (r-s)->Ee Ed 76 #[Ek (some ⟨gc,0,none⟩),u,Ey Ew 0] w' fun e M=>∃v,e = Eh v/\FR M v (r-s)/\zf w' M:=fun w' u st h=>k_ w' (hc.ae st) h;have CL:∀w',zf w w'->Ee Ed 119 #[va,vb] w' fun e M=>∃v,e = Eh (Ev #[v,Ey Ew 0])/\FR M v (r-s)/\zf w' M:=fun w' st=>GS w' (ha.ae st) (X.ae st) hr hs hk;obtain⟨a1,a2,a3,a4,a5,a6,a7,a8,rfl⟩:=ha.ak;obtain⟨b1,b2,b3,b4,b5,b6,b7,b8,rfl⟩:=X.ak;clear ha X hr hs hk hc;generalize r-s=t at *
 go_enter Tryz.func78,Tryz.ntmps78
 go_wp2_with fail
 refine(CL _ zh).mono ?_;rintro e N ⟨bg,rfl,E,st⟩;have B:=bA w st;have Y:ai N w.heap.size 28 #[Ez a1,Ex a2 a3 a4,Ez a5,Ex a6 a7 a8]:=ai.au st;have ob:ai N (w.heap.size+1) 28 #[Ez b1,Ex b2 b3 b4,Ez b5,Ex b6 b7 b8]:=ai.au st;have or:ai N (w.heap.size+1+1) 28 jN:=ai.au st;clear st;obtain⟨ce,bl,bh,bt,br,bf,cg,bi,rfl⟩:=E.ak;have J:=E7 E;clear E;go_wp2_with fail
 refine(KP _ _ zh (J.out.af zw)).mono ?_;rintro e M ⟨vq,rfl,I,st⟩;have sk:=bA N st;replace B:=bS B sk;replace Y:=Y.ae sk;replace ob:=ob.ae sk;replace or:=or.ae sk;replace J:=E7 (J.out.ae sk);clear st sk;have la:=Y.lt;have lb:=ob.lt;obtain⟨Z,b9,be,T,fr,lr⟩:=or.s3;obtain⟨q1,q2,q3,q4,q5,q6,q7,q8,rfl⟩:=I.ak;have Fq:=E7 I;clear I;go_wp2_with fail
 refine Eo (by simp[results,Tryz.results78,go_sem,la,lb,Z,b9,be,T,fr,lr]; rfl) rfl ?_;exact⟨_,rfl,Fq.out.af zw,zh⟩
theorem JW (w:Ef) (hc:ai w gc tc #[Ey Ew 0]) (ha:FR w va r) (X:FR w vb s) (hr:sz r i) (hs:sz s j) (hk:i+j<=4095) :
  Ee Ed 84 #[Ek (some ⟨gc,0,none⟩),va,vb] w fun e w'=>∃v,e = Eh v/\FR w' v (r*s)/\zf w w':=by
 have KP:∀w' u,zf w w'->FR w' u (r*s)->Ee Ed 76 #[Ek (some ⟨gc,0,none⟩),u,Ey Ew 0] w' fun e M=>∃v,e = Eh v/\FR M v (r*s)/\zf w' M:=fun w' u st h=>k_ w' (hc.ae st) h;have CL:∀w',zf w w'->Ee Ed 20 #[va,vb] w' fun e M=>∃v,e = Eh (Ev #[v,Ey Ew 0])/\FR M v (r*s)/\zf w' M:=fun w' st=>Cd w' (ha.ae st) (X.ae st) hr hs hk;obtain⟨a1,a2,a3,a4,a5,a6,a7,a8,rfl⟩:=ha.ak;obtain⟨b1,b2,b3,b4,b5,b6,b7,b8,rfl⟩:=X.ak;clear ha X hr hs hk hc;generalize r*s=t at *
 go_enter Tryz.func84,Tryz.ntmps84
 go_wp2_with fail
 refine(CL _ zh).mono ?_;rintro e N ⟨bg,rfl,E,st⟩;have B:=bA w st;have Y:ai N w.heap.size 28 #[Ez a1,Ex a2 a3 a4,Ez a5,Ex a6 a7 a8]:=ai.au st;have ob:ai N (w.heap.size+1) 28 #[Ez b1,Ex b2 b3 b4,Ez b5,Ex b6 b7 b8]:=ai.au st;have or:ai N (w.heap.size+1+1) 28 jN:=ai.au st;clear st;obtain⟨ce,bl,bh,bt,br,bf,cg,bi,rfl⟩:=E.ak;have J:=E7 E;clear E;go_wp2_with fail
 refine(KP _ _ zh (J.out.af zw)).mono ?_;rintro e M ⟨vq,rfl,I,st⟩;have sk:=bA N st;replace B:=bS B sk;replace Y:=Y.ae sk;replace ob:=ob.ae sk;replace or:=or.ae sk;replace J:=E7 (J.out.ae sk);clear st sk;have la:=Y.lt;have lb:=ob.lt;obtain⟨Z,b9,be,T,fr,lr⟩:=or.s3;obtain⟨q1,q2,q3,q4,q5,q6,q7,q8,rfl⟩:=I.ak;have Fq:=E7 I;clear I;go_wp2_with fail
 refine Eo (by simp[results,Tryz.results84,go_sem,la,lb,Z,b9,be,T,fr,lr]; rfl) rfl ?_;exact⟨_,rfl,Fq.out.af zw,zh⟩
theorem xD (w:Ef) (hc:ai w gc tc #[Ey Ew 0]) (M:FR w va r) (I:FR w vb s) (N:sz r i) (T:sz s j) (Y:i+j<=4095) :
  Ee Ed 67 #[Ek (some ⟨gc,0,none⟩),va,vb] w fun e w'=>e = Eh (Ey Ew (z9 r s))/\zf w w':=by
 have KP:∀w',zf w w'->Ee Ed 76 #[Ek (some ⟨gc,0,none⟩),Ej #[Ez false,Ex none 0 0,Ez false,Ex none 0 0],Ey Ew 0] w' fun e E=>e = Eh (Ej #[Ez false,Ex none 0 0,Ez false,Ex none 0 0])/\zf w' E:=fun w' st=>GT _ _ _ _ _ _ _ _ w' (hc.ae st);have CL:∀w',zf w w'->Ee Ed 21 #[va,vb] w' fun e E=>e = Eh (Ev #[Ey Ew (z9 r s),Ey Ew 0])/\zf w' E:=fun w' st=>UX w' (M.ae st) (I.ae st) N T Y;obtain⟨a1,a2,a3,a4,a5,a6,a7,a8,rfl⟩:=M.ak;obtain⟨b1,b2,b3,b4,b5,b6,b7,b8,rfl⟩:=I.ak;generalize z9 r s=k at *;clear M I N T Y hc
 go_enter Tryz.func67,Tryz.ntmps67
 go_wp2_with fail
 refine(CL _ zh).mono ?_;rintro e J ⟨rfl,st⟩;have B:=bA w st;have Z:ai J w.heap.size 28 #[Ez a1,Ex a2 a3 a4,Ez a5,Ex a6 a7 a8]:=ai.au st;have X:ai J (w.heap.size+1) 28 #[Ez b1,Ex b2 b3 b4,Ez b5,Ex b6 b7 b8]:=ai.au st;clear st;go_wp2_with fail
 refine(KP _ zh).mono ?_;rintro e E ⟨rfl,st⟩;have sk:=bA J st;replace B:=bS B sk;replace Z:=Z.ae sk;replace X:=X.ae sk;clear st sk;go_wp2_with fail
 refine Eo (by simp[results,Tryz.results67,go_sem,]; rfl) rfl ?_;exact⟨rfl,zh⟩
end
section
open Go.RowKit
variable {g n:Nat} {LA LB:Nat->Nat} {O:Nat->Option Rat} {tg:Em} {v:Ei}
def C0 (w:Ef) (v:Ei) (n:Nat) (O:Nat->Option Rat) (LA LB:Nat->Nat):Prop:=∃b o cap,v = Ex (some ⟨b,o,none⟩) n cap/\n<=cap/\b<w.heap.size/\
 ∀t,t<n->∃a1 a2 E I J M,w.cell? ⟨b,o+t*4,none⟩=some (Ez a1)/\w.cell? ⟨b,o+t*4+1,none⟩=some (Ex a2 (LA t) E)/\w.cell? ⟨b,o+t*4+2,none⟩=some (Ez I)/\w.cell? ⟨b,o+t*4+3,none⟩=some (Ex J (LB t) M)/\FB w (Ej #[Ez a1,Ex a2 (LA t) E,Ez I,Ex J (LB t) M]) (O t)
def aZ (most:Nat) (o:Option Rat) (p q:Nat):Bool:=decide (p<=most)&&decide (q<=most)&&o.isSome
def xq (most:Nat) (O:Nat->Option Rat) (LA LB:Nat->Nat):Nat->Bool
 | 0=>true
 | t+1=>xq most O LA LB t&&aZ most (O t) (LA t) (LB t)
theorem VX {most:Nat} {i:Nat} (h:xq most O LA LB i=false):∀m,i<=m->xq most O LA LB m=false:=by
 intro m E
 induction m with
 | zero=>
      obtain rfl:i=0:=D6
      exact h
 | succ m ih=>
  rcases Er m i with g | g
  .
   obtain rfl:i=m+1:=D6
   exact h
  . unfold xq; rw[ih g]; rfl
theorem Cl {a1 J:Bool} {a2 X:Option Addr} {p q M T:Nat} {o:Option Rat} (most:Nat) (w:Ef) (N:ai w g tg #[Ey Ew most]) (Z:FB w (Ej #[Ez a1,Ex a2 p M,Ez J,Ex X q T]) o) :
  Ee Ed 82 #[Ej #[Ez a1,Ex a2 p M,Ez J,Ex X q T],Ek (some ⟨g,0,none⟩)] w fun e w'=>e = Eh (Ez (!aZ most o p q))/\zf w w':=by
 have hl:=N.lt;have cc:=N.q0;have I:∀w',av w w'->Ee Ed 58 #[Ej #[Ez a1,Ex a2 p M,Ez J,Ex X q T]] w' fun e w2=>e = Eh (Ey Ew (QQ o.isSome))/\zf w' w2:=fun w' k=>Zs w' (Z.af k);unfold aZ;obtain⟨s,Y⟩:∃s,o.isSome=s:=⟨_,rfl⟩;rw[Y]at I|-;clear N Z Y
 by_cases h1:p<=most
 .
  by_cases h2:q<=most
  .
   rw[E' h1,E' h2];have g1:¬(most:Int)<(p:Int):=D6
   have g2:¬(most:Int)<(q:Int):=D6
   clear h1 h2
   go_enter Tryz.func82,Tryz.ntmps82
   go_wp2_with fail
   refine(I _ zw).mono ?_;rintro e w1 ⟨rfl,E⟩;have B1:Below w.heap.size w w1:=yI E;clear I E
   cases s with
   | false=>
    have e8:(QQ false==0)=false:=rfl;rw[show QQ false=8 from rfl]
    go_wp2
    go_returns
    exact⟨rfl,B1⟩
   | true=>
    rw[show QQ true=0 from rfl]
    go_wp2
    go_returns
    exact⟨rfl,B1⟩
  .
   rw[E' h1,Ea h2];have g1:¬(most:Int)<(p:Int):=D6
   have g2:(most:Int)<(q:Int):=D6
   clear h1 h2 I
   go_enter Tryz.func82,Tryz.ntmps82
   go_wp2
   go_returns
   exact⟨rfl,zh⟩
 .
  rw[Ea h1];have g1:(most:Int)<(p:Int):=D6
  clear h1 I
  go_enter Tryz.func82,Tryz.ntmps82
  go_wp2
  go_returns
  exact⟨rfl,zh⟩
theorem Hw (most:Nat) (w:Ef) (h:C0 w v n O LA LB) (hb:ai w g tg #[Ey Ew most]) (hn:n<=1000) :
  Ee Ed 122 #[v,.func (.func 82) #[] #[Ek (some ⟨g,0,none⟩)]] w fun e w'=>∃i,e = Eh (Ey Ew i)/\decide (0<=i) = !xq most O LA LB n/\zf w w':=by
 obtain⟨b,of,cap,rfl,hc,I,E⟩:=h;have HC:=E7 E;have CL:∀w',zf w w'->∀a1 a2 p N M X q T o,FB w (Ej #[Ez a1,Ex a2 p N,Ez M,Ex X q T]) o->Ee Ed 82 #[Ej #[Ez a1,Ex a2 p N,Ez M,Ex X q T],Ek (some ⟨g,0,none⟩)] w' fun e w2=>e = Eh (Ez (!aZ most o p q))/\zf w' w2:=fun w' s a1 a2 p N M X q T o hf=>Cl most w' (hb.ae s) (hf.af (av.ae s));clear E hb
 go_enter Tryz.func122,Tryz.ntmps122
 go_wp2_with fail
 go_loopw [8] (fun kk wr=>∃t:Nat,t<=n/\kk = Ey Ew t/\xq most O LA LB t=true/\Below w.heap.size w wr) (fun kk _=>n-(intOf kk).toNat)
 case atStart=>exact⟨0,by omega,rfl,rfl,zh⟩
 case round=>
  obtain⟨t,ht,rfl,hw,B⟩:=hrel
  rcases Er t n with tn | tn
  .
   have be:decide ((t:Int)<(n:Int))=true:=E' D6;obtain⟨a1,a2,N,M,X,T,h0,h1,h2,h3,hf⟩:=HC.out t tn;have c0:wr.cell? ⟨b,of+t*4,none⟩=some (Ez a1):=(B.cell (p:=⟨b,_,none⟩) I).trans h0;have c1:wr.cell? ⟨b,of+t*4+1,none⟩=some (Ex a2 (LA t) N):=(B.cell (p:=⟨b,_,none⟩) I).trans h1;have c2:wr.cell? ⟨b,of+t*4+2,none⟩=some (Ez M):=(B.cell (p:=⟨b,_,none⟩) I).trans h2;have c3:wr.cell? ⟨b,of+t*4+3,none⟩=some (Ex X (LB t) T):=(B.cell (p:=⟨b,_,none⟩) I).trans h3;have ck:=fun w' (s:zf w w')=>CL w' s a1 a2 (LA t) N M X (LB t) T (O t) hf;have NO:aZ most (O t) (LA t) (LB t)=false->xq most O LA LB n=false:=fun e=>VX (i:=t+1) (by unfold xq; rw[e,Bool.and_false]) n D6;have J:aZ most (O t) (LA t) (LB t)=true->xq most O LA LB (t+1)=true:=fun e=>by unfold xq; rw[hw,e]; rfl
   obtain⟨s,hs⟩:∃s,aZ most (O t) (LA t) (LB t)=s:=⟨_,rfl⟩;rw[hs]at ck NO J;obtain⟨L1,b9⟩:∃x,LA t=x:=⟨_,rfl⟩;obtain⟨L2,Y⟩:∃x,LB t=x:=⟨_,rfl⟩;rw[b9]at c1 ck;rw[Y]at c3 ck;clear hs hf b9 Y CL h0 h1 h2 h3;go_wp2_with fail
   refine(ck _ zh).mono ?_;rintro e w1 ⟨rfl,Z⟩;have B1:Below w.heap.size w w1:=yI Z;clear ck Z B c0 c1 c2 c3
   cases s with
   | false=>
    have N0:=NO rfl;clear NO J;rw[show (!false)=true from rfl]
    go_wp2
    go_returns
    exact⟨_,rfl,by rw[N0]; simp,B1⟩
   | true=>
    have Y0:=J rfl;clear NO J;rw[show (!true)=false from rfl]
    go_wp2
    go_roundw
    case rel=>exact⟨t+1,by omega,by go_num,Y0,B1⟩
    case measure=>simp[intOf]; omega
  .
   obtain rfl:t=n:=D6
   go_wp2
   go_returns
   exact⟨_,rfl,by rw[hw]; rfl,B⟩
theorem QU (most:Nat) (w:Ef) (h:C0 w v n O LA LB) (hn:n<=1000) :
  Ee Ed 41 #[Ey Ew most,v] w fun e w'=>e = Eh (Ez (xq most O LA LB n))/\zf w w':=by
 have N:∀w' (g:Nat) (tg:Em),zf w w'->ai w' g tg #[Ey Ew most]->Ee Ed 122 #[v,.func (.func 82) #[] #[Ek (some ⟨g,0,none⟩)]] w' fun e T=>∃i,e = Eh (Ey Ew i)/\decide (0<=i) = !xq most O LA LB n/\zf w' T:=fun w' g tg s M=>by
  refine Hw most w' ?_ M hn;obtain⟨b,o,cap,e,hc,I,E⟩:=h;refine⟨b,o,cap,e,hc,Nat.lt_of_lt_of_le I s.size,fun t ht=> ?_⟩;obtain⟨a1,a2,a4,Z,a6,a8,h0,h1,h2,h3,hf⟩:=E t ht;exact⟨a1,a2,a4,Z,a6,a8,(s.cell (p:=⟨b,_,none⟩) I).trans h0,(s.cell (p:=⟨b,_,none⟩) I).trans h1,(s.cell (p:=⟨b,_,none⟩) I).trans h2,(s.cell (p:=⟨b,_,none⟩) I).trans h3,hf.af (av.ae s)⟩
 have X:∀w' (g:Nat) (tg:Em),zf w w'->ai w' g tg #[Ey Ew most]->Ee Ed 81 #[v,.func (.func 82) #[] #[Ek (some ⟨g,0,none⟩)]] w' fun e T=>e = Eh (Ez (!xq most O LA LB n))/\zf w' T:=fun w' g tg s M=>by
  have ix:=N w' g tg s M;obtain⟨b,o,cap,rfl,hc,I,E⟩:=h;clear N E M;generalize xq most O LA LB n=L at *
  go_enter Tryz.func81,Tryz.ntmps81
  go_wp2_with fail
  refine ix.mono ?_;rintro e w1 ⟨i,rfl,Y,J⟩;clear ix
  cases L with
  | true=>
   have g1:¬0<=i:=by simpa using Y
   go_wp2
   go_returns
   exact⟨rfl,J⟩
  | false=>
   have g1:0<=i:=by simpa using Y
   go_wp2
   go_returns
   exact⟨rfl,J⟩
 obtain⟨b,o,cap,rfl,hc,I,E⟩:=h;clear N E;generalize xq most O LA LB n=L at *
 go_enter Tryz.func41,Tryz.ntmps41
 go_wp2_with fail
 refine(X _ w.heap.size 3 zh (ai.new _ _ _)).mono ?_;rintro e w1 ⟨rfl,J⟩;have B1:=bA w J;clear X J
 go_wp2
 go_returns
 exact⟨by cases L<;>rfl,B1⟩
end
end Go.Proofs.YtffmbepfbienaaaGreat
/- Points and indices as arguments. -/
namespace Go.Proofs.YtffmbepfbienaaaGreat
open Go.ChangeShapes Go.WideShapes Go.ChangeAt Go.RowKit Go.Joins
section
variable {H:Type} {enc:Em×Ei->H} {W:Ef} {a9:Nat} {ah:Bool}
set_option maxRecDepth 100000 in
theorem Jk {r:Reach} {T:Nat} {v:Ei} {d:DataW H} {p:List MemPlace} (hv:Value.okWide Ed W r T 55 v) (h:DataW.Trod enc Ed W a9 (fun _=>true) ah 55 v d p):∃l,bT W v l:=by
 obtain⟨a0,J,I,rfl⟩:=okWide_slice Tryz.underlying55 hv;obtain⟨M,hf⟩:=h;replace hf:DataW.trod enc Ed W a9 (fun _=>true) ah M 55 [Ex a0 J I]=some (d,p):=hf
 rcases Deep.open_slice_pairs Tryz.underlying55 Tryz.underlying23 D7 rfl rfl D7 D7 hf with⟨e,_⟩ | ⟨a,len,cap,m,n,V0,V1,D0,D1,P0,P1,e,_,hle,_,hm,_,hx⟩
 .
  simp only[List.cons.injEq,and_true]at e;rw[e];exact⟨[],fun k=>by simp,none,0,rfl,Ep _,fun h=>absurd rfl h⟩
 .
  simp only[List.cons.injEq,and_true]at e;rw[e];rw[E9 rfl]at hm
  have X:∀i,i<len->∃z:Int×Int,(V0 i = Ey Ew z.1/\V1 i = Ey Ew z.2)/\(-9223372036854775808<=z.1/\z.1<=9223372036854775807/\-9223372036854775808<=z.2/\z.2<=9223372036854775807):=fun i hi=>by
   obtain⟨-,-,h0,h1⟩:=hx i D6;obtain⟨x,Z,_,w0⟩:=DataW.trod_int Tryz.underlying2 h0;obtain⟨y,Y,_,w1⟩:=DataW.trod_int Tryz.underlying2 h1;simp only[List.cons.injEq,and_true]at Z Y;have T:=Vp w0;have b1:=Vp w1;exact⟨(x,y),⟨Z,Y⟩,T.1,T.2,b1.1,b1.2⟩
  obtain⟨z,X⟩:=Deep.choose_lt X
  have gl:∀k,((List.range len).map z).getD k (0,0)=if k<len then z k else(0,0):=fun k=>by
   by_cases g:k<len
   . rw[E9 g]; simp[List.getD,g]
   . rw[E_ g]; simp[List.getD,g]
  refine⟨(List.range len).map z,fun k=> ?_,some a,cap,by simp,by simpa using hle,fun b9=> ?_⟩
  .
   rw[gl]
   by_cases g:k<len
   . rw[E9 g]; exact(X k g).2
   . rw[E_ g]; simp
  .
   have hp:0<len:=by
    rcases Nat.eq_zero_or_pos len with h0 | h0
    . exact absurd (by rw[h0]; rfl) b9
    . exact h0
   obtain⟨b,off,N⟩:=a
   have E:N=none:=by
    have h0:=(hx 0 D6).1;simpa[Addr.add]using World.cell?_spot h0
   subst E;have c0:=(hx 0 D6).1;refine⟨b,off,rfl,?_,fun t ht=> ?_⟩
   .
    have:W.cell? ⟨b,off+0*2,none⟩=some (V0 0):=by rw[<- Go.WideShapes.add_plain]; exact c0
    exact Vo this
   .
    rw[List.length_map,List.length_range]at ht;rw[gl,E9 ht];obtain⟨h0,h1,-,-⟩:=hx t D6;obtain⟨⟨Z,Y⟩,-⟩:=X t ht;rw[Go.WideShapes.add_plain]at h0 h1;exact⟨by rw[h0,Z],by rw[show off+t*2+1=off+(t*2+1) by omega,h1,Y]⟩
end
end Go.Proofs.YtffmbepfbienaaaGreat
