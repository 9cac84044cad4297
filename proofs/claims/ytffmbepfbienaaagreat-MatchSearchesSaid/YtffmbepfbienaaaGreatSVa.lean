import Derived.Test.YtffmbepfbienaaaGreatSRow
set_option linter.unusedVariables false
set_option linter.unusedSimpArgs false
set_option maxHeartbeats 6400000
set_option maxRecDepth 1000000
/- Quads as they come in: four indices, four fractions that are zS or not; lists of quads. -/
open Go.Value renaming slice->Ex,bool->Ez,int->Ey,agg->Ej,pointer->Ek,tuple->Ev
open Go.IntKind renaming i64->Ew
open Go.Ending renaming returned->Eh
open Go.Proofs.Tryz renaming prog->Ec
open Go renaming Calls->Ed,World->Ee,Value->Ef,TypeId->Ei,bodyPost_ret->En
open Nat renaming lt_or_ge->Ep
open Go.World renaming cell?->Er
namespace Go.Proofs.YtffmbepfbienaaaGreat
open Go.RowKit
variable {cs:Array Ef} {i n:Nat} {CS:Nat->Array Ef} {R:Nat->Nat->Option Rat} {r:Nat->Option Rat} {v:Ef} {w w':Ee}
def yJ (r:Rat):Rat:=if r<0 then -r else r
theorem ZY (r:Rat):r<0↔r.num<0:=by rw[<- Rat.not_le,<- Rat.num_nonneg]; omega
theorem Ja (r:Rat):(yJ r).num=zi r.num/\((yJ r).den:Int)=r.den:=by
 unfold yJ zi
 by_cases h:r<0
 .
  have:=(ZY r).1 h;rw[E8 h,Rat.neg_num,Rat.neg_den]; exact⟨by omega,rfl⟩
 .
  have:¬r.num<0:=fun g=>h ((ZY r).2 g);rw[E9 h]; exact⟨by omega,rfl⟩
theorem WT (x y:Int):yv (zi x) y=yv x y:=by unfold yv zi; simp[Int.gcd]
theorem YP (x:Int):zi (zi x)=zi x:=by unfold zi; omega
theorem FR.abs {a b:Bool} {s t:Ef} {r:Rat} (h:FR w (Ej #[Ez a,s,Ez b,t]) r):FR w (Ej #[Ez false,s,Ez b,t]) (yJ r):=by
 obtain⟨T,Z,e,N,J,q0,hg,E,I⟩:=h;simp only[Value.agg.injEq,Array.mk.injEq,List.cons.injEq,and_true,Value.bool.injEq]at e;obtain⟨Y,rfl,rfl,rfl⟩:=e;obtain⟨M,H⟩:=Ja r;have X:=zA r.num;unfold FR;rw[M,H];refine⟨s,t,?_,by rw[YP]; exact N,J,q0,by rw[WT]; exact hg,?_,I⟩
 . rw[E' D5]
 . unfold fits at E|-; rw[YP]; exact E
theorem sz.abs {r:Rat} {k:Nat} (h:sz r k):sz (yJ r) k:=by
 obtain⟨H,E⟩:=Ja r;unfold sz;rw[H,E,YP]; exact h
def FB (w:Ee) (v:Ef):Option Rat->Prop
 | some r=>FR w v r
 | none=>eJ w v
theorem FB.af {o:Option Rat} (h:FB w v o) (k:av w w'):FB w' v o:=by
 cases o with
 | none=>exact eJ.af h k
 | some r=>exact FR.af h k
def QX (w:Ee) (cs:Array Ef) (r:Nat->Option Rat):Prop:=cs.size=20/\cs.all (·.oneCell')=true/\zU cs=true/\
 ∀i,i<4->∃a1 a2 H a4 a5 a6 E a8,cs[4+i*4]? = some (Ez a1)/\cs[4+i*4+1]? = some (Ex a2 H a4)/\cs[4+i*4+2]? = some (Ez a5)/\cs[4+i*4+3]? = some (Ex a6 E a8)/\FB w (Ej #[Ez a1,Ex a2 H a4,Ez a5,Ex a6 E a8]) (r i)
theorem QX.af (h:QX w cs r) (X:av w w'):QX w' cs r:=by
 obtain⟨I,E,h3,h4⟩:=h;refine⟨I,E,h3,fun i H=> ?_⟩;obtain⟨a1,a2,Z,a4,a5,a6,Y,a8,T,N,J,M,f⟩:=h4 i H;exact⟨a1,a2,Z,a4,a5,a6,Y,a8,T,N,J,M,f.af X⟩
theorem QX.ae (h:QX w cs r) (s:zf w w'):QX w' cs r:=h.af (av.ae s)
def UT (w:Ee) (b o n:Nat) (CS:Nat->Array Ef):Prop:=∀t,t<n->∀j,j<20->w.cell? ⟨b,o+t*20+j,none⟩=(CS t)[j]?
def dW (w:Ee) (v:Ef) (n:Nat) (CS:Nat->Array Ef) (R:Nat->Nat->Option Rat):Prop:=
 (∀t,t<n->QX w (CS t) (R t))/\∃ao cap,v = Ex ao n cap/\n<=cap/\(0<n->∃b o,ao=some ⟨b,o,none⟩/\b<w.heap.size/\UT w b o n CS)
theorem dW.ae (h:dW w v n CS R) (s:zf w w'):dW w' v n CS R:=by
 obtain⟨J,ao,cap,e,hc,I⟩:=h;refine⟨fun t ht=>(J t ht).ae s,ao,cap,e,hc,fun M=> ?_⟩;obtain⟨b,o,H,E,T⟩:=I M;exact⟨b,o,H,Nat.lt_of_lt_of_le E s.size,fun t ht j N=>(s.cell (p:=⟨b,_,none⟩) E).trans (T t ht j N)⟩
theorem dW.ak (h:dW w v n CS R):∃ao cap,v = Ex ao n cap:=by obtain⟨_,ao,cap,e,_⟩:=h; exact⟨ao,cap,e⟩
theorem dW.at {ao:Option Addr} {cap:Nat} (h:dW w (Ex ao n cap) n CS R) {t:Nat} (ht:t<n) :
  ∃b o,ao=some ⟨b,o,none⟩/\b<w.heap.size/\∀j,j<20->w.cell? ⟨b,o+t*20+j,none⟩=(CS t)[j]? :=by
 obtain⟨_,J,H,e,_,I⟩:=h
 injection e with T E X
 subst T;obtain⟨b,o,E,M,N⟩:=I D5;exact⟨b,o,E,M,N t ht⟩
section
variable {P:Program}
theorem YQ (w:Ee) (g off:Nat) (ty:Ei) (cs:Array Ef) (d:TypeDesc) (hg:∀j,j<cs.size->w.cell? ⟨g,off+j,none⟩=cs[j]?)
  (X:P.underlying ty=some d) (hd:(match d with | .struct _ | .array _ _=>true | _=>false)=true) (J:(P.info? ty).map (·.size)=some cs.size) :
  (loadVar ty ⟨g,off,none⟩).run P w = .ok (Ej cs) w:=by
 have M:(loadCells ⟨g,off,none⟩ cs.toList.length).run P w = .ok cs.toList.toArray w:=
  run_loadCells_list (P:=P) w ⟨g,off,none⟩ cs.toList (fun j v hv=>by
   have I:(⟨g,off,none⟩:Addr).add j=⟨g,off+j,none⟩:=by unfold Addr.add; split<;>simp_all
   have E:cs[j]? = some v:=by simpa using hv
   have N:j<cs.size:=by
    rcases Ep j cs.size with h | h
    . exact h
    . rw[Array.getElem?_eq_none h]at E; cases E
   rw[I,hg j N]
   exact E)
 cases hq:P.info? ty with
 | none=>simp[hq]at J
 | some i=>
  have T:i.size=cs.size:=by simpa[hq]using J
  have H:(isAgg ty).run P w = .ok true w:=by
   unfold isAgg;rw[Sem.run_bind,run_underlying X w]
   cases d<;>simp_all
  simp only[Array.length_toList,Array.toArray_toList]at M;simp[loadVar,Sem.run_bind,H,sizeOf,typeInfo,hq,T,M]
theorem j7 {o:Oper} {a:Act} {w:Ee} {K:Act->Ee->Prop} {Q:Exit->Act->Ee->Prop} (ty:Ei) (x:Operand) (E:o.op = .load ty x)
  (g off:Nat) (J:a.eval x = Ek (some ⟨g,off,none⟩)) (cs:Array Ef) (d:TypeDesc) (hg:∀j,j<cs.size->w.cell? ⟨g,off+j,none⟩=cs[j]?)
  (H:P.underlying ty=some d) (hd:(match d with | .struct _ | .array _ _=>true | _=>false)=true) (I:(P.info? ty).map (·.size)=some cs.size)
  (h:K (a.put o.dst (Ej cs)) w):o.wp P a w K Q:=by
 unfold Oper.wp execOp;simp only[E,J,Instr.loadAt,Instr.sureAddr,Sem.run_bind,Sem.run_pure,Result.andThen_ok,YQ w g off ty cs d hg H hd I];exact h
theorem ZL {ops:Array Oper} {rest:List Oper} {o:Oper} {a:Act} {w:Ee} {Q:Exit->Act->Ee->Prop} (hw:Region.wanted o (yielded ops a.tmps)=true) (ty:Ei) (x:Operand) (E:o.op = .load ty x) (g:Nat) (J:a.eval x = Ek (some ⟨g,0,none⟩)) (t:Ei) (cs:Array Ef) (d:TypeDesc) (hg:ai w g t cs)
  (H:P.underlying ty=some d) (hd:(match d with | .struct _ | .array _ _=>true | _=>false)=true) (I:(P.info? ty).map (·.size)=some cs.size)
  (h:wpList P ops Q rest (a.put o.dst (Ej cs)) w):wpList P ops Q (o::rest) a w:=by
 unfold wpList;rw[E8 hw];exact .inl (wp_load_row ty x E g J t cs (0,0) d hg H hd I h)
theorem j8 {ops:Array Oper} {rest:List Oper} {o:Oper} {a:Act} {w:Ee} {Q:Exit->Act->Ee->Prop} (E:o.guard=none) (ty:Ei) (x:Operand) (I:o.op = .load ty x) (g off:Nat) (M:a.eval x = Ek (some ⟨g,off,none⟩)) (cs:Array Ef) (d:TypeDesc)
  (hg:∀j,j<cs.size->w.cell? ⟨g,off+j,none⟩=cs[j]?)
  (N:P.underlying ty=some d) (hd:(match d with | .struct _ | .array _ _=>true | _=>false)=true) (H:(P.info? ty).map (·.size)=some cs.size)
  (h:wpList P ops Q rest (a.put o.dst (Ej cs)) w):wpList P ops Q (o::rest) a w:=
 wpList_plain E fun _ J=>j7 ty x I g off M cs d hg N hd H (J _ _ h)
end
def xi (a b:Nat->Rat) (off:Rat):Nat->Bool
 | 0=>true
 | i+1=>xi a b off i&&decide (yJ (a i-b i)<=off)
theorem J' {a b:Nat->Rat} {off:Rat} (h:xi a b off i=false):∀m,i<=m->xi a b off m=false:=by
 intro m E
 induction m with
 | zero=>
      obtain rfl:i=0:=D5
      exact h
 | succ m ih=>
  rcases Ep m i with g | g
  .
   obtain rfl:i=m+1:=D5
   exact h
  . unfold xi; rw[ih g]; rfl
def z' (r:Nat->Option Rat):Nat->Bool
 | 0=>true
 | i+1=>z' r i&&(r i).isSome
theorem YR : ∀{n:Nat},z' r n=true->∀i,i<n->∃q,r i=some q
 | n+1,h,i,hi=>by
  unfold z' at h;simp only[Bool.and_eq_true]at h
  rcases Ep i n with g | g
  . exact YR h.1 i g
  .
   obtain rfl:i=n:=D5
   exact Option.isSome_iff_exists.1 h.2
theorem ZZ (h:z' r i=false):∀m,i<=m->z' r m=false:=by
 intro m E
 induction m with
 | zero=>
      obtain rfl:i=0:=D5
      exact h
 | succ m ih=>
  rcases Ep m i with g | g
  .
   obtain rfl:i=m+1:=D5
   exact h
  . unfold z'; rw[ih g]; rfl
def xh (R:Nat->Nat->Option Rat):Nat->Bool
 | 0=>true
 | t+1=>xh R t&&z' (R t) 4
theorem YS : ∀{n:Nat},xh R n=true->∀i,i<n->z' (R i) 4=true
 | n+1,h,i,hi=>by
  unfold xh at h;simp only[Bool.and_eq_true]at h
  rcases Ep i n with g | g
  . exact YS h.1 i g
  .
   obtain rfl:i=n:=D5
   exact h.2
theorem Jb (h:xh R i=false):∀m,i<=m->xh R m=false:=by
 intro m E
 induction m with
 | zero=>
      obtain rfl:i=0:=D5
      exact h
 | succ m ih=>
  rcases Ep m i with g | g
  .
   obtain rfl:i=m+1:=D5
   exact h
  . unfold xh; rw[ih g]; rfl
def rq (r:Nat->Option Rat) (i:Nat):Rat:=(r i).getD 0
def jA (R:Nat->Nat->Option Rat) (q:Nat->Option Rat) (off:Rat):Nat->List Int
 | 0=> []
 | t+1=>if xi (rq (R t)) (rq q) off 4 then jA R q off t ++ [(t:Int)]else jA R q off t
theorem ZM (R:Nat->Nat->Option Rat) (q:Nat->Option Rat) (off:Rat):∀n,(jA R q off n).length<=n
 | 0=>Nat.le_refl _
 | n+1=>by have:=ZM R q off n; unfold jA; split<;>simp<;>omega
end Go.Proofs.YtffmbepfbienaaaGreat
/- Similarities, yY and odds (plain). -/
namespace Go.Proofs.YtffmbepfbienaaaGreat
theorem UU (x:Int):(x:Rat) / ((1:Int):Rat)=(x:Rat):=by
 have E:((1:Int):Rat)≠0:=by decide
 exact qF E (by rw[Rat.intCast_one,Rat.mul_one])
def vO (t:Nat->Rat) (p:Int×Int):Rat:=t 0*(p.1:Rat)-t 1*(p.2:Rat)+t 2
def vQ (t:Nat->Rat) (p:Int×Int):Rat:=t 1*(p.1:Rat)+t 0*(p.2:Rat)+t 3
def k_ (a b p q:Int×Int):Rat:=(j5 (b.1-a.1) (b.2-a.2) (q.1-p.1) (q.2-p.2):Rat) / (kh (b.1-a.1) (b.2-a.2):Rat)
def ve (a b p q:Int×Int):Rat:=(kl (b.1-a.1) (b.2-a.2) (q.1-p.1) (q.2-p.2):Rat) / (kh (b.1-a.1) (b.2-a.2):Rat)
def jI (a b p q:Int×Int) (i:Nat):Rat:=match i with
 | 0=>k_ a b p q
 | 1=>ve a b p q
 | 2=>(p.1:Rat)-(k_ a b p q*(a.1:Rat)-ve a b p q*(a.2:Rat)+0)
 | _=>(p.2:Rat)-(ve a b p q*(a.1:Rat)+k_ a b p q*(a.2:Rat)+0)
theorem Hd (a b p q:Int×Int):(p.1:Rat)-k_ a b p q*(a.1:Rat)+ve a b p q*(a.2:Rat)=jI a b p q 2:=by
 show _=(p.1:Rat)-(k_ a b p q*(a.1:Rat)-ve a b p q*(a.2:Rat)+0)
 grind
theorem He (a b p q:Int×Int):(p.2:Rat)-ve a b p q*(a.1:Rat)-k_ a b p q*(a.2:Rat)=jI a b p q 3:=by
 show _=(p.2:Rat)-(ve a b p q*(a.1:Rat)+k_ a b p q*(a.2:Rat)+0)
 grind
def yT (x y:Rat) (q:Int×Int):Rat:=if yJ (x-(q.1:Rat))<yJ (y-(q.2:Rat))then yJ (y-(q.2:Rat))else yJ (x-(q.1:Rat))
def qV (x y E:Rat) (m:PL):Nat->Int×Rat
 | 0=>(-1,E)
 | k+1=>if yT x y (pt m k)<(qV x y E m k).2\/(yT x y (pt m k)=(qV x y E m k).2/\(qV x y E m k).1<0)then((k:Int),yT x y (pt m k))else qV x y E m k
def yY (t:Nat->Rat) (E:Rat) (l m:PL):Nat->List Int
 | 0=> []
 | i+1=>yY t E l m i ++ [(qV (vO t (pt l i)) (vQ t (pt l i)) E m m.length).1]
theorem jm (t:Nat->Rat) (E:Rat) (l m:PL):∀n,(yY t E l m n).length=n
 | 0=>rfl
 | n+1=>by unfold yY; rw[List.length_append,jm t E l m n]; rfl
/- odds -/
def zC (R A n:Int):Rat:=((n*4*R*R:Int):Rat) / (A:Rat)
def yV (s h:Rat):Rat:=(1-s+s*h) / h
def qr (w s:Rat) (l:List Int) (out:Nat->Bool):Nat->Rat
 | 0=>1
 | i+1=>if out i then qr w s l out i else qr w s l out i*(if 0<=l.getD i 0 then w else s)
def C9 (_:Nat):Bool:=false
def BM (w s:Rat):List Int->Rat
 | []=>1
 | k::l=>(if 0<=k then w else s)*BM w s l
section
open Go.RowKit
variable {CA CB cs:Array Ef} {i:Nat} {a b ra rb:Nat->Rat} {off:Rat} {vf:Ef} {w:Ee}
def QV (w:Ee) (cs:Array Ef) (r:Nat->Rat):Prop:=cs.size=20/\cs.all (·.oneCell')=true/\zU cs=true/\
 ∀i,i<4->∃a1 a2 H a4 a5 a6 E a8,cs[4+i*4]? = some (Ez a1)/\cs[4+i*4+1]? = some (Ex a2 H a4)/\cs[4+i*4+2]? = some (Ez a5)/\cs[4+i*4+3]? = some (Ex a6 E a8)/\FR w (Ej #[Ez a1,Ex a2 H a4,Ez a5,Ex a6 E a8]) (r i)
theorem QV.af {w':Ee} {r:Nat->Rat} (h:QV w cs r) (X:av w w'):QV w' cs r:=by
 obtain⟨I,E,h3,h4⟩:=h;refine⟨I,E,h3,fun i H=> ?_⟩;obtain⟨a1,a2,Z,a4,a5,a6,Y,a8,T,N,J,M,f⟩:=h4 i H;exact⟨a1,a2,Z,a4,a5,a6,Y,a8,T,N,J,M,f.af X⟩
theorem QX.qv {r:Nat->Option Rat} (h:QX w cs r) (hw:z' r 4=true):QV w cs (rq r):=by
 obtain⟨J,I,h3,h4⟩:=h;refine⟨J,I,h3,fun i E=> ?_⟩;obtain⟨a1,a2,Z,a4,a5,a6,Y,a8,X,T,M,N,f⟩:=h4 i E;obtain⟨q,H⟩:=YR hw i E;refine⟨a1,a2,Z,a4,a5,a6,Y,a8,X,T,M,N,?_⟩;unfold rq;rw[H]at f|-;exact f
theorem K9 (E:i<4) (h:¬yJ (a i-b i)<=off):xi a b off 4=false:=
 J' (i:=i+1) (by unfold xi; rw[E' h,Bool.and_false]) 4 D5
theorem Jc (E:xi a b off i=true) (h:yJ (a i-b i)<=off):xi a b off (i+1)=true:=by
 unfold xi; rw[E,E_ h]; rfl
theorem BR (w:Ee) (ha:QV w CA ra) (hb:QV w CB rb) (X:FR w vf off) (sa:∀i,i<4->sz (ra i) 500) (sb:∀i,i<4->sz (rb i) 500) (sf:sz off 500) :
  Ed Ec 147 #[Ej CA,Ej CB,vf] w fun e w'=>e = Eh (Ev #[Ez (xi ra rb off 4),Ey Ew 0])/\zf w w':=by
 have HA:=E6 ha.2.2.2;have HB:=E6 hb.2.2.2;obtain⟨t1,t2,t3,t4,t5,t6,t7,t8,rfl⟩:=X.ak;have HF:=E6 X;clear ha hb X
 go_enter Tryz.func147,Tryz.ntmps147
 go_wp2_with fail
 go_loopw [12] (fun sl0 wr=>∃i:Nat,i<=4/\sl0 = Ey Ew i/\xi ra rb off i=true/\ai wr w.heap.size 83 CA/\ai wr (w.heap.size+1) 83 CB/\ai wr (w.heap.size+1+1) 28 #[Ez t1,Ex t2 t3 t4,Ez t5,Ex t6 t7 t8]/\Below w.heap.size w wr/\av w wr) (fun sl0 _=>4-(intOf sl0).toNat)
 case atStart=>exact⟨0,by omega,rfl,rfl,zw,zw,zw,zh,zj⟩
 case round=>
  obtain⟨i,hi,rfl,hn,oa,ob,oc,B,kk⟩:=hrel
  rcases Ep i 4 with i4 | i4
  .
   have d9:decide ((i:Int)<4)=true:=E_ D5;obtain⟨a1,a2,a3,a4,a5,a6,a7,a8,cx,be,ce,cn,fa⟩:=HA.out i i4;obtain⟨b1,b2,b3,b4,b5,b6,b7,b8,bh,aY,ci,co,fb⟩:=HB.out i i4;have Y:=sa i i4;have a9:=sb i i4;have SB:∀w',av w w'->Ed Ec 119 #[Ej #[Ez a1,Ex a2 a3 a4,Ez a5,Ex a6 a7 a8],Ej #[Ez b1,Ex b2 b3 b4,Ez b5,Ex b6 b7 b8]] w' fun e N=>∃v,e = Eh (Ev #[v,Ey Ew 0])/\FR N v (ra i-rb i)/\zf w' N:=fun w' k=>GA w' (fa.af k) (fb.af k) Y a9 D5;have NO:=fun h=>K9 (a:=ra) (b:=rb) (off:=off) i4 h;have T:=fun h=>Jc (a:=ra) (b:=rb) (off:=off) hn h;have CM:∀w' v,av w w'->FR w' v (yJ (ra i-rb i))->Ed Ec 21 #[v,Ej #[Ez t1,Ex t2 t3 t4,Ez t5,Ex t6 t7 t8]] w' fun e N=>e = Eh (Ev #[Ey Ew (z8 (yJ (ra i-rb i)) off),Ey Ew 0])/\zf w' N:=fun w' v k h=>GB w' h (HF.out.af k) (Y.sub a9).abs sf D5;have Z:¬0<z8 (yJ (ra i-rb i)) off↔yJ (ra i-rb i)<=off:=by rw[qL,Rat.not_lt]
   obtain⟨c,hc⟩:∃c,z8 (yJ (ra i-rb i)) off=c:=⟨_,rfl⟩;rw[hc]at CM Z;rw[<- Z]at NO T;clear hc Z hn fa fb Y a9 sa sb;generalize ra i-rb i=df at SB CM;have cU:w.heap.size+1+1<wr.heap.size:=oc.lt;have dc:=B.size
   go_upto_region 4 with fail
   refine aj.cC w wr [.o w.heap.size 83 CA,.o (w.heap.size+1) 83 CB,.o (w.heap.size+1+1) 28 #[Ez t1,Ex t2 t3 t4,Ez t5,Ex t6 t7 t8],.n 12 28 #[Ez false,Ex none 0 0,Ez false,Ex none 0 0] 13 [8] (aj.vT 0)] [8,12,13] [(8,UJ 0),(12,xI)] [(8,cZ (df) 0)] [(13,[(8,some 24),(12,some 9)]),(15,[(8,some 24),(12,some 9)])] [(12,[13]),(8,[13])] (by simp only[aP]; exact⟨zh,zj,zw,zw,zw,trivial⟩) (fun N0 bg aX Q' E hQ=> ?_);clear bg
   repeat refine aj.aD _ ?_
   apply aj.RP rfl rfl rfl 19 rfl rfl
   .
    intro D v' I hc hj X K hK;have M:ai I w.heap.size 83 CA:=hj.e.1;have c0:Er I ⟨w.heap.size,4+i*4,none⟩=_:=M.c _ cx;have c1:Er I ⟨w.heap.size,4+i*4+1,none⟩=_:=M.c _ be;have c2:Er I ⟨w.heap.size,4+i*4+2,none⟩=_:=M.c _ ce;have c3:Er I ⟨w.heap.size,4+i*4+3,none⟩=_:=M.c _ cn;go_step;exact hK.out
   . rfl
   repeat refine aj.aD _ ?_
   apply aj.RP rfl rfl rfl 23 rfl rfl
   .
    intro D v' I hc hj X K hK;have J:ai I (w.heap.size+1) 83 CB:=hj.e.2.1;have c0:Er I ⟨w.heap.size+1,4+i*4,none⟩=_:=J.c _ bh;have c1:Er I ⟨w.heap.size+1,4+i*4+1,none⟩=_:=J.c _ aY;have c2:Er I ⟨w.heap.size+1,4+i*4+2,none⟩=_:=J.c _ ci;have c3:Er I ⟨w.heap.size+1,4+i*4+3,none⟩=_:=J.c _ co;go_step;exact hK.out
   . rfl
   refine aj.sC E (fun D v' I h _=>SB I (kk.trans h.k)) ?_;rintro _ ⟨d1,d2,d3,d4,d5,d6,d7,d8,rfl⟩;refine aj.aB (b:=⟨#[_,_,_,_,_,_,_,_,_,_,_,_,_,_,_,_,_,_,_,_,_,_,_,_,_,_,_,_,_,_,_,_,_,_,_,_,_,_,_,_,_,_,_,_,_,_],_⟩) rfl ?_
   repeat refine aj.aD _ ?_
   refine aj.sA E ?_;rintro _ ⟨p9,rfl⟩;refine aj.aB (b:=⟨#[_,_,_,_,_,_,_,_,_,_,_,_,_,_,_,_,_,_,_,_,_,_,_,_,_,_,_,_,_,_,_,_,_,_,_,_,_,_,_,_,_,_,_,_,_,_],_⟩) rfl ?_;refine aj.sN E ?_;refine aj.aD 10 ?_;refine aj.sE (fun _ v' w1 B jk hl _ ah X=> ?_);simp only[xx,xA,J2]at hl ah;obtain⟨oa,ob,oc,H,-⟩:=hl;obtain⟨zd,od⟩:N0<=p9/\ai w1 p9 28 #[Ez d1,Ex d2 d3 d4,Ez d5,Ex d6 d7 d8]:=H p9 rfl;clear H;have Fd:=E6 (cZ.get (r:=df) (e:=0) (v:= Ej #[Ez d1,Ex d2 d3 d4,Ez d5,Ex d6 d7 d8]) (X (8,some 24) (.head _) rfl).2.2);replace kk:=kk.trans jk;clear X jk;refine hQ _ _ ?_;clear hQ E Q' aX;have la:=oa.lt;have lb:=ob.lt;obtain⟨bl,bi,bt,cN⟩:=oc.r3;have lc:=oc.lt;obtain⟨b9,br,cg,cy,fd,ld⟩:=od.s3;have Fe:Hid (FR _ (Ej #[Ez false,Ex d2 d3 d4,Ez d5,Ex d6 d7 d8]) (yJ df)):=E6 Fd.out.abs;go_wp2_with fail
   refine(CM _ _ (kk.trans zj) (Fe.out.af zj)).mono ?_;rintro e N ⟨rfl,st⟩;have Bn:=bA w st;have kp:=kB w1 st;replace kk:=kk.trans kp;replace oa:ai N w.heap.size 83 CA:=ai.au st;replace ob:ai N (w.heap.size+1) 83 CB:=ai.au st;replace oc:ai N (w.heap.size+1+1) 28 #[Ez t1,Ex t2 t3 t4,Ez t5,Ex t6 t7 t8]:=ai.au st;replace od:ai N (p9) 28 #[Ez false,Ex d2 d3 d4,Ez d5,Ex d6 d7 d8]:=ai.au st;clear la lb bl bi bt cN lc b9 br cg cy fd ld;replace B:=Bn;replace Fd:=E6 (Fd.out.af kp);replace Fe:=E6 (Fe.out.af kp);clear kp;clear st
   rcases Int.lt_or_le 0 c with hc | hc
   .
    have N0:=NO D5;clear NO T SB CM;go_wp2_with fail
    refine En (by simp[results,Tryz.results147,go_sem,]; rfl) rfl ?_;exact⟨by rw[N0],zh⟩
   .
    have Y0:=T D5;clear NO T SB CM
    go_wp2
    go_roundw
    case rel=>exact⟨i+1,by omega,by go_num,Y0,zw,zw,zw,zh,kk.trans zj⟩
    case measure=>simp[intOf]; omega
  .
   obtain rfl:i=4:=D5
   go_wp2_with fail
   refine En (by simp[results,Tryz.results147,go_sem,]; rfl) rfl ?_;exact⟨by rw[hn],zh⟩
theorem BS (w:Ee) (ha:QV w CA ra) (hb:QV w CB rb) (X:FR w vf off) (sa:∀i,i<4->sz (ra i) 500) (sb:∀i,i<4->sz (rb i) 500) (sf:sz off 500) :
  Ed Ec 113 #[Ej CA,Ej CB,vf] w fun e w'=>e = Eh (Ez (xi ra rb off 4))/\zf w w':=by
 have HA:=E6 ha.2.2.2;have HB:=E6 hb.2.2.2;obtain⟨t1,t2,t3,t4,t5,t6,t7,t8,rfl⟩:=X.ak;have HF:=E6 X;clear ha hb X
 go_enter Tryz.func113,Tryz.ntmps113
 go_wp2_with fail
 go_loopw [7] (fun sl0 wr=>∃i:Nat,i<=4/\sl0 = Ey Ew i/\xi ra rb off i=true/\ai wr w.heap.size 83 CA/\ai wr (w.heap.size+1) 83 CB/\ai wr (w.heap.size+1+1) 28 #[Ez t1,Ex t2 t3 t4,Ez t5,Ex t6 t7 t8]/\Below w.heap.size w wr/\av w wr) (fun sl0 _=>4-(intOf sl0).toNat)
 case atStart=>exact⟨0,by omega,rfl,rfl,zw,zw,zw,zh,zj⟩
 case round=>
  obtain⟨i,hi,rfl,hn,oa,ob,oc,B,kk⟩:=hrel
  rcases Ep i 4 with i4 | i4
  .
   have d9:decide ((i:Int)<4)=true:=E_ D5;obtain⟨a1,a2,a3,a4,a5,a6,a7,a8,cx,be,ce,cn,fa⟩:=HA.out i i4;obtain⟨b1,b2,b3,b4,b5,b6,b7,b8,bh,aY,ci,co,fb⟩:=HB.out i i4;have Y:=sa i i4;have a9:=sb i i4;have SB:∀w',av w w'->Ed Ec 105 #[Ej #[Ez a1,Ex a2 a3 a4,Ez a5,Ex a6 a7 a8],Ej #[Ez b1,Ex b2 b3 b4,Ez b5,Ex b6 b7 b8]] w' fun e N=>∃v,e = Eh (Ev #[v,Ey Ew 0])/\FR N v (ra i-rb i)/\zf w' N:=fun w' k=>Gz w' (fa.af k) (fb.af k) Y a9 D5;have NO:=fun h=>K9 (a:=ra) (b:=rb) (off:=off) i4 h;have T:=fun h=>Jc (a:=ra) (b:=rb) (off:=off) hn h;have CM:∀w' v,av w w'->FR w' v (yJ (ra i-rb i))->Ed Ec 87 #[v,Ej #[Ez t1,Ex t2 t3 t4,Ez t5,Ex t6 t7 t8]] w' fun e N=>e = Eh (Ev #[Ey Ew (z8 (yJ (ra i-rb i)) off),Ey Ew 0])/\zf w' N:=fun w' v k h=>K6 w' h (HF.out.af k) (Y.sub a9).abs sf D5;have Z:¬0<z8 (yJ (ra i-rb i)) off↔yJ (ra i-rb i)<=off:=by rw[qL,Rat.not_lt]
   obtain⟨c,hc⟩:∃c,z8 (yJ (ra i-rb i)) off=c:=⟨_,rfl⟩;rw[hc]at CM Z;rw[<- Z]at NO T;clear hc Z hn fa fb Y a9 sa sb;generalize ra i-rb i=df at SB CM;have cU:w.heap.size+1+1<wr.heap.size:=oc.lt;have dc:=B.size
   go_upto_region 4 with fail
   refine aj.cC w wr [.o w.heap.size 83 CA,.o (w.heap.size+1) 83 CB,.o (w.heap.size+1+1) 28 #[Ez t1,Ex t2 t3 t4,Ez t5,Ex t6 t7 t8],.n 12 28 #[Ez false,Ex none 0 0,Ez false,Ex none 0 0] 13 [8] (aj.vT 0)] [8,12,13] [(8,UJ 0),(12,xI)] [(8,cZ (df) 0)] [(13,[(8,some 25),(12,some 8)]),(15,[(8,some 25),(12,some 8)])] [(12,[13]),(8,[13])] (by simp only[aP]; exact⟨zh,zj,zw,zw,zw,trivial⟩) (fun N0 bg aX Q' E hQ=> ?_);clear bg
   repeat refine aj.aD _ ?_
   apply aj.RP rfl rfl rfl 20 rfl rfl
   .
    intro D v' I hc hj X K hK;have M:ai I w.heap.size 83 CA:=hj.e.1;have c0:Er I ⟨w.heap.size,4+i*4,none⟩=_:=M.c _ cx;have c1:Er I ⟨w.heap.size,4+i*4+1,none⟩=_:=M.c _ be;have c2:Er I ⟨w.heap.size,4+i*4+2,none⟩=_:=M.c _ ce;have c3:Er I ⟨w.heap.size,4+i*4+3,none⟩=_:=M.c _ cn;go_step;exact hK.out
   . rfl
   repeat refine aj.aD _ ?_
   apply aj.RP rfl rfl rfl 24 rfl rfl
   .
    intro D v' I hc hj X K hK;have J:ai I (w.heap.size+1) 83 CB:=hj.e.2.1;have c0:Er I ⟨w.heap.size+1,4+i*4,none⟩=_:=J.c _ bh;have c1:Er I ⟨w.heap.size+1,4+i*4+1,none⟩=_:=J.c _ aY;have c2:Er I ⟨w.heap.size+1,4+i*4+2,none⟩=_:=J.c _ ci;have c3:Er I ⟨w.heap.size+1,4+i*4+3,none⟩=_:=J.c _ co;go_step;exact hK.out
   . rfl
   refine aj.sC E (fun D v' I h _=>SB I (kk.trans h.k)) ?_;rintro _ ⟨d1,d2,d3,d4,d5,d6,d7,d8,rfl⟩;refine aj.dg rfl ?_
   repeat refine aj.aD _ ?_
   refine aj.sA E ?_;rintro _ ⟨p8,rfl⟩;refine aj.dg rfl ?_;refine aj.sN E ?_;refine aj.aD 9 ?_;refine aj.sE (fun _ v' w1 B jk hl _ ah X=> ?_);simp only[xx,xA,J2]at hl ah;obtain⟨oa,ob,oc,H,-⟩:=hl;obtain⟨zd,od⟩:N0<=p8/\ai w1 p8 28 #[Ez d1,Ex d2 d3 d4,Ez d5,Ex d6 d7 d8]:=H p8 rfl;clear H;have Fd:=E6 (cZ.get (r:=df) (e:=0) (v:= Ej #[Ez d1,Ex d2 d3 d4,Ez d5,Ex d6 d7 d8]) (X (8,some 25) (.head _) rfl).2.2);replace kk:=kk.trans jk;clear X jk;refine hQ _ _ ?_;clear hQ E Q' aX;have la:=oa.lt;have lb:=ob.lt;obtain⟨bl,bi,bt,cN⟩:=oc.r3;have lc:=oc.lt;obtain⟨b9,br,cg,cy,fd,ld⟩:=od.s3;have Fe:Hid (FR _ (Ej #[Ez false,Ex d2 d3 d4,Ez d5,Ex d6 d7 d8]) (yJ df)):=E6 Fd.out.abs;go_wp2_with fail
   refine(CM _ _ (kk.trans zj) (Fe.out.af zj)).mono ?_;rintro e N ⟨rfl,st⟩;have Bn:=bA w st;have kp:=kB w1 st;replace kk:=kk.trans kp;replace oa:ai N w.heap.size 83 CA:=ai.au st;replace ob:ai N (w.heap.size+1) 83 CB:=ai.au st;replace oc:ai N (w.heap.size+1+1) 28 #[Ez t1,Ex t2 t3 t4,Ez t5,Ex t6 t7 t8]:=ai.au st;replace od:ai N (p8) 28 #[Ez false,Ex d2 d3 d4,Ez d5,Ex d6 d7 d8]:=ai.au st;clear la lb bl bi bt cN lc b9 br cg cy fd ld;replace B:=Bn;replace Fd:=E6 (Fd.out.af kp);replace Fe:=E6 (Fe.out.af kp);clear kp;clear st
   rcases Int.lt_or_le 0 c with hc | hc
   .
    have N0:=NO D5;clear NO T SB CM;go_wp2_with fail
    refine En (by simp[results,Tryz.results113,go_sem,]; rfl) rfl ?_;exact⟨by rw[N0],zh⟩
   .
    have Y0:=T D5;clear NO T SB CM
    go_wp2
    go_roundw
    case rel=>exact⟨i+1,by omega,by go_num,Y0,zw,zw,zw,zh,kk.trans zj⟩
    case measure=>simp[intOf]; omega
  .
   obtain rfl:i=4:=D5
   go_wp2_with fail
   refine En (by simp[results,Tryz.results113,go_sem,]; rfl) rfl ?_;exact⟨by rw[hn],zh⟩
end
section
open Go.RowKit
variable {cs:Array Ef} {B g gc i j k l:Nat} {r s:Rat} {t tc:Ei} {u va vb x y z:Ef} {a w:Ee}
theorem X7 (I:ai w g t cs) (H:cs[i]? = some u) (k:Nat):(w.setCell ⟨g,i,none⟩ u).heap[k]? = w.heap[k]? :=by
 unfold ai at I
 by_cases e:g=k
 .
  subst e
  have J:cs.setIfInBounds i u=cs:=by
   apply Array.ext_getElem?
   intro j;rw[Array.getElem?_setIfInBounds]
   split
   .
    rename_i h; subst h
    have E:i<cs.size:=by
     rcases Ep i cs.size with g | g
     . exact g
     . rw[Array.getElem?_eq_none g]at H; cases H
    rw[E8 E,H]
   . rfl
  simp[World.setCell,Array.getElem?_modify,I,J]
 . simp[World.setCell,Array.getElem?_modify,e]
theorem Ka (h:Below B a w) {g i:Nat} {t:Ei} {cs:Array Ef} {u:Ef} (H:ai w g t cs) (I:cs[i]? = some u):Below B a (w.setCell ⟨g,i,none⟩ u):=
 ⟨h.os,h.tape,h.output,by have:=h.size; simpa[World.setCell]using this,fun k E=>(X7 H I k).trans (h.block k E)⟩
theorem UV (h:Below B a w) (hg:B<=g):Below B a ((((w.setCell ⟨g,i,none⟩ x).setCell ⟨g,j,none⟩ y).setCell ⟨g,k,none⟩ z).setCell ⟨g,l,none⟩ u):=
 Below.setCell (Below.setCell (Below.setCell (Below.setCell h hg _) hg _) hg _) hg _
theorem ai.ew {b:Nat} (h:ai w g t cs) (E:g≠b):ai ((((w.setCell ⟨b,i,none⟩ x).setCell ⟨b,j,none⟩ y).setCell ⟨b,k,none⟩ z).setCell ⟨b,l,none⟩ u) g t cs:=
 (((h.aH E).aH E).aH E).aH E
theorem X8 {r:Nat} (E:ai w r t cs) (H:zU cs=true):av w ((((w.setCell ⟨r,i,none⟩ x).setCell ⟨r,j,none⟩ y).setCell ⟨r,k,none⟩ z).setCell ⟨r,l,none⟩ u):=
 av.only E H ((bK.refl _ _).set.set.set.set)
theorem Hf {g:Bool} {a:Option Addr} {n c:Nat} {x:Int} (h:az w (Ej #[Ez g,Ex a n c]) x) (J:x≠0):n≠0:=by
 obtain⟨aa,ca,e,M⟩:=h.parts;simp only[Value.agg.injEq,Array.mk.injEq,List.cons.injEq,and_true,Value.slice.injEq]at e;obtain⟨-,-,e,-⟩:=e;intro h0;have H:=zY (zA x);have E:zp (zi x) = []:=List.eq_nil_of_length_eq_zero D5;have I:=H.1 E;unfold zi at I;omega
theorem BN (w:Ee) (ha:FR w va r) (hb:FR w vb s) (s0:s≠0) (g1:fits (r.num*s.den)) (g4:fits (r.den*s.num)) :
  Ed Ec 129 #[va,vb] w fun e w'=>∃u v,e = Eh (Ev #[u,v])/\az w' u (r.num*s.den)/\az w' v (r.den*s.num)/\zf w w':=by
 have fa:=ha.fit;have fb:=hb.fit
 have ze:∀w' u,az w' u s.num->Ed Ec 97 #[u] w' fun e I=>e = Eh (Ez false)/\zf w' I:=fun w' u h1=>by
  have:=UC w' h1;rw[E' (JZ s0)]at this;exact this
 have m2:∀w' u v,az w' u r.den->az w' v s.num->Ed Ec 55 #[u,v] w' fun e I=>∃v,e = Eh (Ev #[v,Ey Ew 0])/\az I v (r.den*s.num)/\zf w' I:=fun w' u v h1 h2=>by
  have:=VU w' h1 h2 fa.2 fb.1;rw[zM g4,zH g4]at this;exact this
 have cn:∀w' u v,FR w' u r->FR w' v s->Ed Ec 60 #[u,v] w' fun e I=>∃v,e = Eh v/\az I v (r.num*s.den)/\zf w' I:=fun w' u v h1 h2=>vL w' h1 h2 g1;have N:=ha;have T:=hb;obtain⟨a2,a3,a4,a6,a7,a8,rfl,na,da,-⟩:=ha.bW;obtain⟨b2,b3,b4,b6,b7,b8,rfl,X,db,-⟩:=hb.bW;obtain⟨ga,aX⟩:∃g,decide (r<0)=g:=⟨_,rfl⟩;obtain⟨gb,ah⟩:∃g,decide (s<0)=g:=⟨_,rfl⟩;rw[aX]at na N|-;rw[ah]at X T|-;have Fa:=E6 N;have Fb:=E6 T;have J:=E6 da;have H:=E6 X;clear aX ah na da X db ha hb N T fa fb;clear g1 g4 s0
 go_enter Tryz.func129,Tryz.ntmps129
 go_wp2_with fail
 refine(ze _ _ (H.out.af zj)).mono ?_;rintro e Y ⟨rfl,st⟩;have B:=bA w st;have kp:=kB w st;have oa:ai Y w.heap.size 28 #[Ez ga,Ex a2 a3 a4,Ez false,Ex a6 a7 a8]:=ai.au st;have ob:ai Y (w.heap.size+1) 28 #[Ez gb,Ex b2 b3 b4,Ez false,Ex b6 b7 b8]:=ai.au st;have Z:ai Y (w.heap.size+1+1) 26 #[Ez false,Ex none 0 0]:=ai.au st;have M:ai Y (w.heap.size+1+1+1) 26 #[Ez false,Ex none 0 0]:=ai.au st;replace Fa:=E6 (Fa.out.af kp);replace Fb:=E6 (Fb.out.af kp);replace J:=E6 (J.out.af kp);replace H:=E6 (H.out.af kp);clear kp;clear st;obtain⟨aY,ci,cg,bh⟩:=oa.r3;have la:=oa.lt;obtain⟨co,ce,b9,bi⟩:=ob.r3;have lb:=ob.lt;have lp:=Z.lt;have lq:=M.lt;clear ze;have cx:w.heap.size+1+1+1<Y.heap.size:=M.lt;have cU:=B.size
 go_upto_region 3 with fail
 refine aj.cC w Y [.o w.heap.size 28 #[Ez ga,Ex a2 a3 a4,Ez false,Ex a6 a7 a8],.o (w.heap.size+1) 28 #[Ez gb,Ex b2 b3 b4,Ez false,Ex b6 b7 b8],.s (w.heap.size+1+1) 26 #[Ez false,Ex none 0 0] 11 [2] aj.v1,.s (w.heap.size+1+1+1) 26 #[Ez false,Ex none 0 0] 12 [10] aj.v1] [2,7,10,11,12] [(2,Zj),(7,Zk 0),(10,Zj)] [(2,dH (r.num*s.den)),(7,cz (r.den*s.num) 0),(10,dH (r.den*s.num))] [(10,[(7,some 17)]),(11,[(2,some 12)]),(12,[(10,some 20)]),(13,[(2,some 12),(7,some 17),(10,some 20)])] [(2,[11]),(10,[12])] (by simp only[aP]; exact⟨zh,zj,zw,zw,zw,zw,trivial⟩) (fun N0 bt a9 Q' E hQ=> ?_);clear aY ci cg bh la co ce b9 bi lb lp lq;clear bt;refine aj.aO 10 (fun _ _ _ h=>h.e.1.r3) ?_;refine aj.aO 11 (fun _ _ _ h=>h.e.2.1.r3) ?_;refine aj.sC E (fun D v' W' h _=>cn W' _ _ (Fa.out.af h.k) (Fb.out.af h.k)) ?_;rintro _ ⟨N1,N2,N3,N4,rfl⟩;refine aj.aB (b:=⟨#[_,_,_,_,_,_,_,_,_,_,_,_,_,_,_,_,_,_,_,_,_],_⟩) rfl ?_;refine aj.aD 13 ?_;refine aj.aO 14 (fun _ _ _ h=>E7 h.e.1.q2 h.e.1.q3) ?_;refine aj.aD 15 ?_;refine aj.aO 16 (fun _ _ _ h=>h.e.2.1.r1) ?_;refine aj.sC E (fun D v' W' h _=>m2 W' _ _ (J.out.af h.k) (H.out.af h.k)) ?_;rintro _ ⟨cy,dc,cN,d9,rfl⟩;refine aj.aB (b:=⟨#[_,_,_,_,_,_,_,_,_,_,_,_,_,_,_,_,_,_,_,_,_],_⟩) rfl ?_
 repeat refine aj.aD _ ?_
 refine aj.sC E (fun D v' W' _ hf=>kJ W' (hf (7,some 17) (.head _) rfl).2.2.get) ?_;rintro _ ⟨D1,D2,D3,D4,rfl⟩;refine aj.aB (b:=⟨#[_,_,_,_,_,_,_,_,_,_,_,_,_,_,_,_,_,_,_,_,_],_⟩) rfl ?_;refine aj.sS E ?_;refine aj.sS E ?_;refine aj.sE (fun _ v' I B jk hl _ _ hf=> ?_);simp only[xx,xA]at hl;obtain⟨oa,ob,Z,M,-⟩:=hl;have Z:ai I (w.heap.size+1+1) 26 #[Ez N1,Ex N2 N3 N4]:=Z;have M:ai I (w.heap.size+1+1+1) 26 #[Ez D1,Ex D2 D3 D4]:=M;have FN:Hid (az I (Ej #[Ez N1,Ex N2 N3 N4]) (r.num*s.den)):=(hf (2,some 12) (.head _) rfl).2.2;have FD:Hid (az I (Ej #[Ez D1,Ex D2 D3 D4]) (r.den*s.num)):=(hf (10,some 20) (.tail _ (.tail _ (.head _))) rfl).2.2;replace Fa:=E6 (Fa.out.af jk);replace Fb:=E6 (Fb.out.af jk);replace J:=E6 (J.out.af jk);replace H:=E6 (H.out.af jk);clear hf jk;refine hQ _ _ ?_;clear hQ E Q' a9;have la:=oa.lt;have lb:=ob.lt;obtain⟨be,bl⟩:=Z.r1;have lp:=Z.lt;obtain⟨bg,br⟩:=M.r1;have lq:=M.lt;go_wp2_with fail
 refine En (by simp[results,Tryz.results129,go_sem,la,lb,be,bl,lp,bg,br,lq]; rfl) rfl ?_;exact⟨_,_,rfl,FN.out.af zj,FD.out.af zj,zh⟩
theorem BO (w:Ee) (ha:FR w va r) (hb:FR w vb s) (s0:s≠0) (g1:fits (r.num*s.den)) (g4:fits (r.den*s.num)) :
  Ed Ec 52 #[va,vb,.func (.func 129) #[] #[]] w fun e w'=>∃v,e = Eh (Ev #[v,Ey Ew 0])/\FR w' v (r / s)/\zf w w':=by
 have cl:∀w' u v,FR w' u r->FR w' v s->Ed Ec 129 #[u,v] w' fun e N=>∃u v,e = Eh (Ev #[u,v])/\az N u (r.num*s.den)/\az N v (r.den*s.num)/\zf w' N:=fun w' u v h1 h2=>BN w' h1 h2 s0 g1 g4
 have rd:∀w' u v,az w' u (r.num*s.den)->az w' v (r.den*s.num)->Ed Ec 92 #[u,v] w' fun e N=>∃v,e = Eh v/\FR N v (r / s)/\zf w' N:=fun w' u v h1 h2=>by
  have:=Zq w' h1 h2 g1 g4 (Zi r s0);rw[YH r s0]at this;exact this
 obtain⟨a1,a2,a3,a4,a5,a6,a7,a8,rfl⟩:=ha.ak;obtain⟨b1,b2,b3,b4,b5,b6,b7,b8,rfl⟩:=hb.ak;have I:=E6 ha;have J:=E6 hb;clear ha hb g1 g4 s0
 go_enter_defers Tryz.func52,Tryz.ntmps52
 go_wp2_with fail
 refine(xK _ (I.out.af zj)).mono ?_;rintro e w1 ⟨rfl,st⟩;have B:=bA w st;have kp:=kB w st;have M:ai w1 w.heap.size 28 #[Ez a1,Ex a2 a3 a4,Ez a5,Ex a6 a7 a8]:=ai.au st;have E:ai w1 (w.heap.size+1) 28 #[Ez b1,Ex b2 b3 b4,Ez b5,Ex b6 b7 b8]:=ai.au st;have or:ai w1 (w.heap.size+1+1) 28 jp:=ai.au st;have H:ai w1 (w.heap.size+1+1+1) 32 #[Ey Ew 0]:=ai.au st;replace I:=E6 (I.out.af kp);replace J:=E6 (J.out.af kp);clear kp;clear st;go_wp2_with fail
 refine(xX _).mono ?_;rintro e N ⟨rfl,st⟩;have sk:=bA w1 st;replace B:=bS B sk;replace M:=M.ae sk;replace E:=E.ae sk;replace or:=or.ae sk;replace H:=H.ae sk;replace I:=E6 (I.out.ae sk);replace J:=E6 (J.out.ae sk);clear st sk;have la:=M.lt;obtain⟨ah,Z,T,X⟩:=E.r3;have lb:=E.lt;have lr:=or.lt;have le:=H.lt;go_wp2_with fail
 refine(xK _ (J.out.af zj)).mono ?_;rintro e w3 ⟨rfl,st⟩;have sk:=bA N st;replace B:=bS B sk;replace M:=M.ae sk;replace E:=E.ae sk;replace or:=or.ae sk;replace H:=H.ae sk;replace I:=E6 (I.out.ae sk);replace J:=E6 (J.out.ae sk);clear st sk la ah Z T X lb lr le;go_wp2_with fail
 refine(xX _).mono ?_;rintro e w4 ⟨rfl,st⟩;have sk:=bA w3 st;replace B:=bS B sk;replace M:=M.ae sk;replace E:=E.ae sk;replace or:=or.ae sk;replace H:=H.ae sk;replace I:=E6 (I.out.ae sk);replace J:=E6 (J.out.ae sk);clear st sk;obtain⟨bt,bi,bh,aY⟩:=M.r3;have la:=M.lt;obtain⟨ah,Z,T,X⟩:=E.r3;have lb:=E.lt;have lr:=or.lt;have le:=H.lt;go_wp2_with fail
 refine(cl _ _ _ (I.out.af zj) (J.out.af zj)).mono ?_;rintro e w5 ⟨vn,vd,rfl,aX,Y,st⟩;have sk:=bA w4 st;replace B:=bS B sk;replace M:=M.ae sk;replace E:=E.ae sk;replace or:=or.ae sk;replace H:=H.ae sk;replace I:=E6 (I.out.ae sk);replace J:=E6 (J.out.ae sk);clear st sk bt bi bh aY la ah Z T X lb lr le;obtain⟨n1,n2,n3,n4,rfl⟩:=aX.ak;obtain⟨d1,d2,d3,d4,rfl⟩:=Y.ak;have Fn:=E6 aX;clear aX;have Fd:=E6 Y;clear Y;go_wp2_with fail
 refine(rd _ _ _ (Fn.out.af zj) (Fd.out.af zj)).mono ?_;rintro e w6 ⟨vq,rfl,a9,st⟩;have sk:=bA w5 st;replace B:=bS B sk;replace M:=M.ae sk;replace E:=E.ae sk;replace or:=or.ae sk;replace H:=H.ae sk;replace I:=E6 (I.out.ae sk);replace J:=E6 (J.out.ae sk);replace Fn:=E6 (Fn.out.ae sk);replace Fd:=E6 (Fd.out.ae sk);clear st sk;have la:=M.lt;have lb:=E.lt;obtain⟨br,bl,b9,bg,fr,lr⟩:=or.s3;have be:=H.q0;have fe:=H.fr;have le:=H.lt;obtain⟨q1,q2,q3,q4,q5,q6,q7,q8,rfl⟩:=a9.ak;have Fq:=E6 a9;clear a9;go_wp2_with fail
 refine leaves_cons (f:=56) (args:=#[Ek (some ⟨w.heap.size+1+1+1,0,none⟩)]) D8 (by simp[go_sem]) ?_;refine(ql _ _).mono ?_;rintro e u' ce ⟨rfl,rfl,rfl⟩;refine⟨_,by simp[results,Tryz.results52,go_sem,la,lb,br,bl,b9,bg,fr,lr,be,fe,le]; rfl,?_⟩;exact⟨_,rfl,Fq.out.af zj,zh⟩
theorem BP (w:Ee) (J:FR w va r) (hb:FR w vb s) (hr:sz r i) (Y:sz s j) (I:i+j<=4095) (s0:s≠0) :
  Ed Ec 90 #[va,vb] w fun e w'=>∃v,e = Eh (Ev #[v,Ey Ew 0])/\FR w' v (r / s)/\zf w w':=by
 have d1:zi (r.den:Int)<=bp i:=by rw[xv]; exact hr.2
 have d2:zi (s.den:Int)<=bp j:=by rw[xv]; exact Y.2
 have g1:=z9 (yj hr.1 d2) I;have g4:=z9 (yj d1 Y.1) I;have bo:∀w' u v,FR w' u r->FR w' v s->Ed Ec 52 #[u,v,.func (.func 129) #[] #[]] w' fun e w2=>∃v,e = Eh (Ev #[v,Ey Ew 0])/\FR w2 v (r / s)/\zf w' w2:=fun w' u v h1 h2=>BO w' h1 h2 s0 g1 g4;obtain⟨a1,a2,a3,a4,a5,a6,a7,a8,rfl⟩:=J.ak;obtain⟨b1,b2,b3,b4,b5,b6,b7,b8,rfl⟩:=hb.ak;have M:=E6 J;have X:=E6 hb;clear J hb hr Y I g1 g4 d1 d2 s0
 go_enter Tryz.func90,Tryz.ntmps90
 go_wp2_with fail
 refine(bo _ _ _ (M.out.af zj) (X.out.af zj)).mono ?_;rintro e H ⟨vq,rfl,E,st⟩;have B:=bA w st;have N:=kB w st;have oa:ai H w.heap.size 28 #[Ez a1,Ex a2 a3 a4,Ez a5,Ex a6 a7 a8]:=ai.au st;have ob:ai H (w.heap.size+1) 28 #[Ez b1,Ex b2 b3 b4,Ez b5,Ex b6 b7 b8]:=ai.au st;have or:ai H (w.heap.size+1+1) 28 jp:=ai.au st;replace M:=E6 (M.out.af N);replace X:=E6 (X.out.af N);clear N;clear st;have la:=oa.lt;have lb:=ob.lt;obtain⟨ah,a9,T,Z,fr,lr⟩:=or.s3;obtain⟨q1,q2,q3,q4,q5,q6,q7,q8,rfl⟩:=E.ak;have Fq:=E6 E;clear E;go_wp2_with fail
 refine En (by simp[results,Tryz.results90,go_sem,la,lb,ah,a9,T,Z,fr,lr]; rfl) rfl ?_;exact⟨_,rfl,Fq.out.af zj,zh⟩
theorem BQ (w:Ee) (ha:FR w va r) (hb:FR w vb s) (hr:sz r i) (hs:sz s j) (hk:i+j<=4095) (s0:s≠0) :
  Ed Ec 167 #[va,vb] w fun e w'=>∃v,e = Eh (Ev #[v,Ey Ew 0])/\FR w' v (r / s)/\zf w w':=by
 have N:=ha.fit;have fb:=hb.fit;have bo:=fun(w':Ee) (h:zf w w')=>kI w' (ha.ae h) (hb.ae h);obtain⟨a2,a3,a4,a6,a7,a8,rfl,na,da,-⟩:=ha.bW;obtain⟨b2,b3,b4,b6,b7,b8,rfl,aY,db,-⟩:=hb.bW;have d1:zi (r.den:Int)<=bp i:=by rw[xv]; exact hr.2
 have d2:zi (s.den:Int)<=bp j:=by rw[xv]; exact hs.2
 have g1:=z9 (yj hr.1 d2) hk;have g4:=z9 (yj d1 hs.1) hk
 have pr:∀w',zf w w'->Ed Ec 153 #[Ej #[Ez (decide (r<0)),Ex a2 a3 a4],Ej #[Ez false,Ex b6 b7 b8],Ej #[Ez false,Ex a6 a7 a8],Ej #[Ez (decide (s<0)),Ex b2 b3 b4]] w' fun e w2=>∃v,e = Eh (Ev #[v,Ey Ew 0])/\FR w2 v (r / s)/\zf w' w2:=fun w' h=>by
  refine(QZ w' (na.ae h) (db.ae h) (da.ae h) (aY.ae h) N.1 fb.2 N.2 fb.1 g1 g4 (Zi r s0)).mono ?_;rintro e w2 ⟨v,rfl,h1,h2⟩;have h3:=FR.dK (Zi r s0) h1;rw[YH r s0]at h3;exact⟨v,rfl,h3,h2⟩
 have hz:¬b3=0:=Hf aY (JZ s0);have bh:((b3:Int)==0)=false:=by simp[hz]
 obtain⟨ga,bg⟩:∃g,decide (r<0)=g:=⟨_,rfl⟩;obtain⟨gb,be⟩:∃g,decide (s<0)=g:=⟨_,rfl⟩;rw[bg,be]at pr bo|-;clear bg be na da aY db d1 d2 g1 g4 N fb ha hb hr hs hk s0
 go_enter Tryz.func167,Tryz.ntmps167
 go_wp2_with fail
 refine(bo _ zh).mono ?_;rintro e w1 ⟨rfl,st⟩;have Bn:=bA w st;have oa:ai w1 w.heap.size 28 #[Ez ga,Ex a2 a3 a4,Ez false,Ex a6 a7 a8]:=ai.au st;have ob:ai w1 (w.heap.size+1) 28 #[Ez gb,Ex b2 b3 b4,Ez false,Ex b6 b7 b8]:=ai.au st;have or:ai w1 (w.heap.size+1+1) 28 jp:=ai.au st;clear st;have B:=Bn;clear Bn;obtain⟨b9,Z,X,H,N,la⟩:=oa.s3;obtain⟨ah,T,E,I,fb,lb⟩:=ob.s3;obtain⟨aX,a9,J,M,fr,lr⟩:=or.s3;clear bo;go_wp2_with fail
 refine(pr _ B).mono ?_;rintro e w2 ⟨vq,rfl,Y,st⟩;have Bn:=bA w st;have na:=oa.dm st;have nb:=ob.dm st;have nr:=or.dm st;clear B oa ob or b9 Z X H N la ah T E I fb lb aX a9 J M fr lr;clear st;have B:=Bn;clear Bn;have oa:=na;clear na;obtain⟨b9,Z,X,H,N,la⟩:=oa.s3;have ob:=nb;clear nb;obtain⟨ah,T,E,I,fb,lb⟩:=ob.s3;have or:=nr;clear nr;obtain⟨aX,a9,J,M,fr,lr⟩:=or.s3;obtain⟨q1,q2,q3,q4,q5,q6,q7,q8,rfl⟩:=Y.ak;have Fq:=E6 Y;clear Y;clear pr;dsimp only; repeat' (first | go_values | go_skip | go_guarded | go_step | go_upon)
 refine En (by simp[results,Tryz.results167,go_sem,b9,Z,X,H,N,la,ah,T,E,I,fb,lb,aX,a9,J,M,fr,lr]; rfl) rfl ?_;exact⟨_,rfl,Fq.out.af zj,zh⟩
theorem GC (a1:Bool) (a2:Option Addr) (H a4:Nat) (a5:Bool) (a6:Option Addr) (E a8:Nat) {gc:Nat} {tc:Ei} (w:Ee) (hc:ai w gc tc #[Ey Ew 0]) :
  Ed Ec 76 #[Ek (some ⟨gc,0,none⟩),Ej #[Ez a1,Ex a2 H a4,Ez a5,Ex a6 E a8],Ey Ew 0] w fun e w'=>e = Eh (Ej #[Ez a1,Ex a2 H a4,Ez a5,Ex a6 E a8])/\zf w w':=by
 have Z:=hc.lt;have M:¬w.heap.size=gc:=D5
 have I:¬w.heap.size+1=gc:=D5
 have N:¬gc=w.heap.size:=D5
 have T:¬gc=w.heap.size+1:=D5
 have J:w.cell? ⟨gc,0,none⟩=some (Ey Ew 0):=hc.c 0 rfl;have Y:=hc.fr 0;have X:=E6 hc;clear hc
 go_enter Tryz.func76,Tryz.ntmps76
 go_wp2_with fail
 refine En (by simp[results,Tryz.results76,go_sem,M,I,N,T,J,Y]; rfl) rfl ?_;exact⟨rfl,Below.alloc (Below.alloc (Ka (Below.refl _ _) X.out rfl) D8 _) D8 _⟩
theorem vS (w:Ee) (hc:ai w gc tc #[Ey Ew 0]) (E:FR w va r) :
  Ed Ec 76 #[Ek (some ⟨gc,0,none⟩),va,Ey Ew 0] w fun e w'=>∃v,e = Eh v/\FR w' v r/\zf w w':=by
 obtain⟨a1,a2,J,a4,a5,a6,I,a8,rfl⟩:=E.ak;refine(GC a1 a2 J a4 a5 a6 I a8 w hc).mono ?_;rintro e w' ⟨rfl,H⟩;exact⟨_,rfl,E.ae H,H⟩
theorem UW (x:Int) {gc:Nat} {tc:Ei} (w:Ee) (hc:ai w gc tc #[Ey Ew 0]) (x0 : -9223372036854775808<=x) (Z:x<=9223372036854775807) :
  Ed Ec 66 #[Ek (some ⟨gc,0,none⟩),Ey Ew x] w fun e w'=>∃v,e = Eh v/\FR w' v ((x:Rat))/\zf w w':=by
 have KP:∀w' u,zf w w'->FR w' u ((x:Rat))->Ed Ec 76 #[Ek (some ⟨gc,0,none⟩),u,Ey Ew 0] w' fun e J=>∃v,e = Eh v/\FR J v ((x:Rat))/\zf w' J:=fun w' u st h=>vS w' (hc.ae st) h;have CL:∀w',zf w w'->Ed Ec 77 #[Ey Ew x,Ey Ew 1] w' fun e J=>∃v,e = Eh (Ev #[v,Ey Ew 0])/\FR J v ((x:Rat))/\zf w' J:=fun w' st=>by have:=Q_ x 1 w' x0 Z D7 D7 D7; rw[UU]at this; exact this
 generalize (x:Rat)=r at *;clear hc x0 Z
 go_enter Tryz.func66,Tryz.ntmps66
 go_wp2_with fail
 refine(CL _ zh).mono ?_;rintro e Y ⟨ah,rfl,E,st⟩;have B:=bA w st;have or:ai Y w.heap.size 28 jp:=ai.au st;clear st;obtain⟨aY,bi,b9,bg,be,a9,bh,aX,rfl⟩:=E.ak;have H:=E6 E;clear E;go_wp2_with fail
 refine(KP _ _ zh (H.out.af zj)).mono ?_;rintro e J ⟨vq,rfl,I,st⟩;have sk:=bA Y st;replace B:=bS B sk;replace or:=or.ae sk;replace H:=E6 (H.out.ae sk);clear st sk;obtain⟨X,T,M,N,fr,lr⟩:=or.s3;obtain⟨q1,q2,q3,q4,q5,q6,q7,q8,rfl⟩:=I.ak;have Fq:=E6 I;clear I;go_wp2_with fail
 refine En (by simp[results,Tryz.results66,go_sem,X,T,M,N,fr,lr]; rfl) rfl ?_;exact⟨_,rfl,Fq.out.af zj,zh⟩
theorem WU (w:Ee) (hc:ai w gc tc #[Ey Ew 0]) (N:FR w va r) (hb:FR w vb s) (hr:sz r i) (hs:sz s j) (hk:i+j<=4094) :
  Ed Ec 83 #[Ek (some ⟨gc,0,none⟩),va,vb] w fun e w'=>∃v,e = Eh v/\FR w' v (r+s)/\zf w w':=by
 have KP:∀w' u,zf w w'->FR w' u (r+s)->Ed Ec 76 #[Ek (some ⟨gc,0,none⟩),u,Ey Ew 0] w' fun e J=>∃v,e = Eh v/\FR J v (r+s)/\zf w' J:=fun w' u st h=>vS w' (hc.ae st) h;have CL:∀w',zf w w'->Ed Ec 123 #[va,vb] w' fun e J=>∃v,e = Eh (Ev #[v,Ey Ew 0])/\FR J v (r+s)/\zf w' J:=fun w' st=>BE w' (N.ae st) (hb.ae st) hr hs hk;obtain⟨a1,a2,a3,a4,a5,a6,a7,a8,rfl⟩:=N.ak;obtain⟨b1,b2,b3,b4,b5,b6,b7,b8,rfl⟩:=hb.ak;clear N hb hr hs hk hc;generalize r+s=t at *
 go_enter Tryz.func83,Tryz.ntmps83
 go_wp2_with fail
 refine(CL _ zh).mono ?_;rintro e M ⟨aY,rfl,E,st⟩;have B:=bA w st;have Y:ai M w.heap.size 28 #[Ez a1,Ex a2 a3 a4,Ez a5,Ex a6 a7 a8]:=ai.au st;have T:ai M (w.heap.size+1) 28 #[Ez b1,Ex b2 b3 b4,Ez b5,Ex b6 b7 b8]:=ai.au st;have or:ai M (w.heap.size+1+1) 28 jp:=ai.au st;clear st;obtain⟨be,br,bg,bi,bh,aX,bl,b9,rfl⟩:=E.ak;have H:=E6 E;clear E;go_wp2_with fail
 refine(KP _ _ zh (H.out.af zj)).mono ?_;rintro e J ⟨vq,rfl,I,st⟩;have sk:=bA M st;replace B:=bS B sk;replace Y:=Y.ae sk;replace T:=T.ae sk;replace or:=or.ae sk;replace H:=E6 (H.out.ae sk);clear st sk;have la:=Y.lt;have lb:=T.lt;obtain⟨ah,a9,X,Z,fr,lr⟩:=or.s3;obtain⟨q1,q2,q3,q4,q5,q6,q7,q8,rfl⟩:=I.ak;have Fq:=E6 I;clear I;go_wp2_with fail
 refine En (by simp[results,Tryz.results83,go_sem,la,lb,ah,a9,X,Z,fr,lr]; rfl) rfl ?_;exact⟨_,rfl,Fq.out.af zj,zh⟩
theorem VV (w:Ee) (hc:ai w gc tc #[Ey Ew 0]) (N:FR w va r) (hb:FR w vb s) (hr:sz r i) (hs:sz s j) (hk:i+j<=4094) :
  Ed Ec 78 #[Ek (some ⟨gc,0,none⟩),va,vb] w fun e w'=>∃v,e = Eh v/\FR w' v (r-s)/\zf w w':=by
 have KP:∀w' u,zf w w'->FR w' u (r-s)->Ed Ec 76 #[Ek (some ⟨gc,0,none⟩),u,Ey Ew 0] w' fun e J=>∃v,e = Eh v/\FR J v (r-s)/\zf w' J:=fun w' u st h=>vS w' (hc.ae st) h;have CL:∀w',zf w w'->Ed Ec 119 #[va,vb] w' fun e J=>∃v,e = Eh (Ev #[v,Ey Ew 0])/\FR J v (r-s)/\zf w' J:=fun w' st=>GA w' (N.ae st) (hb.ae st) hr hs hk;obtain⟨a1,a2,a3,a4,a5,a6,a7,a8,rfl⟩:=N.ak;obtain⟨b1,b2,b3,b4,b5,b6,b7,b8,rfl⟩:=hb.ak;clear N hb hr hs hk hc;generalize r-s=t at *
 go_enter Tryz.func78,Tryz.ntmps78
 go_wp2_with fail
 refine(CL _ zh).mono ?_;rintro e M ⟨aY,rfl,E,st⟩;have B:=bA w st;have Y:ai M w.heap.size 28 #[Ez a1,Ex a2 a3 a4,Ez a5,Ex a6 a7 a8]:=ai.au st;have T:ai M (w.heap.size+1) 28 #[Ez b1,Ex b2 b3 b4,Ez b5,Ex b6 b7 b8]:=ai.au st;have or:ai M (w.heap.size+1+1) 28 jp:=ai.au st;clear st;obtain⟨be,br,bg,bi,bh,aX,bl,b9,rfl⟩:=E.ak;have H:=E6 E;clear E;go_wp2_with fail
 refine(KP _ _ zh (H.out.af zj)).mono ?_;rintro e J ⟨vq,rfl,I,st⟩;have sk:=bA M st;replace B:=bS B sk;replace Y:=Y.ae sk;replace T:=T.ae sk;replace or:=or.ae sk;replace H:=E6 (H.out.ae sk);clear st sk;have la:=Y.lt;have lb:=T.lt;obtain⟨ah,a9,X,Z,fr,lr⟩:=or.s3;obtain⟨q1,q2,q3,q4,q5,q6,q7,q8,rfl⟩:=I.ak;have Fq:=E6 I;clear I;go_wp2_with fail
 refine En (by simp[results,Tryz.results78,go_sem,la,lb,ah,a9,X,Z,fr,lr]; rfl) rfl ?_;exact⟨_,rfl,Fq.out.af zj,zh⟩
theorem Kb (w:Ee) (hc:ai w gc tc #[Ey Ew 0]) (N:FR w va r) (hb:FR w vb s) (hr:sz r i) (hs:sz s j) (hk:i+j<=4095) :
  Ed Ec 84 #[Ek (some ⟨gc,0,none⟩),va,vb] w fun e w'=>∃v,e = Eh v/\FR w' v (r*s)/\zf w w':=by
 have KP:∀w' u,zf w w'->FR w' u (r*s)->Ed Ec 76 #[Ek (some ⟨gc,0,none⟩),u,Ey Ew 0] w' fun e J=>∃v,e = Eh v/\FR J v (r*s)/\zf w' J:=fun w' u st h=>vS w' (hc.ae st) h;have CL:∀w',zf w w'->Ed Ec 20 #[va,vb] w' fun e J=>∃v,e = Eh (Ev #[v,Ey Ew 0])/\FR J v (r*s)/\zf w' J:=fun w' st=>BJ w' (N.ae st) (hb.ae st) hr hs hk;obtain⟨a1,a2,a3,a4,a5,a6,a7,a8,rfl⟩:=N.ak;obtain⟨b1,b2,b3,b4,b5,b6,b7,b8,rfl⟩:=hb.ak;clear N hb hr hs hk hc;generalize r*s=t at *
 go_enter Tryz.func84,Tryz.ntmps84
 go_wp2_with fail
 refine(CL _ zh).mono ?_;rintro e M ⟨aY,rfl,E,st⟩;have B:=bA w st;have Y:ai M w.heap.size 28 #[Ez a1,Ex a2 a3 a4,Ez a5,Ex a6 a7 a8]:=ai.au st;have T:ai M (w.heap.size+1) 28 #[Ez b1,Ex b2 b3 b4,Ez b5,Ex b6 b7 b8]:=ai.au st;have or:ai M (w.heap.size+1+1) 28 jp:=ai.au st;clear st;obtain⟨be,br,bg,bi,bh,aX,bl,b9,rfl⟩:=E.ak;have H:=E6 E;clear E;go_wp2_with fail
 refine(KP _ _ zh (H.out.af zj)).mono ?_;rintro e J ⟨vq,rfl,I,st⟩;have sk:=bA M st;replace B:=bS B sk;replace Y:=Y.ae sk;replace T:=T.ae sk;replace or:=or.ae sk;replace H:=E6 (H.out.ae sk);clear st sk;have la:=Y.lt;have lb:=T.lt;obtain⟨ah,a9,X,Z,fr,lr⟩:=or.s3;obtain⟨q1,q2,q3,q4,q5,q6,q7,q8,rfl⟩:=I.ak;have Fq:=E6 I;clear I;go_wp2_with fail
 refine En (by simp[results,Tryz.results84,go_sem,la,lb,ah,a9,X,Z,fr,lr]; rfl) rfl ?_;exact⟨_,rfl,Fq.out.af zj,zh⟩
theorem xL (w:Ee) (hc:ai w gc tc #[Ey Ew 0]) (I:FR w va r) (J:FR w vb s) (X:sz r i) (Y:sz s j) (M:i+j<=4095) :
  Ed Ec 67 #[Ek (some ⟨gc,0,none⟩),va,vb] w fun e w'=>e = Eh (Ey Ew (z8 r s))/\zf w w':=by
 have KP:∀w',zf w w'->Ed Ec 76 #[Ek (some ⟨gc,0,none⟩),Ej #[Ez false,Ex none 0 0,Ez false,Ex none 0 0],Ey Ew 0] w' fun e E=>e = Eh (Ej #[Ez false,Ex none 0 0,Ez false,Ex none 0 0])/\zf w' E:=fun w' st=>GC _ _ _ _ _ _ _ _ w' (hc.ae st);have Z:∀w',zf w w'->Ed Ec 21 #[va,vb] w' fun e E=>e = Eh (Ev #[Ey Ew (z8 r s),Ey Ew 0])/\zf w' E:=fun w' st=>GB w' (I.ae st) (J.ae st) X Y M;obtain⟨a1,a2,a3,a4,a5,a6,a7,a8,rfl⟩:=I.ak;obtain⟨b1,b2,b3,b4,b5,b6,b7,b8,rfl⟩:=J.ak;generalize z8 r s=k at *;clear I J X Y M hc
 go_enter Tryz.func67,Tryz.ntmps67
 go_wp2_with fail
 refine(Z _ zh).mono ?_;rintro e H ⟨rfl,st⟩;have B:=bA w st;have N:ai H w.heap.size 28 #[Ez a1,Ex a2 a3 a4,Ez a5,Ex a6 a7 a8]:=ai.au st;have T:ai H (w.heap.size+1) 28 #[Ez b1,Ex b2 b3 b4,Ez b5,Ex b6 b7 b8]:=ai.au st;clear st;go_wp2_with fail
 refine(KP _ zh).mono ?_;rintro e E ⟨rfl,st⟩;have sk:=bA H st;replace B:=bS B sk;replace N:=N.ae sk;replace T:=T.ae sk;clear st sk;go_wp2_with fail
 refine En (by simp[results,Tryz.results67,go_sem,]; rfl) rfl ?_;exact⟨rfl,zh⟩
end
end Go.Proofs.YtffmbepfbienaaaGreat
