import Derived.Sort.CutIn
import Derived.Test.YtffmbepfbienaaaGreatZUb
import Derived.Great.BuildSlice
set_option linter.unusedVariables false
set_option linter.unusedSimpArgs false
set_option maxHeartbeats 6400000
set_option maxRecDepth 1000000
/- Great values stored and loaded whole: one step each. -/
open Go.Value renaming slice->Cq,bool->Cx,int->Cz,agg->Cy,pointer->Cj,tuple->Ck
open Go.IntKind renaming i64->Cv
open Go.Ending renaming returned->Cg
open Go.Proofs.Tryz renaming prog->Ch
open Go renaming Calls->Cb,World->Cc,Value->Cd,TypeId->Ce,undef->Cf,bodyPost_ret->Ci
open Nat renaming le_refl->Cl,lt_or_ge->Cm
open Go.World renaming cell?->Cn
namespace Go.Proofs.YtffmbepfbienaaaGreat
open Go.RowKit
variable {cs old:Array Cd} {g:Nat} {t:Ce} {w' w0:Cc}
theorem GB {w:Cc} {cs':Array Cd} (h:ai w g t cs) (e:cs=cs'):ai w g t cs':=e▸h
theorem kX {w:World} (h:ai w g t cs:=by (apply GB; (focus (repeat' first | with_reducible assumption | with_reducible apply ai.alloc | with_reducible apply ai.drew | with_reducible apply ai.drewN | with_reducible apply ai.bI | with_reducible apply ai.aG | (show _≠_; omega))); rfl)):ai w g t cs:=h
structure bD (g:Nat) (t:Ce) (old cs:Array Cd) (w w':Cc):Prop where
 bP:ai w' g t cs
 was:ai w g t old
 is:w'=w.setRow g cs
theorem bD.eT {w:Cc} (h:ai w g t old):bD g t old cs w (w.setRow g cs):=by
 refine⟨?_,h,rfl⟩;unfold ai at *;simp[World.setRow,Array.getElem?_modify,h]
theorem bD.a_ {w:Cc} (h:bD g t old cs w w') {E:Nat} {J:Ce} {cs':Array Cd} (M:ai w E J cs') (I:E≠g):ai w' E J cs':=by
 obtain⟨_,_,rfl⟩:=h;unfold ai at *;simp only[World.setRow,Array.getElem?_modify];rw[C8 (Ne.symm I)]; exact M
theorem bD.only {w:Cc} (h:bD g t old cs w w'):bC g w w':=by
 obtain⟨_,_,rfl⟩:=h;refine⟨by simp[World.setRow],fun k E=> ?_⟩;simp only[World.setRow,Array.getElem?_modify];rw[C8 (Ne.symm E)]
theorem bD.af {w:Cc} (h:bD g t old cs w w') (E:zL old=true):av w w':=av.only h.was E h.only
theorem bD.below {n:Nat} {w:Cc} (h:bD g t old cs w w') (E:Below n w0 w) (M:n<=g):Below n w0 w':=by
 have I:=h.only;obtain⟨_,_,rfl⟩:=h;refine⟨E.os,E.tape,E.output,by rw[I.1]; exact E.size,fun k J=> ?_⟩;rw[I.2 k B_]; exact E.block k J
theorem bD.ae {w:Cc} (h:bD g t old cs w w') (I:zf w0 w) (E:w0.heap.size<=g):zf w0 w':=h.below I E
section
variable {P:Program} {ops:Array Oper} {rest:List Oper} {o:Oper} {a:Act} {w:Cc} {Q:Exit->Act->Cc->Prop}
theorem zE (I:o.guard=none) (ty:Ce) (x y:Operand) (N:o.op = .store ty x y) (g:Nat) (cells:Array Cd) (X:a.eval x = Cj (some ⟨g,0,none⟩)) (Y:a.eval y = Cy cells)
  (t:Ce) (old:Array Cd) (J:ai w g t old) (M:(P.info? ty).map (·.size)=some cells.size) (E:old.size=cells.size) (T:cells.all (·.oneCell')=true)
  (h:∀w',bD g t old cells w w'->wpList P ops Q rest (a.put o.dst Cf) w'):wpList P ops Q (o::rest) a w:=
 wpList_store_row I ty x y N g cells X Y t old J M E T (h _ (bD.eT J))
theorem zP (E:o.guard=none) (ty:Ce) (x:Operand) (M:o.op = .load ty x) (g:Nat) (N:a.eval x = Cj (some ⟨g,0,none⟩)) (t:Ce) (cs:Array Cd) (d:TypeDesc) (I:ai w g t cs)
  (T:P.underlying ty=some d) (hd:(match d with | .struct _ | .array _ _=>true | _=>false)=true) (J:(P.info? ty).map (·.size)=some cs.size)
  (h:wpList P ops Q rest (a.put o.dst (Cy cs)) w):wpList P ops Q (o::rest) a w:=
 wpList_load_row E ty x M g N t cs (0,0) d I T hd J h
theorem yi (E:o.guard=none) (t:Ce) (parts:Array (Nat×Operand)) (I:o.op = .build t parts) (v:Array Cd) (hv:P.built t (parts.map fun(i,x)=>(i,a.eval x)).toList=some v)
  (h:wpList P ops Q rest (a.put o.dst (Cy v)) w):wpList P ops Q (o::rest) a w:=
 wpList_build E t parts I (by rw[hv]; rfl) (by rw[hv]; exact h)
end
theorem z8 {P:Program} {fn:Func} {p q:Tmp} {ty:Ce} (h:fn.results=#[.cell p ty,.tmp q]) (tmps:Array Cd) (w:Cc) (g:Nat) {t:Ce} {cs:Array Cd} {d:TypeDesc}
  (M:tmps.getD p Cf = Cj (some ⟨g,0,none⟩)) (I:ai w g t cs)
  (N:P.underlying ty=some d) (hd:(match d with | .struct _ | .array _ _=>true | _=>false)=true) (J:(P.info? ty).map (·.size)=some cs.size) :
  (results fn tmps).run P w = .ok (Ck #[Cy cs,tmps.getD q Cf]) w:=by
 have E:tmps[p]?.getD Cf = Cj (some ⟨g,0,none⟩):=by simpa using M
 simp[results,h,E,asAddr,run_loadVar_row w g t ty cs (0,0) d I N hd J]
theorem YZ {P:Program} {fn:Func} {p:Tmp} {ty:Ce} (h:fn.results=#[.cell p ty]) (tmps:Array Cd) (w:Cc) (g:Nat) {t:Ce} {cs:Array Cd} {d:TypeDesc}
  (J:tmps.getD p Cf = Cj (some ⟨g,0,none⟩)) (E:ai w g t cs)
  (M:P.underlying ty=some d) (hd:(match d with | .struct _ | .array _ _=>true | _=>false)=true) (I:(P.info? ty).map (·.size)=some cs.size) :
  (results fn tmps).run P w = .ok (Cy cs) w:=results_cell_row h tmps w g t cs (0,0) d J E M hd I
end Go.Proofs.YtffmbepfbienaaaGreat
/- Quads as they come in: four indices, four fractions that are zS or not; lists of quads. -/
namespace Go.Proofs.YtffmbepfbienaaaGreat
open Go.RowKit
variable {cs:Array Cd} {i n:Nat} {CS:Nat->Array Cd} {R:Nat->Nat->Option Rat} {r:Nat->Option Rat} {v:Cd} {w w':Cc}
def xa (r:Rat):Rat:=if r<0 then -r else r
theorem vI (r:Rat):r<0↔r.num<0:=by rw[<- Rat.not_le,<- Rat.num_nonneg]; omega
theorem XJ (r:Rat):(xa r).num=zh r.num/\((xa r).den:Int)=r.den:=by
 unfold xa zh
 by_cases h:r<0
 .
  have:=(vI r).1 h;rw[C7 h,Rat.neg_num,Rat.neg_den]; exact⟨by omega,rfl⟩
 .
  have:¬r.num<0:=fun g=>h ((vI r).2 g);rw[C8 h]; exact⟨by omega,rfl⟩
theorem Us (x y:Int):ym (zh x) y=ym x y:=by unfold ym zh; simp[Int.gcd]
theorem ZK (x:Int):zh (zh x)=zh x:=by unfold zh; omega
theorem FR.abs {a b:Bool} {s t:Cd} {r:Rat} (h:FR w (Cy #[Cx a,s,Cx b,t]) r):FR w (Cy #[Cx false,s,Cx b,t]) (xa r):=by
 obtain⟨sp,Z,e,T,I,q0,J,E,M⟩:=h;simp only[Value.agg.injEq,Array.mk.injEq,List.cons.injEq,and_true,Value.bool.injEq]at e;obtain⟨Y,rfl,rfl,rfl⟩:=e;obtain⟨N,X⟩:=XJ r;have hn:=zt r.num;unfold FR;rw[N,X];refine⟨s,t,?_,by rw[ZK]; exact T,I,q0,by rw[Us]; exact J,?_,M⟩
 . rw[C_ B_]
 . unfold fits at E|-; rw[ZK]; exact E
theorem sz.abs {r:Rat} {k:Nat} (h:sz r k):sz (xa r) k:=by
 obtain⟨I,E⟩:=XJ r;unfold sz;rw[I,E,ZK]; exact h
def FB (w:Cc) (v:Cd):Option Rat->Prop
 | some r=>FR w v r
 | none=>el w v
theorem FB.af {o:Option Rat} (h:FB w v o) (k:av w w'):FB w' v o:=by
 cases o with
 | none=>exact el.af h k
 | some r=>exact FR.af h k
def QX (w:Cc) (cs:Array Cd) (r:Nat->Option Rat):Prop:=cs.size=20/\cs.all (·.oneCell')=true/\zL cs=true/\
 ∀i,i<4->∃a1 a2 N T E I M J,cs[4+i*4]? = some (Cx a1)/\cs[4+i*4+1]? = some (Cq a2 N T)/\cs[4+i*4+2]? = some (Cx E)/\cs[4+i*4+3]? = some (Cq I M J)/\FB w (Cy #[Cx a1,Cq a2 N T,Cx E,Cq I M J]) (r i)
theorem QX.af (h:QX w cs r) (kp:av w w'):QX w' cs r:=by
 obtain⟨h1,h2,I,M⟩:=h;refine⟨h1,h2,I,fun i J=> ?_⟩;obtain⟨a1,a2,a3,a4,T,Y,a7,Z,c0,X,N,E,f⟩:=M i J;exact⟨a1,a2,a3,a4,T,Y,a7,Z,c0,X,N,E,f.af kp⟩
theorem QX.ae (h:QX w cs r) (s:zf w w'):QX w' cs r:=h.af (av.ae s)
def Ve (w:Cc) (b o n:Nat) (CS:Nat->Array Cd):Prop:=∀t,t<n->∀j,j<20->w.cell? ⟨b,o+t*20+j,none⟩=(CS t)[j]?
def dH (w:Cc) (v:Cd) (n:Nat) (CS:Nat->Array Cd) (R:Nat->Nat->Option Rat):Prop:=
 (∀t,t<n->QX w (CS t) (R t))/\∃ao cap,v = Cq ao n cap/\n<=cap/\(0<n->∃b o,ao=some ⟨b,o,none⟩/\b<w.heap.size/\Ve w b o n CS)
theorem dH.ae (h:dH w v n CS R) (s:zf w w'):dH w' v n CS R:=by
 obtain⟨N,ao,cap,e,hc,T⟩:=h;refine⟨fun t ht=>(N t ht).ae s,ao,cap,e,hc,fun X=> ?_⟩;obtain⟨b,o,M,E,I⟩:=T X;exact⟨b,o,M,Nat.lt_of_lt_of_le E s.size,fun t ht j J=>(s.cell (p:=⟨b,_,none⟩) E).trans (I t ht j J)⟩
theorem dH.au (h:dH w v n CS R):∃ao cap,v = Cq ao n cap:=by obtain⟨_,ao,cap,e,_⟩:=h; exact⟨ao,cap,e⟩
theorem dH.at {ao:Option Addr} {cap:Nat} (h:dH w (Cq ao n cap) n CS R) {t:Nat} (ht:t<n) :
  ∃b o,ao=some ⟨b,o,none⟩/\b<w.heap.size/\∀j,j<20->w.cell? ⟨b,o+t*20+j,none⟩=(CS t)[j]? :=by
 obtain⟨_,M,I,e,_,N⟩:=h
 injection e with X E Y
 subst X;obtain⟨b,o,E,T,J⟩:=N B_;exact⟨b,o,E,T,J t ht⟩
section
variable {P:Program}
theorem ZL (w:Cc) (g off:Nat) (ty:Ce) (cs:Array Cd) (d:TypeDesc) (T:∀j,j<cs.size->w.cell? ⟨g,off+j,none⟩=cs[j]?)
  (Y:P.underlying ty=some d) (hd:(match d with | .struct _ | .array _ _=>true | _=>false)=true) (M:(P.info? ty).map (·.size)=some cs.size) :
  (loadVar ty ⟨g,off,none⟩).run P w = .ok (Cy cs) w:=by
 have N:(loadCells ⟨g,off,none⟩ cs.toList.length).run P w = .ok cs.toList.toArray w:=
  run_loadCells_list (P:=P) w ⟨g,off,none⟩ cs.toList (fun j v hv=>by
   have I:(⟨g,off,none⟩:Addr).add j=⟨g,off+j,none⟩:=by unfold Addr.add; split<;>simp_all
   have E:cs[j]? = some v:=by simpa using hv
   have X:j<cs.size:=by
    rcases Cm j cs.size with h | h
    . exact h
    . rw[Array.getElem?_eq_none h]at E; cases E
   rw[I,T j X]
   exact E)
 cases hq:P.info? ty with
 | none=>simp[hq]at M
 | some i=>
  have Z:i.size=cs.size:=by simpa[hq]using M
  have J:(isAgg ty).run P w = .ok true w:=by
   unfold isAgg;rw[Sem.run_bind,run_underlying Y w]
   cases d<;>simp_all
  simp only[Array.length_toList,Array.toArray_toList]at N;simp[loadVar,Sem.run_bind,J,sizeOf,typeInfo,hq,Z,N]
theorem ZM {o:Oper} {a:Act} {w:Cc} {K:Act->Cc->Prop} {Q:Exit->Act->Cc->Prop} (ty:Ce) (x:Operand) (I:o.op = .load ty x)
  (g off:Nat) (M:a.eval x = Cj (some ⟨g,off,none⟩)) (cs:Array Cd) (d:TypeDesc) (E:∀j,j<cs.size->w.cell? ⟨g,off+j,none⟩=cs[j]?)
  (N:P.underlying ty=some d) (hd:(match d with | .struct _ | .array _ _=>true | _=>false)=true) (J:(P.info? ty).map (·.size)=some cs.size)
  (h:K (a.put o.dst (Cy cs)) w):o.wp P a w K Q:=by
 unfold Oper.wp execOp;simp only[I,M,Instr.loadAt,Instr.sureAddr,Sem.run_bind,Sem.run_pure,Result.andThen_ok,ZL w g off ty cs d E N hd J];exact h
theorem Yv {ops:Array Oper} {rest:List Oper} {o:Oper} {a:Act} {w:Cc} {Q:Exit->Act->Cc->Prop} (hw:Region.wanted o (yielded ops a.tmps)=true) (ty:Ce) (x:Operand) (I:o.op = .load ty x) (g:Nat) (M:a.eval x = Cj (some ⟨g,0,none⟩)) (t:Ce) (cs:Array Cd) (d:TypeDesc) (E:ai w g t cs)
  (N:P.underlying ty=some d) (hd:(match d with | .struct _ | .array _ _=>true | _=>false)=true) (J:(P.info? ty).map (·.size)=some cs.size)
  (h:wpList P ops Q rest (a.put o.dst (Cy cs)) w):wpList P ops Q (o::rest) a w:=by
 unfold wpList;rw[C7 hw];exact .inl (wp_load_row ty x I g M t cs (0,0) d E N hd J h)
theorem kJ {ops:Array Oper} {rest:List Oper} {o:Oper} {a:Act} {w:Cc} {Q:Exit->Act->Cc->Prop} (E:o.guard=none) (ty:Ce) (x:Operand) (M:o.op = .load ty x) (g off:Nat) (T:a.eval x = Cj (some ⟨g,off,none⟩)) (cs:Array Cd) (d:TypeDesc)
  (J:∀j,j<cs.size->w.cell? ⟨g,off+j,none⟩=cs[j]?)
  (X:P.underlying ty=some d) (hd:(match d with | .struct _ | .array _ _=>true | _=>false)=true) (N:(P.info? ty).map (·.size)=some cs.size)
  (h:wpList P ops Q rest (a.put o.dst (Cy cs)) w):wpList P ops Q (o::rest) a w:=
 wpList_plain E fun _ I=>ZM ty x M g off T cs d J X hd N (I _ _ h)
end
def qg (a b:Nat->Rat) (off:Rat):Nat->Bool
 | 0=>true
 | i+1=>qg a b off i&&decide (xa (a i-b i)<=off)
theorem Qz {a b:Nat->Rat} {off:Rat} (h:qg a b off i=false):∀m,i<=m->qg a b off m=false:=by
 intro m E
 induction m with
 | zero=>
      obtain rfl:i=0:=B_
      exact h
 | succ m ih=>
  rcases Cm m i with g | g
  .
   obtain rfl:i=m+1:=B_
   exact h
  . unfold qg; rw[ih g]; rfl
def yw (r:Nat->Option Rat):Nat->Bool
 | 0=>true
 | i+1=>yw r i&&(r i).isSome
theorem ZN : ∀{n:Nat},yw r n=true->∀i,i<n->∃q,r i=some q
 | n+1,h,i,hi=>by
  unfold yw at h;simp only[Bool.and_eq_true]at h
  rcases Cm i n with g | g
  . exact ZN h.1 i g
  .
   obtain rfl:i=n:=B_
   exact Option.isSome_iff_exists.1 h.2
theorem XK (h:yw r i=false):∀m,i<=m->yw r m=false:=by
 intro m E
 induction m with
 | zero=>
      obtain rfl:i=0:=B_
      exact h
 | succ m ih=>
  rcases Cm m i with g | g
  .
   obtain rfl:i=m+1:=B_
   exact h
  . unfold yw; rw[ih g]; rfl
def yN (R:Nat->Nat->Option Rat):Nat->Bool
 | 0=>true
 | t+1=>yN R t&&yw (R t) 4
theorem ZO : ∀{n:Nat},yN R n=true->∀i,i<n->yw (R i) 4=true
 | n+1,h,i,hi=>by
  unfold yN at h;simp only[Bool.and_eq_true]at h
  rcases Cm i n with g | g
  . exact ZO h.1 i g
  .
   obtain rfl:i=n:=B_
   exact h.2
theorem XL (h:yN R i=false):∀m,i<=m->yN R m=false:=by
 intro m E
 induction m with
 | zero=>
      obtain rfl:i=0:=B_
      exact h
 | succ m ih=>
  rcases Cm m i with g | g
  .
   obtain rfl:i=m+1:=B_
   exact h
  . unfold yN; rw[ih g]; rfl
def rq (r:Nat->Option Rat) (i:Nat):Rat:=(r i).getD 0
def qD (R:Nat->Nat->Option Rat) (q:Nat->Option Rat) (off:Rat):Nat->List Int
 | 0=> []
 | t+1=>if qg (rq (R t)) (rq q) off 4 then qD R q off t ++ [(t:Int)]else qD R q off t
theorem kY (R:Nat->Nat->Option Rat) (q:Nat->Option Rat) (off:Rat):∀n,(qD R q off n).length<=n
 | 0=>Cl _
 | n+1=>by have:=kY R q off n; unfold qD; split<;>simp<;>omega
end Go.Proofs.YtffmbepfbienaaaGreat
/- Similarities, yC and odds (plain). -/
namespace Go.Proofs.YtffmbepfbienaaaGreat
theorem ZP (x:Int):(x:Rat) / ((1:Int):Rat)=(x:Rat):=by
 have E:((1:Int):Rat)≠0:=by decide
 exact qA E (by rw[Rat.intCast_one,Rat.mul_one])
def Yw (t:Nat->Rat) (p:Int×Int):Rat:=t 0*(p.1:Rat)-t 1*(p.2:Rat)+t 2
def Yx (t:Nat->Rat) (p:Int×Int):Rat:=t 1*(p.1:Rat)+t 0*(p.2:Rat)+t 3
def Yy (a b p q:Int×Int):Rat:=(kN (b.1-a.1) (b.2-a.2) (q.1-p.1) (q.2-p.2):Rat) / (jw (b.1-a.1) (b.2-a.2):Rat)
def Yz (a b p q:Int×Int):Rat:=(vU (b.1-a.1) (b.2-a.2) (q.1-p.1) (q.2-p.2):Rat) / (jw (b.1-a.1) (b.2-a.2):Rat)
def kZ (a b p q:Int×Int) (i:Nat):Rat:=match i with
 | 0=>Yy a b p q
 | 1=>Yz a b p q
 | 2=>(p.1:Rat)-(Yy a b p q*(a.1:Rat)-Yz a b p q*(a.2:Rat)+0)
 | _=>(p.2:Rat)-(Yz a b p q*(a.1:Rat)+Yy a b p q*(a.2:Rat)+0)
def xj (x y:Rat) (q:Int×Int):Rat:=if xa (x-(q.1:Rat))<xa (y-(q.2:Rat))then xa (y-(q.2:Rat))else xa (x-(q.1:Rat))
def qY (x y E:Rat) (m:PL):Nat->Int×Rat
 | 0=>(-1,E)
 | k+1=>if xj x y (pt m k)<(qY x y E m k).2\/(xj x y (pt m k)=(qY x y E m k).2/\(qY x y E m k).1<0)then((k:Int),xj x y (pt m k))else qY x y E m k
def yC (t:Nat->Rat) (E:Rat) (l m:PL):Nat->List Int
 | 0=> []
 | i+1=>yC t E l m i ++ [(qY (Yw t (pt l i)) (Yx t (pt l i)) E m m.length).1]
theorem jo (t:Nat->Rat) (E:Rat) (l m:PL):∀n,(yC t E l m n).length=n
 | 0=>rfl
 | n+1=>by unfold yC; rw[List.length_append,jo t E l m n]; rfl
/- odds -/
def zC (R A n:Int):Rat:=((n*4*R*R:Int):Rat) / (A:Rat)
def yU (s h:Rat):Rat:=(1-s+s*h) / h
def xB (w s:Rat) (l:List Int) (out:Nat->Bool):Nat->Rat
 | 0=>1
 | i+1=>if out i then xB w s l out i else xB w s l out i*(if 0<=l.getD i 0 then w else s)
def XM (_:Nat):Bool:=false
def GC (w s:Rat):List Int->Rat
 | []=>1
 | k::l=>(if 0<=k then w else s)*GC w s l
end Go.Proofs.YtffmbepfbienaaaGreat
/- A region in the text's order in a round of a range Xb a function: walked by the plain words; what a round leaves as it lay. -/
namespace Go.Proofs.YtffmbepfbienaaaGreat
open Go.RowKit
variable {Q:Exit->Act->Cc->Prop} {Bs g n n₀:Nat} {P:Program} {W W':Cc}
theorem QA {ops:Array Oper} {l:Nat} (hd:jh ops=true):∀ (rest:List Oper) (_:∀o∈rest,∃i:Nat,ops[i]? = some o) (a:Act) (w:Cc),
  wpList P ops (yM Q) rest a w->wpListIn (Fence.wide.inRound l) n P ops Q rest a w:=by
 intro rest
 induction rest with
 | nil=>intro _ a w h; exact h
 | cons o rest ih=>
  intro I a w h;unfold wpList at h;unfold wpListIn;obtain⟨i,J⟩:=I o (.head _);have E:=ih (fun M N=>I M (.tail _ N))
  by_cases hw:Region.wanted o (yielded ops a.tmps)=true
  .
   rw[C7 hw]at h|-
   rcases h with h | ⟨_,h⟩
   . exact Zu (kz hd J) h (fun a w=>E a w)
   . exact(j6 Q h).elim
  .
   rw[C8 hw]at h|-;exact⟨fun _ _=>trivial,E _ _ h⟩
theorem yo {l:List Oper} {r J:Nat} {a:Act} {w:Cc} (hd:jh l.toArray=true) (h:wpList P l.toArray (yM Q) l a w) :
  (Code.region J l.toArray false).wpIn (Fence.wide.inRound r) n P Q a w:=
 wpIn_region_lit (QA hd l (fun o E=>by obtain⟨i,I,e⟩:=List.getElem_of_mem E; exact⟨i,by simp[I,e]⟩) a w h)
structure Al (n₀ Bs:Nat) (W W':Cc):Prop where
 others:KeepsOthers W W'
 kd:KD n₀ Bs W W'
theorem Al.refl (n₀ Bs:Nat) (W:Cc):Al n₀ Bs W W:=⟨KeepsOthers.refl _,KD.refl _ _ _⟩
theorem Al.trans {A B C:Cc} (h:Al n₀ Bs A B) (k:Al n₀ Bs B C):Al n₀ Bs A C:=⟨h.others.trans k.others,h.kd.trans k.kd⟩
theorem Al.ae (h:zf W W') (h0:n₀<=W.heap.size) (I:Bs<W.heap.size):Al n₀ Bs W W':=
 ⟨⟨h.size,fun k o E _=>(h.block k (Array.getElem?_eq_some_iff.1 E).1).trans E⟩,⟨h.mono h0,h.block Bs I⟩⟩
theorem Al.row {t:Ce} {old cs:Array Cd} (h:bD g t old cs W W') (h0:n₀<=g) (M:Bs≠g):Al n₀ Bs W W':=by
 have I:=h.only;have J:=h.was;refine⟨⟨Nat.le_of_eq I.1.symm,fun k o E hc=>(I.2 k ?_).trans E⟩,⟨h.below (Below.refl _ _) h0,I.2 Bs M⟩⟩;rintro rfl;unfold ai at J;rw[J]at E
 injection E with E
 subst E
 cases hc
theorem Al.set {i:Nat} {u:Cd} (h0:n₀<=g) (E:Bs≠g):Al n₀ Bs W (W.setCell ⟨g,i,none⟩ u):=
 ⟨KeepsOthers.setCell _ _ _,⟨(Below.refl _ _).setCell (p:=⟨g,i,none⟩) h0 _,Below.heap_setCell _ _ _ _ E⟩⟩
theorem Al.alloc (o:Obj) (h0:n₀<=W.heap.size) (E:Bs<W.heap.size):Al n₀ Bs W (W.alloc o):=Al.ae ((Below.refl _ _).alloc (Cl _) _) h0 E
theorem Al.drewN (m:Nat):Al n₀ Bs W (W.drewN m):=⟨⟨Cl _,fun _ _ h _=>h⟩,⟨⟨rfl,rfl,rfl,Cl _,fun _ _=>rfl⟩,rfl⟩⟩
end Go.Proofs.YtffmbepfbienaaaGreat
/- Quads, and lists of quads, as arguments. -/
namespace Go.Proofs.YtffmbepfbienaaaGreat
open Go.ChangeShapes Go.WideShapes Go.ChangeAt Go.RowKit Go.Joins
def Bo (cs:Array Cd) (la lb:Nat->Nat):Prop:=∀i,i<4->(∃a c,cs[4+i*4+1]? = some (Cq a (la i) c))/\∃a c,cs[4+i*4+3]? = some (Cq a (lb i) c)
def Bp (r:Nat->Option Rat) (la lb:Nat->Nat):Prop:=∀i,i<4->∀q,r i=some q->zh q.num<=bp (la i)/\(q.den:Int)<=bp (lb i)
section
variable {H:Type} {enc:Ce×Cd->H} {W:Cc} {a9:Nat} {ah:Bool} {n:Nat}
def f4 {α : Type} (a b c d : α) (i:Nat) : α:=match i with | 0=>a | 1=>b | 2=>c | _=>d
end
end Go.Proofs.YtffmbepfbienaaaGreat
/- A drawn region in a round of a range Xb a function, by XSk's laws Xb a list of entries. -/
namespace Go.Proofs.YtffmbepfbienaaaGreat
open Go.RowKit
variable {Q:Exit->Act->Cc->Prop} {P:Program} {w:Cc}
theorem aj.dX {ops:Array Oper} {l n id:Nat} {a9:Act} (N w0:Cc) (L:List aF) (cs:List Nat) (M:List (Nat×(Cd->Prop))) (J:List (Nat×(Cd->Cc->Prop))) (X:List (Nat×List (Nat×Option Tmp))) (qs:List (Nat×List Nat))
  (hi:Below N.heap.size N w.drew/\av w0 w.drew/\aX w.drew L)
  (h:∀Y,Hid (Y=w.heap.size)->∀E Z,E=ops->(∀a W,Q .normal a W->Z .normal a W)->aj.RC P E Z (SJ N w0 Y L) (aj.inl cs) (aj.gv M) (gw J) (fun _=>av) (fun _ _=>False) (aj.pl X) (aj.pl qs) 0 ops.toList a9)
  (hv:∀p∈M,∃x,p.2 x) (hg:∀p∈J,∀x W W',av W W'->p.2 x W->p.2 x W') (hd:jh ops=true:=by kernel_rfl) (hm:P.follows .mixedOrders=true:=by kernel_rfl) (ht:aj.tidy ops a9.tmps.size=true:=by kernel_rfl) (I:aj.cS ops (aj.inl cs) (aj.pl X) (aj.pl qs)=true:=by kernel_rfl) :
  (Code.region id ops true).wpIn (Fence.wide.inRound l) n P Q a9 w:=
 qz (SJ N w0 w.heap.size L) (aj.inl cs) (aj.gv M) (gw J) (fun _=>av) (fun _ _=>False) (aj.pl X) (aj.pl qs) hd hm ht I (aj.bk M hv) (fun v=>SJ.start hi v) (fun _ _ _ _ T hj=>hj.vv T) (fun _ _ _ _ _ _ _ _ _ _ _ hk hx=>qW J hg hk hx) (fun _ _ _ _ h=>h.elim) (h _ (C5 rfl))
theorem QB {o:Oper} {a:Act} {K:Act->Cc->Prop} (t:Ce) (parts:Array (Nat×Operand)) (E:o.op = .build t parts) (v:Array Cd) (hv:P.built t (parts.map fun(i,x)=>(i,a.eval x)).toList=some v)
  (h:K (a.put o.dst (Cy v)) w):o.wp P a w K Q:=wp_build t parts E (by rw[hv]; rfl) (by rw[hv]; exact h)
end Go.Proofs.YtffmbepfbienaaaGreat
/- A range Xb a function whose iterator has a variable of its own in memory, which it writes between G9 rounds. -/
namespace Go.Proofs.YtffmbepfbienaaaGreat
section
open Go.RowKit
structure Calm {α : Type} (G:Nat) (J:List α->Cc->Prop):Prop where
 al:∀{xs A} (o:Obj),(A.heap.size=G->∃cs t,o = .cells cs t/\zL cs=true)->J xs A->J xs (A.alloc o)
 dr:∀{xs A} (m:Nat),J xs A->J xs (A.drewN m)
 st:∀{xs A} (i:Nat) (x:Int),J xs A->J xs (A.setCell ⟨G,i,none⟩ (Cz Cv x))
def Ju {α : Type} (F:Fence) (m:Nat) (P:Program) (gf:Nat) (lb:Array Cd) (encs : α->Array Cd) (Kp:Cc->Cc->Prop) (S:List α->Prop) (El:List α->α->Prop) (G:Nat) (Pr:Cc->Prop):Prop:=
 ∀ (l:Nat) (J:List α->Cc->Prop) (A:Cc),Pr A->A.heap.size=G->Calm G J->
  (∀pre x B,J pre B->El pre x->G<B.heap.size->YieldAt F (m-1) P l (encs x) B fun e C=>e = Cg (Cx true)/\J (pre ++ [x]) C/\Kp B C)->
  J [] A->CallsIn F m P gf (#[.func (.yield l) #[] #[]]++lb) A fun e C=>(∃v,e = Cg v)/\∃xs,S xs/\J xs C
section
variable {α : Type} {P:Program} {F:Fence} {n:Nat}
theorem QS {g:Operand} {ps:Array Tmp} {assign body:Code} {Q:Exit->Act->Cc->Prop} {a:Act} {w:Cc}
  (dx:F.round=none) (h1:1<=n) {gf:Nat} {lb:Array Cd} (hg:a.eval g = .func (.func gf) #[] lb) (dl:F.fn gf) (eg:∀args w,(callFunc gf args).run P w = .ok (.enter gf args) w)
  {encs : α->Array Cd} {Kp:Cc->Cc->Prop} {S:List α->Prop} {El:List α->α->Prop} {Pr:Cc->Prop} (bl:Ju F (n-1) P gf lb encs Kp S El (w.heap.size+2) Pr) (ce:∀o o',Pr ((w.alloc o).alloc o')) (cN:∀x,(encs x).size=ps.size)
  (bf:∀{A B C:Cc},Kp A B->Kp B C->Kp A C) (bq:∀ (A:Cc) (o o':Obj),A.heap[w.heap.size+1]? = some o->o.isCells=false->Kp A (A.putObj (w.heap.size+1) o'))
  (I:List α->Cc->Prop) (hI:Calm (w.heap.size+2) I) (b9:∀xs A (o o':Obj),I xs A->A.heap[w.heap.size+1]? = some o->o.isCells=false->I xs (A.putObj (w.heap.size+1) o'))
  (h0:I [] w) (Ax : α->Act->Cc->Prop) (ci:∀x X A (o o':Obj),Ax x X A->A.heap[w.heap.size+1]? = some o->o.isCells=false->Ax x X (A.putObj (w.heap.size+1) o'))
  (N:∀ (pre:List α) (x : α) (A:Cc) (K:Act->Cc->Prop),I pre A->w.heap.size+2<A.heap.size->(∀X Y,KeepsOthers A Y->Kp A Y->I pre Y->Ax x X Y->K X Y)->
   assign.wpIn (F.inRound (w.heap.size+1)) (n-1-1) P (Exit.then K (fun _ _ _=>False)) { tmps:=(ps.zip (encs x)).foldl (fun t (p,v)=>t.setIfInBounds p v) a.tmps,defers:= [] } A)
  (Z:∀ (pre:List α) (x : α) (X:Act) (A:Cc),(∃r,A.heap[w.heap.size+1]? = some (.loop r))->I pre A->Ax x X A->El pre x->w.heap.size+2<A.heap.size->
   body.wpIn (F.inRound (w.heap.size+1)) (n-1-1) P (ownPostG w.heap.size Kp I (fun _ _ _=>False) (pre ++ [x]) A) X A)
  (be:∀ (D:Nat) (xs:List α) (A:Cc),w.heap.size<=D->S xs->I xs A->A.heap[D]? = some (.deferred (some []))->Q .normal { a with defers:={ target:= .collected D,args:=#[] } :: a.defers } A) :
  (Code.rangeFunc g ps assign body).wpIn F n P Q a w:=by
 refine wpIn_rangeFunc fun fn br=> ?_;rw[dx]
 -- the loop's record in its states
 obtain⟨J,E⟩:∃J:LoopState->Option Code->Loop,∀s p,J s p = { state:=s,pending:=p,fn:=fn,tmps:=a.tmps,params:=ps,assign:=assign,body:=body,defers:=w.heap.size }:=⟨_,fun _ _=>rfl⟩
 let D:=w.heap.size
 let L:=w.heap.size+1
 have hL:L=w.heap.size+1:=rfl
 let Ok:Cc->Prop:=fun A=>A.heap[L]? = some (.loop (J .ready none))/\A.heap[D]? = some (.deferred (some []))
 let W:=(w.alloc (.deferred (some []))).alloc (.loop (J .ready none))
 have dk:W.heap.size=w.heap.size+2:=by simp[W]
 have cg:Ok W:=by
  constructor
  .
   have:=World.alloc_heap_new (w.alloc (.deferred (some []))) (.loop (J .ready none))
   rwa[World.size_alloc]at this
  . exact(Below.heap_alloc _ _ _ (by simp[D])).trans (World.alloc_heap_new w _)
 have T:∀{A B:Cc},KeepsOthers A B->Ok A->Ok B:=fun k h=>⟨k.same _ _ h.1 rfl,k.same _ _ h.2 rfl⟩
 have bh:Calm (w.heap.size+2) (fun pre A=>I pre A/\Ok A):=
  ⟨fun o ho h=>⟨hI.al o ho h.1,T (KeepsOthers.alloc _ o) h.2⟩,fun m h=>⟨hI.dr m h.1,h.2⟩,fun i v h=>⟨hI.st i v h.1,T (KeepsOthers.setCell _ _ _) h.2⟩⟩
 refine⟨L,[{ target:= .collected D,args:=#[] }],W,{ target:= .fn (.func gf) lb,args:=#[.func (.yield L) #[] #[]] },W,gf,#[.func (.yield L) #[] #[]]++lb,W,?_,?_,?_,?_,fun _=>h1,?_⟩
 .
  show _=Result.ok _ ((w.alloc _).alloc (.loop (J .ready none)))
  rw[E]; exact run_enterLoop_outer _ _ _ _ _
 . simp only[resolve,hg]; simp[go_sem]
 . intro f' bg; simp[Target.leads]at bg; subst bg; exact dl
 . simp[invoke,go_sem,eg]
 refine(bl L (fun pre A=>I pre A/\Ok A) W (ce _ _) dk bh ?_ ⟨hI.al _ (fun h=>by rw[World.size_alloc]at h; omega) (hI.al _ (fun h=>by omega) h0),cg⟩).mono ?_
 .
  rintro pre x B ⟨hi,hb⟩ bi cy;have hy:=run_yield (P:=P) (args:=encs x) hb.1 (by rw[E]; exact cN x);rw[E]at hy;refine⟨fn,_,assign,body,hy,roundIn_of_wpIn br (N pre x B _ hi cy fun X Y ko kp dd d9=> ?_)⟩;have M:=T ko hb;have cx:L<Y.heap.size:=(Array.getElem?_eq_some_iff.1 M.1).1;refine⟨_,run_beginRound M.1 (by rw[E]),?_⟩;generalize hbusy : { J .ready none with state:=LoopState.busy } = busy;have e2:(Y.putObj L (.loop busy)).heap[L]? = some (.loop busy):=World.putObj_heap_same cx;have e3:(Y.putObj L (.loop busy)).heap[D]? = some (.deferred (some [])):=(World.putObj_heap_other (show D≠L by omega)).trans M.2;refine wpIn_mono (Z pre x X _ ⟨_,e2⟩ (b9 _ _ _ _ dd M.1 rfl) (ci _ _ _ _ _ d9 M.1 rfl) bi (by have h3:=ko.size; have h4:=(grownBy_putObj' Y L (.loop busy)).size; omega)) ?_;rintro e a3 C hp
  cases e with
  | normal=>
   obtain⟨k3,dc,i3⟩:=hp;have e4:C.heap[L]? = some (.loop busy):=k3.same _ _ (show w.heap.size<=L by omega) e2 rfl;have e5:C.heap[D]? = some (.deferred (some [])):=k3.same _ _ (Cl _) e3 rfl;have cY:L<C.heap.size:=(Array.getElem?_eq_some_iff.1 e4).1;have hr:=run_endRound (P:=P) none e4;have bt : { busy with state:=if(none:Option Code).isNone then LoopState.ready else .done,pending:=none } = J .ready none:=by rw[<- hbusy,E]; rfl
   rw[bt]at hr;exact⟨_,_,hr,rfl,⟨b9 _ _ _ _ i3 e4 rfl,World.putObj_heap_same cY,(World.putObj_heap_other (show D≠L by omega)).trans e5⟩,bf kp (bf (bf (bq _ _ _ M.1 rfl) dc) (bq _ _ _ e4 rfl))⟩
  | ret=>exact hp.2.elim
  | exit id=>exact hp.2.elim
  | goto t=>exact hp.2.elim
  | panic ch=>exact hp.elim
  | outgrown=>exact hp.elim
 .
  rintro e C ⟨⟨v,rfl⟩,xs,hS,hi,hc⟩;have hr:=run_endLoop (P:=P) hc.1 (by rw[E]; simp);rw[show (J LoopState.ready none).pending=none by rw[E]]at hr;exact⟨none,_,hr,be D xs _ (Cl _) hS (b9 _ _ _ _ hi hc.1 rfl) ((World.putObj_heap_other (show D≠L by omega)).trans hc.2)⟩
end
end
section
open Go.RowKit Go.Shelf
attribute [local go_sem] Oper.semAt_some
def QT (x:P4):Cd:= Cy #[Cz Cv (x.1:Nat),Cz Cv (x.2.1:Nat),Cz Cv (x.2.2.1:Nat),Cz Cv (x.2.2.2:Nat)]
def QU (x:P4):Array Cd:=#[QT x]
def KF (Bs G:Nat) (A B:Cc):Prop:=B.heap[Bs]? = A.heap[Bs]?/\B.heap[G]? = A.heap[G]?
def rk (w:Cc) (g:Nat):Nat:=
 512*(intOf ((w.cell? ⟨g,0,none⟩).getD Cf)).toNat+64*(intOf ((w.cell? ⟨g,1,none⟩).getD Cf)).toNat+8*(intOf ((w.cell? ⟨g,2,none⟩).getD Cf)).toNat+(intOf ((w.cell? ⟨g,3,none⟩).getD Cf)).toNat
theorem XU {w:Cc} {g:Nat} {t:Ce} {a b c d:Int} (h:ai w g t #[Cz Cv a,Cz Cv b,Cz Cv c,Cz Cv d]):rk w g=512*a.toNat+64*b.toNat+8*c.toNat+d.toNat:=by
 unfold rk;have J:w.cell? ⟨g,0,none⟩=_:=h.c 0 rfl;have E:w.cell? ⟨g,1,none⟩=_:=h.c 1 rfl;have M:w.cell? ⟨g,2,none⟩=_:=h.c 2 rfl;have I:w.cell? ⟨g,3,none⟩=_:=h.c 3 rfl;rw[J,E,M,I]; rfl
theorem Vx (F:Fence) (n:Nat) (I:F.fn 106) (E:F.round=none) (x:Int) (w:Cc) :
  CallsIn F n Ch 106 #[Cz Cv x] w fun e w'=>e = Cg (.func (.func 141) #[] #[Cj (some ⟨w.heap.size,0,none⟩)])/\w'=w.alloc (.cells #[Cz Cv x] 3):=by
 refine callsIn_of_wp Tryz.func106 rfl I ?_ E;simp only[Tryz.ntmps106,List.size_toArray,List.length_cons,List.length_nil,Nat.reduceAdd,Nat.reduceSub,Array.replicate_succ,Array.replicate_zero,List.push_toArray,List.append_toArray,List.nil_append,List.cons_append]
 gi_wp2
 go_ret
 exact⟨rfl,rfl⟩
theorem XV (m Bs G n:Nat) (hn:n<=7) (dx:Bs<G) :
  Ju Fence.wide m Ch 141 #[Cj (some ⟨Bs,0,none⟩)] QU (KF Bs G) (fun xs=>xs=yh n) (fun pre x=>ZI n x=true/\pre.length<36/\pre=(yh n).take pre.length) G (fun A=>ai A Bs 3 #[Cz Cv (n:Nat)]):=by
 intro l J W0 cy hG hC hY h0;obtain⟨N,hN⟩:∃N:Int,(n:Int)=N:=⟨_,rfl⟩;rw[hN]at cy;obtain⟨dl,ci,dk⟩:=Jq n hn;have HI:=C5 ci;clear ci;have d9:Fence.wide.round=none:=rfl;have b9:wrap64 (N-4)=N-4:=by unfold wrap64; omega
 obtain⟨n4,cY⟩:∃x,N-4=x:=⟨_,rfl⟩;rw[cY]at b9;have bg:wrap64 (n4+3)=n4+3:=by unfold wrap64; omega
 have br:wrap64 (n4+2)=n4+2:=by unfold wrap64; omega
 have cx:wrap64 (n4+1)=n4+1:=by unfold wrap64; omega
 refine callsIn_of_wp Tryz.func141 rfl trivial ?_ d9;simp only[Tryz.ntmps141,List.size_toArray,List.length_cons,List.length_nil,Nat.reduceAdd,Nat.reduceSub,Array.replicate_succ,Array.replicate_zero,List.push_toArray,List.append_toArray,List.nil_append,List.cons_append]
 gi_wp2
 gi_loopw [4] (fun _ wr=>∃i:Nat,i<=(yh n).length/\J ((yh n).take i) wr/\ai wr G 80 #[Cz Cv ((YX n i).1:Nat),Cz Cv ((YX n i).2.1:Nat),Cz Cv ((YX n i).2.2.1:Nat),Cz Cv ((YX n i).2.2.2:Nat)]/\ai wr Bs 3 #[Cz Cv N])
  (fun _ wr=>10000-rk wr G)
 case atStart=>
  refine⟨0,Nat.zero_le _,?_,?_,?_⟩
  .
   rw[List.take_zero];exact hC.al _ (fun _=>⟨_,_,rfl,rfl⟩) h0
  . subst hG; exact(show ai _ _ _ #[Cz Cv 0,Cz Cv 1,Cz Cv 2,Cz Cv 3] from zw)
  . exact zw
 case round=>
  obtain⟨i,hi,hJ,X,Z⟩:=hrel;have cN:Cn wr ⟨Bs,0,none⟩=_:=Z.c 0 rfl;have c3:Cn wr ⟨G,3,none⟩=_:=X.c 3 rfl
  rcases Cm i (yh n).length with bi | bi
  .
   have g4:=kW (HI.out i bi).2;have bq:=(HI.out i bi).1;have HT:Hid ((yh n).take (i+1)=(yh n).take i ++ [YX n i]):=C5 (by rw[List.take_add_one,bq]; rfl);have HX:Hid (YX n (i+1)=Qx n (YX n i)):=C5 rfl;have bl:((yh n).take i).length<36:=by rw[List.length_take]; omega
   obtain⟨fn,tmps,assign,body,hy,hR⟩:=hY _ (YX n i) wr hJ ⟨(HI.out i bi).2,bl,by rw[List.length_take,Nat.min_eq_left hi]⟩ X.lt;unfold QU QT at hy;have cg:decide (((YX n i).2.2.2:Int)<N)=true:=C9 B_;have c0:Cn wr ⟨G,0,none⟩=_:=X.c 0 rfl;have c1:Cn wr ⟨G,1,none⟩=_:=X.c 1 rfl;have c2:Cn wr ⟨G,2,none⟩=_:=X.c 2 rfl;obtain⟨a,ha⟩:∃a,(YX n i).1=a:=⟨_,rfl⟩;obtain⟨b,hb⟩:∃a,(YX n i).2.1=a:=⟨_,rfl⟩;obtain⟨c,hc⟩:∃a,(YX n i).2.2.1=a:=⟨_,rfl⟩;obtain⟨d,hd⟩:∃a,(YX n i).2.2.2=a:=⟨_,rfl⟩;rw[ha,hb,hc,hd]at hy X g4;rw[ha]at c0;rw[hb]at c1;rw[hc]at c2;rw[hd]at c3 cg;have bh:Hid (YX n (i+1)=Qx n (a,b,c,d)):=C5 (by rw[HX.out,<- ha,<- hb,<- hc,<- hd]);clear ha hb hc hd bq HX bl
   gi_wp2
   refine⟨fun h=>(by cases h),hR.mono ?_⟩;rintro e w0 ⟨rfl,bt,kp⟩;have R0:Hid (rk wr G=512*a+64*b+8*c+d):=C5 (XU X);have X:=(show ai w0 G _ _ from kp.2.trans X);have Z:=(show ai w0 Bs _ _ from kp.1.trans Z);rw[<- HT.out]at bt;have HJ:=bt;clear hJ bt hR hy kp c0 c1 c2 c3 cN;obtain⟨A,hA⟩:∃x:Int,(a:Int)=x:=⟨_,rfl⟩;obtain⟨B,hB⟩:∃x:Int,(b:Int)=x:=⟨_,rfl⟩;obtain⟨C,dc⟩:∃x:Int,(c:Int)=x:=⟨_,rfl⟩;obtain⟨D,hD⟩:∃x:Int,(d:Int)=x:=⟨_,rfl⟩;rw[hA,hB,dc,hD]at X;have hJ:=HJ;clear HJ
   by_cases g3:d+1<n
   .
    have t3:(D==n4+3)=false:=by simpa using (show D≠n4+3 by omega)
    obtain⟨P0,be⟩:∃x,D+1=x:=⟨_,rfl⟩;have s0:wrap64 (D+1)=P0:=by rw[be]; unfold wrap64; omega
    gi_wp2_with fail
    refine wpIn_loop_rounds 5 ?_;rw[roundsIn_succ]
    gi_upto_region 4 with fail
    refine wpIn_wide.2 ?_
    refine aj.aM (fun D v W=>∃m,W=w0.drewN m) (aj.inl []) (aj.gv []) aj.aU (fun _=>aj.Any) (fun _ _=>False) (aj.pl []) (aj.pl [])
     B' B' B' (aj.dK _) (fun _=>⟨1,rfl⟩) (fun _ _ _ _ _ h=>h) (fun _ _ _ _ _ _ _ _ _ _ _ _ _=>aj.none_) (fun _ _ _ _ h=>h.elim) (fun Y Q' E hQ=> ?_)
    repeat refine aj.aK _ ?_
    refine aj.cJ E 18 ?_;refine aj.cJ E 19 ?_;apply aj.RP rfl rfl (by rw[E]; rfl) 20 rfl rfl
    .
     intro D v W hc M T K' I;obtain⟨m,rfl⟩:=M;have c0:Cn _ ⟨G,3,none⟩=_:=(X.drewN m).c 3 rfl;go_step;exact I.out
    . rfl
    apply aj.RP rfl rfl (by rw[E]; rfl) 21 rfl rfl
    .
     intro D v W hc M T K' I;obtain⟨m,rfl⟩:=M;have c0:Cn _ ⟨Bs,0,none⟩=_:=(Z.drewN m).c 0 rfl;go_step;exact I.out
    . rfl
    apply aj.RP rfl rfl (by rw[E]; rfl) 22 rfl rfl
    .
     intro D v W hc M T K' I;go_step
     try rw[b9]
     exact I.out
    . rfl
    refine aj.cJ E 23 ?_;apply aj.RP rfl rfl (by rw[E]; rfl) 24 rfl rfl
    .
     intro D v W hc M T K' I;go_step
     try rw[bg]
     exact I.out
    . rfl
    apply aj.RP rfl rfl (by rw[E]; rfl) 25 rfl rfl
    .
     intro D v W hc M T K' I;go_step
     try rw[t3]
     exact I.out
    . rfl
    refine aj.aK 26 ?_;refine aj.aH (fun D v w9 hd M T=> ?_);obtain⟨m,rfl⟩:=M;clear hd T;refine hQ _ _ ?_;clear hQ E Q' Y;have X:=X.drewN m;have Z:=Z.drewN m;have hJ:=hC.dr m hJ;generalize hw_:w0.drewN m=w1 at *;clear hw_;have c0:Cn w1 ⟨G,0,none⟩=_:=X.c 0 rfl;have c1:Cn w1 ⟨G,1,none⟩=_:=X.c 1 rfl;have c2:Cn w1 ⟨G,2,none⟩=_:=X.c 2 rfl;have c3:Cn w1 ⟨G,3,none⟩=_:=X.c 3 rfl;have fG:=X.fr;have lG:=X.lt
    gi_wp2_with fail
    refine wpIn_loop_rounds 5 ?_;rw[roundsIn_succ]
    gi_wp2
    go_roundw
    case rel=>
     refine⟨i+1,by omega,(hC.st _ _ hJ),?_,zw⟩;rw[bh.out];unfold Qx;dsimp only;rw[C7 g3];dsimp only;rw[show ((a:Nat):Int)=A by omega];rw[show ((b:Nat):Int)=B by omega];rw[show ((c:Nat):Int)=C by omega];rw[show ((d+1:Nat):Int)=P0 by omega];exact kX
    case measure=>
     have R1:rk (w1.setCell ⟨G,3,none⟩ (Cz Cv P0)) G=_:=XU (t:=80) (a:=A) (b:=B) (c:=C) (d:=P0) kX;have R2:=R0.out;omega
   by_cases g2:c+2<n
   .
    have t3:(D==n4+3)=true:=by simpa using (show D=n4+3 by omega)
    have t2:(C==n4+2)=false:=by simpa using (show C≠n4+2 by omega)
    obtain⟨P0,be⟩:∃x,C+1=x:=⟨_,rfl⟩;have s0:wrap64 (C+1)=P0:=by rw[be]; unfold wrap64; omega
    obtain⟨P1,bf⟩:∃x,P0+1=x:=⟨_,rfl⟩;have s1:wrap64 (P0+1)=P1:=by rw[bf]; unfold wrap64; omega
    gi_wp2_with fail
    refine wpIn_loop_rounds 5 ?_;rw[roundsIn_succ]
    gi_upto_region 4 with fail
    refine wpIn_wide.2 ?_
    refine aj.aM (fun D v W=>∃m,W=w0.drewN m) (aj.inl []) (aj.gv []) aj.aU (fun _=>aj.Any) (fun _ _=>False) (aj.pl []) (aj.pl [])
     B' B' B' (aj.dK _) (fun _=>⟨1,rfl⟩) (fun _ _ _ _ _ h=>h) (fun _ _ _ _ _ _ _ _ _ _ _ _ _=>aj.none_) (fun _ _ _ _ h=>h.elim) (fun Y Q' E hQ=> ?_)
    repeat refine aj.aK _ ?_
    refine aj.cJ E 18 ?_;refine aj.cJ E 19 ?_;apply aj.RP rfl rfl (by rw[E]; rfl) 20 rfl rfl
    .
     intro D v W hc M T K' I;obtain⟨m,rfl⟩:=M;have c0:Cn _ ⟨G,3,none⟩=_:=(X.drewN m).c 3 rfl;go_step;exact I.out
    . rfl
    apply aj.RP rfl rfl (by rw[E]; rfl) 21 rfl rfl
    .
     intro D v W hc M T K' I;obtain⟨m,rfl⟩:=M;have c0:Cn _ ⟨Bs,0,none⟩=_:=(Z.drewN m).c 0 rfl;go_step;exact I.out
    . rfl
    apply aj.RP rfl rfl (by rw[E]; rfl) 22 rfl rfl
    .
     intro D v W hc M T K' I;go_step
     try rw[b9]
     exact I.out
    . rfl
    refine aj.cJ E 23 ?_;apply aj.RP rfl rfl (by rw[E]; rfl) 24 rfl rfl
    .
     intro D v W hc M T K' I;go_step
     try rw[bg]
     exact I.out
    . rfl
    apply aj.RP rfl rfl (by rw[E]; rfl) 25 rfl rfl
    .
     intro D v W hc M T K' I;go_step
     try rw[t3]
     exact I.out
    . rfl
    refine aj.aK 26 ?_;refine aj.aH (fun D v w9 hd M T=> ?_);obtain⟨m,rfl⟩:=M;clear hd T;refine hQ _ _ ?_;clear hQ E Q' Y;have X:=X.drewN m;have Z:=Z.drewN m;have hJ:=hC.dr m hJ;generalize hw_:w0.drewN m=w1 at *;clear hw_
    gi_wp2_with fail
    rw[roundsIn_succ]
    gi_upto_region 4 with fail
    refine wpIn_wide.2 ?_
    refine aj.aM (fun D v W=>∃m,W=w1.drewN m) (aj.inl []) (aj.gv []) aj.aU (fun _=>aj.Any) (fun _ _=>False) (aj.pl []) (aj.pl [])
     B' B' B' (aj.dK _) (fun _=>⟨1,rfl⟩) (fun _ _ _ _ _ h=>h) (fun _ _ _ _ _ _ _ _ _ _ _ _ _=>aj.none_) (fun _ _ _ _ h=>h.elim) (fun Y Q' E hQ=> ?_)
    repeat refine aj.aK _ ?_
    refine aj.cJ E 18 ?_;refine aj.cJ E 19 ?_;apply aj.RP rfl rfl (by rw[E]; rfl) 20 rfl rfl
    .
     intro D v W hc M T K' I;obtain⟨m,rfl⟩:=M;have c0:Cn _ ⟨G,2,none⟩=_:=(X.drewN m).c 2 rfl;go_step;exact I.out
    . rfl
    apply aj.RP rfl rfl (by rw[E]; rfl) 21 rfl rfl
    .
     intro D v W hc M T K' I;obtain⟨m,rfl⟩:=M;have c0:Cn _ ⟨Bs,0,none⟩=_:=(Z.drewN m).c 0 rfl;go_step;exact I.out
    . rfl
    apply aj.RP rfl rfl (by rw[E]; rfl) 22 rfl rfl
    .
     intro D v W hc M T K' I;go_step
     try rw[b9]
     exact I.out
    . rfl
    refine aj.cJ E 23 ?_;apply aj.RP rfl rfl (by rw[E]; rfl) 24 rfl rfl
    .
     intro D v W hc M T K' I;go_step
     try rw[br]
     exact I.out
    . rfl
    apply aj.RP rfl rfl (by rw[E]; rfl) 25 rfl rfl
    .
     intro D v W hc M T K' I;go_step
     try rw[t2]
     exact I.out
    . rfl
    refine aj.aK 26 ?_;refine aj.aH (fun D v w9 hd M T=> ?_);obtain⟨m,rfl⟩:=M;clear hd T;refine hQ _ _ ?_;clear hQ E Q' Y;have X:=X.drewN m;have Z:=Z.drewN m;have hJ:=hC.dr m hJ;generalize hw_:w1.drewN m=w2 at *;clear hw_;have c0:Cn w2 ⟨G,0,none⟩=_:=X.c 0 rfl;have c1:Cn w2 ⟨G,1,none⟩=_:=X.c 1 rfl;have c2:Cn w2 ⟨G,2,none⟩=_:=X.c 2 rfl;have c3:Cn w2 ⟨G,3,none⟩=_:=X.c 3 rfl;have fG:=X.fr;have lG:=X.lt
    gi_wp2_with fail
    refine wpIn_loop_rounds 5 ?_;rw[roundsIn_succ]
    gi_wp2_with fail
    rw[roundsIn_succ]
    gi_wp2
    go_roundw
    case rel=>
     refine⟨i+1,by omega,(hC.st _ _ (hC.st _ _ hJ)),?_,zw⟩;rw[bh.out];unfold Qx;dsimp only;rw[C8 g3,C7 g2];dsimp only;rw[show ((a:Nat):Int)=A by omega];rw[show ((b:Nat):Int)=B by omega];rw[show ((c+1:Nat):Int)=P0 by omega];rw[show ((c+2:Nat):Int)=P1 by omega];exact kX
    case measure=>
     have R1:rk ((w2.setCell ⟨G,2,none⟩ (Cz Cv P0)).setCell ⟨G,3,none⟩ (Cz Cv P1)) G=_:=XU (t:=80) (a:=A) (b:=B) (c:=P0) (d:=P1) kX;have R2:=R0.out;omega
   by_cases g1:b+3<n
   .
    have t3:(D==n4+3)=true:=by simpa using (show D=n4+3 by omega)
    have t2:(C==n4+2)=true:=by simpa using (show C=n4+2 by omega)
    have t1:(B==n4+1)=false:=by simpa using (show B≠n4+1 by omega)
    obtain⟨P0,be⟩:∃x,B+1=x:=⟨_,rfl⟩;have s0:wrap64 (B+1)=P0:=by rw[be]; unfold wrap64; omega
    obtain⟨P1,bf⟩:∃x,P0+1=x:=⟨_,rfl⟩;have s1:wrap64 (P0+1)=P1:=by rw[bf]; unfold wrap64; omega
    obtain⟨P2,ce⟩:∃x,P1+1=x:=⟨_,rfl⟩;have s2:wrap64 (P1+1)=P2:=by rw[ce]; unfold wrap64; omega
    gi_wp2_with fail
    refine wpIn_loop_rounds 5 ?_;rw[roundsIn_succ]
    gi_upto_region 4 with fail
    refine wpIn_wide.2 ?_
    refine aj.aM (fun D v W=>∃m,W=w0.drewN m) (aj.inl []) (aj.gv []) aj.aU (fun _=>aj.Any) (fun _ _=>False) (aj.pl []) (aj.pl [])
     B' B' B' (aj.dK _) (fun _=>⟨1,rfl⟩) (fun _ _ _ _ _ h=>h) (fun _ _ _ _ _ _ _ _ _ _ _ _ _=>aj.none_) (fun _ _ _ _ h=>h.elim) (fun Y Q' E hQ=> ?_)
    repeat refine aj.aK _ ?_
    refine aj.cJ E 18 ?_;refine aj.cJ E 19 ?_;apply aj.RP rfl rfl (by rw[E]; rfl) 20 rfl rfl
    .
     intro D v W hc M T K' I;obtain⟨m,rfl⟩:=M;have c0:Cn _ ⟨G,3,none⟩=_:=(X.drewN m).c 3 rfl;go_step;exact I.out
    . rfl
    apply aj.RP rfl rfl (by rw[E]; rfl) 21 rfl rfl
    .
     intro D v W hc M T K' I;obtain⟨m,rfl⟩:=M;have c0:Cn _ ⟨Bs,0,none⟩=_:=(Z.drewN m).c 0 rfl;go_step;exact I.out
    . rfl
    apply aj.RP rfl rfl (by rw[E]; rfl) 22 rfl rfl
    .
     intro D v W hc M T K' I;go_step
     try rw[b9]
     exact I.out
    . rfl
    refine aj.cJ E 23 ?_;apply aj.RP rfl rfl (by rw[E]; rfl) 24 rfl rfl
    .
     intro D v W hc M T K' I;go_step
     try rw[bg]
     exact I.out
    . rfl
    apply aj.RP rfl rfl (by rw[E]; rfl) 25 rfl rfl
    .
     intro D v W hc M T K' I;go_step
     try rw[t3]
     exact I.out
    . rfl
    refine aj.aK 26 ?_;refine aj.aH (fun D v w9 hd M T=> ?_);obtain⟨m,rfl⟩:=M;clear hd T;refine hQ _ _ ?_;clear hQ E Q' Y;have X:=X.drewN m;have Z:=Z.drewN m;have hJ:=hC.dr m hJ;generalize hw_:w0.drewN m=w1 at *;clear hw_
    gi_wp2_with fail
    rw[roundsIn_succ]
    gi_upto_region 4 with fail
    refine wpIn_wide.2 ?_
    refine aj.aM (fun D v W=>∃m,W=w1.drewN m) (aj.inl []) (aj.gv []) aj.aU (fun _=>aj.Any) (fun _ _=>False) (aj.pl []) (aj.pl [])
     B' B' B' (aj.dK _) (fun _=>⟨1,rfl⟩) (fun _ _ _ _ _ h=>h) (fun _ _ _ _ _ _ _ _ _ _ _ _ _=>aj.none_) (fun _ _ _ _ h=>h.elim) (fun Y Q' E hQ=> ?_)
    repeat refine aj.aK _ ?_
    refine aj.cJ E 18 ?_;refine aj.cJ E 19 ?_;apply aj.RP rfl rfl (by rw[E]; rfl) 20 rfl rfl
    .
     intro D v W hc M T K' I;obtain⟨m,rfl⟩:=M;have c0:Cn _ ⟨G,2,none⟩=_:=(X.drewN m).c 2 rfl;go_step;exact I.out
    . rfl
    apply aj.RP rfl rfl (by rw[E]; rfl) 21 rfl rfl
    .
     intro D v W hc M T K' I;obtain⟨m,rfl⟩:=M;have c0:Cn _ ⟨Bs,0,none⟩=_:=(Z.drewN m).c 0 rfl;go_step;exact I.out
    . rfl
    apply aj.RP rfl rfl (by rw[E]; rfl) 22 rfl rfl
    .
     intro D v W hc M T K' I;go_step
     try rw[b9]
     exact I.out
    . rfl
    refine aj.cJ E 23 ?_;apply aj.RP rfl rfl (by rw[E]; rfl) 24 rfl rfl
    .
     intro D v W hc M T K' I;go_step
     try rw[br]
     exact I.out
    . rfl
    apply aj.RP rfl rfl (by rw[E]; rfl) 25 rfl rfl
    .
     intro D v W hc M T K' I;go_step
     try rw[t2]
     exact I.out
    . rfl
    refine aj.aK 26 ?_;refine aj.aH (fun D v w9 hd M T=> ?_);obtain⟨m,rfl⟩:=M;clear hd T;refine hQ _ _ ?_;clear hQ E Q' Y;have X:=X.drewN m;have Z:=Z.drewN m;have hJ:=hC.dr m hJ;generalize hw_:w1.drewN m=w2 at *;clear hw_
    gi_wp2_with fail
    rw[roundsIn_succ]
    gi_upto_region 4 with fail
    refine wpIn_wide.2 ?_
    refine aj.aM (fun D v W=>∃m,W=w2.drewN m) (aj.inl []) (aj.gv []) aj.aU (fun _=>aj.Any) (fun _ _=>False) (aj.pl []) (aj.pl [])
     B' B' B' (aj.dK _) (fun _=>⟨1,rfl⟩) (fun _ _ _ _ _ h=>h) (fun _ _ _ _ _ _ _ _ _ _ _ _ _=>aj.none_) (fun _ _ _ _ h=>h.elim) (fun Y Q' E hQ=> ?_)
    repeat refine aj.aK _ ?_
    refine aj.cJ E 18 ?_;refine aj.cJ E 19 ?_;apply aj.RP rfl rfl (by rw[E]; rfl) 20 rfl rfl
    .
     intro D v W hc M T K' I;obtain⟨m,rfl⟩:=M;have c0:Cn _ ⟨G,1,none⟩=_:=(X.drewN m).c 1 rfl;go_step;exact I.out
    . rfl
    apply aj.RP rfl rfl (by rw[E]; rfl) 21 rfl rfl
    .
     intro D v W hc M T K' I;obtain⟨m,rfl⟩:=M;have c0:Cn _ ⟨Bs,0,none⟩=_:=(Z.drewN m).c 0 rfl;go_step;exact I.out
    . rfl
    apply aj.RP rfl rfl (by rw[E]; rfl) 22 rfl rfl
    .
     intro D v W hc M T K' I;go_step
     try rw[b9]
     exact I.out
    . rfl
    refine aj.cJ E 23 ?_;apply aj.RP rfl rfl (by rw[E]; rfl) 24 rfl rfl
    .
     intro D v W hc M T K' I;go_step
     try rw[cx]
     exact I.out
    . rfl
    apply aj.RP rfl rfl (by rw[E]; rfl) 25 rfl rfl
    .
     intro D v W hc M T K' I;go_step
     try rw[t1]
     exact I.out
    . rfl
    refine aj.aK 26 ?_;refine aj.aH (fun D v w9 hd M T=> ?_);obtain⟨m,rfl⟩:=M;clear hd T;refine hQ _ _ ?_;clear hQ E Q' Y;have X:=X.drewN m;have Z:=Z.drewN m;have hJ:=hC.dr m hJ;generalize hw_:w2.drewN m=w3 at *;clear hw_;have c0:Cn w3 ⟨G,0,none⟩=_:=X.c 0 rfl;have c1:Cn w3 ⟨G,1,none⟩=_:=X.c 1 rfl;have c2:Cn w3 ⟨G,2,none⟩=_:=X.c 2 rfl;have c3:Cn w3 ⟨G,3,none⟩=_:=X.c 3 rfl;have fG:=X.fr;have lG:=X.lt
    gi_wp2_with fail
    refine wpIn_loop_rounds 5 ?_;rw[roundsIn_succ]
    gi_wp2_with fail
    rw[roundsIn_succ]
    gi_wp2_with fail
    rw[roundsIn_succ]
    gi_wp2
    go_roundw
    case rel=>
     refine⟨i+1,by omega,(hC.st _ _ (hC.st _ _ (hC.st _ _ hJ))),?_,zw⟩;rw[bh.out];unfold Qx;dsimp only;rw[C8 g3,C8 g2,C7 g1];dsimp only;rw[show ((a:Nat):Int)=A by omega];rw[show ((b+1:Nat):Int)=P0 by omega];rw[show ((b+2:Nat):Int)=P1 by omega];rw[show ((b+3:Nat):Int)=P2 by omega];exact kX
    case measure=>
     have R1:rk (((w3.setCell ⟨G,1,none⟩ (Cz Cv P0)).setCell ⟨G,2,none⟩ (Cz Cv P1)).setCell ⟨G,3,none⟩ (Cz Cv P2)) G=_:=XU (t:=80) (a:=A) (b:=P0) (c:=P1) (d:=P2) kX;have R2:=R0.out;omega
   have t3:(D==n4+3)=true:=by simpa using (show D=n4+3 by omega)
   have t2:(C==n4+2)=true:=by simpa using (show C=n4+2 by omega)
   have t1:(B==n4+1)=true:=by simpa using (show B=n4+1 by omega)
   obtain⟨P0,be⟩:∃x,A+1=x:=⟨_,rfl⟩;have s0:wrap64 (A+1)=P0:=by rw[be]; unfold wrap64; omega
   obtain⟨P1,bf⟩:∃x,P0+1=x:=⟨_,rfl⟩;have s1:wrap64 (P0+1)=P1:=by rw[bf]; unfold wrap64; omega
   obtain⟨P2,ce⟩:∃x,P1+1=x:=⟨_,rfl⟩;have s2:wrap64 (P1+1)=P2:=by rw[ce]; unfold wrap64; omega
   obtain⟨P3,dd⟩:∃x,P2+1=x:=⟨_,rfl⟩;have s3:wrap64 (P2+1)=P3:=by rw[dd]; unfold wrap64; omega
   gi_wp2_with fail
   refine wpIn_loop_rounds 5 ?_;rw[roundsIn_succ]
   gi_upto_region 4 with fail
   refine wpIn_wide.2 ?_
   refine aj.aM (fun D v W=>∃m,W=w0.drewN m) (aj.inl []) (aj.gv []) aj.aU (fun _=>aj.Any) (fun _ _=>False) (aj.pl []) (aj.pl [])
    B' B' B' (aj.dK _) (fun _=>⟨1,rfl⟩) (fun _ _ _ _ _ h=>h) (fun _ _ _ _ _ _ _ _ _ _ _ _ _=>aj.none_) (fun _ _ _ _ h=>h.elim) (fun Y Q' E hQ=> ?_)
   repeat refine aj.aK _ ?_
   refine aj.cJ E 18 ?_;refine aj.cJ E 19 ?_;apply aj.RP rfl rfl (by rw[E]; rfl) 20 rfl rfl
   .
    intro D v W hc M T K' I;obtain⟨m,rfl⟩:=M;have c0:Cn _ ⟨G,3,none⟩=_:=(X.drewN m).c 3 rfl;go_step;exact I.out
   . rfl
   apply aj.RP rfl rfl (by rw[E]; rfl) 21 rfl rfl
   .
    intro D v W hc M T K' I;obtain⟨m,rfl⟩:=M;have c0:Cn _ ⟨Bs,0,none⟩=_:=(Z.drewN m).c 0 rfl;go_step;exact I.out
   . rfl
   apply aj.RP rfl rfl (by rw[E]; rfl) 22 rfl rfl
   .
    intro D v W hc M T K' I;go_step
    try rw[b9]
    exact I.out
   . rfl
   refine aj.cJ E 23 ?_;apply aj.RP rfl rfl (by rw[E]; rfl) 24 rfl rfl
   .
    intro D v W hc M T K' I;go_step
    try rw[bg]
    exact I.out
   . rfl
   apply aj.RP rfl rfl (by rw[E]; rfl) 25 rfl rfl
   .
    intro D v W hc M T K' I;go_step
    try rw[t3]
    exact I.out
   . rfl
   refine aj.aK 26 ?_;refine aj.aH (fun D v w9 hd M T=> ?_);obtain⟨m,rfl⟩:=M;clear hd T;refine hQ _ _ ?_;clear hQ E Q' Y;have X:=X.drewN m;have Z:=Z.drewN m;have hJ:=hC.dr m hJ;generalize hw_:w0.drewN m=w1 at *;clear hw_
   gi_wp2_with fail
   rw[roundsIn_succ]
   gi_upto_region 4 with fail
   refine wpIn_wide.2 ?_
   refine aj.aM (fun D v W=>∃m,W=w1.drewN m) (aj.inl []) (aj.gv []) aj.aU (fun _=>aj.Any) (fun _ _=>False) (aj.pl []) (aj.pl [])
    B' B' B' (aj.dK _) (fun _=>⟨1,rfl⟩) (fun _ _ _ _ _ h=>h) (fun _ _ _ _ _ _ _ _ _ _ _ _ _=>aj.none_) (fun _ _ _ _ h=>h.elim) (fun Y Q' E hQ=> ?_)
   repeat refine aj.aK _ ?_
   refine aj.cJ E 18 ?_;refine aj.cJ E 19 ?_;apply aj.RP rfl rfl (by rw[E]; rfl) 20 rfl rfl
   .
    intro D v W hc M T K' I;obtain⟨m,rfl⟩:=M;have c0:Cn _ ⟨G,2,none⟩=_:=(X.drewN m).c 2 rfl;go_step;exact I.out
   . rfl
   apply aj.RP rfl rfl (by rw[E]; rfl) 21 rfl rfl
   .
    intro D v W hc M T K' I;obtain⟨m,rfl⟩:=M;have c0:Cn _ ⟨Bs,0,none⟩=_:=(Z.drewN m).c 0 rfl;go_step;exact I.out
   . rfl
   apply aj.RP rfl rfl (by rw[E]; rfl) 22 rfl rfl
   .
    intro D v W hc M T K' I;go_step
    try rw[b9]
    exact I.out
   . rfl
   refine aj.cJ E 23 ?_;apply aj.RP rfl rfl (by rw[E]; rfl) 24 rfl rfl
   .
    intro D v W hc M T K' I;go_step
    try rw[br]
    exact I.out
   . rfl
   apply aj.RP rfl rfl (by rw[E]; rfl) 25 rfl rfl
   .
    intro D v W hc M T K' I;go_step
    try rw[t2]
    exact I.out
   . rfl
   refine aj.aK 26 ?_;refine aj.aH (fun D v w9 hd M T=> ?_);obtain⟨m,rfl⟩:=M;clear hd T;refine hQ _ _ ?_;clear hQ E Q' Y;have X:=X.drewN m;have Z:=Z.drewN m;have hJ:=hC.dr m hJ;generalize hw_:w1.drewN m=w2 at *;clear hw_
   gi_wp2_with fail
   rw[roundsIn_succ]
   gi_upto_region 4 with fail
   refine wpIn_wide.2 ?_
   refine aj.aM (fun D v W=>∃m,W=w2.drewN m) (aj.inl []) (aj.gv []) aj.aU (fun _=>aj.Any) (fun _ _=>False) (aj.pl []) (aj.pl [])
    B' B' B' (aj.dK _) (fun _=>⟨1,rfl⟩) (fun _ _ _ _ _ h=>h) (fun _ _ _ _ _ _ _ _ _ _ _ _ _=>aj.none_) (fun _ _ _ _ h=>h.elim) (fun Y Q' E hQ=> ?_)
   repeat refine aj.aK _ ?_
   refine aj.cJ E 18 ?_;refine aj.cJ E 19 ?_;apply aj.RP rfl rfl (by rw[E]; rfl) 20 rfl rfl
   .
    intro D v W hc M T K' I;obtain⟨m,rfl⟩:=M;have c0:Cn _ ⟨G,1,none⟩=_:=(X.drewN m).c 1 rfl;go_step;exact I.out
   . rfl
   apply aj.RP rfl rfl (by rw[E]; rfl) 21 rfl rfl
   .
    intro D v W hc M T K' I;obtain⟨m,rfl⟩:=M;have c0:Cn _ ⟨Bs,0,none⟩=_:=(Z.drewN m).c 0 rfl;go_step;exact I.out
   . rfl
   apply aj.RP rfl rfl (by rw[E]; rfl) 22 rfl rfl
   .
    intro D v W hc M T K' I;go_step
    try rw[b9]
    exact I.out
   . rfl
   refine aj.cJ E 23 ?_;apply aj.RP rfl rfl (by rw[E]; rfl) 24 rfl rfl
   .
    intro D v W hc M T K' I;go_step
    try rw[cx]
    exact I.out
   . rfl
   apply aj.RP rfl rfl (by rw[E]; rfl) 25 rfl rfl
   .
    intro D v W hc M T K' I;go_step
    try rw[t1]
    exact I.out
   . rfl
   refine aj.aK 26 ?_;refine aj.aH (fun D v w9 hd M T=> ?_);obtain⟨m,rfl⟩:=M;clear hd T;refine hQ _ _ ?_;clear hQ E Q' Y;have X:=X.drewN m;have Z:=Z.drewN m;have hJ:=hC.dr m hJ;generalize hw_:w2.drewN m=w3 at *;clear hw_
   gi_wp2_with fail
   rw[roundsIn_succ]
   gi_upto_region 4 with fail
   refine wpIn_wide.2 ?_
   refine aj.aM (fun D v W=>∃m,W=w3.drewN m) (aj.inl []) (aj.gv []) aj.aU (fun _=>aj.Any) (fun _ _=>False) (aj.pl []) (aj.pl [])
    B' B' B' (aj.dK _) (fun _=>⟨1,rfl⟩) (fun _ _ _ _ _ h=>h) (fun _ _ _ _ _ _ _ _ _ _ _ _ _=>aj.none_) (fun _ _ _ _ h=>h.elim) (fun Y Q' E hQ=> ?_)
   repeat (first | refine aj.cJ E _ ?_ | (refine aj.sk E ?_; refine aj.aD (b:=⟨#[_,_,_,_,_,_,_,_,_,_,_,_,_,_,_,_,_,_,_,_,_,_,_,_,_,_,_,_,_,_,_,_,_,_,_,_,_,_,_,_,_,_,_,_,_,_,_],_⟩) rfl ?_))
   refine aj.aH (fun D v w9 hd M T=> ?_);obtain⟨m,rfl⟩:=M;clear hd T;refine hQ _ _ ?_;clear hQ E Q' Y;have X:=X.drewN m;have Z:=Z.drewN m;have hJ:=hC.dr m hJ;generalize hw_:w3.drewN m=w4 at *;clear hw_;have c0:Cn w4 ⟨G,0,none⟩=_:=X.c 0 rfl;have c1:Cn w4 ⟨G,1,none⟩=_:=X.c 1 rfl;have c2:Cn w4 ⟨G,2,none⟩=_:=X.c 2 rfl;have c3:Cn w4 ⟨G,3,none⟩=_:=X.c 3 rfl;have fG:=X.fr;have lG:=X.lt
   gi_wp2_with fail
   refine wpIn_loop_rounds 5 ?_;rw[roundsIn_succ]
   gi_wp2_with fail
   rw[roundsIn_succ]
   gi_wp2_with fail
   rw[roundsIn_succ]
   gi_wp2_with fail
   rw[roundsIn_succ]
   gi_wp2
   go_roundw
   case rel=>
    refine⟨i+1,by omega,(hC.st _ _ (hC.st _ _ (hC.st _ _ (hC.st _ _ hJ)))),?_,zw⟩;rw[bh.out];unfold Qx;dsimp only;rw[C8 g3,C8 g2,C8 g1];dsimp only;rw[show ((a+1:Nat):Int)=P0 by omega];rw[show ((a+2:Nat):Int)=P1 by omega];rw[show ((a+3:Nat):Int)=P2 by omega];rw[show ((a+4:Nat):Int)=P3 by omega];exact kX
   case measure=>
    have R1:rk ((((w4.setCell ⟨G,0,none⟩ (Cz Cv P0)).setCell ⟨G,1,none⟩ (Cz Cv P1)).setCell ⟨G,2,none⟩ (Cz Cv P2)).setCell ⟨G,3,none⟩ (Cz Cv P3)) G=_:=XU (t:=80) (a:=P0) (b:=P1) (c:=P2) (d:=P3) kX;have R2:=R0.out;omega
  .
   obtain rfl:i=(yh n).length:=B_
   have cg:decide (((YX n (yh n).length).2.2.2:Int)<N)=false:=C_ B_
   gi_wp2
   go_end0
   exact⟨⟨_,rfl⟩,_,rfl,by rw[List.take_length]at hJ; exact hJ⟩
end
section
open Go.RowKit
variable {cs:Array Cd} {i:Nat} {a b:Nat->Rat} {off:Rat} {w:Cc}
def QV (w:Cc) (cs:Array Cd) (r:Nat->Rat):Prop:=cs.size=20/\cs.all (·.oneCell')=true/\zL cs=true/\
 ∀i,i<4->∃a1 a2 N T E I M J,cs[4+i*4]? = some (Cx a1)/\cs[4+i*4+1]? = some (Cq a2 N T)/\cs[4+i*4+2]? = some (Cx E)/\cs[4+i*4+3]? = some (Cq I M J)/\FR w (Cy #[Cx a1,Cq a2 N T,Cx E,Cq I M J]) (r i)
theorem QV.af {w':Cc} {r:Nat->Rat} (h:QV w cs r) (kp:av w w'):QV w' cs r:=by
 obtain⟨h1,h2,I,M⟩:=h;refine⟨h1,h2,I,fun i J=> ?_⟩;obtain⟨a1,a2,a3,a4,T,Y,a7,Z,c0,X,N,E,f⟩:=M i J;exact⟨a1,a2,a3,a4,T,Y,a7,Z,c0,X,N,E,f.af kp⟩
theorem QX.qv {r:Nat->Option Rat} (h:QX w cs r) (hw:yw r 4=true):QV w cs (rq r):=by
 obtain⟨h1,h2,J,N⟩:=h;refine⟨h1,h2,J,fun i E=> ?_⟩;obtain⟨a1,a2,a3,a4,X,Z,a7,a8,c0,Y,T,M,f⟩:=N i E;obtain⟨q,I⟩:=ZN hw i E;refine⟨a1,a2,a3,a4,X,Z,a7,a8,c0,Y,T,M,?_⟩;unfold rq;rw[I]at f|-;exact f
theorem Uu (E:i<4) (h:¬xa (a i-b i)<=off):qg a b off 4=false:=
 Qz (i:=i+1) (by unfold qg; rw[C_ h,Bool.and_false]) 4 B_
theorem Vh (E:qg a b off i=true) (h:xa (a i-b i)<=off):qg a b off (i+1)=true:=by
 unfold qg; rw[E,C9 h]; rfl
set_option maxHeartbeats 6400000 in
set_option maxRecDepth 1000000 in
theorem GH {CA CB:Array Cd} {vf:Cd} {M J:Nat->Rat} (w:Cc) (ha:QV w CA M) (hb:QV w CB J) (Z:FR w vf off) (sa:∀i,i<4->sz (M i) 500) (sb:∀i,i<4->sz (J i) 500) (sf:sz off 500) :
  Cb Ch 147 #[Cy CA,Cy CB,vf] w fun e w'=>e = Cg (Ck #[Cx (qg M J off 4),Cz Cv 0])/\zf w w':=by
 have HA:=C5 ha.2.2.2;have HB:=C5 hb.2.2.2;obtain⟨t1,t2,t3,t4,t5,t6,t7,t8,rfl⟩:=Z.au;have HF:=C5 Z;clear ha hb Z
 go_enter Tryz.func147,Tryz.ntmps147
 go_wp2_with fail
 go_loopw [12] (fun sl0 wr=>∃i:Nat,i<=4/\sl0 = Cz Cv i/\qg M J off i=true/\ai wr w.heap.size 83 CA/\ai wr (w.heap.size+1) 83 CB/\ai wr (w.heap.size+1+1) 28 #[Cx t1,Cq t2 t3 t4,Cx t5,Cq t6 t7 t8]/\Below w.heap.size w wr/\av w wr) (fun sl0 _=>4-(intOf sl0).toNat)
 case atStart=>exact⟨0,by omega,rfl,rfl,zw,zw,zw,zi,zo⟩
 case round=>
  obtain⟨i,hi,rfl,hn,oa,ob,oc,B,kk⟩:=hrel
  rcases Cm i 4 with i4 | i4
  .
   have dP:decide ((i:Int)<4)=true:=C9 B_;obtain⟨a1,a2,a3,a4,a5,a6,a7,a8,bq,cy,dc,bt,fa⟩:=HA.out i i4;obtain⟨b1,b2,b3,b4,b5,b6,b7,b8,dd,cN,br,ce,fb⟩:=HB.out i i4;have b9:=sa i i4;have bf:=sb i i4;have SB:∀w',av w w'->Cb Ch 119 #[Cy #[Cx a1,Cq a2 a3 a4,Cx a5,Cq a6 a7 a8],Cy #[Cx b1,Cq b2 b3 b4,Cx b5,Cq b6 b7 b8]] w' fun e T=>∃v,e = Cg (Ck #[v,Cz Cv 0])/\FR T v (M i-J i)/\zf w' T:=fun w' k=>U2 w' (fa.af k) (fb.af k) b9 bf B_;have NO:=fun h=>Uu (a:=M) (b:=J) (off:=off) i4 h;have N:=fun h=>Vh (a:=M) (b:=J) (off:=off) hn h;have CM:∀w' v,av w w'->FR w' v (xa (M i-J i))->Cb Ch 21 #[v,Cy #[Cx t1,Cq t2 t3 t4,Cx t5,Cq t6 t7 t8]] w' fun e T=>e = Cg (Ck #[Cz Cv (yJ (xa (M i-J i)) off),Cz Cv 0])/\zf w' T:=fun w' v k h=>U3 w' h (HF.out.af k) (b9.sub bf).abs sf B_;have be:¬0<yJ (xa (M i-J i)) off↔xa (M i-J i)<=off:=by rw[kD,Rat.not_lt]
   obtain⟨c,hc⟩:∃c,yJ (xa (M i-J i)) off=c:=⟨_,rfl⟩;rw[hc]at CM be;rw[<- be]at NO N;clear hc be hn fa fb b9 bf sa sb;generalize M i-J i=df at SB CM;have dx:w.heap.size+1+1<wr.heap.size:=oc.lt;have dy:=B.size
   go_upto_region 4 with fail
   refine aj.dj w wr [.o w.heap.size 83 CA,.o (w.heap.size+1) 83 CB,.o (w.heap.size+1+1) 28 #[Cx t1,Cq t2 t3 t4,Cx t5,Cq t6 t7 t8],.n 12 28 #[Cx false,Cq none 0 0,Cx false,Cq none 0 0] 13 [8] (aj.vT 0)] [8,12,13] [(8,UZ 0),(12,jH)] [(8,cZ (df) 0)] [(13,[(8,some 24),(12,some 9)]),(15,[(8,some 24),(12,some 9)])] [(12,[13]),(8,[13])] (by simp only[aX]; exact⟨zi,zo,zw,zw,zw,trivial⟩) (fun N0 bi bg Q' I hQ=> ?_);clear bi
   repeat refine aj.aK _ ?_
   apply aj.RP rfl rfl rfl 19 rfl rfl
   .
    intro D v' W' hc hj Z K hK;have Y:ai W' w.heap.size 83 CA:=hj.e.1;have c0:Cn W' ⟨w.heap.size,4+i*4,none⟩=_:=Y.c _ bq;have c1:Cn W' ⟨w.heap.size,4+i*4+1,none⟩=_:=Y.c _ cy;have c2:Cn W' ⟨w.heap.size,4+i*4+2,none⟩=_:=Y.c _ dc;have c3:Cn W' ⟨w.heap.size,4+i*4+3,none⟩=_:=Y.c _ bt;go_step;exact hK.out
   . rfl
   repeat refine aj.aK _ ?_
   apply aj.RP rfl rfl rfl 23 rfl rfl
   .
    intro D v' W' hc hj Z K hK;have X:ai W' (w.heap.size+1) 83 CB:=hj.e.2.1;have c0:Cn W' ⟨w.heap.size+1,4+i*4,none⟩=_:=X.c _ dd;have c1:Cn W' ⟨w.heap.size+1,4+i*4+1,none⟩=_:=X.c _ cN;have c2:Cn W' ⟨w.heap.size+1,4+i*4+2,none⟩=_:=X.c _ br;have c3:Cn W' ⟨w.heap.size+1,4+i*4+3,none⟩=_:=X.c _ ce;go_step;exact hK.out
   . rfl
   refine aj.sC I (fun D v' W' h _=>SB W' (kk.trans h.k)) ?_;rintro _ ⟨d1,d2,d3,d4,d5,d6,d7,d8,rfl⟩;refine aj.aD (b:=⟨#[_,_,_,_,_,_,_,_,_,_,_,_,_,_,_,_,_,_,_,_,_,_,_,_,_,_,_,_,_,_,_,_,_,_,_,_,_,_,_,_,_,_,_,_,_,_],_⟩) rfl ?_
   repeat refine aj.aK _ ?_
   refine aj.sA I ?_;rintro _ ⟨p9,rfl⟩;refine aj.aD (b:=⟨#[_,_,_,_,_,_,_,_,_,_,_,_,_,_,_,_,_,_,_,_,_,_,_,_,_,_,_,_,_,_,_,_,_,_,_,_,_,_,_,_,_,_,_,_,_,_],_⟩) rfl ?_;refine aj.sN I ?_;refine aj.aK 10 ?_;refine aj.sE (fun _ v' w1 B jk hl _ bh Z=> ?_);simp only[qB,qF,V6]at hl bh;obtain⟨oa,ob,oc,E,-⟩:=hl;obtain⟨zd,od⟩:N0<=p9/\ai w1 p9 28 #[Cx d1,Cq d2 d3 d4,Cx d5,Cq d6 d7 d8]:=E p9 rfl;clear E;have Fd:=C5 (cZ.get (r:=df) (e:=0) (v:= Cy #[Cx d1,Cq d2 d3 d4,Cx d5,Cq d6 d7 d8]) (Z (8,some 24) (.head _) rfl).2.2);replace kk:=kk.trans jk;clear Z jk;refine hQ _ _ ?_;clear hQ I Q' bg;have la:=oa.lt;have lb:=ob.lt;obtain⟨d9,cx,bl,ci⟩:=oc.r3;have lc:=oc.lt;obtain⟨dl,cg,cY,dk,fd,ld⟩:=od.s3;have Fe:Hid (FR _ (Cy #[Cx false,Cq d2 d3 d4,Cx d5,Cq d6 d7 d8]) (xa df)):=C5 Fd.out.abs;go_wp2_with fail
   refine(CM _ _ (kk.trans zo) (Fe.out.af zo)).mono ?_;rintro e T ⟨rfl,st⟩;have Bn:=bA w st;have kp:=kB w1 st;replace kk:=kk.trans kp;replace oa:ai T w.heap.size 83 CA:=ai.ak st;replace ob:ai T (w.heap.size+1) 83 CB:=ai.ak st;replace oc:ai T (w.heap.size+1+1) 28 #[Cx t1,Cq t2 t3 t4,Cx t5,Cq t6 t7 t8]:=ai.ak st;replace od:ai T (p9) 28 #[Cx false,Cq d2 d3 d4,Cx d5,Cq d6 d7 d8]:=ai.ak st;clear la lb d9 cx bl ci lc dl cg cY dk fd ld;replace B:=Bn;replace Fd:=C5 (Fd.out.af kp);replace Fe:=C5 (Fe.out.af kp);clear kp;clear st
   rcases Int.lt_or_le 0 c with hc | hc
   .
    have N0:=NO B_;clear NO N SB CM;go_wp2_with fail
    refine Ci (by simp[results,Tryz.results147,go_sem,]; rfl) rfl ?_;exact⟨by rw[N0],zi⟩
   .
    have Y0:=N B_;clear NO N SB CM
    go_wp2
    go_roundw
    case rel=>exact⟨i+1,by omega,by go_num,Y0,zw,zw,zw,zi,kk.trans zo⟩
    case measure=>simp[intOf]; omega
  .
   obtain rfl:i=4:=B_
   go_wp2_with fail
   refine Ci (by simp[results,Tryz.results147,go_sem,]; rfl) rfl ?_;exact⟨by rw[hn],zi⟩
end
section
open Go.RowKit
variable {cs:Array Cd} {i n t:Nat} {R:Nat->Nat->Option Rat} {r:Nat->Option Rat} {v:Cd}
theorem FB.au {w:Cc} {o:Option Rat} (h:FB w v o):∃a s n c b t m d,v = Cy #[Cx a,Cq s n c,Cx b,Cq t m d]:=by
 cases o with
 | none=>exact el.au h
 | some r=>exact FR.au h
def Ki (b:Bool):Int:=if b then 0 else 8
theorem k9 {o:Option Rat} (w:Cc) (h:FB w v o):Cb Ch 58 #[v] w fun e w'=>e = Cg (Cz Cv (Ki o.isSome))/\zf w w':=by
 cases o with
 | none=>exact Qy w h
 | some r=>exact xi w h
def ZQ:Option Rat->Bool
 | some r=> !decide (r<0)
 | none=>false
theorem FB.neg {w:Cc} {a b:Bool} {s t:Cd} {o:Option Rat} (h:FB w (Cy #[Cx a,s,Cx b,t]) o):ZQ o=(o.isSome && !a):=by
 cases o with
 | none=>rfl
 | some r=>
  obtain⟨_,_,_,_,_,_,e,_⟩:=FR.cj h;simp only[Value.agg.injEq,Array.mk.injEq,List.cons.injEq,and_true,Value.bool.injEq]at e;rw[e.1]; simp[ZQ]
theorem Yb {P:Program} (t e:Ce) (n sz:Nat) (cs:Array Cd) (i:Nat) (d:TypeDesc) (w:Cc) (ht:P.underlying t=some (.array n e)) (M:P.underlying e=some d)
  (hd:(match d with | .struct _ | .array _ _=>true | _=>false)=true) (I:(P.info? e).map (·.size)=some sz) (h:i<n) :
  (Instr.index t (Cy cs) (Cz Cv i)).run P w = .ok (Cy (cs.extract (i*sz) (i*sz+sz))) w:=by
 have E:(isAgg e).run P w = .ok true w:=by
  unfold isAgg;rw[Sem.run_bind,run_underlying M w]
  cases d<;>simp_all
 cases hq:P.info? e with
 | none=>simp[hq]at I
 | some j=>
  have N:j.size=sz:=by simpa[hq]using I
  have J:(0:Int)<=(i:Int)/\(i:Int)<(n:Int):=B_
  simp[Instr.index,run_underlying ht,asIntOf,J,part,E,sizeOf,typeInfo,hq,N,go_sem,Sem.run_bind,h]
theorem QX.code {w:Cc} (h:QX w cs r) {i:Nat} (Y:i<4):∃a1 a2 N T E I M J,cs.extract (4+i*4) (8+i*4)=#[Cx a1,Cq a2 N T,Cx E,Cq I M J]/\
  FB w (Cy #[Cx a1,Cq a2 N T,Cx E,Cq I M J]) (r i):=by
 obtain⟨h1,h2,h3,Z⟩:=h;obtain⟨a1,a2,N,T,E,I,M,J,c0,c1,c2,X,f⟩:=Z i Y;refine⟨a1,a2,N,T,E,I,M,J,?_,f⟩;apply Array.ext'
 simp only[Array.toList_extract,List.extract_eq_take_drop];have e:∀j:Nat,cs.toList[j]? = cs[j]? :=fun j=>by first | rfl | exact Array.getElem?_toList.symm | exact Array.getElem?_toList
 apply List.ext_getElem?
 intro j;rw[List.getElem?_take];rw[List.getElem?_drop,e]
 rcases(show j=0\/j=1\/j=2\/j=3\/4<=j by omega)with rfl | rfl | rfl | rfl | g
 . rw[C7 B_]; exact c0
 . rw[C7 B_]; exact c1
 . rw[C7 B_]; exact c2
 . rw[C7 B_]; exact X
 . rw[C8 B_]; simp; omega
theorem QX.ix {w:Cc} (h:QX w cs r) {i:Nat} (X:i<4):∃a1 a2 N T E I M J,
  (∀w',(Instr.index 81 (Cy (cs.extract 4 20)) (Cz Cv i)).run Ch w' = .ok (Cy #[Cx a1,Cq a2 N T,Cx E,Cq I M J]) w')/\
  FB w (Cy #[Cx a1,Cq a2 N T,Cx E,Cq I M J]) (r i):=by
 obtain⟨a1,a2,N,T,E,I,M,J,e,f⟩:=h.code X;refine⟨a1,a2,N,T,E,I,M,J,fun w'=> ?_,f⟩;rw[Yb 81 28 4 4 _ i _ w' Tryz.underlying81 Tryz.underlying28 rfl B' X];rw[Array.extract_extract,<- e]
 congr 3
 have:=h.1
 congr 2; omega
theorem QX.one {w:Cc} {g:Nat} {E:Array Cd} (h:QX w E r) (I:ai w g 83 E):dH w (Cq (some ⟨g,0,none⟩) 1 1) 1 (fun _=>E) (fun _=>r):=by
 refine⟨fun _ _=>h,_,_,rfl,Cl _,fun _=>⟨g,0,rfl,I.lt,fun t ht j J=> ?_⟩⟩;obtain rfl:t=0:=B_
 have:=I.cell j
 show w.cell? ⟨g,0+0*20+j,none⟩=E[j]?
 rw[show 0+0*20+j=j by omega];exact this
def G9 {α : Type} (a b : α) (t:Nat) : α:=if t=0 then a else b
theorem JZ (ht:t<n) (E:i<4) (h:(R t i).isSome=false):yN R n=false:=
 XL (i:=t+1) (by unfold yN; rw[XK (i:=i+1) (by unfold yw; rw[h,Bool.and_false]) 4 B_,Bool.and_false]) n B_
theorem QH (E:yw r i=true) (h:(r i).isSome=true):yw r (i+1)=true:=by unfold yw; rw[E,h]; rfl
theorem QI (E:yN R t=true) (h:yw (R t) 4=true):yN R (t+1)=true:=by unfold yN; rw[E,h]; rfl
theorem Vi {CS:Nat->Array Cd} (w:Cc) (h:dH w v n CS R) (hn:n<=1000) :
  Cb Ch 146 #[v] w fun e w'=>e = Cg (Cx (yN R n))/\zf w w':=by
 have HS:=C5 h;obtain⟨ao,cap,rfl⟩:=h.au;clear h
 go_enter Tryz.func146,Tryz.ntmps146
 go_wp2_with fail
 go_loopw [9] (fun E wr=>∃t:Nat,t<=n/\E = Cz Cv t/\yN R t=true/\Below w.heap.size w wr/\av w wr) (fun E _=>n-(intOf E).toNat)
 case atStart=>exact⟨0,by omega,rfl,rfl,zi,zo⟩
 case round=>
  obtain⟨t,ht,rfl,hw,B,E⟩:=hrel
  rcases Cm t n with tn | tn
  .
   have bg:decide ((t:Int)<(n:Int))=true:=C9 B_;obtain⟨b,o,rfl,hb,I⟩:=HS.out.at tn;have qx:=HS.out.1 t tn;obtain⟨C,hC⟩:∃C,CS t=C:=⟨_,rfl⟩;rw[hC]at I qx;have X:=qx.1;have M:=qx.2.1;have b9:∀j,j<C.size->wr.cell? ⟨b,o+t*20+j,none⟩=C[j]? :=fun j hj=>(B.cell (p:=⟨b,_,none⟩) hb).trans (I j B_);have ia:(Tryz.prog.info? 83).map (·.size)=some C.size:=by rw[X]; kernel_rfl
   have Z:(C.extract 4 20).size=16:=by rw[Array.size_extract]; omega
   have ib:(Tryz.prog.info? 81).map (·.size)=some (C.extract 4 20).size:=by rw[Z]; kernel_rfl
   have HQ:Hid (QX w C (R t)):=C5 qx;clear I hC qx
   repeat' (first | (refine kJ rfl 83 (.tmp 11) rfl b (o+t*20) rfl C _ b9 Tryz.underlying83 rfl ia ?_) | (refine zE rfl 83 (.tmp 4) (.tmp 12) rfl wr.heap.size C rfl rfl 83 Jf zw ia X.symm M (fun Y r2=> ?_); have hD:∀j,j<(C.extract 4 20).size->Y.cell? ⟨wr.heap.size,4+j,none⟩=(C.extract 4 20)[j]? :=(fun j hj=>by have:=r2.bP.cell (4+j); rw[this,Array.getElem?_extract,C7 B_])) | (refine kJ rfl 81 (.tmp 13) rfl wr.heap.size 4 rfl (C.extract 4 20) _ hD Tryz.underlying81 rfl ib ?_) | go_values | go_skip | go_guarded | go_step | go_upon)
   have B2:Below w.heap.size w Y:=r2.below (B.alloc B.size _) B.size;have k2:av w Y:=E.trans (av.trans zo (r2.af rfl));clear r2 b9 ia M X hD ib Z;obtain⟨D,N⟩:∃D,C.extract 4 20=D:=⟨_,rfl⟩;rw[N];have HX:∀i:Nat,i<4->∃a1 a2 a3 a4 a5 a6 a7 a8,(∀w',(Instr.index 81 (Cy D) (Cz Cv i)).run Ch w' = .ok (Cy #[Cx a1,Cq a2 a3 a4,Cx a5,Cq a6 a7 a8]) w')/\FB w (Cy #[Cx a1,Cq a2 a3 a4,Cx a5,Cq a6 a7 a8]) (R t i):=fun i hi=>by rw[<- N]; exact HQ.out.ix hi
   have be:=C5 HX;clear HX HQ N
   go_loopw [15] (fun E wq=>∃i:Nat,i<=4/\E = Cz Cv i/\yw (R t) i=true/\Below w.heap.size w wq/\av w wq) (fun E _=>4-(intOf E).toNat)
   case atStart=>exact⟨0,by omega,rfl,rfl,B2,k2⟩
   case round=>
    clear B E B2 k2;obtain⟨i,hi,rfl,hq,B,E⟩:=hrel
    rcases Cm i 4 with i4 | i4
    .
     have bf:decide ((i:Int)<4)=true:=C9 B_;obtain⟨a1,a2,a3,a4,a5,a6,a7,a8,ix,fb⟩:=be.out i i4;have ck:∀w',av w w'->Cb Ch 58 #[Cy #[Cx a1,Cq a2 a3 a4,Cx a5,Cq a6 a7 a8]] w' fun e Y=>e = Cg (Cz Cv (Ki (R t i).isSome))/\zf w' Y:=fun w' k=>k9 w' (fb.af k);have NO:=fun h=>JZ (R:=R) tn i4 h;have J:=fun h=>QH hq h;obtain⟨s,hs⟩:∃s,(R t i).isSome=s:=⟨_,rfl⟩;rw[hs]at ck NO J;clear fb hs hq;have zz:=B.size;go_wp2_with fail
     refine(ck _ (E.trans zo)).mono ?_;rintro e w5 ⟨rfl,T⟩;have B5:Below w.heap.size w w5:=yQ T;have k5:av w w5:=(E.trans zo).aI T;clear T ck ix B E
     cases s with
     | false=>
      have e8:(Ki false==0)=false:=rfl;have N0:=NO rfl;clear NO J;rw[show Ki false=8 from rfl]
      go_wp2
      go_returns
      exact⟨by rw[N0]; rfl,zi⟩
     | true=>
      have Y0:=J rfl;clear NO J;rw[show Ki true=0 from rfl]
      go_wp2
      go_roundw
      case rel=>exact⟨i+1,by omega,by go_num,Y0,B5,k5⟩
      case measure=>simp[intOf]; omega
    .
     obtain rfl:i=4:=B_
     have Y0:=QI hw hq
     go_wp2
     go_roundw
     case rel=>exact⟨t+1,by omega,by go_num,Y0,B,E⟩
     case measure=>simp[intOf]; omega
  .
   obtain rfl:t=n:=B_
   go_wp2
   go_returns
   exact⟨by rw[hw]; rfl,B⟩
theorem GI (C:Array Cd) (h:C.size=20):∃c0 c1 c2 c3 c4 c5 c6 c7 c8 c9 I M X b9 Z N E T Y J,C=#[c0,c1,c2,c3,c4,c5,c6,c7,c8,c9,I,M,X,b9,Z,N,E,T,Y,J]:=by
 obtain⟨l⟩:=C;replace h:l.length=20:=h
 match l,h with
 | [c0,c1,c2,c3,c4,c5,c6,c7,c8,c9,I,M,X,b9,Z,N,E,T,Y,J],_=>exact⟨_,_,_,_,_,_,_,_,_,_,_,_,_,_,_,_,_,_,_,_,rfl⟩
theorem U5:∃E z,Tryz.prog.info? 83=some E/\E.size=20/\E.zero=some z/\z.cells=Jf:=by
 obtain⟨E,I⟩:∃E,Tryz.prog.info? 83=some E:=Option.isSome_iff_exists.1 B';have J:(Tryz.prog.info? 83).map (·.size)=some 20:=by kernel_rfl
 have M:((Tryz.prog.info? 83).bind (·.zero)).map (·.cells)=some #[Cz Cv 0,Cz Cv 0,Cz Cv 0,Cz Cv 0,Cx false,Cq none 0 0,Cx false,Cq none 0 0,Cx false,Cq none 0 0,Cx false,Cq none 0 0,Cx false,Cq none 0 0,Cx false,Cq none 0 0,Cx false,Cq none 0 0,Cx false,Cq none 0 0]:=by kernel_rfl
 rw[I]at J M;simp only[Option.map_some,Option.some.injEq,Option.bind_some]at J M;obtain⟨z,N,e⟩:=Option.map_eq_some_iff.1 M;exact⟨E,z,I,J,N,e⟩
theorem GJ (C:Array Cd) (h:C.size=20):Instr.fill (fun i=>some (i*20,20)) ((Array.range (1*20)).map ((Jf:Array Cd)[· % 20]!)) [(0,Cy C)]=some C:=by
 obtain⟨c0,c1,c2,c3,c4,c5,c6,c7,c8,c9,I,M,X,b9,Z,N,E,T,Y,J,rfl⟩:=GI C h
 kernel_rfl
section
variable {ops:Array Oper} {rest:List Oper} {o:Oper} {a:Act} {w:Cc} {Q:Exit->Act->Cc->Prop}
theorem XN {K:Act->Cc->Prop} (x:Operand) (J:o.op = .buildSlice 76 1 #[(0,x)]) (C:Array Cd) (T:a.eval x = Cy C) (h:C.size=20)
  (Y:K (a.put o.dst (Cq (some ⟨w.heap.size,0,none⟩) 1 1)) (w.alloc (.cells C 83))):o.wp Ch a w K Q:=by
 obtain⟨X,z,N,E,I,M⟩:=U5;refine wp_buildSlice 76 83 1 _ J C X z Tryz.underlying76 N I (by rw[E]; decide) (by rw[E]; decide) ?_ Y;rw[E,M];simp only[List.map_toArray,List.map_cons,List.map_nil,T];exact GJ C h
theorem WE (hw:Region.wanted o (yielded ops a.tmps)=true) (x:Operand) (E:o.op = .buildSlice 76 1 #[(0,x)]) (C:Array Cd) (J:a.eval x = Cy C) (h:C.size=20)
  (I:wpList Ch ops Q rest (a.put o.dst (Cq (some ⟨w.heap.size,0,none⟩) 1 1)) (w.alloc (.cells C 83))):wpList Ch ops Q (o::rest) a w:=by
 unfold wpList;rw[C7 hw];exact .inl (XN x E C J h I)
end
def H2 (r s:Nat->Option Rat) (o:Option Rat):Bool×Int:=
 if yw r 4&&yw s 4 then(if ZQ o then(qg (rq r) (rq s) (rq (fun _=>o) 0) 4,0)else(false,2))else(false,8)
theorem QJ (r:Nat->Option Rat):yN (fun _=>r) 1=yw r 4:=by
 show (true&&yw r 4)=_
 rw[Bool.true_and]
theorem XO {o:Option Rat} (h:ZQ o=true):∃q,o=some q/\0<=q:=by
 cases o with
 | none=>cases h
 | some r=>exact⟨r,rfl,Rat.not_lt.1 (by unfold ZQ at h; simpa using h)⟩
end
section
open Go.RowKit
variable {cs:Array Cd} {B g gc i j k l:Nat} {r s:Rat} {t tc:Ce} {u va vb x y z:Cd} {a w:Cc}
theorem Y2 (J:ai w g t cs) (I:cs[i]? = some u) (k:Nat):(w.setCell ⟨g,i,none⟩ u).heap[k]? = w.heap[k]? :=by
 unfold ai at J
 by_cases e:g=k
 .
  subst e
  have M:cs.setIfInBounds i u=cs:=by
   apply Array.ext_getElem?
   intro j;rw[Array.getElem?_setIfInBounds]
   split
   .
    rename_i h; subst h
    have E:i<cs.size:=by
     rcases Cm i cs.size with g | g
     . exact g
     . rw[Array.getElem?_eq_none g]at I; cases I
    rw[C7 E,I]
   . rfl
  simp[World.setCell,Array.getElem?_modify,J,M]
 . simp[World.setCell,Array.getElem?_modify,e]
theorem QC (h:Below B a w) {g i:Nat} {t:Ce} {cs:Array Cd} {u:Cd} (I:ai w g t cs) (E:cs[i]? = some u):Below B a (w.setCell ⟨g,i,none⟩ u):=
 ⟨h.os,h.tape,h.output,by have:=h.size; simpa[World.setCell]using this,fun k J=>(Y2 I E k).trans (h.block k J)⟩
theorem QE (h:Below B a w) (E:B<=g):Below B a ((((w.setCell ⟨g,i,none⟩ x).setCell ⟨g,j,none⟩ y).setCell ⟨g,k,none⟩ z).setCell ⟨g,l,none⟩ u):=
 Below.setCell (Below.setCell (Below.setCell (Below.setCell h E _) E _) E _) E _
theorem ai.eY {b:Nat} (h:ai w g t cs) (E:g≠b):ai ((((w.setCell ⟨b,i,none⟩ x).setCell ⟨b,j,none⟩ y).setCell ⟨b,k,none⟩ z).setCell ⟨b,l,none⟩ u) g t cs:=
 (((h.aG E).aG E).aG E).aG E
theorem Vf {r:Nat} (I:ai w r t cs) (E:zL cs=true):av w ((((w.setCell ⟨r,i,none⟩ x).setCell ⟨r,j,none⟩ y).setCell ⟨r,k,none⟩ z).setCell ⟨r,l,none⟩ u):=
 av.only I E ((bC.refl _ _).set.set.set.set)
theorem GD (w:Cc) (ha:FR w va r) (hb:FR w vb s) (s0:s≠0) (g1:fits (r.num*s.den)) (g4:fits (r.den*s.num)) :
  Cb Ch 129 #[va,vb] w fun e w'=>∃u v,e = Cg (Ck #[u,v])/\az w' u (r.num*s.den)/\az w' v (r.den*s.num)/\zf w w':=by
 have fa:=ha.fit;have fb:=hb.fit
 have ze:∀w' u,az w' u s.num->Cb Ch 97 #[u] w' fun e J=>e = Cg (Cx false)/\zf w' J:=fun w' u h1=>by
  have:=KO w' h1;rw[C_ (KZ s0)]at this;exact this
 have m2:∀w' u v,az w' u r.den->az w' v s.num->Cb Ch 55 #[u,v] w' fun e J=>∃v,e = Cg (Ck #[v,Cz Cv 0])/\az J v (r.den*s.num)/\zf w' J:=fun w' u v h1 h2=>by
  have:=JX w' h1 h2 fa.2 fb.1;rw[zK g4,zG g4]at this;exact this
 have bt:∀w' u v,FR w' u r->FR w' v s->Cb Ch 60 #[u,v] w' fun e J=>∃v,e = Cg v/\az J v (r.num*s.den)/\zf w' J:=fun w' u v h1 h2=>j' w' h1 h2 g1;have Y:=ha;have X:=hb;obtain⟨a2,a3,a4,a6,a7,a8,rfl,na,da,-⟩:=ha.cj;obtain⟨b2,b3,b4,b6,b7,b8,rfl,N,db,-⟩:=hb.cj;obtain⟨ga,be⟩:∃g,decide (r<0)=g:=⟨_,rfl⟩;obtain⟨gb,b9⟩:∃g,decide (s<0)=g:=⟨_,rfl⟩;rw[be]at na Y|-;rw[b9]at N X|-;have Fa:=C5 Y;have Fb:=C5 X;have M:=C5 da;have I:=C5 N;clear be b9 na da N db ha hb Y X fa fb;clear g1 g4 s0
 go_enter Tryz.func129,Tryz.ntmps129
 go_wp2_with fail
 refine(ze _ _ (I.out.af zo)).mono ?_;rintro e w1 ⟨rfl,st⟩;have B:=bA w st;have kp:=kB w st;have oa:ai w1 w.heap.size 28 #[Cx ga,Cq a2 a3 a4,Cx false,Cq a6 a7 a8]:=ai.ak st;have ob:ai w1 (w.heap.size+1) 28 #[Cx gb,Cq b2 b3 b4,Cx false,Cq b6 b7 b8]:=ai.ak st;have Z:ai w1 (w.heap.size+1+1) 26 #[Cx false,Cq none 0 0]:=ai.ak st;have T:ai w1 (w.heap.size+1+1+1) 26 #[Cx false,Cq none 0 0]:=ai.ak st;replace Fa:=C5 (Fa.out.af kp);replace Fb:=C5 (Fb.out.af kp);replace M:=C5 (M.out.af kp);replace I:=C5 (I.out.af kp);clear kp;clear st;obtain⟨cY,cN,bg,cy⟩:=oa.r3;have la:=oa.lt;obtain⟨cg,bl,ce,ci⟩:=ob.r3;have lb:=ob.lt;have lp:=Z.lt;have lq:=T.lt;clear ze;have d9:w.heap.size+1+1+1<w1.heap.size:=T.lt;have dc:=B.size
 go_upto_region 3 with fail
 refine aj.dj w w1 [.o w.heap.size 28 #[Cx ga,Cq a2 a3 a4,Cx false,Cq a6 a7 a8],.o (w.heap.size+1) 28 #[Cx gb,Cq b2 b3 b4,Cx false,Cq b6 b7 b8],.s (w.heap.size+1+1) 26 #[Cx false,Cq none 0 0] 11 [2] aj.v1,.s (w.heap.size+1+1+1) 26 #[Cx false,Cq none 0 0] 12 [10] aj.v1] [2,7,10,11,12] [(2,kF),(7,kG 0),(10,kF)] [(2,dm (r.num*s.den)),(7,bZ (r.den*s.num) 0),(10,dm (r.den*s.num))] [(10,[(7,some 17)]),(11,[(2,some 12)]),(12,[(10,some 20)]),(13,[(2,some 12),(7,some 17),(10,some 20)])] [(2,[11]),(10,[12])] (by simp only[aX]; exact⟨zi,zo,zw,zw,zw,zw,trivial⟩) (fun N0 bi bf Q' E hQ=> ?_);clear cY cN bg cy la cg bl ce ci lb lp lq;clear bi;refine aj.aV 10 (fun _ _ _ h=>h.e.1.r3) ?_;refine aj.aV 11 (fun _ _ _ h=>h.e.2.1.r3) ?_;refine aj.sC E (fun D v' W' h _=>bt W' _ _ (Fa.out.af h.k) (Fb.out.af h.k)) ?_;rintro _ ⟨N1,N2,N3,N4,rfl⟩;refine aj.aD (b:=⟨#[_,_,_,_,_,_,_,_,_,_,_,_,_,_,_,_,_,_,_,_,_],_⟩) rfl ?_;refine aj.aK 13 ?_;refine aj.aV 14 (fun _ _ _ h=>C6 h.e.1.q2 h.e.1.q3) ?_;refine aj.aK 15 ?_;refine aj.aV 16 (fun _ _ _ h=>h.e.2.1.r1) ?_;refine aj.sC E (fun D v' W' h _=>m2 W' _ _ (M.out.af h.k) (I.out.af h.k)) ?_;rintro _ ⟨dx,dl,dd,dk,rfl⟩;refine aj.aD (b:=⟨#[_,_,_,_,_,_,_,_,_,_,_,_,_,_,_,_,_,_,_,_,_],_⟩) rfl ?_
 repeat refine aj.aK _ ?_
 refine aj.sC E (fun D v' W' _ hf=>jJ W' (hf (7,some 17) (.head _) rfl).2.2.get) ?_;rintro _ ⟨D1,D2,D3,D4,rfl⟩;refine aj.aD (b:=⟨#[_,_,_,_,_,_,_,_,_,_,_,_,_,_,_,_,_,_,_,_,_],_⟩) rfl ?_;refine aj.sS E ?_;refine aj.sS E ?_;refine aj.sE (fun _ v' J B jk hl _ _ hf=> ?_);simp only[qB,qF]at hl;obtain⟨oa,ob,Z,T,-⟩:=hl;have Z:ai J (w.heap.size+1+1) 26 #[Cx N1,Cq N2 N3 N4]:=Z;have T:ai J (w.heap.size+1+1+1) 26 #[Cx D1,Cq D2 D3 D4]:=T;have FN:Hid (az J (Cy #[Cx N1,Cq N2 N3 N4]) (r.num*s.den)):=(hf (2,some 12) (.head _) rfl).2.2;have FD:Hid (az J (Cy #[Cx D1,Cq D2 D3 D4]) (r.den*s.num)):=(hf (10,some 20) (.tail _ (.tail _ (.head _))) rfl).2.2;replace Fa:=C5 (Fa.out.af jk);replace Fb:=C5 (Fb.out.af jk);replace M:=C5 (M.out.af jk);replace I:=C5 (I.out.af jk);clear hf jk;refine hQ _ _ ?_;clear hQ E Q' bf;have la:=oa.lt;have lb:=ob.lt;obtain⟨br,bq⟩:=Z.r1;have lp:=Z.lt;obtain⟨bh,cx⟩:=T.r1;have lq:=T.lt;go_wp2_with fail
 refine Ci (by simp[results,Tryz.results129,go_sem,la,lb,br,bq,lp,bh,cx,lq]; rfl) rfl ?_;exact⟨_,_,rfl,FN.out.af zo,FD.out.af zo,zi⟩
theorem GF (w:Cc) (ha:FR w va r) (hb:FR w vb s) (s0:s≠0) (g1:fits (r.num*s.den)) (g4:fits (r.den*s.num)) :
  Cb Ch 52 #[va,vb,.func (.func 129) #[] #[]] w fun e w'=>∃v,e = Cg (Ck #[v,Cz Cv 0])/\FR w' v (r / s)/\zf w w':=by
 have cl:∀w' u v,FR w' u r->FR w' v s->Cb Ch 129 #[u,v] w' fun e T=>∃u v,e = Cg (Ck #[u,v])/\az T u (r.num*s.den)/\az T v (r.den*s.num)/\zf w' T:=fun w' u v h1 h2=>GD w' h1 h2 s0 g1 g4
 have rd:∀w' u v,az w' u (r.num*s.den)->az w' v (r.den*s.num)->Cb Ch 92 #[u,v] w' fun e T=>∃v,e = Cg v/\FR T v (r / s)/\zf w' T:=fun w' u v h1 h2=>by
  have:=kI w' h1 h2 g1 g4 (XD r s0);rw[XC r s0]at this;exact this
 obtain⟨a1,a2,a3,a4,a5,a6,a7,a8,rfl⟩:=ha.au;obtain⟨b1,b2,b3,b4,b5,b6,b7,b8,rfl⟩:=hb.au;have N:=C5 ha;have J:=C5 hb;clear ha hb g1 g4 s0
 go_enter_defers Tryz.func52,Tryz.ntmps52
 go_wp2_with fail
 refine(xi _ (N.out.af zo)).mono ?_;rintro e w1 ⟨rfl,st⟩;have B:=bA w st;have kp:=kB w st;have M:ai w1 w.heap.size 28 #[Cx a1,Cq a2 a3 a4,Cx a5,Cq a6 a7 a8]:=ai.ak st;have E:ai w1 (w.heap.size+1) 28 #[Cx b1,Cq b2 b3 b4,Cx b5,Cq b6 b7 b8]:=ai.ak st;have or:ai w1 (w.heap.size+1+1) 28 qE:=ai.ak st;have I:ai w1 (w.heap.size+1+1+1) 32 #[Cz Cv 0]:=ai.ak st;replace N:=C5 (N.out.af kp);replace J:=C5 (J.out.af kp);clear kp;clear st;go_wp2_with fail
 refine(xt _).mono ?_;rintro e T ⟨rfl,st⟩;have sk:=bA w1 st;replace B:=bS B sk;replace M:=M.ae sk;replace E:=E.ae sk;replace or:=or.ae sk;replace I:=I.ae sk;replace N:=C5 (N.out.ae sk);replace J:=C5 (J.out.ae sk);clear st sk;have la:=M.lt;obtain⟨be,X,Z,bf⟩:=E.r3;have lb:=E.lt;have lr:=or.lt;have le:=I.lt;go_wp2_with fail
 refine(xi _ (J.out.af zo)).mono ?_;rintro e w3 ⟨rfl,st⟩;have sk:=bA T st;replace B:=bS B sk;replace M:=M.ae sk;replace E:=E.ae sk;replace or:=or.ae sk;replace I:=I.ae sk;replace N:=C5 (N.out.ae sk);replace J:=C5 (J.out.ae sk);clear st sk la be X Z bf lb lr le;go_wp2_with fail
 refine(xt _).mono ?_;rintro e w4 ⟨rfl,st⟩;have sk:=bA w3 st;replace B:=bS B sk;replace M:=M.ae sk;replace E:=E.ae sk;replace or:=or.ae sk;replace I:=I.ae sk;replace N:=C5 (N.out.ae sk);replace J:=C5 (J.out.ae sk);clear st sk;obtain⟨ci,cg,bi,bt⟩:=M.r3;have la:=M.lt;obtain⟨be,X,Z,bf⟩:=E.r3;have lb:=E.lt;have lr:=or.lt;have le:=I.lt;go_wp2_with fail
 refine(cl _ _ _ (N.out.af zo) (J.out.af zo)).mono ?_;rintro e w5 ⟨vn,vd,rfl,bg,b9,st⟩;have sk:=bA w4 st;replace B:=bS B sk;replace M:=M.ae sk;replace E:=E.ae sk;replace or:=or.ae sk;replace I:=I.ae sk;replace N:=C5 (N.out.ae sk);replace J:=C5 (J.out.ae sk);clear st sk ci cg bi bt la be X Z bf lb lr le;obtain⟨n1,n2,n3,n4,rfl⟩:=bg.au;obtain⟨d1,d2,d3,d4,rfl⟩:=b9.au;have Fn:=C5 bg;clear bg;have Fd:=C5 b9;clear b9;go_wp2_with fail
 refine(rd _ _ _ (Fn.out.af zo) (Fd.out.af zo)).mono ?_;rintro e w6 ⟨vq,rfl,Y,st⟩;have sk:=bA w5 st;replace B:=bS B sk;replace M:=M.ae sk;replace E:=E.ae sk;replace or:=or.ae sk;replace I:=I.ae sk;replace N:=C5 (N.out.ae sk);replace J:=C5 (J.out.ae sk);replace Fn:=C5 (Fn.out.ae sk);replace Fd:=C5 (Fd.out.ae sk);clear st sk;have la:=M.lt;have lb:=E.lt;obtain⟨ce,bq,bh,bl,fr,lr⟩:=or.s3;have br:=I.q0;have fe:=I.fr;have le:=I.lt;obtain⟨q1,q2,q3,q4,q5,q6,q7,q8,rfl⟩:=Y.au;have Fq:=C5 Y;clear Y;go_wp2_with fail
 refine leaves_cons (f:=56) (args:=#[Cj (some ⟨w.heap.size+1+1+1,0,none⟩)]) C3 (by simp[go_sem]) ?_;refine(xA _ _).mono ?_;rintro e u' cx ⟨rfl,rfl,rfl⟩;refine⟨_,by simp[results,Tryz.results52,go_sem,la,lb,ce,bq,bh,bl,fr,lr,br,fe,le]; rfl,?_⟩;exact⟨_,rfl,Fq.out.af zo,zi⟩
theorem GG (w:Cc) (I:FR w va r) (X:FR w vb s) (T:sz r i) (hs:sz s j) (Z:i+j<=4095) (s0:s≠0) :
  Cb Ch 90 #[va,vb] w fun e w'=>∃v,e = Cg (Ck #[v,Cz Cv 0])/\FR w' v (r / s)/\zf w w':=by
 have d1:zh (r.den:Int)<=bp i:=by rw[xH]; exact T.2
 have d2:zh (s.den:Int)<=bp j:=by rw[xH]; exact hs.2
 have g1:=yK (yv T.1 d2) Z;have g4:=yK (yv d1 hs.1) Z;have bo:∀w' u v,FR w' u r->FR w' v s->Cb Ch 52 #[u,v,.func (.func 129) #[] #[]] w' fun e w2=>∃v,e = Cg (Ck #[v,Cz Cv 0])/\FR w2 v (r / s)/\zf w' w2:=fun w' u v h1 h2=>GF w' h1 h2 s0 g1 g4;obtain⟨a1,a2,a3,a4,a5,a6,a7,a8,rfl⟩:=I.au;obtain⟨b1,b2,b3,b4,b5,b6,b7,b8,rfl⟩:=X.au;have Fa:=C5 I;have J:=C5 X;clear I X T hs Z g1 g4 d1 d2 s0
 go_enter Tryz.func90,Tryz.ntmps90
 go_wp2_with fail
 refine(bo _ _ _ (Fa.out.af zo) (J.out.af zo)).mono ?_;rintro e w1 ⟨vq,rfl,E,st⟩;have B:=bA w st;have N:=kB w st;have oa:ai w1 w.heap.size 28 #[Cx a1,Cq a2 a3 a4,Cx a5,Cq a6 a7 a8]:=ai.ak st;have ob:ai w1 (w.heap.size+1) 28 #[Cx b1,Cq b2 b3 b4,Cx b5,Cq b6 b7 b8]:=ai.ak st;have or:ai w1 (w.heap.size+1+1) 28 qE:=ai.ak st;replace Fa:=C5 (Fa.out.af N);replace J:=C5 (J.out.af N);clear N;clear st;have la:=oa.lt;have lb:=ob.lt;obtain⟨b9,Y,be,M,fr,lr⟩:=or.s3;obtain⟨q1,q2,q3,q4,q5,q6,q7,q8,rfl⟩:=E.au;have Fq:=C5 E;clear E;go_wp2_with fail
 refine Ci (by simp[results,Tryz.results90,go_sem,la,lb,b9,Y,be,M,fr,lr]; rfl) rfl ?_;exact⟨_,rfl,Fq.out.af zo,zi⟩
theorem U4 (a1:Bool) (a2:Option Addr) (N T:Nat) (E:Bool) (I:Option Addr) (M J:Nat) {gc:Nat} {tc:Ce} (w:Cc) (hc:ai w gc tc #[Cz Cv 0]) :
  Cb Ch 76 #[Cj (some ⟨gc,0,none⟩),Cy #[Cx a1,Cq a2 N T,Cx E,Cq I M J],Cz Cv 0] w fun e w'=>e = Cg (Cy #[Cx a1,Cq a2 N T,Cx E,Cq I M J])/\zf w w':=by
 have hl:=hc.lt;have h1:¬w.heap.size=gc:=B_
 have h2:¬w.heap.size+1=gc:=B_
 have Y:¬gc=w.heap.size:=B_
 have Z:¬gc=w.heap.size+1:=B_
 have X:w.cell? ⟨gc,0,none⟩=some (Cz Cv 0):=hc.c 0 rfl;have cf:=hc.fr 0;have HC:=C5 hc;clear hc
 go_enter Tryz.func76,Tryz.ntmps76
 go_wp2_with fail
 refine Ci (by simp[results,Tryz.results76,go_sem,h1,h2,Y,Z,X,cf]; rfl) rfl ?_;exact⟨rfl,Below.alloc (Below.alloc (QC (Below.refl _ _) HC.out rfl) C3 _) C3 _⟩
theorem ke (w:Cc) (hc:ai w gc tc #[Cz Cv 0]) (E:FR w va r) :
  Cb Ch 76 #[Cj (some ⟨gc,0,none⟩),va,Cz Cv 0] w fun e w'=>∃v,e = Cg v/\FR w' v r/\zf w w':=by
 obtain⟨a1,a2,X,Y,J,M,T,N,rfl⟩:=E.au;refine(U4 a1 a2 X Y J M T N w hc).mono ?_;rintro e w' ⟨rfl,I⟩;exact⟨_,rfl,E.ae I,I⟩
theorem Vg (x:Int) {gc:Nat} {tc:Ce} (w:Cc) (hc:ai w gc tc #[Cz Cv 0]) (Z : -9223372036854775808<=x) (x1:x<=9223372036854775807) :
  Cb Ch 66 #[Cj (some ⟨gc,0,none⟩),Cz Cv x] w fun e w'=>∃v,e = Cg v/\FR w' v ((x:Rat))/\zf w w':=by
 have KP:∀w' u,zf w w'->FR w' u ((x:Rat))->Cb Ch 76 #[Cj (some ⟨gc,0,none⟩),u,Cz Cv 0] w' fun e M=>∃v,e = Cg v/\FR M v ((x:Rat))/\zf w' M:=fun w' u st h=>ke w' (hc.ae st) h;have CL:∀w',zf w w'->Cb Ch 77 #[Cz Cv x,Cz Cv 1] w' fun e M=>∃v,e = Cg (Ck #[v,Cz Cv 0])/\FR M v ((x:Rat))/\zf w' M:=fun w' st=>by have:=XI x 1 w' Z x1 C0 C0 C0; rw[ZP]at this; exact this
 generalize (x:Rat)=r at *;clear hc Z x1
 go_enter Tryz.func66,Tryz.ntmps66
 go_wp2_with fail
 refine(CL _ zi).mono ?_;rintro e w1 ⟨bh,rfl,E,st⟩;have B:=bA w st;have or:ai w1 w.heap.size 28 qE:=ai.ak st;clear st;obtain⟨br,bl,be,bf,bq,bi,bg,b9,rfl⟩:=E.au;have I:=C5 E;clear E;go_wp2_with fail
 refine(KP _ _ zi (I.out.af zo)).mono ?_;rintro e M ⟨vq,rfl,J,st⟩;have sk:=bA w1 st;replace B:=bS B sk;replace or:=or.ae sk;replace I:=C5 (I.out.ae sk);clear st sk;obtain⟨X,T,Y,N,fr,lr⟩:=or.s3;obtain⟨q1,q2,q3,q4,q5,q6,q7,q8,rfl⟩:=J.au;have Fq:=C5 J;clear J;go_wp2_with fail
 refine Ci (by simp[results,Tryz.results66,go_sem,X,T,Y,N,fr,lr]; rfl) rfl ?_;exact⟨_,rfl,Fq.out.af zo,zi⟩
theorem Ut (w:Cc) (hc:ai w gc tc #[Cz Cv 0]) (T:FR w va r) (hb:FR w vb s) (hr:sz r i) (hs:sz s j) (hk:i+j<=4094) :
  Cb Ch 83 #[Cj (some ⟨gc,0,none⟩),va,vb] w fun e w'=>∃v,e = Cg v/\FR w' v (r+s)/\zf w w':=by
 have KP:∀w' u,zf w w'->FR w' u (r+s)->Cb Ch 76 #[Cj (some ⟨gc,0,none⟩),u,Cz Cv 0] w' fun e M=>∃v,e = Cg v/\FR M v (r+s)/\zf w' M:=fun w' u st h=>ke w' (hc.ae st) h;have CL:∀w',zf w w'->Cb Ch 123 #[va,vb] w' fun e M=>∃v,e = Cg (Ck #[v,Cz Cv 0])/\FR M v (r+s)/\zf w' M:=fun w' st=>Gv w' (T.ae st) (hb.ae st) hr hs hk;obtain⟨a1,a2,a3,a4,a5,a6,a7,a8,rfl⟩:=T.au;obtain⟨b1,b2,b3,b4,b5,b6,b7,b8,rfl⟩:=hb.au;clear T hb hr hs hk hc;generalize r+s=t at *
 go_enter Tryz.func83,Tryz.ntmps83
 go_wp2_with fail
 refine(CL _ zi).mono ?_;rintro e N ⟨bq,rfl,E,st⟩;have B:=bA w st;have Z:ai N w.heap.size 28 #[Cx a1,Cq a2 a3 a4,Cx a5,Cq a6 a7 a8]:=ai.ak st;have Y:ai N (w.heap.size+1) 28 #[Cx b1,Cq b2 b3 b4,Cx b5,Cq b6 b7 b8]:=ai.ak st;have or:ai N (w.heap.size+1+1) 28 qE:=ai.ak st;clear st;obtain⟨cg,bt,bh,bi,ce,br,bl,bg,rfl⟩:=E.au;have I:=C5 E;clear E;go_wp2_with fail
 refine(KP _ _ zi (I.out.af zo)).mono ?_;rintro e M ⟨vq,rfl,J,st⟩;have sk:=bA N st;replace B:=bS B sk;replace Z:=Z.ae sk;replace Y:=Y.ae sk;replace or:=or.ae sk;replace I:=C5 (I.out.ae sk);clear st sk;have la:=Z.lt;have lb:=Y.lt;obtain⟨be,b9,bf,X,fr,lr⟩:=or.s3;obtain⟨q1,q2,q3,q4,q5,q6,q7,q8,rfl⟩:=J.au;have Fq:=C5 J;clear J;go_wp2_with fail
 refine Ci (by simp[results,Tryz.results83,go_sem,la,lb,be,b9,bf,X,fr,lr]; rfl) rfl ?_;exact⟨_,rfl,Fq.out.af zo,zi⟩
theorem JY (w:Cc) (hc:ai w gc tc #[Cz Cv 0]) (T:FR w va r) (hb:FR w vb s) (hr:sz r i) (hs:sz s j) (hk:i+j<=4094) :
  Cb Ch 78 #[Cj (some ⟨gc,0,none⟩),va,vb] w fun e w'=>∃v,e = Cg v/\FR w' v (r-s)/\zf w w':=by
 have KP:∀w' u,zf w w'->FR w' u (r-s)->Cb Ch 76 #[Cj (some ⟨gc,0,none⟩),u,Cz Cv 0] w' fun e M=>∃v,e = Cg v/\FR M v (r-s)/\zf w' M:=fun w' u st h=>ke w' (hc.ae st) h;have CL:∀w',zf w w'->Cb Ch 119 #[va,vb] w' fun e M=>∃v,e = Cg (Ck #[v,Cz Cv 0])/\FR M v (r-s)/\zf w' M:=fun w' st=>U2 w' (T.ae st) (hb.ae st) hr hs hk;obtain⟨a1,a2,a3,a4,a5,a6,a7,a8,rfl⟩:=T.au;obtain⟨b1,b2,b3,b4,b5,b6,b7,b8,rfl⟩:=hb.au;clear T hb hr hs hk hc;generalize r-s=t at *
 go_enter Tryz.func78,Tryz.ntmps78
 go_wp2_with fail
 refine(CL _ zi).mono ?_;rintro e N ⟨bq,rfl,E,st⟩;have B:=bA w st;have Z:ai N w.heap.size 28 #[Cx a1,Cq a2 a3 a4,Cx a5,Cq a6 a7 a8]:=ai.ak st;have Y:ai N (w.heap.size+1) 28 #[Cx b1,Cq b2 b3 b4,Cx b5,Cq b6 b7 b8]:=ai.ak st;have or:ai N (w.heap.size+1+1) 28 qE:=ai.ak st;clear st;obtain⟨cg,bt,bh,bi,ce,br,bl,bg,rfl⟩:=E.au;have I:=C5 E;clear E;go_wp2_with fail
 refine(KP _ _ zi (I.out.af zo)).mono ?_;rintro e M ⟨vq,rfl,J,st⟩;have sk:=bA N st;replace B:=bS B sk;replace Z:=Z.ae sk;replace Y:=Y.ae sk;replace or:=or.ae sk;replace I:=C5 (I.out.ae sk);clear st sk;have la:=Z.lt;have lb:=Y.lt;obtain⟨be,b9,bf,X,fr,lr⟩:=or.s3;obtain⟨q1,q2,q3,q4,q5,q6,q7,q8,rfl⟩:=J.au;have Fq:=C5 J;clear J;go_wp2_with fail
 refine Ci (by simp[results,Tryz.results78,go_sem,la,lb,be,b9,bf,X,fr,lr]; rfl) rfl ?_;exact⟨_,rfl,Fq.out.af zo,zi⟩
theorem QG (w:Cc) (hc:ai w gc tc #[Cz Cv 0]) (T:FR w va r) (hb:FR w vb s) (hr:sz r i) (hs:sz s j) (hk:i+j<=4095) :
  Cb Ch 84 #[Cj (some ⟨gc,0,none⟩),va,vb] w fun e w'=>∃v,e = Cg v/\FR w' v (r*s)/\zf w w':=by
 have KP:∀w' u,zf w w'->FR w' u (r*s)->Cb Ch 76 #[Cj (some ⟨gc,0,none⟩),u,Cz Cv 0] w' fun e M=>∃v,e = Cg v/\FR M v (r*s)/\zf w' M:=fun w' u st h=>ke w' (hc.ae st) h;have CL:∀w',zf w w'->Cb Ch 20 #[va,vb] w' fun e M=>∃v,e = Cg (Ck #[v,Cz Cv 0])/\FR M v (r*s)/\zf w' M:=fun w' st=>GA w' (T.ae st) (hb.ae st) hr hs hk;obtain⟨a1,a2,a3,a4,a5,a6,a7,a8,rfl⟩:=T.au;obtain⟨b1,b2,b3,b4,b5,b6,b7,b8,rfl⟩:=hb.au;clear T hb hr hs hk hc;generalize r*s=t at *
 go_enter Tryz.func84,Tryz.ntmps84
 go_wp2_with fail
 refine(CL _ zi).mono ?_;rintro e N ⟨bq,rfl,E,st⟩;have B:=bA w st;have Z:ai N w.heap.size 28 #[Cx a1,Cq a2 a3 a4,Cx a5,Cq a6 a7 a8]:=ai.ak st;have Y:ai N (w.heap.size+1) 28 #[Cx b1,Cq b2 b3 b4,Cx b5,Cq b6 b7 b8]:=ai.ak st;have or:ai N (w.heap.size+1+1) 28 qE:=ai.ak st;clear st;obtain⟨cg,bt,bh,bi,ce,br,bl,bg,rfl⟩:=E.au;have I:=C5 E;clear E;go_wp2_with fail
 refine(KP _ _ zi (I.out.af zo)).mono ?_;rintro e M ⟨vq,rfl,J,st⟩;have sk:=bA N st;replace B:=bS B sk;replace Z:=Z.ae sk;replace Y:=Y.ae sk;replace or:=or.ae sk;replace I:=C5 (I.out.ae sk);clear st sk;have la:=Z.lt;have lb:=Y.lt;obtain⟨be,b9,bf,X,fr,lr⟩:=or.s3;obtain⟨q1,q2,q3,q4,q5,q6,q7,q8,rfl⟩:=J.au;have Fq:=C5 J;clear J;go_wp2_with fail
 refine Ci (by simp[results,Tryz.results84,go_sem,la,lb,be,b9,bf,X,fr,lr]; rfl) rfl ?_;exact⟨_,rfl,Fq.out.af zo,zi⟩
theorem xl (w:Cc) (hc:ai w gc tc #[Cz Cv 0]) (I:FR w va r) (M:FR w vb s) (T:sz r i) (N:sz s j) (Z:i+j<=4095) :
  Cb Ch 67 #[Cj (some ⟨gc,0,none⟩),va,vb] w fun e w'=>e = Cg (Cz Cv (yJ r s))/\zf w w':=by
 have KP:∀w',zf w w'->Cb Ch 76 #[Cj (some ⟨gc,0,none⟩),Cy #[Cx false,Cq none 0 0,Cx false,Cq none 0 0],Cz Cv 0] w' fun e E=>e = Cg (Cy #[Cx false,Cq none 0 0,Cx false,Cq none 0 0])/\zf w' E:=fun w' st=>U4 _ _ _ _ _ _ _ _ w' (hc.ae st);have CL:∀w',zf w w'->Cb Ch 21 #[va,vb] w' fun e E=>e = Cg (Ck #[Cz Cv (yJ r s),Cz Cv 0])/\zf w' E:=fun w' st=>U3 w' (I.ae st) (M.ae st) T N Z;obtain⟨a1,a2,a3,a4,a5,a6,a7,a8,rfl⟩:=I.au;obtain⟨b1,b2,b3,b4,b5,b6,b7,b8,rfl⟩:=M.au;generalize yJ r s=k at *;clear I M T N Z hc
 go_enter Tryz.func67,Tryz.ntmps67
 go_wp2_with fail
 refine(CL _ zi).mono ?_;rintro e J ⟨rfl,st⟩;have B:=bA w st;have Y:ai J w.heap.size 28 #[Cx a1,Cq a2 a3 a4,Cx a5,Cq a6 a7 a8]:=ai.ak st;have X:ai J (w.heap.size+1) 28 #[Cx b1,Cq b2 b3 b4,Cx b5,Cq b6 b7 b8]:=ai.ak st;clear st;go_wp2_with fail
 refine(KP _ zi).mono ?_;rintro e E ⟨rfl,st⟩;have sk:=bA J st;replace B:=bS B sk;replace Y:=Y.ae sk;replace X:=X.ae sk;clear st sk;go_wp2_with fail
 refine Ci (by simp[results,Tryz.results67,go_sem,]; rfl) rfl ?_;exact⟨rfl,zi⟩
end
section
open Go.RowKit
variable {g n:Nat} {LA LB:Nat->Nat} {O:Nat->Option Rat} {tg:Ce} {v:Cd}
def G_ (w:Cc) (v:Cd) (n:Nat) (O:Nat->Option Rat) (LA LB:Nat->Nat):Prop:=∃b o cap,v = Cq (some ⟨b,o,none⟩) n cap/\n<=cap/\b<w.heap.size/\
 ∀t,t<n->∃a1 a2 M E I J,w.cell? ⟨b,o+t*4,none⟩=some (Cx a1)/\w.cell? ⟨b,o+t*4+1,none⟩=some (Cq a2 (LA t) M)/\w.cell? ⟨b,o+t*4+2,none⟩=some (Cx E)/\w.cell? ⟨b,o+t*4+3,none⟩=some (Cq I (LB t) J)/\FB w (Cy #[Cx a1,Cq a2 (LA t) M,Cx E,Cq I (LB t) J]) (O t)
def aS (most:Nat) (o:Option Rat) (p q:Nat):Bool:=decide (p<=most)&&decide (q<=most)&&o.isSome
def xb (most:Nat) (O:Nat->Option Rat) (LA LB:Nat->Nat):Nat->Bool
 | 0=>true
 | t+1=>xb most O LA LB t&&aS most (O t) (LA t) (LB t)
theorem J0 {most:Nat} {i:Nat} (h:xb most O LA LB i=false):∀m,i<=m->xb most O LA LB m=false:=by
 intro m E
 induction m with
 | zero=>
      obtain rfl:i=0:=B_
      exact h
 | succ m ih=>
  rcases Cm m i with g | g
  .
   obtain rfl:i=m+1:=B_
   exact h
  . unfold xb; rw[ih g]; rfl
theorem GK {a1 J:Bool} {a2 M:Option Addr} {p q X N:Nat} {o:Option Rat} (most:Nat) (w:Cc) (T:ai w g tg #[Cz Cv most]) (Z:FB w (Cy #[Cx a1,Cq a2 p X,Cx J,Cq M q N]) o) :
  Cb Ch 82 #[Cy #[Cx a1,Cq a2 p X,Cx J,Cq M q N],Cj (some ⟨g,0,none⟩)] w fun e w'=>e = Cg (Cx (!aS most o p q))/\zf w w':=by
 have hl:=T.lt;have cc:=T.q0;have I:∀w',av w w'->Cb Ch 58 #[Cy #[Cx a1,Cq a2 p X,Cx J,Cq M q N]] w' fun e w2=>e = Cg (Cz Cv (Ki o.isSome))/\zf w' w2:=fun w' k=>k9 w' (Z.af k);unfold aS;obtain⟨s,hs⟩:∃s,o.isSome=s:=⟨_,rfl⟩;rw[hs]at I|-;clear T Z hs
 by_cases h1:p<=most
 .
  by_cases h2:q<=most
  .
   rw[C9 h1,C9 h2];have Y:¬(most:Int)<(p:Int):=B_
   have g2:¬(most:Int)<(q:Int):=B_
   clear h1 h2
   go_enter Tryz.func82,Tryz.ntmps82
   go_wp2_with fail
   refine(I _ zo).mono ?_;rintro e w1 ⟨rfl,E⟩;have B1:Below w.heap.size w w1:=yQ E;clear I E
   cases s with
   | false=>
    have e8:(Ki false==0)=false:=rfl;rw[show Ki false=8 from rfl]
    go_wp2
    go_returns
    exact⟨rfl,B1⟩
   | true=>
    rw[show Ki true=0 from rfl]
    go_wp2
    go_returns
    exact⟨rfl,B1⟩
  .
   rw[C9 h1,C_ h2];have Y:¬(most:Int)<(p:Int):=B_
   have g2:(most:Int)<(q:Int):=B_
   clear h1 h2 I
   go_enter Tryz.func82,Tryz.ntmps82
   go_wp2
   go_returns
   exact⟨rfl,zi⟩
 .
  rw[C_ h1];have Y:(most:Int)<(p:Int):=B_
  clear h1 I
  go_enter Tryz.func82,Tryz.ntmps82
  go_wp2
  go_returns
  exact⟨rfl,zi⟩
theorem WF (most:Nat) (w:Cc) (h:G_ w v n O LA LB) (hb:ai w g tg #[Cz Cv most]) (hn:n<=1000) :
  Cb Ch 122 #[v,.func (.func 82) #[] #[Cj (some ⟨g,0,none⟩)]] w fun e w'=>∃i,e = Cg (Cz Cv i)/\decide (0<=i) = !xb most O LA LB n/\zf w w':=by
 obtain⟨b,of,cap,rfl,hc,I,E⟩:=h;have HC:=C5 E;have CL:∀w',zf w w'->∀a1 a2 p N M T q X o,FB w (Cy #[Cx a1,Cq a2 p N,Cx M,Cq T q X]) o->Cb Ch 82 #[Cy #[Cx a1,Cq a2 p N,Cx M,Cq T q X],Cj (some ⟨g,0,none⟩)] w' fun e w2=>e = Cg (Cx (!aS most o p q))/\zf w' w2:=fun w' s a1 a2 p N M T q X o hf=>GK most w' (hb.ae s) (hf.af (av.ae s));clear E hb
 go_enter Tryz.func122,Tryz.ntmps122
 go_wp2_with fail
 go_loopw [8] (fun kk wr=>∃t:Nat,t<=n/\kk = Cz Cv t/\xb most O LA LB t=true/\Below w.heap.size w wr) (fun kk _=>n-(intOf kk).toNat)
 case atStart=>exact⟨0,by omega,rfl,rfl,zi⟩
 case round=>
  obtain⟨t,ht,rfl,hw,B⟩:=hrel
  rcases Cm t n with tn | tn
  .
   have bf:decide ((t:Int)<(n:Int))=true:=C9 B_;obtain⟨a1,a2,N,M,T,X,h0,h1,h2,h3,hf⟩:=HC.out t tn;have c0:wr.cell? ⟨b,of+t*4,none⟩=some (Cx a1):=(B.cell (p:=⟨b,_,none⟩) I).trans h0;have c1:wr.cell? ⟨b,of+t*4+1,none⟩=some (Cq a2 (LA t) N):=(B.cell (p:=⟨b,_,none⟩) I).trans h1;have c2:wr.cell? ⟨b,of+t*4+2,none⟩=some (Cx M):=(B.cell (p:=⟨b,_,none⟩) I).trans h2;have c3:wr.cell? ⟨b,of+t*4+3,none⟩=some (Cq T (LB t) X):=(B.cell (p:=⟨b,_,none⟩) I).trans h3;have Z:=fun w' (s:zf w w')=>CL w' s a1 a2 (LA t) N M T (LB t) X (O t) hf;have NO:aS most (O t) (LA t) (LB t)=false->xb most O LA LB n=false:=fun e=>J0 (i:=t+1) (by unfold xb; rw[e,Bool.and_false]) n B_;have J:aS most (O t) (LA t) (LB t)=true->xb most O LA LB (t+1)=true:=fun e=>by unfold xb; rw[hw,e]; rfl
   obtain⟨s,hs⟩:∃s,aS most (O t) (LA t) (LB t)=s:=⟨_,rfl⟩;rw[hs]at Z NO J;obtain⟨L1,be⟩:∃x,LA t=x:=⟨_,rfl⟩;obtain⟨L2,Y⟩:∃x,LB t=x:=⟨_,rfl⟩;rw[be]at c1 Z;rw[Y]at c3 Z;clear hs hf be Y CL h0 h1 h2 h3;go_wp2_with fail
   refine(Z _ zi).mono ?_;rintro e w1 ⟨rfl,b9⟩;have B1:Below w.heap.size w w1:=yQ b9;clear Z b9 B c0 c1 c2 c3
   cases s with
   | false=>
    have N0:=NO rfl;clear NO J;rw[show (!false)=true from rfl]
    go_wp2
    go_returns
    exact⟨_,rfl,by rw[N0]; simp,B1⟩
   | true=>
    have Y0:=J rfl;clear NO J;rw[show (!true)=false from rfl]
    go_wp2
    go_roundw
    case rel=>exact⟨t+1,by omega,by go_num,Y0,B1⟩
    case measure=>simp[intOf]; omega
  .
   obtain rfl:t=n:=B_
   go_wp2
   go_returns
   exact⟨_,rfl,by rw[hw]; rfl,B⟩
theorem ZR (most:Nat) (w:Cc) (h:G_ w v n O LA LB) (hn:n<=1000) :
  Cb Ch 41 #[Cz Cv most,v] w fun e w'=>e = Cg (Cx (xb most O LA LB n))/\zf w w':=by
 have T:∀w' (g:Nat) (tg:Ce),zf w w'->ai w' g tg #[Cz Cv most]->Cb Ch 122 #[v,.func (.func 82) #[] #[Cj (some ⟨g,0,none⟩)]] w' fun e N=>∃i,e = Cg (Cz Cv i)/\decide (0<=i) = !xb most O LA LB n/\zf w' N:=fun w' g tg s M=>by
  refine WF most w' ?_ M hn;obtain⟨b,o,cap,e,hc,I,E⟩:=h;refine⟨b,o,cap,e,hc,Nat.lt_of_lt_of_le I s.size,fun t ht=> ?_⟩;obtain⟨a1,a2,a4,Z,a6,a8,h0,h1,h2,h3,hf⟩:=E t ht;exact⟨a1,a2,a4,Z,a6,a8,(s.cell (p:=⟨b,_,none⟩) I).trans h0,(s.cell (p:=⟨b,_,none⟩) I).trans h1,(s.cell (p:=⟨b,_,none⟩) I).trans h2,(s.cell (p:=⟨b,_,none⟩) I).trans h3,hf.af (av.ae s)⟩
 have Y:∀w' (g:Nat) (tg:Ce),zf w w'->ai w' g tg #[Cz Cv most]->Cb Ch 81 #[v,.func (.func 82) #[] #[Cj (some ⟨g,0,none⟩)]] w' fun e N=>e = Cg (Cx (!xb most O LA LB n))/\zf w' N:=fun w' g tg s M=>by
  have ix:=T w' g tg s M;obtain⟨b,o,cap,rfl,hc,I,E⟩:=h;clear T E M;generalize xb most O LA LB n=L at *
  go_enter Tryz.func81,Tryz.ntmps81
  go_wp2_with fail
  refine ix.mono ?_;rintro e w1 ⟨i,rfl,X,J⟩;clear ix
  cases L with
  | true=>
   have g1:¬0<=i:=by simpa using X
   go_wp2
   go_returns
   exact⟨rfl,J⟩
  | false=>
   have g1:0<=i:=by simpa using X
   go_wp2
   go_returns
   exact⟨rfl,J⟩
 obtain⟨b,o,cap,rfl,hc,I,E⟩:=h;clear T E;generalize xb most O LA LB n=L at *
 go_enter Tryz.func41,Tryz.ntmps41
 go_wp2_with fail
 refine(Y _ w.heap.size 3 zi (ai.new _ _ _)).mono ?_;rintro e w1 ⟨rfl,J⟩;have B1:=bA w J;clear Y J
 go_wp2
 go_returns
 exact⟨by cases L<;>rfl,B1⟩
end
end Go.Proofs.YtffmbepfbienaaaGreat
