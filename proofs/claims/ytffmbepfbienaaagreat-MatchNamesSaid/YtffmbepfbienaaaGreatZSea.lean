import Derived.Test.YtffmbepfbienaaaGreatZMf
set_option linter.unusedVariables false
set_option linter.unusedSimpArgs false
set_option maxHeartbeats 6400000
set_option maxRecDepth 1000000
/- A range Xb a function whose iterator makes memory, calls and draws between its rounds, and writes no memory that is old; match.near's way. -/
open Go.Value renaming slice->Cq,bool->Cx,int->Cz,agg->Cy,pointer->Cj
open Go.IntKind renaming i64->Cv
open Go.Ending renaming returned->Cg
open Go.Proofs.Tryz renaming prog->Ch
open Go renaming Calls->Cb,World->Cc,Value->Cd,bodyPost_ret->Ci
open Nat renaming le_refl->Cl
namespace Go.Proofs.YtffmbepfbienaaaGreat
section
open Go.RowKit
variable {b g o:Nat} {v:Cd} {w:Cc}
def Jy {α : Type} (F:Fence) (m:Nat) (P:Program) (gf:Nat) (lb:Array Cd) (encs : α->Array Cd) (Kp:Cc->Cc->Prop) (S:List α->Prop) (El:List α->α->Prop) (Pr:Cc->Prop):Prop:=
 ∀ (l:Nat) (J:List α->Cc->Prop) (A:Cc),Pr A->(∀{xs A B},J xs A->zf A B->J xs B)->
  (∀pre x B,J pre B->El pre x->A.heap.size<=B.heap.size->YieldAt F (m-1) P l (encs x) B fun e C=>e = Cg (Cx true)/\J (pre ++ [x]) C/\Kp B C)->
  J [] A->CallsIn F m P gf (#[.func (.yield l) #[] #[]]++lb) A fun e C=>(∃v,e = Cg v)/\∃xs,S xs/\J xs C
section
variable {α : Type} {P:Program} {F:Fence} {n:Nat}
theorem Q7 {g:Operand} {ps:Array Tmp} {assign body:Code} {Q:Exit->Act->Cc->Prop} {a:Act}
  (dk:F.round=none) (h1:1<=n) {gf:Nat} {lb:Array Cd} (hg:a.eval g = .func (.func gf) #[] lb) (dd:F.fn gf) (eg:∀args w,(callFunc gf args).run P w = .ok (.enter gf args) w)
  {encs : α->Array Cd} {Kp:Cc->Cc->Prop} {S:List α->Prop} {El:List α->α->Prop} {Pr:Cc->Prop} (bi:Jy F (n-1) P gf lb encs Kp S El Pr) (bt:∀o o',Pr ((w.alloc o).alloc o')) (cx:∀x,(encs x).size=ps.size)
  (be:∀{A B C:Cc},Kp A B->Kp B C->Kp A C) (bl:∀ (A:Cc) (o o':Obj),A.heap[w.heap.size+1]? = some o->o.isCells=false->Kp A (A.putObj (w.heap.size+1) o'))
  (I:List α->Cc->Prop) (hI:∀{xs A B},I xs A->zf A B->I xs B) (ah:∀xs A (o o':Obj),I xs A->A.heap[w.heap.size+1]? = some o->o.isCells=false->I xs (A.putObj (w.heap.size+1) o'))
  (h0:I [] w) (Ax : α->Act->Cc->Prop) (cg:∀x N A (o o':Obj),Ax x N A->A.heap[w.heap.size+1]? = some o->o.isCells=false->Ax x N (A.putObj (w.heap.size+1) o'))
  (M:∀ (pre:List α) (x : α) (A:Cc) (K:Act->Cc->Prop),I pre A->El pre x->w.heap.size+2<=A.heap.size->(∀N T,KeepsOthers A T->Kp A T->I pre T->Ax x N T->K N T)->
   assign.wpIn (F.inRound (w.heap.size+1)) (n-1-1) P (Exit.then K (fun _ _ _=>False)) { tmps:=(ps.zip (encs x)).foldl (fun t (p,v)=>t.setIfInBounds p v) a.tmps,defers:= [] } A)
  (Z:∀ (pre:List α) (x : α) (N:Act) (A:Cc),(∃r,A.heap[w.heap.size+1]? = some (.loop r))->I pre A->Ax x N A->El pre x->w.heap.size+2<=A.heap.size->
   body.wpIn (F.inRound (w.heap.size+1)) (n-1-1) P (ownPostG w.heap.size Kp I (fun _ _ _=>False) (pre ++ [x]) A) N A)
  (b9:∀ (D:Nat) (xs:List α) (A:Cc),w.heap.size<=D->S xs->I xs A->A.heap[D]? = some (.deferred (some []))->Q .normal { a with defers:={ target:= .collected D,args:=#[] } :: a.defers } A) :
  (Code.rangeFunc g ps assign body).wpIn F n P Q a w:=by
 refine wpIn_rangeFunc fun fn bq=> ?_;rw[dk]
 -- the loop's record in its states
 obtain⟨H,E⟩:∃H:LoopState->Option Code->Loop,∀s p,H s p = { state:=s,pending:=p,fn:=fn,tmps:=a.tmps,params:=ps,assign:=assign,body:=body,defers:=w.heap.size }:=⟨_,fun _ _=>rfl⟩
 let D:=w.heap.size
 let L:=w.heap.size+1
 have hL:L=w.heap.size+1:=rfl
 let Ok:Cc->Prop:=fun A=>A.heap[L]? = some (.loop (H .ready none))/\A.heap[D]? = some (.deferred (some []))
 let W:=(w.alloc (.deferred (some []))).alloc (.loop (H .ready none))
 have dc:W.heap.size=w.heap.size+2:=by simp[W]
 have ce:Ok W:=by
  constructor
  .
   have:=World.alloc_heap_new (w.alloc (.deferred (some []))) (.loop (H .ready none))
   rwa[World.size_alloc]at this
  . exact(Below.heap_alloc _ _ _ (by simp[D])).trans (World.alloc_heap_new w _)
 have X:∀{A B:Cc},KeepsOthers A B->Ok A->Ok B:=fun k h=>⟨k.same _ _ h.1 rfl,k.same _ _ h.2 rfl⟩;have bh:∀{pre A B},(I pre A/\Ok A)->zf A B->I pre B/\Ok B:=fun h s=>⟨hI h.1 s,X ⟨s.size,fun k o hk _=>(s.block k (Array.getElem?_eq_some_iff.1 hk).1).trans hk⟩ h.2⟩;refine⟨L,[{ target:= .collected D,args:=#[] }],W,{ target:= .fn (.func gf) lb,args:=#[.func (.yield L) #[] #[]] },W,gf,#[.func (.yield L) #[] #[]]++lb,W,?_,?_,?_,?_,fun _=>h1,?_⟩
 .
  show _=Result.ok _ ((w.alloc _).alloc (.loop (H .ready none)))
  rw[E]; exact run_enterLoop_outer _ _ _ _ _
 . simp only[resolve,hg]; simp[go_sem]
 . intro f' bf; simp[Target.leads]at bf; subst bf; exact dd
 . simp[invoke,go_sem,eg]
 have s0:zf w W:=((Below.refl _ _).alloc (Cl _) _).alloc C4 _;refine(bi L (fun pre A=>I pre A/\Ok A) W (bt _ _) bh ?_ ⟨hI h0 s0,ce⟩).mono ?_
 .
  rintro pre x B ⟨hi,hb⟩ Y bg;rw[dc]at bg;have hy:=run_yield (P:=P) (args:=encs x) hb.1 (by rw[E]; exact cx x);rw[E]at hy;refine⟨fn,_,assign,body,hy,roundIn_of_wpIn bq (M pre x B _ hi Y bg fun N T ko kp d9 cN=> ?_)⟩;have J:=X ko hb;have ci:L<T.heap.size:=(Array.getElem?_eq_some_iff.1 J.1).1;refine⟨_,run_beginRound J.1 (by rw[E]),?_⟩;generalize hbusy : { H .ready none with state:=LoopState.busy } = busy;have e2:(T.putObj L (.loop busy)).heap[L]? = some (.loop busy):=World.putObj_heap_same ci;have e3:(T.putObj L (.loop busy)).heap[D]? = some (.deferred (some [])):=(World.putObj_heap_other (show D≠L by omega)).trans J.2;refine wpIn_mono (Z pre x N _ ⟨_,e2⟩ (ah _ _ _ _ d9 J.1 rfl) (cg _ _ _ _ _ cN J.1 rfl) Y (by have h3:=ko.size; have h4:=(grownBy_putObj' T L (.loop busy)).size; omega)) ?_;rintro e a3 C hp
  cases e with
  | normal=>
   obtain⟨k3,cY,i3⟩:=hp;have e4:C.heap[L]? = some (.loop busy):=k3.same _ _ (show w.heap.size<=L by omega) e2 rfl;have e5:C.heap[D]? = some (.deferred (some [])):=k3.same _ _ (Cl _) e3 rfl;have cy:L<C.heap.size:=(Array.getElem?_eq_some_iff.1 e4).1;have hr:=run_endRound (P:=P) none e4;have br : { busy with state:=if(none:Option Code).isNone then LoopState.ready else .done,pending:=none } = H .ready none:=by rw[<- hbusy,E]; rfl
   rw[br]at hr;exact⟨_,_,hr,rfl,⟨ah _ _ _ _ i3 e4 rfl,World.putObj_heap_same cy,(World.putObj_heap_other (show D≠L by omega)).trans e5⟩,be kp (be (be (bl _ _ _ J.1 rfl) cY) (bl _ _ _ e4 rfl))⟩
  | ret=>exact hp.2.elim
  | exit id=>exact hp.2.elim
  | goto t=>exact hp.2.elim
  | panic ch=>exact hp.elim
  | outgrown=>exact hp.elim
 .
  rintro e C ⟨⟨v,rfl⟩,xs,hS,hi,hc⟩;have hr:=run_endLoop (P:=P) hc.1 (by rw[E]; simp);rw[show (H LoopState.ready none).pending=none by rw[E]]at hr;exact⟨none,_,hr,b9 D xs _ (Cl _) hS (ah _ _ _ _ hi hc.1 rfl) ((World.putObj_heap_other (show D≠L by omega)).trans hc.2)⟩
end
theorem VP (h:w.cell? ⟨b,o,none⟩=some v):∃cs t z,w.heap[b]? = some (.cells cs t z):=by
 unfold World.cell? at h
 split at h
 . exact⟨_,_,_,by assumption⟩
 . cases h
def dh (w:Cc) (g:Nat):Prop:=∃x,ai w g 123 #[Cj x]
structure KG (g:Nat) (A B:Cc):Prop where
 size:A.heap.size<=B.heap.size
 af:av A B
 cells:∀k cs t z,k≠g->A.heap[k]? = some (.cells cs t z)->B.heap[k]? = A.heap[k]?
 pp:dh A g->dh B g
theorem KG.refl (g:Nat) (A:Cc):KG g A A:=⟨Cl _,av.refl _,fun _ _ _ _ _ _=>rfl,id⟩
theorem KG.trans {A B C:Cc} (h:KG g A B) (k:KG g B C):KG g A C:=
 ⟨Nat.le_trans h.size k.size,h.af.trans k.af,fun i cs t z E e=>(k.cells i cs t z E ((h.cells i cs t z E e).trans e)).trans (h.cells i cs t z E e),k.pp∘h.pp⟩
theorem KG.ae {A B:Cc} (s:zf A B):KG g A B:=
 ⟨s.size,av.ae s,fun k cs t z _ e=>s.block k (Array.getElem?_eq_some_iff.1 e).1,fun⟨x,h⟩=>⟨x,h.ae s⟩⟩
theorem KG.put {l:Nat} {A:Cc} {o E:Obj} (h:A.heap[l]? = some o) (hc:o.isCells=false):KG g A (A.putObj l E):=
 ⟨(grownBy_putObj' A l E).size,fun v M I=>jA I (grownBy_putObj' A l E) (fun r e=>by cases e; exact⟨o,h,hc⟩),
  fun k cs t z _ e=>World.putObj_heap_other (fun H=>by subst H; rw[h]at e; cases e; cases hc),fun⟨x,J⟩=>⟨x,zZ J (grownBy_putObj' A l E) (fun r e=>by cases e; exact⟨o,h,hc⟩)⟩⟩
theorem KG.bP {k:Nat} {A B:Cc} {t:TypeId} {cs:Array Cd} (h:KG g A B) (E:ai A k t cs) (H:k≠g):ai B k t cs:=(h.cells k cs t (0,0) H E).trans E
theorem dh.not (h:dh w g) (hc:w.cell? ⟨g,o,none⟩=some v):o=0/\∃x,v = Cj x:=by
 obtain⟨x,E⟩:=h;have c:=E.cell o;rw[hc]at c
 cases o with
 | zero=>simp at c; exact⟨rfl,x,c⟩
 | succ o=>simp at c
theorem KG.cell {A B:Cc} (h:KG g A B) (E:b≠g) (hc:A.cell? ⟨b,o,none⟩=some v):B.cell? ⟨b,o,none⟩=some v:=by
 obtain⟨cs,t,z,e⟩:=VP hc;have:=h.cells b cs t z E e;unfold World.cell? at hc|-;rw[this]; exact hc
theorem dH.kg {A B:Cc} {n:Nat} {M:Nat->Array Cd} {R:Nat->Nat->Option Rat} (h:dH A v n M R) (Y:dh A g) (k:KG g A B):dH B v n M R:=by
 obtain⟨E,ao,cap,e,hc,Z⟩:=h;refine⟨fun t ht=>(E t ht).af k.af,ao,cap,e,hc,fun I=> ?_⟩;obtain⟨b,o,X,hb,J⟩:=Z I
 have N:b≠g:=by
  rintro rfl;have H:=(E 0 I).1;have c:=J 0 I 5 B_;rw[Array.getElem?_eq_getElem B_]at c;have:=(Y.not c).1;omega
 refine⟨b,o,X,Nat.lt_of_lt_of_le hb k.size,fun t ht j T=> ?_⟩;have H:=(E t ht).1;have c:=J t ht j T;rw[Array.getElem?_eq_getElem B_]at c|-;exact k.cell N c
theorem aC.kg {A B:Cc} {l:List Int} (h:aC A v l) (M:dh A g) (k:KG g A B):aC B v l:=by
 obtain⟨ao,cap,e,hc,T⟩:=h;refine⟨ao,cap,e,hc,fun H=> ?_⟩;obtain⟨b,o,J,X,E⟩:=T H
 have I:b≠g:=by
  rintro rfl;obtain⟨_,x,N⟩:=M.not (E 0 (List.length_pos_iff.2 H))
  cases N
 exact⟨b,o,J,Nat.lt_of_lt_of_le X k.size,fun t ht=>k.cell I (E t ht)⟩
def fN (R:Nat->Nat->Option Rat) (q:Nat->Option Rat) (off:Rat):Nat->List Nat
 | 0=> []
 | t+1=>if qg (rq (R t)) (rq q) off 4 then fN R q off t ++ [t]else fN R q off t
theorem VS (R:Nat->Nat->Option Rat) (q:Nat->Option Rat) (off:Rat):∀n,qD R q off n=(fN R q off n).map (fun t:Nat=>(t:Int)):=by
 intro n
 induction n with
 | zero=>rfl
 | succ n ih=>
  show (if _ then _ else _)=List.map _ (if _ then _ else _)
  split
  . rw[ih,List.map_append]; rfl
  . exact ih
theorem We (R:Nat->Nat->Option Rat) (q:Nat->Option Rat) (off:Rat):∀n,∀t∈fN R q off n,t<n:=by
 intro n
 induction n with
 | zero=>intro t h; cases h
 | succ n ih=>
  intro t h
  have:t∈fN R q off n\/t=n:=by
   unfold fN at h
   split at h
   .
    rcases List.mem_append.1 h with h | h
    . exact .inl h
    . exact .inr (List.mem_singleton.1 h)
   . exact .inl h
  rcases this with h | rfl
  . exact Nat.lt_succ_of_lt (ih t h)
  . exact Nat.lt_succ_self _
theorem WU (R:Nat->Nat->Option Rat) (q:Nat->Option Rat) (off:Rat) (n:Nat):(fN R q off n).length<=n:=by
 have:=kY R q off n;rw[VS,List.length_map]at this; exact this
def jL (F:Nat->List Nat):Nat->List (Nat×Nat)
 | 0=> []
 | i+1=>jL F i++(F i).map (fun k=>(i,k))
def Jz (CA CB:Nat->Array Cd) (x:Nat×Nat):Array Cd:=#[Cy (CA x.1),Cy (CB x.2)]
end
section
open Go.RowKit Go.Shelf
attribute [local go_sem] Oper.semAt_some
structure cE (B0 B1 B2 g na nb:Nat) (ao bo:Option Addr) (ca cb:Nat) (CA CB:Nat->Array Cd) (RA RB:Nat->Nat->Option Rat) (FT:Array Cd) (o:Option Rat) (A:Cc):Prop where
 o0:ai A B0 76 #[Cq ao na ca]
 o1:ai A B1 76 #[Cq bo nb cb]
 o2:ai A B2 28 FT
 qa:dH A (Cq ao na ca) na CA RA
 qb:dH A (Cq bo nb cb) nb CB RB
 fb:FB A (Cy FT) o
 pp:dh A g
section
variable {B0 B1 B2 g na nb:Nat} {ao bo:Option Addr} {ca cb:Nat} {CA CB:Nat->Array Cd} {RA RB:Nat->Nat->Option Rat} {FT:Array Cd} {o:Option Rat} {A B:Cc}
theorem cE.kg (h:cE B0 B1 B2 g na nb ao bo ca cb CA CB RA RB FT o A) (k:KG g A B) (h0:B0≠g) (H:B1≠g) (E:B2≠g):cE B0 B1 B2 g na nb ao bo ca cb CA CB RA RB FT o B:=
 ⟨k.bP h.o0 h0,k.bP h.o1 H,k.bP h.o2 E,h.qa.kg h.pp k,h.qb.kg h.pp k,h.fb.af k.af,k.pp h.pp⟩
theorem cE.ae (h:cE B0 B1 B2 g na nb ao bo ca cb CA CB RA RB FT o A) (s:zf A B):cE B0 B1 B2 g na nb ao bo ca cb CA CB RA RB FT o B:=
 ⟨h.o0.ae s,h.o1.ae s,h.o2.ae s,h.qa.ae s,h.qb.ae s,h.fb.af (av.ae s),(KG.ae s).pp h.pp⟩
end
theorem X3 (w:Cc) (m:Nat):zf w (w.drewN m):=yD (Below.refl _ _) m
theorem VT (F:Fence) (n:Nat) (Z:F.fn 72) (E:F.round=none) (ao bo:Option Addr) (a1 a2 b1 b2:Nat) (I X:Bool) (H M:Option Addr) (Y T N J:Nat) (w:Cc) :
  CallsIn F n Ch 72 #[Cq ao a1 a2,Cq bo b1 b2,Cy #[Cx I,Cq H Y T,Cx X,Cq M N J]] w fun e w'=>e = Cg (.func (.func 109) #[] #[Cj (some ⟨w.heap.size,0,none⟩),Cj (some ⟨w.heap.size+1,0,none⟩),Cj (some ⟨w.heap.size+1+1,0,none⟩)])/\
   w'=((w.alloc (.cells #[Cq ao a1 a2] 76)).alloc (.cells #[Cq bo b1 b2] 76)).alloc (.cells #[Cx I,Cq H Y T,Cx X,Cq M N J] 28):=by
 refine callsIn_of_wp Tryz.func72 rfl Z ?_ E;simp only[Tryz.ntmps72,List.size_toArray,List.length_cons,List.length_nil,Nat.reduceAdd,Nat.reduceSub,Array.replicate_succ,Array.replicate_zero,List.push_toArray,List.append_toArray,List.nil_append,List.cons_append]
 gi_wp2
 go_ret
 exact⟨rfl,rfl⟩
theorem Q8 (m B0 B1 B2 g na nb:Nat) (ao bo:Option Addr) (ca cb:Nat) (CA CB:Nat->Array Cd) (RA RB:Nat->Nat->Option Rat) (t1 t5:Bool) (t2 t6:Option Addr) (t3 t4 t7 t8:Nat) (o:Option Rat) (F:Nat->List Nat)
  (n0:B0≠g) (n1:B1≠g) (n2:B2≠g) (ln:nb<=1000) (la:na<=1000) (hF:∀i,i<na->(vK nb RB (RA i) o).1=(F i).map (fun t:Nat=>(t:Int))) (ah:∀i,i<na->∀t∈F i,t<nb) (f9:∀i,i<na->(F i).length<=1000)
  (sR:∀t,t<nb->∀i,i<4->sz (rq (RB t) i) 500) (sA:∀t,t<na->∀i,i<4->sz (rq (RA t) i) 500) (sf:sz (rq (fun _=>o) 0) 500) :
  Jy Fence.wide m Ch 109 #[Cj (some ⟨B0,0,none⟩),Cj (some ⟨B1,0,none⟩),Cj (some ⟨B2,0,none⟩)] (Jz CA CB) (KG g) (fun xs=>xs=jL F na) (fun _ x=>x.1<na/\x.2<nb)
   (cE B0 B1 B2 g na nb ao bo ca cb CA CB RA RB #[Cx t1,Cq t2 t3 t4,Cx t5,Cq t6 t7 t8] o):=by
 intro l J W0 T hC hY h0;have f7:Fence.wide.round=none:=rfl;have HC:Hid (∀{xs A B},J xs A->zf A B->J xs B):=C5 hC;have HY:=C5 hY;have HF:=C5 hF;have HL:=C5 ah;have HN:=C5 T;have H0:=C5 h0;have HZ:=C5 (C6 sR (C6 sA sf));have c0:W0.cell? ⟨B0,0,none⟩=some (Cq ao na ca):=T.o0.c 0 rfl;clear hC hY hF ah T h0 sR sA sf;refine callsIn_of_wp Tryz.func109 rfl trivial ?_ f7;simp only[Tryz.ntmps109,List.size_toArray,List.length_cons,List.length_nil,Nat.reduceAdd,Nat.reduceSub,Array.replicate_succ,Array.replicate_zero,List.push_toArray,List.append_toArray,List.nil_append,List.cons_append]
 gi_wp2_with fail
 clear c0
 gi_loopw [13] (fun k wr=>∃i:Nat,i<=na/\k = Cz Cv (i:Nat)/\J (jL F i) wr/\cE B0 B1 B2 g na nb ao bo ca cb CA CB RA RB #[Cx t1,Cq t2 t3 t4,Cx t5,Cq t6 t7 t8] o wr/\W0.heap.size<=wr.heap.size) (fun k _=>na-(intOf k).toNat)
 case atStart=>exact⟨0,Nat.zero_le _,rfl,H0.out,HN.out,Cl _⟩
 case round=>
  rename Cc=>wo;clear HN H0;obtain⟨i,hi,rfl,H,hb,bi⟩:=hrel
  rcases Nat.lt_or_ge i na with il | il
  .
   have ah:decide ((i:Int)<(na:Int))=true:=C9 B_;have HB:=C5 hb;have HJ:=C5 H;have pg:wo.heap.size≠g:=by obtain⟨x,hx⟩:=hb.pp; have:=hx.lt; omega
   obtain⟨ba,oa,rfl,dP,E⟩:=hb.qa.at il;have qx:=hb.qa.1 i il;obtain⟨C,d9⟩:∃C,CA i=C:=⟨_,rfl⟩;rw[d9]at E qx;have be:=qx.1;have bf:=qx.2.1;have b9:∀j,j<C.size->wo.cell? ⟨ba,oa+i*20+j,none⟩=C[j]? :=fun j H=>E j B_;have ic:(Tryz.prog.info? 83).map (·.size)=some C.size:=by rw[be]; kernel_rfl
   have HX:=C5 qx;clear hb H E qx
   gi_upto_region 2 with fail
   refine wpIn_wide.2 (wp_region_lit ?_)
   repeat' (first | ((with_reducible show wpList _ _ _ (⟨some 16,_,_,_,_,_⟩::_) _ _); refine kJ rfl 83 (.tmp 15) rfl ba (oa+i*20) rfl C _ b9 Tryz.underlying83 rfl ic ?_) | ((with_reducible show wpList _ _ _ (⟨none,.store _ _ _,_,_,_,_⟩::_) _ _); refine zE rfl 83 (.tmp 6) (.tmp 16) rfl wo.heap.size C rfl rfl 83 Jf zw ic be.symm bf (fun w5 r5=> ?_)) | go_values | go_skip | go_guarded | go_step | go_upon)
   have Y:zf wo w5:=r5.below ((Below.refl wo.heap.size wo).alloc (Cl _) _) (Cl _);have oq:=r5.bP;have M:=HB.out.ae Y;have dl:=HC.out HJ.out Y;have cf:=GT w5 M.qb ln (HX.out.ae Y) M.fb HZ.out.1 (HZ.out.2.1 i il) HZ.out.2.2;rw[HF.out i il]at cf;have bg:W0.heap.size<=w5.heap.size:=Nat.le_trans bi Y.size;have cY:=C5 M;have cx:=C5 dl;have c1:w5.cell? ⟨B1,0,none⟩=some (Cq bo nb cb):=M.o1.c 0 rfl;have d0:w5.cell? ⟨B2,0,none⟩=some (Cx t1):=M.o2.c 0 rfl;have d1:w5.cell? ⟨B2,1,none⟩=some (Cq t2 t3 t4):=M.o2.c 1 rfl;have d2:w5.cell? ⟨B2,2,none⟩=some (Cx t5):=M.o2.c 2 rfl;have d3:w5.cell? ⟨B2,3,none⟩=some (Cq t6 t7 t8):=M.o2.c 3 rfl;have dy:=C5 (HL.out i il);have fl:=f9 i il;have HE:Hid (jL F (i+1)=jL F i++(F i).map (fun k=>(i,k))):=C5 rfl;obtain⟨I,cy⟩:∃I,F i=I:=⟨_,rfl⟩;rw[cy]at cf HE dy fl;obtain⟨er,ci⟩:∃er,(vK nb RB (RA i) o).2=er:=⟨_,rfl⟩;rw[ci]at cf;clear cy ci M dl Y r5 b9 bf HB HJ HF HX dP bi
   gi_upto_region 3 with fail
   refine wpIn_wide.2 (wp_region_lit ?_)
   repeat' (first | ((with_reducible show wpList _ _ _ (⟨some 19,_,_,_,_,_⟩::_) _ _); refine Yv rfl 83 (.tmp 6) rfl wo.heap.size rfl 83 C _ oq Tryz.underlying83 rfl ic ?_) | go_values | go_skip | go_guarded | go_step | go_upon)
   refine cf.mono ?_;rintro e w6 ⟨u,rfl,hu,X⟩;have dc:=oq.ae X;have bt:=cY.out.ae X;have cN:=HC.out cx.out X;have bh:W0.heap.size<=w6.heap.size:=Nat.le_trans bg X.size;have bl:(I.map (fun t:Nat=>(t:Int))).length=I.length:=List.length_map _;obtain⟨uo,uc,rfl⟩:=hu.au;rw[bl]at hu;rw[bl];have H6:=C5 (C6 bt (C6 cN (C6 dc (C6 hu bh))));generalize wo.heap.size=pq at *;clear c1 d0 d1 d2 d3 cf oq cY cx bt cN dc hu bg bh X bl;dsimp only
   repeat' (first | go_values | go_skip | go_guarded | go_step | go_upon)
   gi_wp2_with fail
   gi_loopw [26] (fun k wr=>∃j:Nat,j<=I.length/\k = Cz Cv (j:Nat)/\J (jL F i++(I.take j).map (fun k=>(i,k))) wr/\cE B0 B1 B2 g na nb (some ⟨ba,oa,none⟩) bo ca cb CA CB RA RB #[Cx t1,Cq t2 t3 t4,Cx t5,Cq t6 t7 t8] o wr/\ai wr pq 83 C/\aC wr (Cq uo I.length uc) (I.map (fun t:Nat=>(t:Int)))/\W0.heap.size<=wr.heap.size) (fun k _=>I.length-(intOf k).toNat)
   case atStart=>exact⟨0,Nat.zero_le _,rfl,by rw[List.take_zero,List.map_nil,List.append_nil]; exact H6.out.2.1,H6.out.1,H6.out.2.2.1,H6.out.2.2.2.1,H6.out.2.2.2.2⟩
   case round=>
    rename Cc=>wi;clear H6;obtain⟨j,H,rfl,hJ,hB,oq,hu,hs⟩:=hrel
    rcases Nat.lt_or_ge j I.length with jl | jl
    .
     have dx:decide ((j:Int)<(I.length:Int))=true:=C9 B_;obtain⟨k,hk⟩:∃k,I[j]=k:=⟨_,rfl⟩;have kn:k<nb:=dy.out k (hk▸List.getElem_mem jl);have HT:Hid (I.take (j+1)=I.take j ++ [k]):=C5 (by rw[List.take_add_one,List.getElem?_eq_getElem jl,hk]; rfl);obtain⟨ub,uf,rfl,eF,eM⟩:=hu.eQ (t:=j) (by rw[List.length_map]; exact jl)
     have eg:(I.map (fun t:Nat=>(t:Int))).getD j 0=(k:Int):=by
      rw[List.getD_eq_getElem?_getD,List.getElem?_map,List.getElem?_eq_getElem jl,hk]; rfl
     rw[eg]at eM;obtain⟨bb,ob,rfl,eW,E⟩:=hB.qb.at kn;have qx:=hB.qb.1 k kn;obtain⟨D_,bq⟩:∃C,CB k=C:=⟨_,rfl⟩;rw[bq]at E qx;have cg:=qx.1;have b9:∀j,j<D_.size->wi.cell? ⟨bb,ob+k*20+j,none⟩=D_[j]? :=fun j H=>E j B_;have em:(Tryz.prog.info? 83).map (·.size)=some D_.size:=by rw[cg]; kernel_rfl
     have c1:wi.cell? ⟨B1,0,none⟩=some (Cq (some ⟨bb,ob,none⟩) nb cb):=hB.o1.c 0 rfl;have fm:decide ((k:Int)<(nb:Int))=true:=C9 B_;have HI:=C5 (C6 hJ (C6 hB (C6 oq (C6 hu hs))));have fe:=C5 hk;clear hJ hB hu hs E qx eF eW eg hk
     gi_wp2_with fail
     refine aP.bK (fun D _ W'=>D 6=false->∃m,W'=wi.drewN m) (aj.inl [6]) (aj.gv [(6,fun x=>x = Cx true)])
      (gw [(6,fun x W'=>x = Cx true/\J (jL F i++(I.take j).map (fun k=>(i,k)) ++ [(i,k)]) W'/\KG g wi W')]) (fun _=>aj.Any) (fun _ _=>False) (aj.pl [(8,[(6,some 36)])]) (aj.pl [(1,[6]),(2,[6]),(5,[6])])
      B' B' B' (aj.bk _ (by intro p hp; simp only[List.mem_cons,List.not_mem_nil,or_false]at hp; rcases hp with rfl; exact⟨_,rfl⟩)) (fun _ _=>⟨1,rfl⟩) (fun _ _ _ _ _ h=>h)
      (fun D v k j W W' x ec H hk _ _ _=>absurd ((by simpa[aj.inl]using H:j=6).trans (by simpa[aj.inl]using hk:k=6).symm) ec) (fun _ _ _ _ h=>h.elim) (fun ce Q' N hQ=> ?_)
     refine aP.RY N _ ?_;apply aP.bm (hc:=rfl) (hst:=rfl) (hw:=rfl) (t:=31) (hd:=rfl) (ht:=Ca rfl)
     .
      intro D v' W' hc H hf K hK;obtain⟨Z,rfl⟩:=H (hc.2 6 C0);refine wp_load_row 83 (.tmp 6) rfl pq rfl 83 C (0,0) _ (oq.drewN Z) Tryz.underlying83 rfl ic ?_;exact hK.out
     . rfl
     refine aP.aD (b:=⟨#[_,_,_,_,_,_,_,_,_,_,_,_,_,_,_,_,_,_,_,_,_,_,_,_,_,_,_,_,_,_,_,_,_,_,_,_,_,_,_,_],_⟩) rfl ?_;apply aP.bm (hc:=rfl) (hst:=rfl) (hw:=rfl) (t:=32) (hd:=rfl) (ht:=Ca rfl)
     .
      intro D v' W' hc H hf K hK;obtain⟨Z,rfl⟩:=H (hc.2 6 C0);have fd:(wi.drewN Z).cell? ⟨B1,0,none⟩=some (Cq (some ⟨bb,ob,none⟩) nb cb):=c1;go_step;exact hK.out
     . rfl
     repeat refine aP.RY N _ ?_
     apply aP.bm (hc:=rfl) (hst:=rfl) (hw:=rfl) (t:=35) (hd:=rfl) (ht:=Ca rfl)
     .
      intro D v' W' hc H hf K hK;obtain⟨Z,rfl⟩:=H (hc.2 6 C0);refine ZM 83 (.tmp 34) rfl bb (ob+k*20) rfl D_ _ (fun j H=>b9 j H) Tryz.underlying83 rfl em ?_;exact hK.out
     . rfl
     refine aP.aD (b:=⟨#[_,_,_,_,_,_,_,_,_,_,_,_,_,_,_,_,_,_,_,_,_,_,_,_,_,_,_,_,_,_,_,_,_,_,_,_,_,_,_,_],_⟩) rfl ?_;refine aP.aB (n:=m) rfl (by intro t ht; cases ht; exact Ca rfl) (by rw[N]; rfl) (fun D v' W' hc H hf K hK=> ?_) ?_
     .
      obtain⟨Z,rfl⟩:=H hc.1;have sd:=X3 wi Z;obtain⟨fn,tmps,assign,body,hy,hR⟩:=HY.out _ (i,k) (wi.drewN Z) (HC.out HI.out.1 sd) ⟨il,kn⟩ (Nat.le_trans HI.out.2.2.2.2 sd.size);unfold Jz at hy;dsimp only at hy;rw[d9,bq]at hy;unfold Oper.wpIn;refine⟨fun _ _=>trivial,?_⟩;rw[show Oper.semAt Fence.wide.round _ _=execOp _ _ from rfl];have dk:∀x y,x=Sem.run Ch (Instr.yield l #[Cy C,Cy D_]) (wi.drewN Z)->y=x->y = .ok (.round l fn tmps assign body) (wi.drewN Z):=fun x y e1 e2=>by rw[e2,e1]; exact hy
      rw[dk _ (Sem.run _ _ _) rfl (by simp[execOp,go_sem,Act.eval]),Oper.uponIn_round];refine⟨fun h=>(by cases h),qK (hR.mono ?_)⟩;rintro e W3 ⟨rfl,ek,f8⟩;exact hK.out _ _ aj.any (fun h=>by cases h) ⟨rfl,ek,(KG.ae sd).trans f8⟩ rfl
     rintro _ rfl;refine aP.aD (b:=⟨#[_,_,_,_,_,_,_,_,_,_,_,_,_,_,_,_,_,_,_,_,_,_,_,_,_,_,_,_,_,_,_,_,_,_,_,_,_,_,_,_],_⟩) rfl ?_;refine aP.RY N _ ?_;refine aP.aH (fun Dn v' W4 hd H hf=> ?_);have hg:=(hf (6,some 36) (.head _) rfl).2.2;clear hd hf H;obtain⟨br,dd⟩:J (jL F i++(I.take j).map (fun k=>(i,k)) ++ [(i,k)]) W4/\KG g wi W4:=hg.2;clear hg;refine hQ _ _ ?_;clear hQ N Q' ce;have HG:=C5 (C6 br dd);clear br dd
     gi_wp2
     go_roundw
     case rel=>
      refine⟨j+1,by omega,by go_num,?_,HI.out.2.1.kg HG.out.2 n0 n1 n2,HG.out.2.bP HI.out.2.2.1 pg,HI.out.2.2.2.1.kg HI.out.2.1.pp HG.out.2,Nat.le_trans HI.out.2.2.2.2 HG.out.2.size⟩;rw[HT.out,List.map_append,<- List.append_assoc];exact HG.out.1
     case measure=>simp[intOf]; omega
    .
     obtain rfl:j=I.length:=B_
     have dx:decide ((I.length:Int)<(I.length:Int))=false:=C_ B_;rw[List.take_length,<- HE.out]at hJ;have HJ:=C5 (C6 hJ (C6 hB hs));clear hJ hB oq hu hs
     gi_wp2_with fail
     go_roundw
     case rel=>exact⟨i+1,by omega,by go_num,HJ.out.1,HJ.out.2.1,HJ.out.2.2⟩
     case measure=>simp[intOf]; omega
  .
   obtain rfl:i=na:=B_
   have ah:decide ((i:Int)<(i:Int))=false:=C_ B_;have HJ:=C5 H;clear H hb bi
   gi_wp2_with fail
   go_end0
   exact⟨⟨_,rfl⟩,_,rfl,HJ.out⟩
end
end Go.Proofs.YtffmbepfbienaaaGreat
/- MatchSearches without the program: the qG of the candidates, in the order in which they come. -/
namespace Go.Proofs.YtffmbepfbienaaaGreat
section
open Go.RowKit
variable {x y:Nat×Nat} {o:Nat×Nat->Rat} {e:Option (Nat×Nat)} {l:PL}
theorem Q9:∀p∈bQ,p.1<4/\p.2.1<4/\p.2.2.1<4/\p.2.2.2<4:=by decide
theorem VU {xs:List P4} {A:aT} (h:A∈qs l xs):∃x∈xs,0<jT l (K4 x)/\A=yB l (K4 x):=by
 unfold qs at h;obtain⟨x,E,e⟩:=List.mem_filterMap.1 h
 by_cases g:0<jT l (K4 x)
 . rw[C7 g]at e; cases e; exact⟨x,E,g,rfl⟩
 . rw[C8 g]at e; cases e
structure dY (l:PL) (A:aT):Prop where
 ex:∃j0 j1 j2 j3:Nat,A.k0=j0/\A.k1=j1/\A.k2=j2/\A.k3=j3/\j0<l.length/\j1<l.length/\j2<l.length/\j3<l.length/\jw ((pt l j1).1-(pt l j0).1) ((pt l j1).2-(pt l j0).2)≠0
theorem G1 {n:Nat} (E:n<=l.length) (I:n<=6) {A:aT} (h:A∈qs l (yh n)):dY l A:=by
 obtain⟨x,M,hw,rfl⟩:=VU h;obtain⟨N,Y,T,Z⟩:=kW ((Vz n I).2 x M);obtain⟨p,J,e⟩:=K_ hw;have E:=(qd l _ hw).2.1
 have H:∀i,i<4->K4 x i<l.length:=fun i X=>by
  rcases(show i=0\/i=1\/i=2\/i=3 by omega)with rfl | rfl | rfl | rfl
  . show x.1<_; omega
  . show x.2.1<_; omega
  . show x.2.2.1<_; omega
  . show x.2.2.2<_; omega
 obtain⟨p0,p1,p2,p3⟩:=Q9 p J;rw[e]at E|-;rw[Ul]at E;refine⟨K4 x p.1,K4 x p.2.1,K4 x p.2.2.1,K4 x p.2.2.2,rfl,rfl,rfl,rfl,H _ p0,H _ p1,H _ p2,H _ p3,?_⟩;unfold dst U1 at E;omega
def tX (l m:PL) (a b:List aT) (x:Nat×Nat):Nat->Rat:=
 kZ (pt l (a.getD x.1 zM).k0.toNat) (pt l (a.getD x.1 zM).k1.toNat) (pt m (b.getD x.2 zM).k0.toNat) (pt m (b.getD x.2 zM).k1.toNat)
def pX (l m:PL) (a b:List aT) (E:Int) (x:Nat×Nat):List Int:=yC (tX l m a b x) (E:Rat) l m l.length
def oX (l m:PL) (a b:List aT) (E:Int) (H s:Rat) (x:Nat×Nat):Rat:=
 xB H s (pX l m a b E x) (GZ (a.getD x.1 zM).k0 (a.getD x.1 zM).k1 (a.getD x.1 zM).k2 (a.getD x.1 zM).k3) l.length
def jM (o:Nat×Nat->Rat):Option (Nat×Nat)->Nat×Nat->Option (Nat×Nat)
 | none,x=>some x
 | some y,x=>if o y<o x then some x else some y
def ju (o:Nat×Nat->Rat) (xs:List (Nat×Nat)):Option (Nat×Nat):=xs.foldl (jM o) none
theorem Z7 (o:Nat×Nat->Rat) (xs:List (Nat×Nat)) (x:Nat×Nat):ju o (xs ++ [x])=jM o (ju o xs) x:=by unfold ju; rw[List.foldl_append]; rfl
theorem Y' (h:e=none):jM o e x=some x:=by subst h; rfl
theorem Q_ (h:e=some y) (g:0<yJ (o x) (o y)):jM o e x=some x:=by
 subst h;have:¬yJ (o x) (o y)<0:=B_
 have H:¬o x<o y:=fun h=>this (bH.2 h);have E:o x≠o y:=fun h=>by have:=Zb.2 h; omega
 exact C7 (Rat.lt_of_le_of_ne (Rat.not_lt.1 H) (Ne.symm E))
theorem Kd (h:e=some y) (g:yJ (o x) (o y)<=0):jM o e x=e:=by
 subst h;refine C8 fun h=> ?_
 rcases Int.lt_or_eq_of_le g with g | g
 . exact Rat.not_lt.2 (Rat.le_of_lt (bH.1 g)) h
 .
  have e:=Zb.1 g;rw[e]at h;exact Rat.lt_irrefl h
theorem Ke {xs:List (Nat×Nat)} (h:ju o xs=some y):y∈xs:=by
 have:∀ (xs:List (Nat×Nat)) (e:Option (Nat×Nat)) (y:Nat×Nat),xs.foldl (jM o) e=some y->y∈xs\/e=some y:=by
  intro xs
  induction xs with
  | nil=>intro e y h; exact .inr h
  | cons x xs ih=>
   intro e y h
   rcases ih _ _ h with h | h
   . exact .inl (.tail _ h)
   .
    cases e with
    | none=>cases h; exact .inl (.head _)
    | some z=>
     rw[show jM o (some z) x=if o z<o x then some x else some z from rfl]at h
     split at h
     . cases h; exact .inl (.head _)
     . exact .inr h
 rcases this xs none y h with h | h
 . exact h
 . cases h
theorem G2 (k0 k1 k2 k3 i:Int):xJ [k0,k1,k2,k3] i 4=((i==k0)||(i==k1)||(i==k2)||(i==k3)):=by
 unfold xJ; unfold xJ; unfold xJ; unfold xJ; unfold xJ;rw[Bool.false_or]; rfl
theorem VV (k0 k1 k2 k3:Int):(fun i:Nat=>xJ [k0,k1,k2,k3] (i:Int) [k0,k1,k2,k3].length)=GZ k0 k1 k2 k3:=by
 funext i
 exact G2 k0 k1 k2 k3 i
theorem WV (l m:PL) (a b:List aT) (E:Int) (x:Nat×Nat):(pX l m a b E x).length=l.length:=jo _ _ _ _ _
def Z8 (a b:List aT) (off:Rat):List (Nat×Nat):=
 jL (fun i=>fN (fun t j=>some (rA (b.getD t zM) j)) (fun j=>some (rA (a.getD i zM) j)) off b.length) a.length
def yP (ok:Bool) (l m:PL) (most R A:Int) (off s least:Rat):Int×Option (Nat×Nat):=
 if ok=false then(8,none)else if zQ l≠0 then(zQ l,none)else if zQ m≠0 then(zQ m,none)else if most<0\/12<most\/¬zC R A m.length<1 then(2,none)else
  match ju (oX l m (yp l most).2 (yp m most).2 R (yU s (zC R A m.length)) s) (Z8 (yp l most).2 (yp m most).2 off)with
  | none=>(6,none)
  | some x=>if oX l m (yp l most).2 (yp m most).2 R (yU s (zC R A m.length)) s x<least then(6,none)else(0,some x)
abbrev yZ:Array Cd:=#[Cx false,Cq none 0 0,Cx false,Cq none 0 0,Cx false,Cq none 0 0,Cx false,Cq none 0 0,Cx false,Cq none 0 0,Cx false,Cq none 0 0,Cx false,Cq none 0 0,Cx false,Cq none 0 0,Cq none 0 0,Cx false,Cq none 0 0,Cx false,Cq none 0 0]
def cD (w:Cc) (v:Cd) (t:Nat->Rat) (p:List Int) (o:Rat):Prop:=∃cs u E T X M N J H I,v = Cy (cs++#[u,Cx E,Cq T X M,Cx N,Cq J H I])/\cz w (Cy cs) t/\aC w u p/\FR w (Cy #[Cx E,Cq T X M,Cx N,Cq J H I]) o
def WW (w:Cc) (v:Cd) (l m:PL) (a b:List aT) (E:Int) (H s:Rat):Option (Nat×Nat)->Prop
 | none=>v = Cy yZ
 | some x=>cD w v (tX l m a b x) (pX l m a b E x) (oX l m a b E H s x)
theorem G4 {most:Int} (Y:l.length<=6) (hc:zQ l=0) (h0:0<=most) (Z:most<=12):(yp l most).2.length<=15/\∀t,t<(yp l most).2.length->(∀i,sz (rA ((yp l most).2.getD t zM) i) 2)/\dY l ((yp l most).2.getD t zM):=by
 have e:yp l most=(0,qs l (yh (min most (l.length:Int)).toNat)):=by unfold yp; rw[C8 (by rw[hc]; simp),C8 B_]
 rw[e];obtain⟨n,X⟩:∃n,(min most (l.length:Int)).toNat=n:=⟨_,rfl⟩;rw[X];obtain⟨J,N⟩:=Vz n B_;refine⟨Nat.le_trans (Va l _) J,fun t ht=> ?_⟩
 have I:(qs l (yh n)).getD t zM∈qs l (yh n):=by
  replace ht:t<(qs l (yh n)).length:=ht;rw[List.getD,List.getElem?_eq_getElem ht];exact List.getElem_mem ht
 show (∀i,sz (rA ((qs l (yh n)).getD t zM) i) 2)/\dY l ((qs l (yh n)).getD t zM)
 generalize (qs l (yh n)).getD t zM=a at I;refine⟨fun i=> ?_,G1 B_ B_ I⟩;obtain⟨x,T,hw,rfl⟩:=VU I;have M:=N x T;have H:∀i,K4 x i<l.length:=U8 M B_;have E:∀i,vX (pt l (K4 x i)).1 (pt l (K4 x i)).2:=fun i=>Y4 hc _ (H i);exact U7 (ZU E hw) (by rw[(qd l _ hw).2.1]; exact hw) i
end
section
open Go.RowKit
variable {most:Int} {l:PL}
def VW (ok:Bool) (l m:PL):Int:=if ok=false then 8 else if zQ l≠0 then zQ l else if zQ m≠0 then zQ m else 2
theorem Zh (h:zQ l=0) (h0:0<=most) (E:most<=12):(yp l most).1=0:=by unfold yp; rw[C8 (by rw[h]; simp),C8 B_]
theorem VX (h:zQ l=0) (E:most<0\/12<most):(yp l most).1=2:=by unfold yp; rw[C8 (by rw[h]; simp),C7 E]
set_option maxHeartbeats 6400000 in
set_option maxRecDepth 1000000 in
theorem X4 {ua1 ua5 ub1 ub5 uc1 uc5:Bool} {ua2 ua6 ub2 ub6 uc2 uc6:Option Addr} {ua3 ua4 ua7 ua8 ub3 ub4 ub7 ub8 uc3 uc4 uc7 uc8:Nat} {R A:Int} {O:Nat->Option Rat} {vl vm:Cd} {m:PL} (most:Int) (w:Cc) (b0:FB w (Cy #[Cx ua1,Cq ua2 ua3 ua4,Cx ua5,Cq ua6 ua7 ua8]) (O 0)) (b1:FB w (Cy #[Cx ub1,Cq ub2 ub3 ub4,Cx ub5,Cq ub6 ub7 ub8]) (O 1)) (b2:FB w (Cy #[Cx uc1,Cq uc2 uc3 uc4,Cx uc5,Cq uc6 uc7 uc8]) (O 2)) (fw:ve O (ya ua3 ub3 uc3 uc3) (ya ua7 ub7 uc7 uc7) 3) (hl:bJ w vl l) (hm:bJ w vm m) (zl:l.length<=6\/(200<l.length/\l.length<=210)) (zm:m.length<=6\/(200<m.length/\m.length<=210))
  (h:yx O (ya ua3 ub3 uc3 uc3) (ya ua7 ub7 uc7 uc7) R A ua1=false\/zQ l≠0\/zQ m≠0\/most<0\/12<most\/¬zC R A m.length<1) :
  Cb Ch 31 #[vl,vm,Cz Cv most,Cy #[Cx ua1,Cq ua2 ua3 ua4,Cx ua5,Cq ua6 ua7 ua8,Cz Cv R,Cz Cv A,Cx ub1,Cq ub2 ub3 ub4,Cx ub5,Cq ub6 ub7 ub8,Cx uc1,Cq uc2 uc3 uc4,Cx uc5,Cq uc6 uc7 uc8]] w fun e E=>e = Cg (.tuple #[Cy yZ,Cz Cv (VW (yx O (ya ua3 ub3 uc3 uc3) (ya ua7 ub7 uc7 uc7) R A ua1) l m)])/\zf w E:=by
 have CK:∀E,av w E->Cb Ch 26 #[Cy #[Cx ua1,Cq ua2 ua3 ua4,Cx ua5,Cq ua6 ua7 ua8,Cz Cv R,Cz Cv A,Cx ub1,Cq ub2 ub3 ub4,Cx ub5,Cq ub6 ub7 ub8,Cx uc1,Cq uc2 uc3 uc4,Cx uc5,Cq uc6 uc7 uc8]] E fun e H=>e = Cg (Cz Cv (vM (yx O (ya ua3 ub3 uc3 uc3) (ya ua7 ub7 uc7 uc7) R A ua1)))/\zf E H:=fun E k=>QY E (b0.af k) (b1.af k) (b2.af k) fw;have QL:∀E,zf w E->Cb Ch 37 #[vl] E fun e H=>e = Cg (Cz Cv (zQ l))/\zf E H:=fun E s=>xX E (hl.ae s) B_;have QM:∀E,zf w E->Cb Ch 37 #[vm] E fun e H=>e = Cg (Cz Cv (zQ m))/\zf E H:=fun E s=>xX E (hm.ae s) B_;have AL:zQ l=0->∀E,zf w E->Cb Ch 71 #[vl,Cz Cv most] E fun e H=>∃u,e = Cg (.tuple #[u,Cz Cv (yp l most).1])/\zf E H:=fun hc E s=>(UH most E (hl.ae s) B_ (fun _ _=>by have:=xS hc; omega)).mono fun e H ⟨u,I,X,h3⟩=>⟨u,I,h3⟩;have AM:zQ m=0->∀E,zf w E->Cb Ch 71 #[vm,Cz Cv most] E fun e H=>∃u,e = Cg (.tuple #[u,Cz Cv (yp m most).1])/\zf E H:=fun hc E s=>(UH most E (hm.ae s) B_ (fun _ _=>by have:=xS hc; omega)).mono fun e H ⟨u,I,X,h3⟩=>⟨u,I,h3⟩;have RK:yx O (ya ua3 ub3 uc3 uc3) (ya ua7 ub7 uc7 uc7) R A ua1=true->(1<=R/\R<=65536/\1<=A/\A<=17592186044416):=fun h=>(zX.1 h).2.1;have CH:(1<=R/\R<=65536/\1<=A/\A<=17592186044416)->zQ m=0->∀E g,ai E g 89 #[Cz Cv 0]->Cb Ch 50 #[Cj (some ⟨g,0,none⟩),Cy #[Cx ua1,Cq ua2 ua3 ua4,Cx ua5,Cq ua6 ua7 ua8,Cz Cv R,Cz Cv A,Cx ub1,Cq ub2 ub3 ub4,Cx ub5,Cq ub6 ub7 ub8,Cx uc1,Cq uc2 uc3 uc4,Cx uc5,Cq uc6 uc7 uc8],Cz Cv m.length] E fun e H=>∃v,e = Cg (.tuple #[v,Cx (decide (zC R A m.length<1))])/\FR H v (zC R A m.length)/\zf E H:=fun hr hc E g hb=>Ze R A m.length E hb hr.1 hr.2.1 hr.2.2.1 hr.2.2.2 B_ (by have:=xS hc; omega);have HB:Hid (VW (yx O (ya ua3 ub3 uc3 uc3) (ya ua7 ub7 uc7 uc7) R A ua1) l m=if yx O (ya ua3 ub3 uc3 uc3) (ya ua7 ub7 uc7 uc7) R A ua1=false then 8 else if zQ l≠0 then zQ l else if zQ m≠0 then zQ m else 2):=C5 rfl;generalize VW (yx O (ya ua3 ub3 uc3 uc3) (ya ua7 ub7 uc7 uc7) R A ua1) l m=bs at *;generalize yx O (ya ua3 ub3 uc3 uc3) (ya ua7 ub7 uc7 uc7) R A ua1=K at *;have M:=fun h0 I X=>Zh (l:=l) (most:=most) h0 I X;have J:=fun h0 I X=>Zh (l:=m) (most:=most) h0 I X;have N:=fun h0 I=>VX (l:=l) (most:=most) h0 I;obtain⟨al,cl,rfl⟩:=hl.au;obtain⟨am,cm,rfl⟩:=hm.au;generalize hnl:l.length=nl at *;generalize hnm:m.length=nm at *;generalize (yp l most).1=ea at *;generalize (yp m most).1=eb at *;generalize hcl:zQ l=c1 at *;generalize hcm:zQ m=c2 at *;generalize zC R A nm=cq at *;clear hl hm b0 b1 b2 fw hnl hnm hcl hcm
 go_enter Tryz.func31,Tryz.ntmps31
 go_wp2_with fail
 go_step3
 go_upto_region 1 with fail
 refine wp_region_lit ?_
 repeat' (first | ((with_reducible show wpList _ _ _ (⟨some 23,_,_,_,_,_⟩::_) _ _); refine zP rfl 45 (.tmp 7) rfl (w.heap.size+1+1) rfl 45 #[Cx ua1,Cq ua2 ua3 ua4,Cx ua5,Cq ua6 ua7 ua8,Cz Cv R,Cz Cv A,Cx ub1,Cq ub2 ub3 ub4,Cx ub5,Cq ub6 ub7 ub8,Cx uc1,Cq uc2 uc3 uc4,Cx uc5,Cq uc6 uc7 uc8] _ zw Tryz.underlying45 rfl B' ?_) | go_values | go_skip | go_guarded | go_step | go_upon)
 refine(CK _ zo).mono ?_;rintro e w1 ⟨rfl,bf⟩;have B:Below w.heap.size w w1:=yQ bf;have o4:ai w1 w.heap.size 55 #[Cq al nl cl]:=ai.ak bf;have o5:ai w1 (w.heap.size+1) 55 #[Cq am nm cm]:=ai.ak bf;have o7:ai w1 (w.heap.size+1+1) 45 #[Cx ua1,Cq ua2 ua3 ua4,Cx ua5,Cq ua6 ua7 ua8,Cz Cv R,Cz Cv A,Cx ub1,Cq ub2 ub3 ub4,Cx ub5,Cq ub6 ub7 ub8,Cx uc1,Cq uc2 uc3 uc4,Cx uc5,Cq uc6 uc7 uc8]:=ai.ak bf;have o8:ai w1 (w.heap.size+1+1+1) 70 yZ:=ai.ak bf;clear bf;clear CK
 cases K with
 | false=>
  have E0:=HB.out;rw[C7 rfl]at E0;clear HB QL QM AL AM CH RK M J N;rw[show vM false=8 from rfl];dsimp only;have zz:=B.size
  repeat' (first | ((with_reducible show wpList _ _ _ (⟨some 27,_,_,_,_,_⟩::_) _ _); refine yi rfl 70 #[] rfl yZ B' ?_) | ((with_reducible show wpList _ _ _ (⟨none,.store _ _ _,_,_,_,_⟩::_) _ _); refine zE rfl 70 (.tmp 8) (.tmp 27) rfl (w.heap.size+1+1+1) yZ rfl rfl 70 yZ o8 B' rfl (by simp[yZ,Value.oneCell']) (fun wz Y=> ?_)) | go_values | go_skip | go_guarded | go_step | go_upon)
  go_wp2_with fail
  try rw[Exit.noGoto_ret]
  refine Ci (z8 rfl _ _ (w.heap.size+1+1+1) rfl (cs:=yZ) Y.bP Tryz.underlying70 rfl B') rfl ?_;exact⟨by rw[E0]; rfl,Y.below B B_⟩
 | true=>
  have T:=HB.out;rw[C8 C3]at T;have bi:=C5 T;clear HB;replace RK:=RK rfl;replace CH:=CH RK;replace h:=h.resolve_left C3;clear T RK;rw[show vM true=0 from rfl];dsimp only;have c4:=o4.c 0 rfl
  repeat' (first | go_values | go_skip | go_guarded | go_step | go_upon)
  refine(QL _ B).mono ?_;rintro e H ⟨rfl,Z⟩;clear c4;replace B:Below w.heap.size w H:=yQ Z;replace o4:ai H w.heap.size 55 #[Cq al nl cl]:=ai.ak Z;replace o5:ai H (w.heap.size+1) 55 #[Cq am nm cm]:=ai.ak Z;replace o7:ai H (w.heap.size+1+1) 45 #[Cx ua1,Cq ua2 ua3 ua4,Cx ua5,Cq ua6 ua7 ua8,Cz Cv R,Cz Cv A,Cx ub1,Cq ub2 ub3 ub4,Cx ub5,Cq ub6 ub7 ub8,Cx uc1,Cq uc2 uc3 uc4,Cx uc5,Cq uc6 uc7 uc8]:=ai.ak Z;replace o8:ai H (w.heap.size+1+1+1) 70 yZ:=ai.ak Z;clear Z;clear QL
  by_cases I:c1=0
  .
   replace h:=h.resolve_left (by rw[I]; simp);have T:=bi.out;rw[C8 (by rw[I]; simp)]at T;have bh:=C5 T;clear bi;replace M:=M I;replace AL:=AL I;replace N:=N I;clear T;subst I;dsimp only;have c5:=o5.c 0 rfl
   repeat' (first | go_values | go_skip | go_guarded | go_step | go_upon)
   refine(QM _ B).mono ?_;rintro e w3 ⟨rfl,bg⟩;clear c5;replace B:Below w.heap.size w w3:=yQ bg;replace o4:ai w3 w.heap.size 55 #[Cq al nl cl]:=ai.ak bg;replace o5:ai w3 (w.heap.size+1) 55 #[Cq am nm cm]:=ai.ak bg;replace o7:ai w3 (w.heap.size+1+1) 45 #[Cx ua1,Cq ua2 ua3 ua4,Cx ua5,Cq ua6 ua7 ua8,Cz Cv R,Cz Cv A,Cx ub1,Cq ub2 ub3 ub4,Cx ub5,Cq ub6 ub7 ub8,Cx uc1,Cq uc2 uc3 uc4,Cx uc5,Cq uc6 uc7 uc8]:=ai.ak bg;replace o8:ai w3 (w.heap.size+1+1+1) 70 yZ:=ai.ak bg;clear bg;clear QM
   by_cases X:c2=0
   .
    replace h:=h.resolve_left (by rw[X]; simp);have E0:=bh.out;rw[C8 (by rw[X]; simp)]at E0;replace J:=J X;replace AM:=AM X;replace CH:=CH X;clear bh;subst X;dsimp only;have c4:=o4.c 0 rfl
    repeat' (first | go_values | go_skip | go_guarded | go_step | go_upon)
    refine(AL _ B).mono ?_;rintro e w4 ⟨u1,rfl,ah⟩;clear c4;replace B:Below w.heap.size w w4:=yQ ah;replace o4:ai w4 w.heap.size 55 #[Cq al nl cl]:=ai.ak ah;replace o5:ai w4 (w.heap.size+1) 55 #[Cq am nm cm]:=ai.ak ah;replace o7:ai w4 (w.heap.size+1+1) 45 #[Cx ua1,Cq ua2 ua3 ua4,Cx ua5,Cq ua6 ua7 ua8,Cz Cv R,Cz Cv A,Cx ub1,Cq ub2 ub3 ub4,Cx ub5,Cq ub6 ub7 ub8,Cx uc1,Cq uc2 uc3 uc4,Cx uc5,Cq uc6 uc7 uc8]:=ai.ak ah;replace o8:ai w4 (w.heap.size+1+1+1) 70 yZ:=ai.ak ah;clear ah;clear AL
    by_cases h3:most<0\/12<most
    .
     have e2:=N h3;subst e2;clear AM CH M J N h;dsimp only;have zz:=B.size
     repeat' (first | ((with_reducible show wpList _ _ _ (⟨some 49,_,_,_,_,_⟩::_) _ _); refine yi rfl 70 #[] rfl yZ B' ?_) | ((with_reducible show wpList _ _ _ (⟨none,.store _ _ _,_,_,_,_⟩::_) _ _); refine zE rfl 70 (.tmp 8) (.tmp 49) rfl (w.heap.size+1+1+1) yZ rfl rfl 70 yZ o8 B' rfl (by simp[yZ,Value.oneCell']) (fun wz Y=> ?_)) | go_values | go_skip | go_guarded | go_step | go_upon)
     go_wp2_with fail
     try rw[Exit.noGoto_ret]
     refine Ci (z8 rfl _ _ (w.heap.size+1+1+1) rfl (cs:=yZ) Y.bP Tryz.underlying70 rfl B') rfl ?_;exact⟨by rw[E0]; rfl,Y.below B B_⟩
    .
     have e2:=M B_ B_;have e3:=J B_ B_;subst e2;subst e3;have h4:decide (cq<1)=false:=C_ ((h.resolve_left B_).resolve_left B_);rw[h4]at CH;clear M J N h h4 h3;dsimp only;have c5:=o5.c 0 rfl
     repeat' (first | go_values | go_skip | go_guarded | go_step | go_upon)
     refine(AM _ B).mono ?_;rintro e w5 ⟨u2,rfl,b9⟩;clear c5;replace B:Below w.heap.size w w5:=yQ b9;replace o4:ai w5 w.heap.size 55 #[Cq al nl cl]:=ai.ak b9;replace o5:ai w5 (w.heap.size+1) 55 #[Cq am nm cm]:=ai.ak b9;replace o7:ai w5 (w.heap.size+1+1) 45 #[Cx ua1,Cq ua2 ua3 ua4,Cx ua5,Cq ua6 ua7 ua8,Cz Cv R,Cz Cv A,Cx ub1,Cq ub2 ub3 ub4,Cx ub5,Cq ub6 ub7 ub8,Cx uc1,Cq uc2 uc3 uc4,Cx uc5,Cq uc6 uc7 uc8]:=ai.ak b9;replace o8:ai w5 (w.heap.size+1+1+1) 70 yZ:=ai.ak b9;clear b9;clear AM;dsimp only;have c5:=o5.c 0 rfl;have l5:=o5.lt
     repeat' (first | ((with_reducible show wpList _ _ _ (⟨some 62,_,_,_,_,_⟩::_) _ _); refine zP rfl 45 (.tmp 7) rfl (w.heap.size+1+1) rfl 45 #[Cx ua1,Cq ua2 ua3 ua4,Cx ua5,Cq ua6 ua7 ua8,Cz Cv R,Cz Cv A,Cx ub1,Cq ub2 ub3 ub4,Cx ub5,Cq ub6 ub7 ub8,Cx uc1,Cq uc2 uc3 uc4,Cx uc5,Cq uc6 uc7 uc8] _ zw Tryz.underlying45 rfl B' ?_) | go_values | go_skip | go_guarded | go_step | go_upon)
     refine(CH _ w5.heap.size (ai.new _ _ _)).mono ?_;rintro e w6 ⟨v6,rfl,bl,be⟩;obtain⟨q1,q2,q3,q4,q5,q6,q7,q8,rfl⟩:=bl.au;clear c5 l5 bl;replace B:Below w.heap.size w w6:=zp (B.alloc B.size _) (Cl _) be;replace o4:ai w6 w.heap.size 55 #[Cq al nl cl]:=(o4.alloc _).ae be;replace o5:ai w6 (w.heap.size+1) 55 #[Cq am nm cm]:=(o5.alloc _).ae be;replace o7:ai w6 (w.heap.size+1+1) 45 #[Cx ua1,Cq ua2 ua3 ua4,Cx ua5,Cq ua6 ua7 ua8,Cz Cv R,Cz Cv A,Cx ub1,Cq ub2 ub3 ub4,Cx ub5,Cq ub6 ub7 ub8,Cx uc1,Cq uc2 uc3 uc4,Cx uc5,Cq uc6 uc7 uc8]:=(o7.alloc _).ae be;replace o8:ai w6 (w.heap.size+1+1+1) 70 yZ:=(o8.alloc _).ae be;clear be;clear CH;dsimp only;have zz:=B.size
     repeat' (first | ((with_reducible show wpList _ _ _ (⟨some 70,_,_,_,_,_⟩::_) _ _); refine yi rfl 70 #[] rfl yZ B' ?_) | ((with_reducible show wpList _ _ _ (⟨none,.store _ _ _,_,_,_,_⟩::_) _ _); refine zE rfl 70 (.tmp 8) (.tmp 70) rfl (w.heap.size+1+1+1) yZ rfl rfl 70 yZ zw B' rfl (by simp[yZ,Value.oneCell']) (fun wz Y=> ?_)) | go_values | go_skip | go_guarded | go_step | go_upon)
     go_wp2_with fail
     try rw[Exit.noGoto_ret]
     refine Ci (z8 rfl _ _ (w.heap.size+1+1+1) rfl (cs:=yZ) Y.bP Tryz.underlying70 rfl B') rfl ?_;exact⟨by rw[E0]; rfl,Y.below zi B_⟩
   .
    have E0:=bh.out;rw[C7 X]at E0;have bq:(c2==0)=false:=by simpa using X
    clear bh AL AM CH M J N h;dsimp only;have zz:=B.size
    repeat' (first | ((with_reducible show wpList _ _ _ (⟨some 39,_,_,_,_,_⟩::_) _ _); refine yi rfl 70 #[] rfl yZ B' ?_) | ((with_reducible show wpList _ _ _ (⟨none,.store _ _ _,_,_,_,_⟩::_) _ _); refine zE rfl 70 (.tmp 8) (.tmp 39) rfl (w.heap.size+1+1+1) yZ rfl rfl 70 yZ o8 B' rfl (by simp[yZ,Value.oneCell']) (fun wz Y=> ?_)) | go_values | go_skip | go_guarded | go_step | go_upon)
    go_wp2_with fail
    try rw[Exit.noGoto_ret]
    refine Ci (z8 rfl _ _ (w.heap.size+1+1+1) rfl (cs:=yZ) Y.bP Tryz.underlying70 rfl B') rfl ?_;exact⟨by rw[E0]; rfl,Y.below B B_⟩
  .
   have E0:=bi.out;rw[C7 I]at E0;have br:(c1==0)=false:=by simpa using I
   clear bi QM AL AM CH M J N h;dsimp only;have zz:=B.size
   repeat' (first | ((with_reducible show wpList _ _ _ (⟨some 33,_,_,_,_,_⟩::_) _ _); refine yi rfl 70 #[] rfl yZ B' ?_) | ((with_reducible show wpList _ _ _ (⟨none,.store _ _ _,_,_,_,_⟩::_) _ _); refine zE rfl 70 (.tmp 8) (.tmp 33) rfl (w.heap.size+1+1+1) yZ rfl rfl 70 yZ o8 B' rfl (by simp[yZ,Value.oneCell']) (fun wz Y=> ?_)) | go_values | go_skip | go_guarded | go_step | go_upon)
   go_wp2_with fail
   try rw[Exit.noGoto_ret]
   refine Ci (z8 rfl _ _ (w.heap.size+1+1+1) rfl (cs:=yZ) Y.bP Tryz.underlying70 rfl B') rfl ?_;exact⟨by rw[E0]; rfl,Y.below B B_⟩
end
end Go.Proofs.YtffmbepfbienaaaGreat
/- Search's body: the size of a similarity, a list of ints Xb a store elsewhere. -/
namespace Go.Proofs.YtffmbepfbienaaaGreat
open Go.RowKit
variable {ax ay a9 bx px py qx qy:Int}
theorem UM (ha:qh (ax,ay)) (hb:qh (bx,a9)) (hp:qh (px,py)) (hq:qh (qx,qy)) (hn:jw (bx-ax) (a9-ay)≠0):∀i,i<4->sz (kZ (ax,ay) (bx,a9) (px,py) (qx,qy) i) 15:=by
 obtain⟨a0,a1,a2,a3⟩:=ha;obtain⟨b0,b1,b2,b3⟩:=hb;obtain⟨p0,p1,p2,p3⟩:=hp;obtain⟨q0,q1,q2,q3⟩:=hq;dsimp only at a0 a1 a2 a3 b0 b1 b2 b3 p0 p1 p2 p3 q0 q1 q2 q3;obtain⟨J,E⟩:∃z,bx-ax=z:=⟨_,rfl⟩;obtain⟨I,H⟩:∃z,a9-ay=z:=⟨_,rfl⟩;obtain⟨vx,T⟩:∃z,qx-px=z:=⟨_,rfl⟩;obtain⟨vy,X⟩:∃z,qy-py=z:=⟨_,rfl⟩;have u1 : -2097152<=J/\J<=2097152:=B_
 have u2 : -2097152<=I/\I<=2097152:=B_
 have u3 : -2097152<=vx/\vx<=2097152:=B_
 have u4 : -2097152<=vy/\vy<=2097152:=B_
 have m1:=yb u1.1 u1.2 u1.1 u1.2;have m2:=yb u2.1 u2.2 u2.1 u2.2;have m3:=yb u3.1 u3.2 u1.1 u1.2;have m4:=yb u4.1 u4.2 u2.1 u2.2;have m5:=yb u4.1 u4.2 u1.1 u1.2;have m6:=yb u3.1 u3.2 u2.1 u2.2;obtain⟨x1,e1⟩:∃x,J*J=x:=⟨_,rfl⟩;obtain⟨x2,e2⟩:∃x,I*I=x:=⟨_,rfl⟩;obtain⟨x3,e3⟩:∃x,vx*J=x:=⟨_,rfl⟩;obtain⟨x4,e4⟩:∃x,vy*I=x:=⟨_,rfl⟩;obtain⟨x5,e5⟩:∃x,vy*J=x:=⟨_,rfl⟩;obtain⟨x6,e6⟩:∃x,vx*I=x:=⟨_,rfl⟩;rw[e1]at m1;rw[e2]at m2;rw[e3]at m3;rw[e4]at m4;rw[e5]at m5;rw[e6]at m6;obtain⟨N,hN⟩:∃x,x1+x2=x:=⟨_,rfl⟩;obtain⟨A,hA⟩:∃x,x3+x4=x:=⟨_,rfl⟩;obtain⟨B0,hB⟩:∃x,x5-x6=x:=⟨_,rfl⟩;have eN:jw (bx-ax) (a9-ay)=N:=by unfold jw; rw[E,H,e1,e2,hN]
 have eA:kN (bx-ax) (a9-ay) (qx-px) (qy-py)=A:=by unfold kN; rw[E,H,T,X,e3,e4,hA]
 have eB:vU (bx-ax) (a9-ay) (qx-px) (qy-py)=B0:=by unfold vU; rw[E,H,T,X,e5,e6,hB]
 rw[eN]at hn;have t0:Yy (ax,ay) (bx,a9) (px,py) (qx,qy)=(A:Rat) / (N:Rat):=by show (kN _ _ _ _:Rat) / _=_; rw[eN,eA]
 have t1:Yz (ax,ay) (bx,a9) (px,py) (qx,qy)=(B0:Rat) / (N:Rat):=by show (vU _ _ _ _:Rat) / _=_; rw[eN,eB]
 have bN : -8796093022208<=N/\N<=8796093022208:=B_
 have bA : -8796093022208<=A/\A<=8796093022208:=B_
 have bB : -8796093022208<=B0/\B0<=8796093022208:=B_
 have z0:sz ((A:Rat) / (N:Rat)) 2:=xV hn (by rw[xN]; unfold zh; omega) (by rw[xN]; unfold zh; omega);have z1:sz ((B0:Rat) / (N:Rat)) 2:=xV hn (by rw[xN]; unfold zh; omega) (by rw[xN]; unfold zh; omega);have Y:sz (ax:Rat) 2:=yd ⟨a0,a1⟩;have Z:sz (ay:Rat) 2:=yd ⟨a2,a3⟩;have sp1:sz (px:Rat) 2:=yd ⟨p0,p1⟩;have sp2:sz (py:Rat) 2:=yd ⟨p2,p3⟩;have M:sz (0:Rat) 2:=by have h:sz ((0:Int):Rat) 2:=yd C0; rwa[Rat.intCast_zero]at h
 rw[<- t0]at z0;rw[<- t1]at z1;intro i hi
 rcases(show i=0\/i=1\/i=2\/i=3 by omega)with rfl | rfl | rfl | rfl
 . exact z0.mono B_
 . exact z1.mono B_
 .
  show sz ((px:Rat)-(Yy _ _ _ _*(ax:Rat)-Yz _ _ _ _*(ay:Rat)+0)) 15
  exact(sp1.sub (((z0.mul Y).sub (z1.mul Z)).add M)).mono B_
 .
  show sz ((py:Rat)-(Yz _ _ _ _*(ax:Rat)+Yy _ _ _ _*(ay:Rat)+0)) 15
  exact(sp2.sub (((z1.mul Y).add (z0.mul Z)).add M)).mono B_
theorem WX (H:qh (ax,ay)) (M:qh (bx,a9)) (J:qh (px,py)) (E:qh (qx,qy)) (N:jw (bx-ax) (a9-ay)≠0):∀i,i<4->sz (kZ (ax,ay) (bx,a9) (px,py) (qx,qy) i) 16:=fun i I=>(UM H M J E N i I).mono B_
theorem aC.only {w J:Cc} {v:Cd} {l:List Int} {g:Nat} {t:TypeId} {cs:Array Cd} (h:aC w v l) (Z:ai w g t cs) (hc:∀x∈cs.toList,∀z,x≠ Cz Cv z) (o:bC g w J):aC J v l:=by
 obtain⟨ao,cap,e,E,Y⟩:=h;refine⟨ao,cap,e,E,fun M=> ?_⟩;obtain⟨b,X,T,H,I⟩:=Y M
 have N:b≠g:=by
  rintro rfl;have c:=I 0 (List.length_pos_iff.2 M);rw[Z.cell]at c;exact hc _ (Array.mem_toList_iff.2 (Array.mem_of_getElem? c)) _ rfl
 refine⟨b,X,T,by rw[o.1]; exact H,fun t ht=> ?_⟩;have:=I t ht;unfold World.cell? at this|-;rw[o.2 b N]; exact this
end Go.Proofs.YtffmbepfbienaaaGreat
