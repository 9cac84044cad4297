import Derived.Test.YtffmbepfbienaaaGreatZUb
set_option linter.unusedVariables false
set_option linter.unusedSimpArgs false
set_option maxHeartbeats 6400000
set_option maxRecDepth 1000000
open Go.Value renaming slice->Cq,int->Cz,agg->Cy,pointer->Cj
open Go.IntKind renaming i64->Cv
open Go.Ending renaming returned->Cg
open Go.Proofs.Tryz renaming prog->Ch
open Go renaming Calls->Cb,World->Cc,Value->Cd,undef->Cf
open Go.World renaming size_alloc->Co
namespace Go.Proofs.YtffmbepfbienaaaGreat
section
open Go.RowKit
variable {a b:Int}
theorem yb {m n:Int} (I : -m<=a) (J:a<=m) (E : -n<=b) (H:b<=n) : -(m*n)<=a*b/\a*b<=m*n:=by
 have N:0<=m:=B_
 have M:0<=n:=B_
 have p1:(m-a)*(n-b)>=0:=Int.mul_nonneg B_ B_;have p2:(m+a)*(n+b)>=0:=Int.mul_nonneg B_ B_;have p3:(m-a)*(n+b)>=0:=Int.mul_nonneg B_ B_;have p4:(m+a)*(n-b)>=0:=Int.mul_nonneg B_ B_;simp only[Int.sub_mul,Int.add_mul,Int.mul_sub,Int.mul_add]at p1 p2 p3 p4;omega
def sm (a b:Int):Prop:= -4194304<=a/\a<=4194304/\-4194304<=b/\b<=4194304
theorem kh {c d:Int} (h:sm a b) (k:sm c d):(-17592186044416<=a*c/\a*c<=17592186044416)/\(-17592186044416<=b*d/\b*d<=17592186044416)/\(-17592186044416<=b*c/\b*c<=17592186044416)/\(-17592186044416<=a*d/\a*d<=17592186044416):=by
 obtain⟨I,J,E,H⟩:=h;obtain⟨k1,k2,k3,M⟩:=k;exact⟨yb I J k1 k2,yb E H k3 M,yb E H k1 k2,yb I J k3 M⟩
theorem QK (a b c d:Int) (w:Cc) (h:sm a b) (k:sm c d):Cb Ch 177 #[Cy #[Cz Cv a,Cz Cv b],Cy #[Cz Cv c,Cz Cv d]] w fun e E=>e = Cg (Cy #[Cz Cv (a-c),Cz Cv (b-d)])/\zf w E:=by
 obtain⟨J,M,H,I⟩:=h;obtain⟨k1,k2,k3,N⟩:=k
 go_enter Tryz.func177,Tryz.ntmps177
 go_wp2
 go_returns
 exact⟨rfl,zi⟩
theorem U6 (a b c d:Int) (w:Cc) (h:sm a b) (k:sm c d):Cb Ch 178 #[Cy #[Cz Cv a,Cz Cv b],Cy #[Cz Cv c,Cz Cv d]] w fun e N=>e = Cg (Cy #[Cz Cv (a*c+b*d),Cz Cv (b*c-a*d)])/\zf w N:=by
 obtain⟨p1,p2,p3,p4⟩:=kh h k;obtain⟨M,J⟩:∃x,a*c=x:=⟨_,rfl⟩;obtain⟨x2,E⟩:∃x,b*d=x:=⟨_,rfl⟩;obtain⟨x3,I⟩:∃x,b*c=x:=⟨_,rfl⟩;obtain⟨T,H⟩:∃x,a*d=x:=⟨_,rfl⟩;rw[J]at p1;rw[E]at p2;rw[I]at p3;rw[H]at p4;rw[J,E,I,H];have Z:wrap64 (a*c)=M:=by rw[J]; unfold wrap64; omega
 have X:wrap64 (b*d)=x2:=by rw[E]; unfold wrap64; omega
 have Y:wrap64 (b*c)=x3:=by rw[I]; unfold wrap64; omega
 have w4:wrap64 (a*d)=T:=by rw[H]; unfold wrap64; omega
 obtain⟨p11,p12⟩:=p1;obtain⟨p21,p22⟩:=p2;obtain⟨p31,p32⟩:=p3;obtain⟨p41,p42⟩:=p4;clear h k J E I H
 go_enter Tryz.func178,Tryz.ntmps178
 go_wp2
 go_returns
 exact⟨rfl,zi⟩
theorem Uv (a b:Int) (w:Cc) (h:sm a b):Cb Ch 179 #[Cy #[Cz Cv a,Cz Cv b]] w fun e J=>e = Cg (Cz Cv (a*a+b*b))/\zf w J:=by
 obtain⟨p1,p2,p3,p4⟩:=kh h h;obtain⟨I,E⟩:∃x,a*a=x:=⟨_,rfl⟩;obtain⟨x2,H⟩:∃x,b*b=x:=⟨_,rfl⟩;rw[E]at p1;rw[H]at p2;rw[E,H];have N:wrap64 (a*a)=I:=by rw[E]; unfold wrap64; omega
 have M:wrap64 (b*b)=x2:=by rw[H]; unfold wrap64; omega
 obtain⟨p11,p12⟩:=p1;obtain⟨p21,p22⟩:=p2;clear h E H p3 p4
 go_enter Tryz.func179,Tryz.ntmps179
 go_wp2
 go_returns
 exact⟨rfl,zi⟩
end
section
open Go.RowKit
variable {x y:Int}
structure fI (w:Cc) (v:Cd) (l:List (Int×Int)) (k0 k1 k2 k3:Nat) (p0 p1 p2 p3:Int×Int):Prop where
 pts:bJ w v l
 lt:k0<l.length/\k1<l.length/\k2<l.length/\k3<l.length
 eq:l.getD k0 (0,0)=p0/\l.getD k1 (0,0)=p1/\l.getD k2 (0,0)=p2/\l.getD k3 (0,0)=p3
def vX (x y:Int):Prop:= -1048576<=x/\x<=1048576/\-1048576<=y/\y<=1048576
theorem xR {z u:Int} (h:vX x y) (k:vX z u):sm (x-z) (y-u):=by unfold vX at *; unfold sm; omega
theorem jU (h:vX x y):sm x y:=by unfold vX at *; unfold sm; omega
theorem Vj {v:Cd} {l:List (Int×Int)} (k0 k1 k2 k3:Nat) (x0 y0 x1 y1 x2 y2 x3 y3:Int) (w:Cc) (h:fI w v l k0 k1 k2 k3 (x0,y0) (x1,y1) (x2,y2) (x3,y3)) (p0:vX x0 y0) (p1:vX x1 y1) (p2:vX x2 y2) (p3:vX x3 y3) :
  Cb Ch 145 #[v,Cy #[Cz Cv k0,Cz Cv k1,Cz Cv k2,Cz Cv k3]] w fun e w'=>e = Cg (Cy #[Cz Cv k0,Cz Cv k1,Cz Cv k2,Cz Cv k3,
   Cz Cv (kN (x1-x0) (y1-y0) (x2-x0) (y2-y0)),Cz Cv (vU (x1-x0) (y1-y0) (x2-x0) (y2-y0)),Cz Cv (kN (x1-x0) (y1-y0) (x3-x0) (y3-y0)),Cz Cv (vU (x1-x0) (y1-y0) (x3-x0) (y3-y0)),Cz Cv (jw (x1-x0) (y1-y0))])/\zf w w':=by
 obtain⟨hp,⟨h0,h1,h2,h3⟩,e0,e1,e2,e3⟩:=h;obtain⟨ao,cap,rfl⟩:=hp.au;obtain⟨-,hc,hm⟩:=hp.cells;obtain⟨b,o,rfl,E,be⟩:=hm B_;have bi:=(be k0 h0).1;have bt:=(be k0 h0).2;have bh:=(be k1 h1).1;have bl:=(be k1 h1).2;have bq:=(be k2 h2).1;have cg:=(be k2 h2).2;have br:=(be k3 h3).1;have ce:=(be k3 h3).2;rw[e0]at bi bt;rw[e1]at bh bl;rw[e2]at bq cg;rw[e3]at br ce;dsimp only at bi bt bh bl bq cg br ce;obtain⟨n,hn⟩:∃n,l.length=n:=⟨_,rfl⟩;rw[hn]at hc h0 h1 h2 h3|-;clear hp hm be e0 e1 e2 e3 hn;have m1:=fun w'=>QK x1 y1 x0 y0 w' (jU p1) (jU p0);have m2:=fun w'=>QK x2 y2 x0 y0 w' (jU p2) (jU p0);have m3:=fun w'=>QK x3 y3 x0 y0 w' (jU p3) (jU p0);have s1:=xR p1 p0;have s2:=xR p2 p0;have s3:=xR p3 p0;obtain⟨ux,eW⟩:∃z,x1-x0=z:=⟨_,rfl⟩;obtain⟨uy,f7⟩:∃z,y1-y0=z:=⟨_,rfl⟩;obtain⟨ax,fW⟩:∃z,x2-x0=z:=⟨_,rfl⟩;obtain⟨ay,gj⟩:∃z,y2-y0=z:=⟨_,rfl⟩;obtain⟨bx,fV⟩:∃z,x3-x0=z:=⟨_,rfl⟩;obtain⟨dd,g9⟩:∃z,y3-y0=z:=⟨_,rfl⟩;rw[eW,f7]at m1 s1;rw[fW,gj]at m2 s2;rw[fV,g9]at m3 s3;rw[eW,f7,fW,gj,fV,g9];have j2:∀w',Cb Ch 178 #[Cy #[Cz Cv ax,Cz Cv ay],Cy #[Cz Cv ux,Cz Cv uy]] w' fun e w2=>e = Cg (Cy #[Cz Cv (kN ux uy ax ay),Cz Cv (vU ux uy ax ay)])/\zf w' w2:=fun w'=>U6 ax ay ux uy w' s2 s1;have j3:∀w',Cb Ch 178 #[Cy #[Cz Cv bx,Cz Cv dd],Cy #[Cz Cv ux,Cz Cv uy]] w' fun e w2=>e = Cg (Cy #[Cz Cv (kN ux uy bx dd),Cz Cv (vU ux uy bx dd)])/\zf w' w2:=fun w'=>U6 bx dd ux uy w' s3 s1;have sq:∀w',Cb Ch 179 #[Cy #[Cz Cv ux,Cz Cv uy]] w' fun e w2=>e = Cg (Cz Cv (jw ux uy))/\zf w' w2:=fun w'=>Uv ux uy w' s1;obtain⟨A1,fZ⟩:∃z,kN ux uy ax ay=z:=⟨_,rfl⟩;obtain⟨A2,f8⟩:∃z,vU ux uy ax ay=z:=⟨_,rfl⟩;obtain⟨B1,gd⟩:∃z,kN ux uy bx dd=z:=⟨_,rfl⟩;obtain⟨B2,fm⟩:∃z,vU ux uy bx dd=z:=⟨_,rfl⟩;obtain⟨N_,hN⟩:∃z,jw ux uy=z:=⟨_,rfl⟩;rw[fZ,f8]at j2;rw[gd,fm]at j3;rw[hN]at sq;rw[fZ,f8,gd,fm,hN];clear eW f7 fW gj fV g9 s1 s2 s3 fZ f8 gd fm hN p0 p1 p2 p3;have gY:∀w':Cc,(Instr.index 80 (Cy #[Cz Cv (k0:Int),Cz Cv (k1:Int),Cz Cv (k2:Int),Cz Cv (k3:Int)]) (Cz Cv 0)).run Ch w' = .ok (Cz Cv (k0:Int)) w':=fun w'=>by kernel_rfl
 have iz:∀w':Cc,(Instr.index 80 (Cy #[Cz Cv (k0:Int),Cz Cv (k1:Int),Cz Cv (k2:Int),Cz Cv (k3:Int)]) (Cz Cv 1)).run Ch w' = .ok (Cz Cv (k1:Int)) w':=fun w'=>by kernel_rfl
 have iu:∀w':Cc,(Instr.index 80 (Cy #[Cz Cv (k0:Int),Cz Cv (k1:Int),Cz Cv (k2:Int),Cz Cv (k3:Int)]) (Cz Cv 2)).run Ch w' = .ok (Cz Cv (k2:Int)) w':=fun w'=>by kernel_rfl
 have iv:∀w':Cc,(Instr.index 80 (Cy #[Cz Cv (k0:Int),Cz Cv (k1:Int),Cz Cv (k2:Int),Cz Cv (k3:Int)]) (Cz Cv 3)).run Ch w' = .ok (Cz Cv (k3:Int)) w':=fun w'=>by kernel_rfl
 go_enter Tryz.func145,Tryz.ntmps145
 go_wp2_with fail
 refine wp_loop_rounds 5 ?_;rw[rounds_succ]
 go_upto_region 5 with fail
 refine aj.ew (fun N0 D v W=>Below w.heap.size w W/\av w W/\N0<=W.heap.size/\ai W w.heap.size 80 #[Cz Cv k0,Cz Cv k1,Cz Cv k2,Cz Cv k3]/\ai W (w.heap.size+1) 160 Km/\((D 13=false->ai W (w.heap.size+1+1) 218 #[Cz Cv 0,Cz Cv 0,Cz Cv 0,Cz Cv 0,Cz Cv 0,Cz Cv 0,Cz Cv 0,Cz Cv 0])/\(D 13=true->ai W (w.heap.size+1+1) 218 #[Cz Cv x0,Cz Cv y0,Cz Cv 0,Cz Cv 0,Cz Cv 0,Cz Cv 0,Cz Cv 0,Cz Cv 0]))) [13] [] [] [(14,[])] [] (fun N0 ah=>⟨fun v=> ?_,fun D v v' W hv Y=> ?_,fun bf Q' bg hQ=> ?_⟩)
 . exact⟨zi,zo,Nat.le_of_eq ah.out,zw,zw,⟨fun _=>zw,(fun h=>Bool.noConfusion h)⟩⟩
 . exact Y
 have eN:=ah.out
 try simp only[Co,World.size_setCell,World.size_drew,World.heap_drewN]at eN
 have er:w.heap.size<N0:=by first | omega | (have h:=oa.lt; omega)
 have dP:w.heap.size+1<N0:=by first | omega | (have h:=or.lt; omega)
 have eM:w.heap.size+1+1<N0:=by first | omega | (have h:=oz.lt; omega)
 have iw:w.heap.size<=N0:=by first | omega | (have h:=B.size; omega)
 clear ah eN
 repeat refine aj.aK _ ?_
 apply aj.RP rfl rfl rfl 21 rfl rfl
 .
  intro D v' M hc Y hf K hK;obtain⟨I,jk,jn,X,T,J⟩:=Y;have cN:M.cell? ⟨b,o+k0*2,none⟩=some (Cz Cv x0):=(I.cell (p:=⟨b,o+k0*2,none⟩) E).trans bi;have d9:M.cell? ⟨b,o+k0*2+1,none⟩=some (Cz Cv y0):=(I.cell (p:=⟨b,o+k0*2+1,none⟩) E).trans bt;have dk:M.cell? ⟨b,o+k1*2,none⟩=some (Cz Cv x1):=(I.cell (p:=⟨b,o+k1*2,none⟩) E).trans bh;have dc:M.cell? ⟨b,o+k1*2+1,none⟩=some (Cz Cv y1):=(I.cell (p:=⟨b,o+k1*2+1,none⟩) E).trans bl;have dy:M.cell? ⟨b,o+k2*2,none⟩=some (Cz Cv x2):=(I.cell (p:=⟨b,o+k2*2,none⟩) E).trans bq;have dx:M.cell? ⟨b,o+k2*2+1,none⟩=some (Cz Cv y2):=(I.cell (p:=⟨b,o+k2*2+1,none⟩) E).trans cg;have dl:M.cell? ⟨b,o+k3*2,none⟩=some (Cz Cv x3):=(I.cell (p:=⟨b,o+k3*2,none⟩) E).trans br;have cY:M.cell? ⟨b,o+k3*2+1,none⟩=some (Cz Cv y3):=(I.cell (p:=⟨b,o+k3*2+1,none⟩) E).trans ce;go_step;exact hK.out
 . rfl
 repeat refine aj.aK _ ?_
 apply aj.RP rfl rfl rfl 26 rfl rfl
 .
  intro D v' M hc Y hf K hK;obtain⟨I,jk,jn,X,T,J⟩:=Y;have cN:M.cell? ⟨b,o+k0*2,none⟩=some (Cz Cv x0):=(I.cell (p:=⟨b,o+k0*2,none⟩) E).trans bi;have d9:M.cell? ⟨b,o+k0*2+1,none⟩=some (Cz Cv y0):=(I.cell (p:=⟨b,o+k0*2+1,none⟩) E).trans bt;have dk:M.cell? ⟨b,o+k1*2,none⟩=some (Cz Cv x1):=(I.cell (p:=⟨b,o+k1*2,none⟩) E).trans bh;have dc:M.cell? ⟨b,o+k1*2+1,none⟩=some (Cz Cv y1):=(I.cell (p:=⟨b,o+k1*2+1,none⟩) E).trans bl;have dy:M.cell? ⟨b,o+k2*2,none⟩=some (Cz Cv x2):=(I.cell (p:=⟨b,o+k2*2,none⟩) E).trans bq;have dx:M.cell? ⟨b,o+k2*2+1,none⟩=some (Cz Cv y2):=(I.cell (p:=⟨b,o+k2*2+1,none⟩) E).trans cg;have dl:M.cell? ⟨b,o+k3*2,none⟩=some (Cz Cv x3):=(I.cell (p:=⟨b,o+k3*2,none⟩) E).trans br;have cY:M.cell? ⟨b,o+k3*2+1,none⟩=some (Cz Cv y3):=(I.cell (p:=⟨b,o+k3*2+1,none⟩) E).trans ce;go_step;exact hK.out
 . rfl
 repeat refine aj.aK _ ?_
 refine aj.dE (fun D v' M hc Y hf K hK=> ?_) (fun _ _=>aj.aD (b:=⟨_,_⟩) rfl ?_)
 .
  obtain⟨I,jk,jn,X,T,J⟩:=Y;have E:=J.1 hc.1;have e2:w.heap.size<=w.heap.size+1+1:=B_
  have ff:=E.fr;obtain⟨cy,cx⟩:=E.r1;go_step;exact hK.out Cf _ (bV.k E) ⟨(bV.b I),jk.trans (bV.k E),bV.n jn,(bV.f X),(bV.f T),⟨fun h=>Bool.noConfusion h,fun _=>(ai.st (i:=1) (ai.st (i:=0) E))⟩⟩ trivial trivial
 refine aj.aH (fun Dn v' w1 hd Y hf=> ?_);obtain⟨B,jk,jn,oa,or,J⟩:=Y;have oz:=J.2 (hd 13 (Ca rfl));clear J;clear hd hf jk;refine hQ _ _ ?_;clear hQ bg Q' bf;go_wp2_with fail
 rw[rounds_succ];have gO:w.heap.size+1+1<w1.heap.size:=oz.lt;have ij:=B.size
 go_upto_region 5 with fail
 refine aj.ew (fun N0 D v W=>Below w.heap.size w W/\av w1 W/\N0<=W.heap.size/\ai W w.heap.size 80 #[Cz Cv k0,Cz Cv k1,Cz Cv k2,Cz Cv k3]/\ai W (w.heap.size+1) 160 Km/\((D 13=false->ai W (w.heap.size+1+1) 218 #[Cz Cv x0,Cz Cv y0,Cz Cv 0,Cz Cv 0,Cz Cv 0,Cz Cv 0,Cz Cv 0,Cz Cv 0])/\(D 13=true->ai W (w.heap.size+1+1) 218 #[Cz Cv x0,Cz Cv y0,Cz Cv x1,Cz Cv y1,Cz Cv 0,Cz Cv 0,Cz Cv 0,Cz Cv 0]))) [13] [] [] [(14,[])] [] (fun N0 ah=>⟨fun v=> ?_,fun D v v' W hv Y=> ?_,fun bf Q' bg hQ=> ?_⟩)
 . exact⟨zi,zo,Nat.le_of_eq ah.out,zw,zw,⟨fun _=>zw,(fun h=>Bool.noConfusion h)⟩⟩
 . exact Y
 have eN:=ah.out
 try simp only[Co,World.size_setCell,World.size_drew,World.heap_drewN]at eN
 have er:w.heap.size<N0:=by first | omega | (have h:=oa.lt; omega)
 have dP:w.heap.size+1<N0:=by first | omega | (have h:=or.lt; omega)
 have eM:w.heap.size+1+1<N0:=by first | omega | (have h:=oz.lt; omega)
 have iw:w.heap.size<=N0:=by first | omega | (have h:=B.size; omega)
 clear ah eN
 repeat refine aj.aK _ ?_
 apply aj.RP rfl rfl rfl 21 rfl rfl
 .
  intro D v' M hc Y hf K hK;obtain⟨I,jk,jn,X,T,J⟩:=Y;have cN:M.cell? ⟨b,o+k0*2,none⟩=some (Cz Cv x0):=(I.cell (p:=⟨b,o+k0*2,none⟩) E).trans bi;have d9:M.cell? ⟨b,o+k0*2+1,none⟩=some (Cz Cv y0):=(I.cell (p:=⟨b,o+k0*2+1,none⟩) E).trans bt;have dk:M.cell? ⟨b,o+k1*2,none⟩=some (Cz Cv x1):=(I.cell (p:=⟨b,o+k1*2,none⟩) E).trans bh;have dc:M.cell? ⟨b,o+k1*2+1,none⟩=some (Cz Cv y1):=(I.cell (p:=⟨b,o+k1*2+1,none⟩) E).trans bl;have dy:M.cell? ⟨b,o+k2*2,none⟩=some (Cz Cv x2):=(I.cell (p:=⟨b,o+k2*2,none⟩) E).trans bq;have dx:M.cell? ⟨b,o+k2*2+1,none⟩=some (Cz Cv y2):=(I.cell (p:=⟨b,o+k2*2+1,none⟩) E).trans cg;have dl:M.cell? ⟨b,o+k3*2,none⟩=some (Cz Cv x3):=(I.cell (p:=⟨b,o+k3*2,none⟩) E).trans br;have cY:M.cell? ⟨b,o+k3*2+1,none⟩=some (Cz Cv y3):=(I.cell (p:=⟨b,o+k3*2+1,none⟩) E).trans ce;go_step;exact hK.out
 . rfl
 repeat refine aj.aK _ ?_
 apply aj.RP rfl rfl rfl 26 rfl rfl
 .
  intro D v' M hc Y hf K hK;obtain⟨I,jk,jn,X,T,J⟩:=Y;have cN:M.cell? ⟨b,o+k0*2,none⟩=some (Cz Cv x0):=(I.cell (p:=⟨b,o+k0*2,none⟩) E).trans bi;have d9:M.cell? ⟨b,o+k0*2+1,none⟩=some (Cz Cv y0):=(I.cell (p:=⟨b,o+k0*2+1,none⟩) E).trans bt;have dk:M.cell? ⟨b,o+k1*2,none⟩=some (Cz Cv x1):=(I.cell (p:=⟨b,o+k1*2,none⟩) E).trans bh;have dc:M.cell? ⟨b,o+k1*2+1,none⟩=some (Cz Cv y1):=(I.cell (p:=⟨b,o+k1*2+1,none⟩) E).trans bl;have dy:M.cell? ⟨b,o+k2*2,none⟩=some (Cz Cv x2):=(I.cell (p:=⟨b,o+k2*2,none⟩) E).trans bq;have dx:M.cell? ⟨b,o+k2*2+1,none⟩=some (Cz Cv y2):=(I.cell (p:=⟨b,o+k2*2+1,none⟩) E).trans cg;have dl:M.cell? ⟨b,o+k3*2,none⟩=some (Cz Cv x3):=(I.cell (p:=⟨b,o+k3*2,none⟩) E).trans br;have cY:M.cell? ⟨b,o+k3*2+1,none⟩=some (Cz Cv y3):=(I.cell (p:=⟨b,o+k3*2+1,none⟩) E).trans ce;go_step;exact hK.out
 . rfl
 repeat refine aj.aK _ ?_
 refine aj.dE (fun D v' M hc Y hf K hK=> ?_) (fun _ _=>aj.aD (b:=⟨_,_⟩) rfl ?_)
 .
  obtain⟨I,jk,jn,X,T,J⟩:=Y;have E:=J.1 hc.1;have e2:w.heap.size<=w.heap.size+1+1:=B_
  have ff:=E.fr;have cy:=E.q2;have cx:=E.q3;go_step;exact hK.out Cf _ (bV.k E) ⟨(bV.b I),jk.trans (bV.k E),bV.n jn,(bV.f X),(bV.f T),⟨fun h=>Bool.noConfusion h,fun _=>(ai.st (i:=3) (ai.st (i:=2) E))⟩⟩ trivial trivial
 refine aj.aH (fun Dn v' w2 hd Y hf=> ?_);obtain⟨B,jk,jn,oa,or,J⟩:=Y;have oz:=J.2 (hd 13 (Ca rfl));clear J;clear hd hf jk;refine hQ _ _ ?_;clear hQ bg Q' bf;go_wp2_with fail
 rw[rounds_succ];have gR:w.heap.size+1+1<w2.heap.size:=oz.lt;have ig:=B.size
 go_upto_region 5 with fail
 refine aj.ew (fun N0 D v W=>Below w.heap.size w W/\av w2 W/\N0<=W.heap.size/\ai W w.heap.size 80 #[Cz Cv k0,Cz Cv k1,Cz Cv k2,Cz Cv k3]/\ai W (w.heap.size+1) 160 Km/\((D 13=false->ai W (w.heap.size+1+1) 218 #[Cz Cv x0,Cz Cv y0,Cz Cv x1,Cz Cv y1,Cz Cv 0,Cz Cv 0,Cz Cv 0,Cz Cv 0])/\(D 13=true->ai W (w.heap.size+1+1) 218 #[Cz Cv x0,Cz Cv y0,Cz Cv x1,Cz Cv y1,Cz Cv x2,Cz Cv y2,Cz Cv 0,Cz Cv 0]))) [13] [] [] [(14,[])] [] (fun N0 ah=>⟨fun v=> ?_,fun D v v' W hv Y=> ?_,fun bf Q' bg hQ=> ?_⟩)
 . exact⟨zi,zo,Nat.le_of_eq ah.out,zw,zw,⟨fun _=>zw,(fun h=>Bool.noConfusion h)⟩⟩
 . exact Y
 have eN:=ah.out
 try simp only[Co,World.size_setCell,World.size_drew,World.heap_drewN]at eN
 have er:w.heap.size<N0:=by first | omega | (have h:=oa.lt; omega)
 have dP:w.heap.size+1<N0:=by first | omega | (have h:=or.lt; omega)
 have eM:w.heap.size+1+1<N0:=by first | omega | (have h:=oz.lt; omega)
 have iw:w.heap.size<=N0:=by first | omega | (have h:=B.size; omega)
 clear ah eN
 repeat refine aj.aK _ ?_
 apply aj.RP rfl rfl rfl 21 rfl rfl
 .
  intro D v' M hc Y hf K hK;obtain⟨I,jk,jn,X,T,J⟩:=Y;have cN:M.cell? ⟨b,o+k0*2,none⟩=some (Cz Cv x0):=(I.cell (p:=⟨b,o+k0*2,none⟩) E).trans bi;have d9:M.cell? ⟨b,o+k0*2+1,none⟩=some (Cz Cv y0):=(I.cell (p:=⟨b,o+k0*2+1,none⟩) E).trans bt;have dk:M.cell? ⟨b,o+k1*2,none⟩=some (Cz Cv x1):=(I.cell (p:=⟨b,o+k1*2,none⟩) E).trans bh;have dc:M.cell? ⟨b,o+k1*2+1,none⟩=some (Cz Cv y1):=(I.cell (p:=⟨b,o+k1*2+1,none⟩) E).trans bl;have dy:M.cell? ⟨b,o+k2*2,none⟩=some (Cz Cv x2):=(I.cell (p:=⟨b,o+k2*2,none⟩) E).trans bq;have dx:M.cell? ⟨b,o+k2*2+1,none⟩=some (Cz Cv y2):=(I.cell (p:=⟨b,o+k2*2+1,none⟩) E).trans cg;have dl:M.cell? ⟨b,o+k3*2,none⟩=some (Cz Cv x3):=(I.cell (p:=⟨b,o+k3*2,none⟩) E).trans br;have cY:M.cell? ⟨b,o+k3*2+1,none⟩=some (Cz Cv y3):=(I.cell (p:=⟨b,o+k3*2+1,none⟩) E).trans ce;go_step;exact hK.out
 . rfl
 repeat refine aj.aK _ ?_
 apply aj.RP rfl rfl rfl 26 rfl rfl
 .
  intro D v' M hc Y hf K hK;obtain⟨I,jk,jn,X,T,J⟩:=Y;have cN:M.cell? ⟨b,o+k0*2,none⟩=some (Cz Cv x0):=(I.cell (p:=⟨b,o+k0*2,none⟩) E).trans bi;have d9:M.cell? ⟨b,o+k0*2+1,none⟩=some (Cz Cv y0):=(I.cell (p:=⟨b,o+k0*2+1,none⟩) E).trans bt;have dk:M.cell? ⟨b,o+k1*2,none⟩=some (Cz Cv x1):=(I.cell (p:=⟨b,o+k1*2,none⟩) E).trans bh;have dc:M.cell? ⟨b,o+k1*2+1,none⟩=some (Cz Cv y1):=(I.cell (p:=⟨b,o+k1*2+1,none⟩) E).trans bl;have dy:M.cell? ⟨b,o+k2*2,none⟩=some (Cz Cv x2):=(I.cell (p:=⟨b,o+k2*2,none⟩) E).trans bq;have dx:M.cell? ⟨b,o+k2*2+1,none⟩=some (Cz Cv y2):=(I.cell (p:=⟨b,o+k2*2+1,none⟩) E).trans cg;have dl:M.cell? ⟨b,o+k3*2,none⟩=some (Cz Cv x3):=(I.cell (p:=⟨b,o+k3*2,none⟩) E).trans br;have cY:M.cell? ⟨b,o+k3*2+1,none⟩=some (Cz Cv y3):=(I.cell (p:=⟨b,o+k3*2+1,none⟩) E).trans ce;go_step;exact hK.out
 . rfl
 repeat refine aj.aK _ ?_
 refine aj.dE (fun D v' M hc Y hf K hK=> ?_) (fun _ _=>aj.aD (b:=⟨_,_⟩) rfl ?_)
 .
  obtain⟨I,jk,jn,X,T,J⟩:=Y;have E:=J.1 hc.1;have e2:w.heap.size<=w.heap.size+1+1:=B_
  have ff:=E.fr;have cy:=E.q4;have cx:=E.q5;go_step;exact hK.out Cf _ (bV.k E) ⟨(bV.b I),jk.trans (bV.k E),bV.n jn,(bV.f X),(bV.f T),⟨fun h=>Bool.noConfusion h,fun _=>(ai.st (i:=5) (ai.st (i:=4) E))⟩⟩ trivial trivial
 refine aj.aH (fun Dn v' w3 hd Y hf=> ?_);obtain⟨B,jk,jn,oa,or,J⟩:=Y;have oz:=J.2 (hd 13 (Ca rfl));clear J;clear hd hf jk;refine hQ _ _ ?_;clear hQ bg Q' bf;go_wp2_with fail
 rw[rounds_succ];have gP:w.heap.size+1+1<w3.heap.size:=oz.lt;have ir:=B.size
 go_upto_region 5 with fail
 refine aj.ew (fun N0 D v W=>Below w.heap.size w W/\av w3 W/\N0<=W.heap.size/\ai W w.heap.size 80 #[Cz Cv k0,Cz Cv k1,Cz Cv k2,Cz Cv k3]/\ai W (w.heap.size+1) 160 Km/\((D 13=false->ai W (w.heap.size+1+1) 218 #[Cz Cv x0,Cz Cv y0,Cz Cv x1,Cz Cv y1,Cz Cv x2,Cz Cv y2,Cz Cv 0,Cz Cv 0])/\(D 13=true->ai W (w.heap.size+1+1) 218 #[Cz Cv x0,Cz Cv y0,Cz Cv x1,Cz Cv y1,Cz Cv x2,Cz Cv y2,Cz Cv x3,Cz Cv y3]))) [13] [] [] [(14,[])] [] (fun N0 ah=>⟨fun v=> ?_,fun D v v' W hv Y=> ?_,fun bf Q' bg hQ=> ?_⟩)
 . exact⟨zi,zo,Nat.le_of_eq ah.out,zw,zw,⟨fun _=>zw,(fun h=>Bool.noConfusion h)⟩⟩
 . exact Y
 have eN:=ah.out
 try simp only[Co,World.size_setCell,World.size_drew,World.heap_drewN]at eN
 have er:w.heap.size<N0:=by first | omega | (have h:=oa.lt; omega)
 have dP:w.heap.size+1<N0:=by first | omega | (have h:=or.lt; omega)
 have eM:w.heap.size+1+1<N0:=by first | omega | (have h:=oz.lt; omega)
 have iw:w.heap.size<=N0:=by first | omega | (have h:=B.size; omega)
 clear ah eN
 repeat refine aj.aK _ ?_
 apply aj.RP rfl rfl rfl 21 rfl rfl
 .
  intro D v' M hc Y hf K hK;obtain⟨I,jk,jn,X,T,J⟩:=Y;have cN:M.cell? ⟨b,o+k0*2,none⟩=some (Cz Cv x0):=(I.cell (p:=⟨b,o+k0*2,none⟩) E).trans bi;have d9:M.cell? ⟨b,o+k0*2+1,none⟩=some (Cz Cv y0):=(I.cell (p:=⟨b,o+k0*2+1,none⟩) E).trans bt;have dk:M.cell? ⟨b,o+k1*2,none⟩=some (Cz Cv x1):=(I.cell (p:=⟨b,o+k1*2,none⟩) E).trans bh;have dc:M.cell? ⟨b,o+k1*2+1,none⟩=some (Cz Cv y1):=(I.cell (p:=⟨b,o+k1*2+1,none⟩) E).trans bl;have dy:M.cell? ⟨b,o+k2*2,none⟩=some (Cz Cv x2):=(I.cell (p:=⟨b,o+k2*2,none⟩) E).trans bq;have dx:M.cell? ⟨b,o+k2*2+1,none⟩=some (Cz Cv y2):=(I.cell (p:=⟨b,o+k2*2+1,none⟩) E).trans cg;have dl:M.cell? ⟨b,o+k3*2,none⟩=some (Cz Cv x3):=(I.cell (p:=⟨b,o+k3*2,none⟩) E).trans br;have cY:M.cell? ⟨b,o+k3*2+1,none⟩=some (Cz Cv y3):=(I.cell (p:=⟨b,o+k3*2+1,none⟩) E).trans ce;go_step;exact hK.out
 . rfl
 repeat refine aj.aK _ ?_
 apply aj.RP rfl rfl rfl 26 rfl rfl
 .
  intro D v' M hc Y hf K hK;obtain⟨I,jk,jn,X,T,J⟩:=Y;have cN:M.cell? ⟨b,o+k0*2,none⟩=some (Cz Cv x0):=(I.cell (p:=⟨b,o+k0*2,none⟩) E).trans bi;have d9:M.cell? ⟨b,o+k0*2+1,none⟩=some (Cz Cv y0):=(I.cell (p:=⟨b,o+k0*2+1,none⟩) E).trans bt;have dk:M.cell? ⟨b,o+k1*2,none⟩=some (Cz Cv x1):=(I.cell (p:=⟨b,o+k1*2,none⟩) E).trans bh;have dc:M.cell? ⟨b,o+k1*2+1,none⟩=some (Cz Cv y1):=(I.cell (p:=⟨b,o+k1*2+1,none⟩) E).trans bl;have dy:M.cell? ⟨b,o+k2*2,none⟩=some (Cz Cv x2):=(I.cell (p:=⟨b,o+k2*2,none⟩) E).trans bq;have dx:M.cell? ⟨b,o+k2*2+1,none⟩=some (Cz Cv y2):=(I.cell (p:=⟨b,o+k2*2+1,none⟩) E).trans cg;have dl:M.cell? ⟨b,o+k3*2,none⟩=some (Cz Cv x3):=(I.cell (p:=⟨b,o+k3*2,none⟩) E).trans br;have cY:M.cell? ⟨b,o+k3*2+1,none⟩=some (Cz Cv y3):=(I.cell (p:=⟨b,o+k3*2+1,none⟩) E).trans ce;go_step;exact hK.out
 . rfl
 repeat refine aj.aK _ ?_
 refine aj.dE (fun D v' M hc Y hf K hK=> ?_) (fun _ _=>aj.aD (b:=⟨_,_⟩) rfl ?_)
 .
  obtain⟨I,jk,jn,X,T,J⟩:=Y;have E:=J.1 hc.1;have e2:w.heap.size<=w.heap.size+1+1:=B_
  have ff:=E.fr;have cy:=E.q6;have cx:=E.q7;go_step;exact hK.out Cf _ (bV.k E) ⟨(bV.b I),jk.trans (bV.k E),bV.n jn,(bV.f X),(bV.f T),⟨fun h=>Bool.noConfusion h,fun _=>(ai.st (i:=7) (ai.st (i:=6) E))⟩⟩ trivial trivial
 refine aj.aH (fun Dn v' w4 hd Y hf=> ?_);obtain⟨B,jk,jn,oa,or,J⟩:=Y;have oz:=J.2 (hd 13 (Ca rfl));clear J;clear hd hf jk;refine hQ _ _ ?_;clear hQ bg Q' bf;have la:=oa.lt;have lr:=or.lt;obtain⟨fX,fl,gk,g8,fd,ft,gi,f9⟩:=oz.r7;have lz:=oz.lt;go_wp2_with fail
 rw[rounds_succ];go_wp2_with fail
 refine(m1 _).mono ?_;rintro e w5 ⟨rfl,st⟩;have sk:=bA w4 st;replace B:=bS B sk;replace oa:=oa.ae sk;replace or:=or.ae sk;replace oz:=oz.ae sk;clear st sk la lr fX fl gk g8 fd ft gi f9 lz;have la:=oa.lt;have lr:=or.lt;obtain⟨fX,fl,gk,g8,fd,ft,gi,f9⟩:=oz.r7;have lz:=oz.lt;have gT:w.heap.size+1+1<w5.heap.size:=oz.lt;have ip:=B.size
 go_upto_region 8 with fail
 refine aj.ew (fun N0 D v W=>Below w.heap.size w W/\av w5 W/\N0<=W.heap.size/\ai W w.heap.size 80 #[Cz Cv k0,Cz Cv k1,Cz Cv k2,Cz Cv k3]/\ai W (w.heap.size+1) 160 Km/\ai W (w.heap.size+1+1) 218 #[Cz Cv x0,Cz Cv y0,Cz Cv x1,Cz Cv y1,Cz Cv x2,Cz Cv y2,Cz Cv x3,Cz Cv y3]/\ai W w5.heap.size 217 #[Cz Cv ux,Cz Cv uy]/\(D 14=true->∃g:Nat,v 14 = Cj (some ⟨g,0,none⟩)/\N0<=g/\g<W.heap.size/\(D 16=false->ai W g 217 #[Cz Cv 0,Cz Cv 0])/\(D 16=true->D 6=true/\∃cs,v 6 = Cy cs/\ai W g 217 cs))/\(D 15=true->∃g:Nat,v 15 = Cj (some ⟨g,0,none⟩)/\N0<=g/\g<W.heap.size/\(D 17=false->ai W g 217 #[Cz Cv 0,Cz Cv 0])/\(D 17=true->D 13=true/\∃cs,v 13 = Cy cs/\ai W g 217 cs))/\(D 14=true->D 15=true->v 14≠v 15)) [4,6,11,13,14,15,16,17] [(4,fun z_=>z_ = Cy #[Cz Cv ax,Cz Cv ay]),(6,fun z_=>z_ = Cy #[Cz Cv A1,Cz Cv A2]),(11,fun z_=>z_ = Cy #[Cz Cv bx,Cz Cv dd]),(13,fun z_=>z_ = Cy #[Cz Cv B1,Cz Cv B2]),(14,jH),(15,jH)] [] [(6,[(4,some 39)]),(13,[(11,some 46)]),(16,[(6,some 41),(14,some 9)]),(17,[(13,some 48),(15,some 10)]),(18,[(4,some 39),(6,some 41),(11,some 46),(13,some 48),(14,some 9),(15,some 10)])] [(14,[16]),(6,[16]),(15,[17]),(13,[17])] (fun N0 ah=>⟨fun v=> ?_,fun D v v' W hv Y=> ?_,fun bf Q' bg hQ=> ?_⟩)
 . exact⟨zi,zo,Nat.le_of_eq ah.out,zw,zw,zw,zw,(fun h=>Bool.noConfusion h),(fun h=>Bool.noConfusion h),(fun h=>Bool.noConfusion h)⟩
 .
  obtain⟨I,jk,jn,X,T,J,b9,a9,Z,H⟩:=Y;exact⟨I,jk,jn,X,T,J,b9,fun h=>by obtain⟨g,e1,e2,e3,e4,e5⟩:=a9 h; exact⟨g,(hv 14 h)▸e1,e2,e3,e4,fun h=>by obtain⟨d,cs,e,E⟩:=e5 h; exact⟨d,cs,(hv 6 d)▸e,E⟩⟩,fun h=>by obtain⟨g,e1,e2,e3,e4,e5⟩:=Z h; exact⟨g,(hv 15 h)▸e1,e2,e3,e4,fun h=>by obtain⟨d,cs,e,E⟩:=e5 h; exact⟨d,cs,(hv 13 d)▸e,E⟩⟩,fun h h'=>(hv 14 h)▸(hv 15 h')▸H h h'⟩
 have eN:=ah.out
 try simp only[Co,World.size_setCell,World.size_drew,World.heap_drewN]at eN
 have er:w.heap.size<N0:=by first | omega | (have h:=oa.lt; omega)
 have dP:w.heap.size+1<N0:=by first | omega | (have h:=or.lt; omega)
 have eM:w.heap.size+1+1<N0:=by first | omega | (have h:=oz.lt; omega)
 have gF:w5.heap.size<N0:=by first | omega | (have h:=ou.lt; omega)
 have iw:w.heap.size<=N0:=by first | omega | (have h:=B.size; omega)
 clear la lr fX fl gk g8 fd ft gi f9 lz;clear ah;refine aj.aK 35 ?_;refine aj.aV 36 (fun _ _ _ h=>h.2.2.2.2.2.1.r7) ?_;refine aj.aK 37 ?_;refine aj.aV 38 (fun _ _ _ h=>h.2.2.2.2.2.1.r7) ?_;refine aj.aB rfl (j9 rfl) rfl (fun D v' M hc Y hf K hK=> ?_) ?_
 .
  obtain⟨I,jk,jn,X,T,J,b9,a9,Z,H⟩:=Y;clear hf;go_step;refine(m2 M).mono ?_;rintro e W2 ⟨rfl,N⟩;exact hK.out _ W2 (av.ae N) ⟨Zc I N,jk.aI N,Uf jn N,X.ae N,T.ae N,J.ae N,b9.ae N,fun h=>by obtain⟨g,e1,e2,e3,e4,e5⟩:=a9 h; exact⟨g,e1,e2,Nat.lt_of_lt_of_le e3 (N).size,fun h=>(e4 h).ae N,fun h=>by obtain⟨d,cs,e,E⟩:=e5 h; exact⟨d,cs,e,E.ae N⟩⟩,fun h=>by obtain⟨g,e1,e2,e3,e4,e5⟩:=Z h; exact⟨g,e1,e2,Nat.lt_of_lt_of_le e3 (N).size,fun h=>(e4 h).ae N,fun h=>by obtain⟨d,cs,e,E⟩:=e5 h; exact⟨d,cs,e,E.ae N⟩⟩,H⟩ trivial rfl
 rintro _ rfl;refine aj.dQ rfl ?_;refine aj.aV 40 (fun _ _ _ h=>h.2.2.2.2.2.2.1.r1) ?_;refine aj.aB rfl (j9 rfl) rfl (fun D v' M hc Y hf K hK=> ?_) ?_
 .
  obtain⟨I,jk,jn,X,T,J,b9,a9,Z,H⟩:=Y;clear hf;go_step;refine(j2 M).mono ?_;rintro e W2 ⟨rfl,N⟩;exact hK.out _ W2 (av.ae N) ⟨Zc I N,jk.aI N,Uf jn N,X.ae N,T.ae N,J.ae N,b9.ae N,fun h=>by obtain⟨g,e1,e2,e3,e4,e5⟩:=a9 h; exact⟨g,e1,e2,Nat.lt_of_lt_of_le e3 (N).size,fun h=>(e4 h).ae N,fun h=>Bool.noConfusion ((hc.2 16 C0).symm.trans h)⟩,fun h=>by obtain⟨g,e1,e2,e3,e4,e5⟩:=Z h; exact⟨g,e1,e2,Nat.lt_of_lt_of_le e3 (N).size,fun h=>(e4 h).ae N,fun h=>by obtain⟨d,cs,e,E⟩:=e5 h; exact⟨d,cs,e,E.ae N⟩⟩,H⟩ trivial rfl
 rintro _ rfl;refine aj.dQ rfl ?_;refine aj.aK 42 ?_;refine aj.aV 43 (fun _ _ _ h=>h.2.2.2.2.2.1.r7) ?_;refine aj.aK 44 ?_;refine aj.aV 45 (fun _ _ _ h=>h.2.2.2.2.2.1.r7) ?_;refine aj.aB rfl (j9 rfl) rfl (fun D v' M hc Y hf K hK=> ?_) ?_
 .
  obtain⟨I,jk,jn,X,T,J,b9,a9,Z,H⟩:=Y;clear hf;go_step;refine(m3 M).mono ?_;rintro e W2 ⟨rfl,N⟩;exact hK.out _ W2 (av.ae N) ⟨Zc I N,jk.aI N,Uf jn N,X.ae N,T.ae N,J.ae N,b9.ae N,fun h=>by obtain⟨g,e1,e2,e3,e4,e5⟩:=a9 h; exact⟨g,e1,e2,Nat.lt_of_lt_of_le e3 (N).size,fun h=>(e4 h).ae N,fun h=>by obtain⟨d,cs,e,E⟩:=e5 h; exact⟨d,cs,e,E.ae N⟩⟩,fun h=>by obtain⟨g,e1,e2,e3,e4,e5⟩:=Z h; exact⟨g,e1,e2,Nat.lt_of_lt_of_le e3 (N).size,fun h=>(e4 h).ae N,fun h=>by obtain⟨d,cs,e,E⟩:=e5 h; exact⟨d,cs,e,E.ae N⟩⟩,H⟩ trivial rfl
 rintro _ rfl;refine aj.dQ rfl ?_;refine aj.aV 47 (fun _ _ _ h=>h.2.2.2.2.2.2.1.r1) ?_;refine aj.aB rfl (j9 rfl) rfl (fun D v' M hc Y hf K hK=> ?_) ?_
 .
  obtain⟨I,jk,jn,X,T,J,b9,a9,Z,H⟩:=Y;clear hf;go_step;refine(j3 M).mono ?_;rintro e W2 ⟨rfl,N⟩;exact hK.out _ W2 (av.ae N) ⟨Zc I N,jk.aI N,Uf jn N,X.ae N,T.ae N,J.ae N,b9.ae N,fun h=>by obtain⟨g,e1,e2,e3,e4,e5⟩:=a9 h; exact⟨g,e1,e2,Nat.lt_of_lt_of_le e3 (N).size,fun h=>(e4 h).ae N,fun h=>by obtain⟨d,cs,e,E⟩:=e5 h; exact⟨d,cs,e,E.ae N⟩⟩,fun h=>by obtain⟨g,e1,e2,e3,e4,e5⟩:=Z h; exact⟨g,e1,e2,Nat.lt_of_lt_of_le e3 (N).size,fun h=>(e4 h).ae N,fun h=>Bool.noConfusion ((hc.2 17 C0).symm.trans h)⟩,H⟩ trivial rfl
 rintro _ rfl;refine aj.dQ rfl ?_;refine aj.aB rfl (j9 rfl) rfl (fun D v' M hc Y hf K hK=> ?_) ?_
 .
  obtain⟨I,jk,jn,X,T,J,b9,a9,Z,H⟩:=Y;go_step;have N:∀o:Obj,zf M (M.alloc o):=fun o=>(Below.refl _ _).alloc (Nat.le_refl _) o;exact hK.out _ _ (av.ae (N _)) ⟨Zc I (N _),jk.aI (N _),Uf jn (N _),X.ae (N _),T.ae (N _),J.ae (N _),b9.ae (N _),fun _=>⟨M.heap.size,rfl,jn,by rw[Co]; omega,fun _=>ai.new _ _ _,fun h=>Bool.noConfusion ((hc.2 16 C0).symm.trans h)⟩,fun h=>by obtain⟨g,e1,e2,e3,e4,e5⟩:=Z h; exact⟨g,e1,e2,Nat.lt_of_lt_of_le e3 ((N _)).size,fun h=>(e4 h).ae (N _),fun h=>by obtain⟨d,cs,e,E⟩:=e5 h; exact⟨d,cs,e,E.ae (N _)⟩⟩,fun _ h'=>by obtain⟨g,e1,e2,e3,e4,e5⟩:=Z h'; exact fun e=>aj.dw e3 (e.trans e1)⟩ trivial ⟨_,rfl⟩
 rintro _ ⟨p9,rfl⟩;refine aj.dQ rfl ?_;refine aj.aB rfl (j9 rfl) rfl (fun D v' M hc Y hf K hK=> ?_) ?_
 .
  obtain⟨I,jk,jn,X,T,J,b9,a9,Z,H⟩:=Y;go_step;have N:∀o:Obj,zf M (M.alloc o):=fun o=>(Below.refl _ _).alloc (Nat.le_refl _) o;exact hK.out _ _ (av.ae (N _)) ⟨Zc I (N _),jk.aI (N _),Uf jn (N _),X.ae (N _),T.ae (N _),J.ae (N _),b9.ae (N _),fun h=>by obtain⟨g,e1,e2,e3,e4,e5⟩:=a9 h; exact⟨g,e1,e2,Nat.lt_of_lt_of_le e3 ((N _)).size,fun h=>(e4 h).ae (N _),fun h=>by obtain⟨d,cs,e,E⟩:=e5 h; exact⟨d,cs,e,E.ae (N _)⟩⟩,fun _=>⟨M.heap.size,rfl,jn,by rw[Co]; omega,fun _=>ai.new _ _ _,fun h=>Bool.noConfusion ((hc.2 17 C0).symm.trans h)⟩,fun h _=>by obtain⟨g,e1,e2,e3,e4,e5⟩:=a9 h; exact fun e=>aj.dw e3 (e.symm.trans e1)⟩ trivial ⟨_,rfl⟩
 rintro _ ⟨p10,rfl⟩;refine aj.dQ rfl ?_;refine aj.dE (fun D v' M hc Y hf K hK=> ?_) (fun _ _=>aj.aD (b:=⟨_,_⟩) rfl ?_)
 .
  obtain⟨I,jk,jn,X,T,J,b9,a9,Z,H⟩:=Y;have f:=hf (14,some 9) (.tail _ (.head _)) rfl;have e6:v' 14 = Cj (some ⟨p9,0,none⟩):=f.2.1;obtain⟨g,e1,e2,e3,e4,e5⟩:=a9 f.1;obtain rfl:p9=g:=aj.cL (e6.symm.trans e1);have E:=e4 hc.1;clear e4 e5;have fc:=hf (6,some 41) (.head _) rfl;have ec:v' 6 = Cy #[Cz Cv A1,Cz Cv A2]:=fc.2.1;have ff:=E.fr;obtain⟨cy,cx⟩:=E.r1;go_step;exact hK.out Cf _ (bV.k E) ⟨(bV.b I),jk.trans (bV.k E),bV.n jn,(bV.f X),(bV.f T),(bV.f J),(bV.f b9),fun _=>⟨p9,e1,e2,by simpa using e3,fun h=>Bool.noConfusion h,fun _=>⟨fc.1,_,ec,(ai.st (i:=1) (ai.st (i:=0) E))⟩⟩,fun h=>by obtain⟨g,k1,k2,k3,k4,k5⟩:=Z h; have ci:g≠p9:=fun e=>(H f.1 h) (by rw[e6,k1,e]); exact⟨g,k1,k2,by simpa using k3,fun h=>((k4 h).aG ci).aG ci,fun h=>by obtain⟨d,cs,e,fe⟩:=k5 h; exact⟨d,cs,e,((fe).aG ci).aG ci⟩⟩,H⟩ trivial trivial
 refine aj.dE (fun D v' M hc Y hf K hK=> ?_) (fun _ _=>aj.aD (b:=⟨_,_⟩) rfl ?_)
 .
  obtain⟨I,jk,jn,X,T,J,b9,a9,Z,H⟩:=Y;have f:=hf (15,some 10) (.tail _ (.head _)) rfl;have e6:v' 15 = Cj (some ⟨p10,0,none⟩):=f.2.1;obtain⟨g,e1,e2,e3,e4,e5⟩:=Z f.1;obtain rfl:p10=g:=aj.cL (e6.symm.trans e1);have E:=e4 hc.1;clear e4 e5;have fc:=hf (13,some 48) (.head _) rfl;have ec:v' 13 = Cy #[Cz Cv B1,Cz Cv B2]:=fc.2.1;have ff:=E.fr;obtain⟨cy,cx⟩:=E.r1;go_step;exact hK.out Cf _ (bV.k E) ⟨(bV.b I),jk.trans (bV.k E),bV.n jn,(bV.f X),(bV.f T),(bV.f J),(bV.f b9),fun h=>by obtain⟨g,k1,k2,k3,k4,k5⟩:=a9 h; have ci:g≠p10:=fun e=>(H h f.1) (by rw[e6,k1,e]); exact⟨g,k1,k2,by simpa using k3,fun h=>((k4 h).aG ci).aG ci,fun h=>by obtain⟨d,cs,e,fe⟩:=k5 h; exact⟨d,cs,e,((fe).aG ci).aG ci⟩⟩,fun _=>⟨p10,e1,e2,by simpa using e3,fun h=>Bool.noConfusion h,fun _=>⟨fc.1,_,ec,(ai.st (i:=1) (ai.st (i:=0) E))⟩⟩,H⟩ trivial trivial
 refine aj.aH (fun Dn v' w6 hd Y hf=> ?_);obtain⟨B,jk,jn,oa,or,oz,ou,a9,Z,H⟩:=Y;have f:=hf (14,some 9) (.tail _ (.tail _ (.tail _ (.tail _ (.head _))))) rfl;have eF:v' 14 = Cj (some ⟨p9,0,none⟩):=f.2.1;obtain⟨g,em,zc,-,-,ek⟩:=a9 f.1;obtain rfl:p9=g:=aj.cL (eF.symm.trans em);obtain⟨-,fY,ee,oc⟩:=ek (hd 16 (Ca rfl));have ef:v' 6 = Cy #[Cz Cv A1,Cz Cv A2]:=(hf (6,some 41) (.tail _ (.head _)) rfl).2.1;obtain rfl:#[Cz Cv A1,Cz Cv A2]=fY:=by have:=ef.symm.trans ee; simpa only[Value.tuple.injEq,Value.agg.injEq,Array.mk.injEq,List.cons.injEq,and_true,true_and]using this
 clear ee ef f ek em eF;have f:=hf (15,some 10) (.tail _ (.tail _ (.tail _ (.tail _ (.tail _ (.head _)))))) rfl;have eF:v' 15 = Cj (some ⟨p10,0,none⟩):=f.2.1;obtain⟨g,em,zd,-,-,ek⟩:=Z f.1;obtain rfl:p10=g:=aj.cL (eF.symm.trans em);obtain⟨-,fY,ee,od⟩:=ek (hd 17 (Ca rfl));have ef:v' 13 = Cy #[Cz Cv B1,Cz Cv B2]:=(hf (13,some 48) (.tail _ (.tail _ (.tail _ (.head _)))) rfl).2.1;obtain rfl:#[Cz Cv B1,Cz Cv B2]=fY:=by have:=ef.symm.trans ee; simpa only[Value.tuple.injEq,Value.agg.injEq,Array.mk.injEq,List.cons.injEq,and_true,true_and]using this
 clear ee ef f ek em eF;have gn:p9≠p10:=fun e=>H (hf (14,some 9) (.tail _ (.tail _ (.tail _ (.tail _ (.head _))))) rfl).1 (hf (15,some 10) (.tail _ (.tail _ (.tail _ (.tail _ (.tail _ (.head _)))))) rfl).1 (by have h1:=(hf (14,some 9) (.tail _ (.tail _ (.tail _ (.tail _ (.head _))))) rfl).2.1; have h2:=(hf (15,some 10) (.tail _ (.tail _ (.tail _ (.tail _ (.tail _ (.head _)))))) rfl).2.1; rw[h1,h2]; show Value.pointer _ = Cj _; rw[e]);clear hd hf jk H;refine hQ _ _ ?_;clear hQ bg Q' bf;obtain⟨gz,gN,gr,gt⟩:=oa.r3;have la:=oa.lt;have lr:=or.lt;have lz:=oz.lt;obtain⟨gD,gB⟩:=ou.r1;have lu:=ou.lt;obtain⟨cy,cx⟩:=oc.r1;have lc:=oc.lt;obtain⟨gL,gC⟩:=od.r1;have ld:=od.lt;have gQ:p10<w6.heap.size:=od.lt;have gX:=B.size
 go_upto_region 9 with fail
 refine aj.ew (fun N0 D v W=>Below w.heap.size w W/\av w6 W/\N0<=W.heap.size/\ai W w.heap.size 80 #[Cz Cv k0,Cz Cv k1,Cz Cv k2,Cz Cv k3]/\((D 13=false->ai W (w.heap.size+1) 160 Km)/\(D 13=true->ai W (w.heap.size+1) 160 #[Cz Cv k0,Cz Cv k1,Cz Cv k2,Cz Cv k3,Cz Cv A1,Cz Cv A2,Cz Cv B1,Cz Cv B2,Cz Cv N_]))/\ai W (w.heap.size+1+1) 218 #[Cz Cv x0,Cz Cv y0,Cz Cv x1,Cz Cv y1,Cz Cv x2,Cz Cv y2,Cz Cv x3,Cz Cv y3]/\ai W w5.heap.size 217 #[Cz Cv ux,Cz Cv uy]/\ai W (p9) 217 #[Cz Cv A1,Cz Cv A2]/\ai W (p10) 217 #[Cz Cv B1,Cz Cv B2]) [11,13] [(11,fun z_=>z_ = Cz Cv N_)] [] [(13,[(11,some 60)]),(14,[(11,some 60)])] [] (fun N0 ah=>⟨fun v=> ?_,fun D v v' W hv Y=> ?_,fun bf Q' bg hQ=> ?_⟩)
 . exact⟨zi,zo,Nat.le_of_eq ah.out,zw,⟨fun _=>zw,(fun h=>Bool.noConfusion h)⟩,zw,zw,zw,zw⟩
 . exact Y
 have eN:=ah.out
 try simp only[Co,World.size_setCell,World.size_drew,World.heap_drewN]at eN
 have er:w.heap.size<N0:=by first | omega | (have h:=oa.lt; omega)
 have dP:w.heap.size+1<N0:=by first | omega | (have h:=or.lt; omega)
 have eM:w.heap.size+1+1<N0:=by first | omega | (have h:=oz.lt; omega)
 have gF:w5.heap.size<N0:=by first | omega | (have h:=ou.lt; omega)
 have hZ:p9<N0:=by first | omega | (have h:=oc.lt; omega)
 have it:p10<N0:=by first | omega | (have h:=od.lt; omega)
 have iw:w.heap.size<=N0:=by first | omega | (have h:=B.size; omega)
 clear gz gN gr gt la lr lz gD gB lu cy cx lc gL gC ld;clear ah;refine aj.aV 49 (fun _ _ _ h=>h.2.2.2.1.r3) ?_;refine aj.aK 50 ?_;refine aj.aV 51 (fun _ _ _ h=>h.2.2.2.2.2.2.2.1.r1) ?_;refine aj.aK 52 ?_;refine aj.aV 53 (fun _ _ _ h=>h.2.2.2.2.2.2.2.1.r1) ?_;refine aj.aK 54 ?_;refine aj.aV 55 (fun _ _ _ h=>h.2.2.2.2.2.2.2.2.r1) ?_;refine aj.aK 56 ?_;refine aj.aV 57 (fun _ _ _ h=>h.2.2.2.2.2.2.2.2.r1) ?_;refine aj.aK 58 ?_;refine aj.aV 59 (fun _ _ _ h=>h.2.2.2.2.2.2.1.r1) ?_;refine aj.aB rfl (j9 rfl) rfl (fun D v' M hc Y hf K hK=> ?_) ?_
 .
  obtain⟨I,jk,jn,X,T,J,b9,gh,gg⟩:=Y;clear hf;go_step;refine(sq M).mono ?_;rintro e W2 ⟨rfl,N⟩;exact hK.out _ W2 (av.ae N) ⟨Zc I N,jk.aI N,Uf jn N,X.ae N,⟨fun h=>(T.1 h).ae N,fun h=>(T.2 h).ae N⟩,J.ae N,b9.ae N,gh.ae N,gg.ae N⟩ trivial rfl
 rintro _ rfl;refine aj.dQ rfl ?_;refine aj.aK 61 ?_;refine aj.dE (fun D v' M hc Y hf K hK=> ?_) (fun _ _=>aj.aD (b:=⟨_,_⟩) rfl ?_)
 .
  obtain⟨I,jk,jn,X,T,J,b9,gh,gg⟩:=Y;have E:=T.1 hc.1;have e2:w.heap.size<=w.heap.size+1:=B_
  have ff:=E.fr;obtain⟨cy,cx,gW,h9,iy,iq,gV,gZ,ik⟩:=E.r8;go_step;exact hK.out Cf _ (ei.k E) ⟨(ei.b I),jk.trans (ei.k E),ei.n jn,(ei.f X),⟨fun h=>Bool.noConfusion h,fun _=>(ai.st (i:=8) (ai.st (i:=7) (ai.st (i:=6) (ai.st (i:=5) (ai.st (i:=4) (ai.st (i:=3) (ai.st (i:=2) (ai.st (i:=1) (ai.st (i:=0) E)))))))))⟩,(ei.f J),(ei.f b9),(ei.f gh),(ei.f gg)⟩ trivial trivial
 refine aj.aH (fun Dn v' w7 hd Y hf=> ?_);obtain⟨B,jk,jn,oa,T,oz,ou,oc,od⟩:=Y;have or:=T.2 (hd 13 (Ca rfl));clear T;clear hd hf jk;refine hQ _ _ ?_;clear hQ bg Q' bf;have la:=oa.lt;obtain⟨gM,gH,gK,gA,gI,gp,gG,gE,gJ⟩:=or.r8;have lr:=or.lt;have lz:=oz.lt;go_wp2_with fail
 refine bodyPost_ret (by simp[results,Tryz.results145,go_sem,la,gM,gH,gK,gA,gI,gp,gG,gE,gJ,lr,lz]; rfl) rfl ?_;exact⟨rfl,zi⟩
theorem Vk (x:Int) (w:Cc):Cb Ch 193 #[Cz Cv x] w fun e E=>e = Cg (.bool false)/\zf w E:=by
 go_enter Tryz.func193,Tryz.ntmps193
 go_wp2
 go_returns
 exact⟨rfl,zi⟩
theorem Vl (x y:Int) (w:Cc):Cb Ch 173 #[Cz Cv x,Cz Cv y] w fun e I=>e = Cg (Cz Cv (zI x y))/\zf w I:=by
 rcases(show x<y\/x=y\/y<x by omega)with h | h | h
 focus
  have E:Hid (zI x y = -1):=by show zI x y=_; unfold zI; rw[C8 B_,C7 h]
 rotate_left
 focus
  have E:Hid (zI x y=0):=by show zI x y=_; unfold zI; rw[C7 h]
  subst h
 rotate_left
 focus
  have E:Hid (zI x y=1):=by show zI x y=_; unfold zI; rw[C8 B_,C8 B_]
 rotate_left
 all_goals
  go_enter Tryz.func173,Tryz.ntmps173
  go_wp2_with fail
  refine(Vk _ _).mono ?_;rintro e J ⟨rfl,st⟩;have H:=bA w st;clear st;have B:=H;clear H;go_wp2_with fail
  refine(Vk _ _).mono ?_;rintro e M ⟨rfl,st⟩;have H:=bA w st;clear B;clear st;have B:=H;clear H
  go_wp2
  go_returns
  exact⟨yT E.out.symm,zi⟩
theorem GL (x:Int) (w:Cc):Cb Ch 194 #[Cz Cv x] w fun e E=>e = Cg (.bool false)/\zf w E:=by
 go_enter Tryz.func194,Tryz.ntmps194
 go_wp2
 go_returns
 exact⟨rfl,zi⟩
theorem Hj (x y:Int) (w:Cc):Cb Ch 175 #[Cz Cv x,Cz Cv y] w fun e I=>e = Cg (Cz Cv (zI x y))/\zf w I:=by
 rcases(show x<y\/x=y\/y<x by omega)with h | h | h
 focus
  have E:Hid (zI x y = -1):=by show zI x y=_; unfold zI; rw[C8 B_,C7 h]
 rotate_left
 focus
  have E:Hid (zI x y=0):=by show zI x y=_; unfold zI; rw[C7 h]
  subst h
 rotate_left
 focus
  have E:Hid (zI x y=1):=by show zI x y=_; unfold zI; rw[C8 B_,C8 B_]
 rotate_left
 all_goals
  go_enter Tryz.func175,Tryz.ntmps175
  go_wp2_with fail
  refine(GL _ _).mono ?_;rintro e J ⟨rfl,st⟩;have H:=bA w st;clear st;have B:=H;clear H;go_wp2_with fail
  refine(GL _ _).mono ?_;rintro e M ⟨rfl,st⟩;have H:=bA w st;clear B;clear st;have B:=H;clear H
  go_wp2
  go_returns
  exact⟨yT E.out.symm,zi⟩
def kO (c d:Int):Int:=if c=0 then d else c
theorem H3 (c d:Int) (g:Nat) (w:Cc) (M:g<w.heap.size) (h0:w.cell? ⟨g,0,none⟩=some (Cz Cv c)) (N:w.cell? ⟨g,1,none⟩=some (Cz Cv d)) :
  Cb Ch 174 #[Cq (some ⟨g,0,none⟩) 2 2] w fun e I=>e = Cg (Cz Cv (kO c d))/\zf w I:=by
 by_cases hc:c=0
 .
  by_cases hd:d=0
  .
   have E:Hid (kO c d=0):=by show kO c d=_; unfold kO; rw[C7 hc,hd]
   subst hc hd
   go_enter Tryz.func174,Tryz.ntmps174
   go_wp2_with fail
   refine wp_loop_rounds 3 ?_;rw[rounds_succ];go_wp2_with fail
   rw[rounds_succ];go_wp2_with fail
   rw[rounds_succ]
   go_wp2
   go_returns
   exact⟨yT E.out.symm,zi⟩
  .
   have E:Hid (kO c d=d):=C7 hc;have H:(d==0)=false:=by simpa using hd
   subst hc
   go_enter Tryz.func174,Tryz.ntmps174
   go_wp2_with fail
   refine wp_loop_rounds 3 ?_;rw[rounds_succ];go_wp2_with fail
   rw[rounds_succ]
   go_wp2
   go_returns
   exact⟨yT E.out.symm,zi⟩
 .
  have E:Hid (kO c d=c):=C8 hc;have J:(c==0)=false:=by simpa using hc
  go_enter Tryz.func174,Tryz.ntmps174
  go_wp2_with fail
  refine wp_loop_rounds 3 ?_;rw[rounds_succ]
  go_wp2
  go_returns
  exact⟨yT E.out.symm,zi⟩
theorem Vm (x y:Int) (a b:List Int):j_ (x::a) (y::b)=kO (zI x y) (j_ a b):=by
 show (if x=y then j_ a b else if x<y then -1 else 1)=_
 unfold kO zI
 by_cases h:x=y
 . rw[C7 h,C7 h,C7 rfl]
 . rw[C8 h,C8 h]; split<;>rfl
theorem J2 (a b c:Int):kO (kO a b) c=kO a (kO b c):=by unfold kO; by_cases h:a=0<;>simp[h]
theorem Vn (a:Int):kO a 0=a:=by unfold kO; by_cases h:a=0<;>simp[h]
theorem Uw (a b:aT):YW a b=kO (kO (kO (kO (kO (kO (kO (kO (zI (a.a1+a.b1) (b.a1+b.b1)) (zI a.a1 b.a1)) (zI a.a2 b.a2)) (zI a.b1 b.b1)) (zI a.b2 b.b2)) (zI a.k0 b.k0)) (zI a.k1 b.k1)) (zI a.k2 b.k2)) (zI a.k3 b.k3):=by
 unfold YW aT.key;simp only[Vm,J2];rw[show j_ [] []=0 from rfl,Vn]
def J3 (a:aT):Cd:= Cy #[Cz Cv a.k0,Cz Cv a.k1,Cz Cv a.k2,Cz Cv a.k3,Cz Cv a.a1,Cz Cv a.a2,Cz Cv a.b1,Cz Cv a.b2,Cz Cv a.n]
def V7 (a:aT):Prop:= -35184372088832<=a.a1/\a.a1<=35184372088832/\-35184372088832<=a.b1/\a.b1<=35184372088832
theorem J4 (x y r:Nat->Int) (N M:Int) (w:Cc) (a1 : -35184372088832<=x 0/\x 0<=35184372088832) (a2 : -35184372088832<=x 2/\x 2<=35184372088832) (b1 : -35184372088832<=y 0/\y 0<=35184372088832) (b2 : -35184372088832<=y 2/\y 2<=35184372088832)
  (h0:r 0=zI (x 0+x 2) (y 0+y 2)) (hr:∀k,r (k+1)=kO (r k) (zI (x k) (y k))) :
  Cb Ch 143 #[Cy #[Cz Cv (x 4),Cz Cv (x 5),Cz Cv (x 6),Cz Cv (x 7),Cz Cv (x 0),Cz Cv (x 1),Cz Cv (x 2),Cz Cv (x 3),Cz Cv N],Cy #[Cz Cv (y 4),Cz Cv (y 5),Cz Cv (y 6),Cz Cv (y 7),Cz Cv (y 0),Cz Cv (y 1),Cz Cv (y 2),Cz Cv (y 3),Cz Cv M]] w fun e T=>e = Cg (Cz Cv (r 8))/\zf w T:=by
 have cp:∀T,Cb Ch 173 #[Cz Cv (x 0+x 2),Cz Cv (y 0+y 2)] T fun e w2=>e = Cg (Cz Cv (r 0))/\zf T w2:=fun T=>by rw[h0]; exact Vl _ _ T
 have HR:=C5 hr;clear h0 hr;have br:∀k,k<4->(#[Cz Cv (x 4),Cz Cv (x 5),Cz Cv (x 6),Cz Cv (x 7),Cz Cv (x 0),Cz Cv (x 1),Cz Cv (x 2),Cz Cv (x 3),Cz Cv N]:Array Cd)[4+k]? = some (Cz Cv (x k)):=fun k hk=>by rcases(show k=0\/k=1\/k=2\/k=3 by omega)with rfl | rfl | rfl | rfl<;>rfl
 have bt:∀k,k<4->(#[Cz Cv (x 4),Cz Cv (x 5),Cz Cv (x 6),Cz Cv (x 7),Cz Cv (x 0),Cz Cv (x 1),Cz Cv (x 2),Cz Cv (x 3),Cz Cv N]:Array Cd)[k]? = some (Cz Cv (x (4+k))):=fun k hk=>by rcases(show k=0\/k=1\/k=2\/k=3 by omega)with rfl | rfl | rfl | rfl<;>rfl
 have bq:∀k,k<4->(#[Cz Cv (y 4),Cz Cv (y 5),Cz Cv (y 6),Cz Cv (y 7),Cz Cv (y 0),Cz Cv (y 1),Cz Cv (y 2),Cz Cv (y 3),Cz Cv M]:Array Cd)[4+k]? = some (Cz Cv (y k)):=fun k hk=>by rcases(show k=0\/k=1\/k=2\/k=3 by omega)with rfl | rfl | rfl | rfl<;>rfl
 have ce:∀k,k<4->(#[Cz Cv (y 4),Cz Cv (y 5),Cz Cv (y 6),Cz Cv (y 7),Cz Cv (y 0),Cz Cv (y 1),Cz Cv (y 2),Cz Cv (y 3),Cz Cv M]:Array Cd)[k]? = some (Cz Cv (y (4+k))):=fun k hk=>by rcases(show k=0\/k=1\/k=2\/k=3 by omega)with rfl | rfl | rfl | rfl<;>rfl
 go_enter Tryz.func143,Tryz.ntmps143
 go_wp2_with fail
 refine(cp _).mono ?_;rintro e w1 ⟨rfl,st⟩;have B:=bA w st;have J:ai w1 w.heap.size 160 #[Cz Cv (x 4),Cz Cv (x 5),Cz Cv (x 6),Cz Cv (x 7),Cz Cv (x 0),Cz Cv (x 1),Cz Cv (x 2),Cz Cv (x 3),Cz Cv N]:=ai.ak st;have I:ai w1 (w.heap.size+1) 160 #[Cz Cv (y 4),Cz Cv (y 5),Cz Cv (y 6),Cz Cv (y 7),Cz Cv (y 0),Cz Cv (y 1),Cz Cv (y 2),Cz Cv (y 3),Cz Cv M]:=ai.ak st;clear st;clear a1 a2 b1 b2 cp;obtain⟨CA,ci⟩:∃c,(#[Cz Cv (x 4),Cz Cv (x 5),Cz Cv (x 6),Cz Cv (x 7),Cz Cv (x 0),Cz Cv (x 1),Cz Cv (x 2),Cz Cv (x 3),Cz Cv N]:Array Cd)=c:=⟨_,rfl⟩;rw[ci]at J br bt;clear ci;obtain⟨CB,bl⟩:∃c,(#[Cz Cv (y 4),Cz Cv (y 5),Cz Cv (y 6),Cz Cv (y 7),Cz Cv (y 0),Cz Cv (y 1),Cz Cv (y 2),Cz Cv (y 3),Cz Cv M]:Array Cd)=c:=⟨_,rfl⟩;rw[bl]at I bq ce;clear bl;go_wp2_with fail
 go_loopw [5,23] (fun cc kk wr=>∃k:Nat,k<=4/\kk = Cz Cv k/\cc = Cz Cv (r (k))/\ai wr w.heap.size 160 CA/\ai wr (w.heap.size+1) 160 CB/\Below w.heap.size w wr) (fun _ kk _=>(4-(intOf kk).toNat))
 case atStart=>exact⟨0,by omega,rfl,rfl,zw,zw,zi⟩
 case round=>
  obtain⟨k,hk,rfl,rfl,za,zb,zB⟩:=hrel;clear J I B;have J:=za;have I:=zb;have B:=zB;clear za zb zB
  rcases Nat.lt_or_ge k 4 with h4 | h4
  .
   have hA:=br k h4;have hB:=bq k h4;have hn:=HR.out k;obtain⟨xk,X⟩:∃z,x k=z:=⟨_,rfl⟩;obtain⟨yk,hy⟩:∃z,y k=z:=⟨_,rfl⟩;rw[X]at hA hn;rw[hy]at hB hn;obtain⟨d,hd⟩:∃z,zI xk yk=z:=⟨_,rfl⟩;rw[hd]at hn;obtain⟨c,hc⟩:∃z,r k=z:=⟨_,rfl⟩;rw[hc]at hn|-;obtain⟨e,he⟩:∃z,kO c d=z:=⟨_,rfl⟩;rw[he]at hn;have bi:∀T,Cb Ch 173 #[Cz Cv xk,Cz Cv yk] T fun e w2=>e = Cg (Cz Cv d)/\zf T w2:=fun T=>by rw[<- hd]; exact Vl _ _ T
   have bh:∀g T,g<T.heap.size->T.cell? ⟨g,0,none⟩=some (Cz Cv c)->T.cell? ⟨g,1,none⟩=some (Cz Cv d)->Cb Ch 174 #[Cq (some ⟨g,0,none⟩) 2 2] T fun u w2=>u = Cg (Cz Cv e)/\zf T w2:=fun g T Z h2 h3=>by rw[<- he]; exact H3 _ _ g T Z h2 h3
   have HN:=C5 hn;have cy:decide ((k:Int)<4)=true:=C9 B_;clear hn X hy hd hc he;go_wp2_with fail
   refine aj.bz (fun N0=>fun D v W=>Below w.heap.size w W/\ai W w.heap.size 160 CA/\ai W (w.heap.size+1) 160 CB/\(D 10=true->∃g:Nat,v 10 = Cq (some ⟨g,0,none⟩) 2 2/\N0<=g/\ai W g 3 #[Cz Cv c,Cz Cv d])/\N0<=W.heap.size)
    (aj.inl [9,10,11]) (aj.gv [(9,fun x=>x = Cz Cv d),(11,fun x=>x = Cz Cv e),(10,fun x=>∃g:Nat,x = Cq (some ⟨g,0,none⟩) 2 2)]) aj.aU (fun _=>aj.Any) (fun _ _=>False) (aj.pl [(11,[(10,some 36)]),(13,[(10,some 36)])]) (aj.pl [])
    B' B' B' (aj.bk _ (fun p hp=>by simp only[List.mem_cons,List.not_mem_nil,or_false]at hp; rcases hp with rfl | rfl | rfl; exact⟨_,rfl⟩; exact⟨_,rfl⟩; exact⟨_,0,rfl⟩)) (fun N0 a9=>⟨fun v=> ?_,(fun D v v' W hv Y=> ?_),fun _ _ _ _ _ _ _ _ _ _ _ _ _=>aj.none_,fun _ _ _ _ h=>h.elim,fun bg Q' b9 hQ=> ?_⟩)
   . exact⟨(by first | with_reducible exact Below.drew B | with_reducible exact Below.drew (yD B _) | (repeat' first | with_reducible assumption | with_reducible exact Below.refl _ _ | with_reducible refine Below.alloc ?_ ?_ _ | with_reducible refine Below.drew ?_ | with_reducible refine yD ?_ _ | with_reducible refine Below.setCell ?_ ?_ _ | go_size)),(show ai _ _ _ CA from(by first | with_reducible exact J | (repeat' first | with_reducible assumption | (with_reducible refine ai.bO ?_; first | with_reducible rfl | (simp only[Co,World.size_setCell,World.size_drew]; done)) | with_reducible refine ai.alloc ?_ _ | with_reducible refine ai.drew ?_ | with_reducible refine ai.drewN ?_ _ | with_reducible apply ai.both | with_reducible refine ai.aG ?_ ?_ | (show _≠_; omega)))),(show ai _ _ _ CB from(by first | with_reducible exact I | (repeat' first | with_reducible assumption | (with_reducible refine ai.bO ?_; first | with_reducible rfl | (simp only[Co,World.size_setCell,World.size_drew]; done)) | with_reducible refine ai.alloc ?_ _ | with_reducible refine ai.drew ?_ | with_reducible refine ai.drewN ?_ _ | with_reducible apply ai.both | with_reducible refine ai.aG ?_ ?_ | (show _≠_; omega)))),(fun h=>by cases h),(Nat.le_of_eq a9.out)⟩
   .
    obtain⟨B,J,I,E,H⟩:=Y;exact⟨B,J,I,(fun h=>hv 10 h▸E h),H⟩
   have ia:w.heap.size<N0:=by have h:=J.lt; have e:=a9.out; (try simp only[Co,World.size_setCell,World.size_drew,World.heap_drewN]at e); omega
   have ib:w.heap.size+1<N0:=by have h:=I.lt; have e:=a9.out; (try simp only[Co,World.size_setCell,World.size_drew,World.heap_drewN]at e); omega
   have bf:w.heap.size<=N0:=by have h:=Below.size B; have e:=a9.out; (try simp only[Co,World.size_setCell,World.size_drew,World.heap_drewN]at e); (try simp only[Co,World.size_setCell,World.size_drew,World.heap_drewN]at h); omega
   clear B J I a9
   repeat refine aj.aK _ ?_
   apply aj.RP rfl rfl rfl 30 rfl rfl
   .
    intro D v W hc Y hf K hK;obtain⟨B,J,I,E,H⟩:=Y;have d9:World.cell? W ⟨w.heap.size,4+k,none⟩=some (Cz Cv xk):=J.c _ hA;go_step;exact hK.out
   . rfl
   repeat refine aj.aK _ ?_
   apply aj.RP rfl rfl rfl 34 rfl rfl
   .
    intro D v W hc Y hf K hK;obtain⟨B,J,I,E,H⟩:=Y;have cN:World.cell? W ⟨w.heap.size+1,4+k,none⟩=some (Cz Cv yk):=I.c _ hB;go_step;exact hK.out
   . rfl
   refine aj.aB rfl (j9 rfl) rfl (fun D v W hc Y hf K hK=> ?_) (fun x X=> ?_)
   .
    obtain⟨B,J,I,E,H⟩:=Y;go_step;refine(bi _).mono ?_;rintro e W' ⟨rfl,hb⟩;have st:zf W W':=hb;exact hK.out _ _ aj.any ⟨bS B st,J.ae st,I.ae st,(fun h=>let ⟨g,Z,h2,h3⟩:=E h; ⟨g,Z,h2,h3.ae st⟩),(Nat.le_trans H st.size)⟩ aj.none_ rfl
   have X:x = Cz Cv d:=X;subst X;refine aj.aD (b:=⟨#[_,_,_,_,_,_,_,_,_,_,_,_,_,_,_,_,_,_,_,_,_,_,_,_,_,_,_,_,_,_,_,_,_,_,_,_,_,_,_,_,_,_,_,_,_,_,_,_,_,_,_,_,_,_,_,_],[]⟩) rfl ?_;refine aj.aB rfl (j9 rfl) rfl (fun D v W hc Y hf K hK=> ?_) (fun x X=> ?_)
   .
    obtain⟨B,J,I,E,H⟩:=Y;go_step;exact hK.out _ _ aj.any ⟨Below.alloc B B.size _,J.alloc _,I.alloc _,(fun _=>⟨W.heap.size,rfl,H,ai.new W _ _⟩),(Nat.le_trans H (by rw[Co]; exact Nat.le_succ _))⟩ aj.none_ ⟨_,rfl⟩
   obtain⟨gS,X⟩:∃g:Nat,x = Cq (some ⟨g,0,none⟩) 2 2:=X;subst X;refine aj.aD (b:=⟨#[_,_,_,_,_,_,_,_,_,_,_,_,_,_,_,_,_,_,_,_,_,_,_,_,_,_,_,_,_,_,_,_,_,_,_,_,_,_,_,_,_,_,_,_,_,_,_,_,_,_,_,_,_,_,_,_],[]⟩) rfl ?_;refine aj.aB rfl (j9 rfl) rfl (fun D v W hc Y hf K hK=> ?_) (fun x X=> ?_)
   .
    obtain⟨B,J,I,E,H⟩:=Y;obtain⟨hd,he,-⟩:=hf (10,some 36) (.head _) rfl;obtain⟨g,Z,h2,oS⟩:=E hd;obtain rfl:gS=g:=aj.du ((show v 10=Value.slice (some ⟨gS,0,none⟩) 2 2 from he).symm.trans Z);clear he Z h2;go_step;refine(bh _ _ oS.lt (oS.c 0 rfl) (oS.c 1 rfl)).mono ?_;rintro e W' ⟨rfl,hb⟩;have st:zf W W':=hb;exact hK.out _ _ aj.any ⟨bS B st,J.ae st,I.ae st,(fun h=>let ⟨g,Z,h2,h3⟩:=E h; ⟨g,Z,h2,h3.ae st⟩),(Nat.le_trans H st.size)⟩ aj.none_ rfl
   have X:x = Cz Cv e:=X;subst X;refine aj.aD (b:=⟨#[_,_,_,_,_,_,_,_,_,_,_,_,_,_,_,_,_,_,_,_,_,_,_,_,_,_,_,_,_,_,_,_,_,_,_,_,_,_,_,_,_,_,_,_,_,_,_,_,_,_,_,_,_,_,_,_],[]⟩) rfl ?_;refine aj.aK 5 ?_;refine aj.aH (fun D v W hd Y hf=> ?_);obtain⟨B,J,I,E,H⟩:=Y;obtain⟨-,he,-⟩:=hf (10,some 36) (.head _) rfl;obtain⟨g,Z,ah,h3⟩:=E (hd 10 C0);obtain rfl:gS=g:=aj.du ((show v 10=Value.slice (some ⟨gS,0,none⟩) 2 2 from he).symm.trans Z);have oS:ai W gS 3 #[Cz Cv c,Cz Cv d]:=h3;have cg:w.heap.size<=gS:=Nat.le_trans bf ah;have cY:w.heap.size≠gS:=by have:=ia; have:=ah; omega
   have cx:w.heap.size+1≠gS:=by have:=ib; have:=ah; omega
   have be:=Z;clear he Z h3 E ah;clear be H bf;clear hd hf ia ib;refine hQ _ _ ?_;clear hQ b9 Q' bg;clear oS
   repeat' (first | go_values | go_skip | go_guarded | go_step | go_upon)
   go_roundw
   case rel=>exact⟨k+1,by omega,by go_num,by rw[HN.out],zw,zw,zi⟩
   case measure=>simp[intOf]; omega
  .
   obtain rfl:k=4:=B_
   rw[show ((4:Nat):Int)=4 from rfl];go_wp2_with fail
   go_loopw [5,39] (fun cc kk wr=>∃k:Nat,k<=4/\kk = Cz Cv k/\cc = Cz Cv (r (4+k))/\ai wr w.heap.size 160 CA/\ai wr (w.heap.size+1) 160 CB/\Below w.heap.size w wr) (fun _ kk _=>(4-(intOf kk).toNat))
   case atStart=>exact⟨0,by omega,rfl,rfl,zw,zw,zi⟩
   case round=>
    obtain⟨k,hk,rfl,rfl,za,zb,zB⟩:=hrel;clear J I B;have J:=za;have I:=zb;have B:=zB;clear za zb zB
    rcases Nat.lt_or_ge k 4 with h4 | h4
    .
     have hA:=bt k h4;have hB:=ce k h4;have hn:=HR.out (4+k);obtain⟨xk,X⟩:∃z,x (4+k)=z:=⟨_,rfl⟩;obtain⟨yk,hy⟩:∃z,y (4+k)=z:=⟨_,rfl⟩;rw[X]at hA hn;rw[hy]at hB hn;obtain⟨d,hd⟩:∃z,zI xk yk=z:=⟨_,rfl⟩;rw[hd]at hn;obtain⟨c,hc⟩:∃z,r (4+k)=z:=⟨_,rfl⟩;rw[hc]at hn|-;obtain⟨e,he⟩:∃z,kO c d=z:=⟨_,rfl⟩;rw[he]at hn;have bi:∀T,Cb Ch 175 #[Cz Cv xk,Cz Cv yk] T fun e w2=>e = Cg (Cz Cv d)/\zf T w2:=fun T=>by rw[<- hd]; exact Hj _ _ T
     have bh:∀g T,g<T.heap.size->T.cell? ⟨g,0,none⟩=some (Cz Cv c)->T.cell? ⟨g,1,none⟩=some (Cz Cv d)->Cb Ch 174 #[Cq (some ⟨g,0,none⟩) 2 2] T fun u w2=>u = Cg (Cz Cv e)/\zf T w2:=fun g T Z h2 h3=>by rw[<- he]; exact H3 _ _ g T Z h2 h3
     have HN:=C5 hn;have cy:decide ((k:Int)<4)=true:=C9 B_;clear hn X hy hd hc he;go_wp2_with fail
     refine aj.bz (fun N0=>fun D v W=>Below w.heap.size w W/\ai W w.heap.size 160 CA/\ai W (w.heap.size+1) 160 CB/\(D 10=true->∃g:Nat,v 10 = Cq (some ⟨g,0,none⟩) 2 2/\N0<=g/\ai W g 3 #[Cz Cv c,Cz Cv d])/\N0<=W.heap.size)
      (aj.inl [9,10,11]) (aj.gv [(9,fun x=>x = Cz Cv d),(11,fun x=>x = Cz Cv e),(10,fun x=>∃g:Nat,x = Cq (some ⟨g,0,none⟩) 2 2)]) aj.aU (fun _=>aj.Any) (fun _ _=>False) (aj.pl [(11,[(10,some 52)]),(13,[(10,some 52)])]) (aj.pl [])
      B' B' B' (aj.bk _ (fun p hp=>by simp only[List.mem_cons,List.not_mem_nil,or_false]at hp; rcases hp with rfl | rfl | rfl; exact⟨_,rfl⟩; exact⟨_,rfl⟩; exact⟨_,0,rfl⟩)) (fun N0 a9=>⟨fun v=> ?_,(fun D v v' W hv Y=> ?_),fun _ _ _ _ _ _ _ _ _ _ _ _ _=>aj.none_,fun _ _ _ _ h=>h.elim,fun bg Q' b9 hQ=> ?_⟩)
     . exact⟨(by first | with_reducible exact Below.drew B | with_reducible exact Below.drew (yD B _) | (repeat' first | with_reducible assumption | with_reducible exact Below.refl _ _ | with_reducible refine Below.alloc ?_ ?_ _ | with_reducible refine Below.drew ?_ | with_reducible refine yD ?_ _ | with_reducible refine Below.setCell ?_ ?_ _ | go_size)),(show ai _ _ _ CA from(by first | with_reducible exact J | (repeat' first | with_reducible assumption | (with_reducible refine ai.bO ?_; first | with_reducible rfl | (simp only[Co,World.size_setCell,World.size_drew]; done)) | with_reducible refine ai.alloc ?_ _ | with_reducible refine ai.drew ?_ | with_reducible refine ai.drewN ?_ _ | with_reducible apply ai.both | with_reducible refine ai.aG ?_ ?_ | (show _≠_; omega)))),(show ai _ _ _ CB from(by first | with_reducible exact I | (repeat' first | with_reducible assumption | (with_reducible refine ai.bO ?_; first | with_reducible rfl | (simp only[Co,World.size_setCell,World.size_drew]; done)) | with_reducible refine ai.alloc ?_ _ | with_reducible refine ai.drew ?_ | with_reducible refine ai.drewN ?_ _ | with_reducible apply ai.both | with_reducible refine ai.aG ?_ ?_ | (show _≠_; omega)))),(fun h=>by cases h),(Nat.le_of_eq a9.out)⟩
     .
      obtain⟨B,J,I,E,H⟩:=Y;exact⟨B,J,I,(fun h=>hv 10 h▸E h),H⟩
     have ia:w.heap.size<N0:=by have h:=J.lt; have e:=a9.out; (try simp only[Co,World.size_setCell,World.size_drew,World.heap_drewN]at e); omega
     have ib:w.heap.size+1<N0:=by have h:=I.lt; have e:=a9.out; (try simp only[Co,World.size_setCell,World.size_drew,World.heap_drewN]at e); omega
     have bf:w.heap.size<=N0:=by have h:=Below.size B; have e:=a9.out; (try simp only[Co,World.size_setCell,World.size_drew,World.heap_drewN]at e); (try simp only[Co,World.size_setCell,World.size_drew,World.heap_drewN]at h); omega
     clear B J I a9
     repeat refine aj.aK _ ?_
     apply aj.RP rfl rfl rfl 46 rfl rfl
     .
      intro D v W hc Y hf K hK;obtain⟨B,J,I,E,H⟩:=Y;have d9:World.cell? W ⟨w.heap.size,k,none⟩=some (Cz Cv xk):=J.c _ hA;go_step;exact hK.out
     . rfl
     repeat refine aj.aK _ ?_
     apply aj.RP rfl rfl rfl 50 rfl rfl
     .
      intro D v W hc Y hf K hK;obtain⟨B,J,I,E,H⟩:=Y;have cN:World.cell? W ⟨w.heap.size+1,k,none⟩=some (Cz Cv yk):=I.c _ hB;go_step;exact hK.out
     . rfl
     refine aj.aB rfl (j9 rfl) rfl (fun D v W hc Y hf K hK=> ?_) (fun x X=> ?_)
     .
      obtain⟨B,J,I,E,H⟩:=Y;go_step;refine(bi _).mono ?_;rintro e W' ⟨rfl,hb⟩;have st:zf W W':=hb;exact hK.out _ _ aj.any ⟨bS B st,J.ae st,I.ae st,(fun h=>let ⟨g,Z,h2,h3⟩:=E h; ⟨g,Z,h2,h3.ae st⟩),(Nat.le_trans H st.size)⟩ aj.none_ rfl
     have X:x = Cz Cv d:=X;subst X;refine aj.aD (b:=⟨#[_,_,_,_,_,_,_,_,_,_,_,_,_,_,_,_,_,_,_,_,_,_,_,_,_,_,_,_,_,_,_,_,_,_,_,_,_,_,_,_,_,_,_,_,_,_,_,_,_,_,_,_,_,_,_,_],[]⟩) rfl ?_;refine aj.aB rfl (j9 rfl) rfl (fun D v W hc Y hf K hK=> ?_) (fun x X=> ?_)
     .
      obtain⟨B,J,I,E,H⟩:=Y;go_step;exact hK.out _ _ aj.any ⟨Below.alloc B B.size _,J.alloc _,I.alloc _,(fun _=>⟨W.heap.size,rfl,H,ai.new W _ _⟩),(Nat.le_trans H (by rw[Co]; exact Nat.le_succ _))⟩ aj.none_ ⟨_,rfl⟩
     obtain⟨gS,X⟩:∃g:Nat,x = Cq (some ⟨g,0,none⟩) 2 2:=X;subst X;refine aj.aD (b:=⟨#[_,_,_,_,_,_,_,_,_,_,_,_,_,_,_,_,_,_,_,_,_,_,_,_,_,_,_,_,_,_,_,_,_,_,_,_,_,_,_,_,_,_,_,_,_,_,_,_,_,_,_,_,_,_,_,_],[]⟩) rfl ?_;refine aj.aB rfl (j9 rfl) rfl (fun D v W hc Y hf K hK=> ?_) (fun x X=> ?_)
     .
      obtain⟨B,J,I,E,H⟩:=Y;obtain⟨hd,he,-⟩:=hf (10,some 52) (.head _) rfl;obtain⟨g,Z,h2,oS⟩:=E hd;obtain rfl:gS=g:=aj.du ((show v 10=Value.slice (some ⟨gS,0,none⟩) 2 2 from he).symm.trans Z);clear he Z h2;go_step;refine(bh _ _ oS.lt (oS.c 0 rfl) (oS.c 1 rfl)).mono ?_;rintro e W' ⟨rfl,hb⟩;have st:zf W W':=hb;exact hK.out _ _ aj.any ⟨bS B st,J.ae st,I.ae st,(fun h=>let ⟨g,Z,h2,h3⟩:=E h; ⟨g,Z,h2,h3.ae st⟩),(Nat.le_trans H st.size)⟩ aj.none_ rfl
     have X:x = Cz Cv e:=X;subst X;refine aj.aD (b:=⟨#[_,_,_,_,_,_,_,_,_,_,_,_,_,_,_,_,_,_,_,_,_,_,_,_,_,_,_,_,_,_,_,_,_,_,_,_,_,_,_,_,_,_,_,_,_,_,_,_,_,_,_,_,_,_,_,_],[]⟩) rfl ?_;refine aj.aK 5 ?_;refine aj.aH (fun D v W hd Y hf=> ?_);obtain⟨B,J,I,E,H⟩:=Y;obtain⟨-,he,-⟩:=hf (10,some 52) (.head _) rfl;obtain⟨g,Z,ah,h3⟩:=E (hd 10 C0);obtain rfl:gS=g:=aj.du ((show v 10=Value.slice (some ⟨gS,0,none⟩) 2 2 from he).symm.trans Z);have oS:ai W gS 3 #[Cz Cv c,Cz Cv d]:=h3;have cg:w.heap.size<=gS:=Nat.le_trans bf ah;have cY:w.heap.size≠gS:=by have:=ia; have:=ah; omega
     have cx:w.heap.size+1≠gS:=by have:=ib; have:=ah; omega
     have be:=Z;clear he Z h3 E ah;clear be H bf;clear hd hf ia ib;refine hQ _ _ ?_;clear hQ b9 Q' bg;clear oS
     repeat' (first | go_values | go_skip | go_guarded | go_step | go_upon)
     go_roundw
     case rel=>exact⟨k+1,by omega,by go_num,by rw[show 4+(k+1)=4+k+1 from by omega,HN.out],zw,zw,zi⟩
     case measure=>simp[intOf]; omega
    .
     obtain rfl:k=4:=B_
     rw[show ((4:Nat):Int)=4 from rfl]
     go_wp2
     go_returns
     exact⟨rfl,zi⟩
def Ux (a:aT) (i:Nat):Int:=match i with | 0=>a.a1 | 1=>a.a2 | 2=>a.b1 | 3=>a.b2 | 4=>a.k0 | 5=>a.k1 | 6=>a.k2 | _=>a.k3
def GM (x y:Nat->Int):Nat->Int
 | 0=>zI (x 0+x 2) (y 0+y 2)
 | k+1=>kO (GM x y k) (zI (x k) (y k))
theorem Vo (a b:aT) (w:Cc) (E:V7 a) (H:V7 b):Cb Ch 143 #[J3 a,J3 b] w fun e I=>e = Cg (Cz Cv (YW a b))/\zf w I:=by
 rw[Uw];exact J4 (Ux a) (Ux b) (GM (Ux a) (Ux b)) a.n b.n w ⟨E.1,E.2.1⟩ E.2.2 ⟨H.1,H.2.1⟩ H.2.2 rfl (fun _=>rfl)
end
end Go.Proofs.YtffmbepfbienaaaGreat
