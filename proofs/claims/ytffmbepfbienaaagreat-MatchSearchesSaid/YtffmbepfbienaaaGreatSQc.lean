import Derived.Test.YtffmbepfbienaaaGreatSUb
set_option linter.unusedVariables false
set_option linter.unusedSimpArgs false
set_option maxHeartbeats 6400000
set_option maxRecDepth 1000000
open Go.Value renaming slice->Ex,int->Ey,agg->Ej,pointer->Ek
open Go.IntKind renaming i64->Ew
open Go.Ending renaming returned->Eh
open Go.Proofs.Tryz renaming prog->Ec
open Go renaming Calls->Ed,World->Ee,Value->Ef,undef->Em
open Go.World renaming size_alloc->Es
namespace Go.Proofs.YtffmbepfbienaaaGreat
section
open Go.RowKit
variable {a b:Int}
theorem z4 {m n:Int} (H : -m<=a) (E:a<=m) (M : -n<=b) (N:b<=n) : -(m*n)<=a*b/\a*b<=m*n:=by
 have J:0<=m:=D5
 have I:0<=n:=D5
 have p1:(m-a)*(n-b)>=0:=Int.mul_nonneg D5 D5;have p2:(m+a)*(n+b)>=0:=Int.mul_nonneg D5 D5;have p3:(m-a)*(n+b)>=0:=Int.mul_nonneg D5 D5;have p4:(m+a)*(n-b)>=0:=Int.mul_nonneg D5 D5;simp only[Int.sub_mul,Int.add_mul,Int.mul_sub,Int.mul_add]at p1 p2 p3 p4;omega
def sm (a b:Int):Prop:= -4194304<=a/\a<=4194304/\-4194304<=b/\b<=4194304
theorem jJ {c d:Int} (h:sm a b) (k:sm c d):(-17592186044416<=a*c/\a*c<=17592186044416)/\(-17592186044416<=b*d/\b*d<=17592186044416)/\(-17592186044416<=b*c/\b*c<=17592186044416)/\(-17592186044416<=a*d/\a*d<=17592186044416):=by
 obtain⟨H,E,I,J⟩:=h;obtain⟨k1,k2,k3,M⟩:=k;exact⟨z4 H E k1 k2,z4 I J k3 M,z4 I J k1 k2,z4 H E k3 M⟩
theorem Ke (a b c d:Int) (w:Ee) (h:sm a b) (k:sm c d):Ed Ec 177 #[Ej #[Ey Ew a,Ey Ew b],Ej #[Ey Ew c,Ey Ew d]] w fun e E=>e = Eh (Ej #[Ey Ew (a-c),Ey Ew (b-d)])/\zf w E:=by
 obtain⟨I,H,J,M⟩:=h;obtain⟨k1,k2,k3,N⟩:=k
 go_enter Tryz.func177,Tryz.ntmps177
 go_wp2
 go_returns
 exact⟨rfl,zh⟩
theorem GF (a b c d:Int) (w:Ee) (h:sm a b) (k:sm c d):Ed Ec 178 #[Ej #[Ey Ew a,Ey Ew b],Ej #[Ey Ew c,Ey Ew d]] w fun e T=>e = Eh (Ej #[Ey Ew (a*c+b*d),Ey Ew (b*c-a*d)])/\zf w T:=by
 obtain⟨p1,p2,p3,p4⟩:=jJ h k;obtain⟨N,J⟩:∃x,a*c=x:=⟨_,rfl⟩;obtain⟨x2,E⟩:∃x,b*d=x:=⟨_,rfl⟩;obtain⟨x3,I⟩:∃x,b*c=x:=⟨_,rfl⟩;obtain⟨M,H⟩:∃x,a*d=x:=⟨_,rfl⟩;rw[J]at p1;rw[E]at p2;rw[I]at p3;rw[H]at p4;rw[J,E,I,H];have X:wrap64 (a*c)=N:=by rw[J]; unfold wrap64; omega
 have Z:wrap64 (b*d)=x2:=by rw[E]; unfold wrap64; omega
 have w3:wrap64 (b*c)=x3:=by rw[I]; unfold wrap64; omega
 have Y:wrap64 (a*d)=M:=by rw[H]; unfold wrap64; omega
 obtain⟨p11,p12⟩:=p1;obtain⟨p21,p22⟩:=p2;obtain⟨p31,p32⟩:=p3;obtain⟨p41,p42⟩:=p4;clear h k J E I H
 go_enter Tryz.func178,Tryz.ntmps178
 go_wp2
 go_returns
 exact⟨rfl,zh⟩
theorem WV (a b:Int) (w:Ee) (h:sm a b):Ed Ec 179 #[Ej #[Ey Ew a,Ey Ew b]] w fun e J=>e = Eh (Ey Ew (a*a+b*b))/\zf w J:=by
 obtain⟨p1,p2,p3,p4⟩:=jJ h h;obtain⟨I,H⟩:∃x,a*a=x:=⟨_,rfl⟩;obtain⟨x2,E⟩:∃x,b*b=x:=⟨_,rfl⟩;rw[H]at p1;rw[E]at p2;rw[H,E];have M:wrap64 (a*a)=I:=by rw[H]; unfold wrap64; omega
 have N:wrap64 (b*b)=x2:=by rw[E]; unfold wrap64; omega
 obtain⟨p11,p12⟩:=p1;obtain⟨p21,p22⟩:=p2;clear h H E p3 p4
 go_enter Tryz.func179,Tryz.ntmps179
 go_wp2
 go_returns
 exact⟨rfl,zh⟩
end
section
open Go.RowKit
variable {x y:Int}
structure gp (w:Ee) (v:Ef) (l:List (Int×Int)) (k0 k1 k2 k3:Nat) (p0 p1 p2 p3:Int×Int):Prop where
 pts:bP w v l
 lt:k0<l.length/\k1<l.length/\k2<l.length/\k3<l.length
 eq:l.getD k0 (0,0)=p0/\l.getD k1 (0,0)=p1/\l.getD k2 (0,0)=p2/\l.getD k3 (0,0)=p3
def kK (x y:Int):Prop:= -1048576<=x/\x<=1048576/\-1048576<=y/\y<=1048576
theorem xR {z u:Int} (h:kK x y) (k:kK z u):sm (x-z) (y-u):=by unfold kK at *; unfold sm; omega
theorem kV (h:kK x y):sm x y:=by unfold kK at *; unfold sm; omega
theorem U0 {v:Ef} {l:List (Int×Int)} (k0 k1 k2 k3:Nat) (x0 y0 x1 y1 x2 y2 x3 y3:Int) (w:Ee) (h:gp w v l k0 k1 k2 k3 (x0,y0) (x1,y1) (x2,y2) (x3,y3)) (p0:kK x0 y0) (p1:kK x1 y1) (p2:kK x2 y2) (p3:kK x3 y3) :
  Ed Ec 145 #[v,Ej #[Ey Ew k0,Ey Ew k1,Ey Ew k2,Ey Ew k3]] w fun e w'=>e = Eh (Ej #[Ey Ew k0,Ey Ew k1,Ey Ew k2,Ey Ew k3,
   Ey Ew (j5 (x1-x0) (y1-y0) (x2-x0) (y2-y0)),Ey Ew (kl (x1-x0) (y1-y0) (x2-x0) (y2-y0)),Ey Ew (j5 (x1-x0) (y1-y0) (x3-x0) (y3-y0)),Ey Ew (kl (x1-x0) (y1-y0) (x3-x0) (y3-y0)),Ey Ew (kh (x1-x0) (y1-y0))])/\zf w w':=by
 obtain⟨hp,⟨h0,h1,h2,h3⟩,e0,e1,e2,e3⟩:=h;obtain⟨ao,cap,rfl⟩:=hp.ak;obtain⟨-,hc,hm⟩:=hp.cells;obtain⟨b,o,rfl,E,aY⟩:=hm D5;have bh:=(aY k0 h0).1;have cg:=(aY k0 h0).2;have ce:=(aY k1 h1).1;have bi:=(aY k1 h1).2;have bg:=(aY k2 h2).1;have bt:=(aY k2 h2).2;have br:=(aY k3 h3).1;have bl:=(aY k3 h3).2;rw[e0]at bh cg;rw[e1]at ce bi;rw[e2]at bg bt;rw[e3]at br bl;dsimp only at bh cg ce bi bg bt br bl;obtain⟨n,hn⟩:∃n,l.length=n:=⟨_,rfl⟩;rw[hn]at hc h0 h1 h2 h3|-;clear hp hm aY e0 e1 e2 e3 hn;have m1:=fun w'=>Ke x1 y1 x0 y0 w' (kV p1) (kV p0);have m2:=fun w'=>Ke x2 y2 x0 y0 w' (kV p2) (kV p0);have m3:=fun w'=>Ke x3 y3 x0 y0 w' (kV p3) (kV p0);have s1:=xR p1 p0;have s2:=xR p2 p0;have s3:=xR p3 p0;obtain⟨ux,g9⟩:∃z,x1-x0=z:=⟨_,rfl⟩;obtain⟨uy,gn⟩:∃z,y1-y0=z:=⟨_,rfl⟩;obtain⟨ax,gE⟩:∃z,x2-x0=z:=⟨_,rfl⟩;obtain⟨ay,fl⟩:∃z,y2-y0=z:=⟨_,rfl⟩;obtain⟨bx,f7⟩:∃z,x3-x0=z:=⟨_,rfl⟩;obtain⟨cN,f8⟩:∃z,y3-y0=z:=⟨_,rfl⟩;rw[g9,gn]at m1 s1;rw[gE,fl]at m2 s2;rw[f7,f8]at m3 s3;rw[g9,gn,gE,fl,f7,f8];have j2:∀w',Ed Ec 178 #[Ej #[Ey Ew ax,Ey Ew ay],Ej #[Ey Ew ux,Ey Ew uy]] w' fun e w2=>e = Eh (Ej #[Ey Ew (j5 ux uy ax ay),Ey Ew (kl ux uy ax ay)])/\zf w' w2:=fun w'=>GF ax ay ux uy w' s2 s1;have j3:∀w',Ed Ec 178 #[Ej #[Ey Ew bx,Ey Ew cN],Ej #[Ey Ew ux,Ey Ew uy]] w' fun e w2=>e = Eh (Ej #[Ey Ew (j5 ux uy bx cN),Ey Ew (kl ux uy bx cN)])/\zf w' w2:=fun w'=>GF bx cN ux uy w' s3 s1;have sq:∀w',Ed Ec 179 #[Ej #[Ey Ew ux,Ey Ew uy]] w' fun e w2=>e = Eh (Ey Ew (kh ux uy))/\zf w' w2:=fun w'=>WV ux uy w' s1;obtain⟨A1,fe⟩:∃z,j5 ux uy ax ay=z:=⟨_,rfl⟩;obtain⟨A2,gA⟩:∃z,kl ux uy ax ay=z:=⟨_,rfl⟩;obtain⟨B1,fd⟩:∃z,j5 ux uy bx cN=z:=⟨_,rfl⟩;obtain⟨B2,eM⟩:∃z,kl ux uy bx cN=z:=⟨_,rfl⟩;obtain⟨N_,hN⟩:∃z,kh ux uy=z:=⟨_,rfl⟩;rw[fe,gA]at j2;rw[fd,eM]at j3;rw[hN]at sq;rw[fe,gA,fd,eM,hN];clear g9 gn gE fl f7 f8 s1 s2 s3 fe gA fd eM hN p0 p1 p2 p3;have ik:∀w':Ee,(Instr.index 80 (Ej #[Ey Ew (k0:Int),Ey Ew (k1:Int),Ey Ew (k2:Int),Ey Ew (k3:Int)]) (Ey Ew 0)).run Ec w' = .ok (Ey Ew (k0:Int)) w':=fun w'=>by kernel_rfl
 have iC:∀w':Ee,(Instr.index 80 (Ej #[Ey Ew (k0:Int),Ey Ew (k1:Int),Ey Ew (k2:Int),Ey Ew (k3:Int)]) (Ey Ew 1)).run Ec w' = .ok (Ey Ew (k1:Int)) w':=fun w'=>by kernel_rfl
 have iq:∀w':Ee,(Instr.index 80 (Ej #[Ey Ew (k0:Int),Ey Ew (k1:Int),Ey Ew (k2:Int),Ey Ew (k3:Int)]) (Ey Ew 2)).run Ec w' = .ok (Ey Ew (k2:Int)) w':=fun w'=>by kernel_rfl
 have iz:∀w':Ee,(Instr.index 80 (Ej #[Ey Ew (k0:Int),Ey Ew (k1:Int),Ey Ew (k2:Int),Ey Ew (k3:Int)]) (Ey Ew 3)).run Ec w' = .ok (Ey Ew (k3:Int)) w':=fun w'=>by kernel_rfl
 go_enter Tryz.func145,Tryz.ntmps145
 go_wp2_with fail
 refine wp_loop_rounds 5 ?_;rw[rounds_succ]
 go_upto_region 5 with fail
 refine aj.fh (fun N0 D v W=>Below w.heap.size w W/\av w W/\N0<=W.heap.size/\ai W w.heap.size 80 #[Ey Ew k0,Ey Ew k1,Ey Ew k2,Ey Ew k3]/\ai W (w.heap.size+1) 160 Uk/\((D 13=false->ai W (w.heap.size+1+1) 218 #[Ey Ew 0,Ey Ew 0,Ey Ew 0,Ey Ew 0,Ey Ew 0,Ey Ew 0,Ey Ew 0,Ey Ew 0])/\(D 13=true->ai W (w.heap.size+1+1) 218 #[Ey Ew x0,Ey Ew y0,Ey Ew 0,Ey Ew 0,Ey Ew 0,Ey Ew 0,Ey Ew 0,Ey Ew 0]))) [13] [] [] [(14,[])] [] (fun N0 ah=>⟨fun v=> ?_,fun D v v' W hv Y=> ?_,fun be Q' b9 hQ=> ?_⟩)
 . exact⟨zh,zj,Nat.le_of_eq ah.out,zw,zw,⟨fun _=>zw,(fun h=>Bool.noConfusion h)⟩⟩
 . exact Y
 have eN:=ah.out
 try simp only[Es,World.size_setCell,World.size_drew,World.heap_drewN]at eN
 have dz:w.heap.size<N0:=by first | omega | (have h:=oa.lt; omega)
 have dP:w.heap.size+1<N0:=by first | omega | (have h:=or.lt; omega)
 have em:w.heap.size+1+1<N0:=by first | omega | (have h:=oz.lt; omega)
 have iw:w.heap.size<=N0:=by first | omega | (have h:=B.size; omega)
 clear ah eN
 repeat refine aj.aD _ ?_
 apply aj.RP rfl rfl rfl 21 rfl rfl
 .
  intro D v' M hc Y hf K hK;obtain⟨I,jk,jn,X,T,J⟩:=Y;have dc:M.cell? ⟨b,o+k0*2,none⟩=some (Ey Ew x0):=(I.cell (p:=⟨b,o+k0*2,none⟩) E).trans bh;have cx:M.cell? ⟨b,o+k0*2+1,none⟩=some (Ey Ew y0):=(I.cell (p:=⟨b,o+k0*2+1,none⟩) E).trans cg;have cy:M.cell? ⟨b,o+k1*2,none⟩=some (Ey Ew x1):=(I.cell (p:=⟨b,o+k1*2,none⟩) E).trans ce;have dk:M.cell? ⟨b,o+k1*2+1,none⟩=some (Ey Ew y1):=(I.cell (p:=⟨b,o+k1*2+1,none⟩) E).trans bi;have cU:M.cell? ⟨b,o+k2*2,none⟩=some (Ey Ew x2):=(I.cell (p:=⟨b,o+k2*2,none⟩) E).trans bg;have dl:M.cell? ⟨b,o+k2*2+1,none⟩=some (Ey Ew y2):=(I.cell (p:=⟨b,o+k2*2+1,none⟩) E).trans bt;have d9:M.cell? ⟨b,o+k3*2,none⟩=some (Ey Ew x3):=(I.cell (p:=⟨b,o+k3*2,none⟩) E).trans br;have dx:M.cell? ⟨b,o+k3*2+1,none⟩=some (Ey Ew y3):=(I.cell (p:=⟨b,o+k3*2+1,none⟩) E).trans bl;go_step;exact hK.out
 . rfl
 repeat refine aj.aD _ ?_
 apply aj.RP rfl rfl rfl 26 rfl rfl
 .
  intro D v' M hc Y hf K hK;obtain⟨I,jk,jn,X,T,J⟩:=Y;have dc:M.cell? ⟨b,o+k0*2,none⟩=some (Ey Ew x0):=(I.cell (p:=⟨b,o+k0*2,none⟩) E).trans bh;have cx:M.cell? ⟨b,o+k0*2+1,none⟩=some (Ey Ew y0):=(I.cell (p:=⟨b,o+k0*2+1,none⟩) E).trans cg;have cy:M.cell? ⟨b,o+k1*2,none⟩=some (Ey Ew x1):=(I.cell (p:=⟨b,o+k1*2,none⟩) E).trans ce;have dk:M.cell? ⟨b,o+k1*2+1,none⟩=some (Ey Ew y1):=(I.cell (p:=⟨b,o+k1*2+1,none⟩) E).trans bi;have cU:M.cell? ⟨b,o+k2*2,none⟩=some (Ey Ew x2):=(I.cell (p:=⟨b,o+k2*2,none⟩) E).trans bg;have dl:M.cell? ⟨b,o+k2*2+1,none⟩=some (Ey Ew y2):=(I.cell (p:=⟨b,o+k2*2+1,none⟩) E).trans bt;have d9:M.cell? ⟨b,o+k3*2,none⟩=some (Ey Ew x3):=(I.cell (p:=⟨b,o+k3*2,none⟩) E).trans br;have dx:M.cell? ⟨b,o+k3*2+1,none⟩=some (Ey Ew y3):=(I.cell (p:=⟨b,o+k3*2+1,none⟩) E).trans bl;go_step;exact hK.out
 . rfl
 repeat refine aj.aD _ ?_
 refine aj.dL (fun D v' M hc Y hf K hK=> ?_) (fun _ _=>aj.aB (b:=⟨_,_⟩) rfl ?_)
 .
  obtain⟨I,jk,jn,X,T,J⟩:=Y;have E:=J.1 hc.1;have e2:w.heap.size<=w.heap.size+1+1:=D5
  have ff:=E.fr;obtain⟨co,cn⟩:=E.r1;go_step;exact hK.out Em _ (cD.k E) ⟨(cD.b I),jk.trans (cD.k E),cD.n jn,(cD.f X),(cD.f T),⟨fun h=>Bool.noConfusion h,fun _=>(ai.st (i:=1) (ai.st (i:=0) E))⟩⟩ trivial trivial
 refine aj.aF (fun Dn v' w1 hd Y hf=> ?_);obtain⟨B,jk,jn,oa,or,J⟩:=Y;have oz:=J.2 (hd 13 (Eb rfl));clear J;clear hd hf jk;refine hQ _ _ ?_;clear hQ b9 Q' be;go_wp2_with fail
 rw[rounds_succ];have hE:w.heap.size+1+1<w1.heap.size:=oz.lt;have im:=B.size
 go_upto_region 5 with fail
 refine aj.fh (fun N0 D v W=>Below w.heap.size w W/\av w1 W/\N0<=W.heap.size/\ai W w.heap.size 80 #[Ey Ew k0,Ey Ew k1,Ey Ew k2,Ey Ew k3]/\ai W (w.heap.size+1) 160 Uk/\((D 13=false->ai W (w.heap.size+1+1) 218 #[Ey Ew x0,Ey Ew y0,Ey Ew 0,Ey Ew 0,Ey Ew 0,Ey Ew 0,Ey Ew 0,Ey Ew 0])/\(D 13=true->ai W (w.heap.size+1+1) 218 #[Ey Ew x0,Ey Ew y0,Ey Ew x1,Ey Ew y1,Ey Ew 0,Ey Ew 0,Ey Ew 0,Ey Ew 0]))) [13] [] [] [(14,[])] [] (fun N0 ah=>⟨fun v=> ?_,fun D v v' W hv Y=> ?_,fun be Q' b9 hQ=> ?_⟩)
 . exact⟨zh,zj,Nat.le_of_eq ah.out,zw,zw,⟨fun _=>zw,(fun h=>Bool.noConfusion h)⟩⟩
 . exact Y
 have eN:=ah.out
 try simp only[Es,World.size_setCell,World.size_drew,World.heap_drewN]at eN
 have dz:w.heap.size<N0:=by first | omega | (have h:=oa.lt; omega)
 have dP:w.heap.size+1<N0:=by first | omega | (have h:=or.lt; omega)
 have em:w.heap.size+1+1<N0:=by first | omega | (have h:=oz.lt; omega)
 have iw:w.heap.size<=N0:=by first | omega | (have h:=B.size; omega)
 clear ah eN
 repeat refine aj.aD _ ?_
 apply aj.RP rfl rfl rfl 21 rfl rfl
 .
  intro D v' M hc Y hf K hK;obtain⟨I,jk,jn,X,T,J⟩:=Y;have dc:M.cell? ⟨b,o+k0*2,none⟩=some (Ey Ew x0):=(I.cell (p:=⟨b,o+k0*2,none⟩) E).trans bh;have cx:M.cell? ⟨b,o+k0*2+1,none⟩=some (Ey Ew y0):=(I.cell (p:=⟨b,o+k0*2+1,none⟩) E).trans cg;have cy:M.cell? ⟨b,o+k1*2,none⟩=some (Ey Ew x1):=(I.cell (p:=⟨b,o+k1*2,none⟩) E).trans ce;have dk:M.cell? ⟨b,o+k1*2+1,none⟩=some (Ey Ew y1):=(I.cell (p:=⟨b,o+k1*2+1,none⟩) E).trans bi;have cU:M.cell? ⟨b,o+k2*2,none⟩=some (Ey Ew x2):=(I.cell (p:=⟨b,o+k2*2,none⟩) E).trans bg;have dl:M.cell? ⟨b,o+k2*2+1,none⟩=some (Ey Ew y2):=(I.cell (p:=⟨b,o+k2*2+1,none⟩) E).trans bt;have d9:M.cell? ⟨b,o+k3*2,none⟩=some (Ey Ew x3):=(I.cell (p:=⟨b,o+k3*2,none⟩) E).trans br;have dx:M.cell? ⟨b,o+k3*2+1,none⟩=some (Ey Ew y3):=(I.cell (p:=⟨b,o+k3*2+1,none⟩) E).trans bl;go_step;exact hK.out
 . rfl
 repeat refine aj.aD _ ?_
 apply aj.RP rfl rfl rfl 26 rfl rfl
 .
  intro D v' M hc Y hf K hK;obtain⟨I,jk,jn,X,T,J⟩:=Y;have dc:M.cell? ⟨b,o+k0*2,none⟩=some (Ey Ew x0):=(I.cell (p:=⟨b,o+k0*2,none⟩) E).trans bh;have cx:M.cell? ⟨b,o+k0*2+1,none⟩=some (Ey Ew y0):=(I.cell (p:=⟨b,o+k0*2+1,none⟩) E).trans cg;have cy:M.cell? ⟨b,o+k1*2,none⟩=some (Ey Ew x1):=(I.cell (p:=⟨b,o+k1*2,none⟩) E).trans ce;have dk:M.cell? ⟨b,o+k1*2+1,none⟩=some (Ey Ew y1):=(I.cell (p:=⟨b,o+k1*2+1,none⟩) E).trans bi;have cU:M.cell? ⟨b,o+k2*2,none⟩=some (Ey Ew x2):=(I.cell (p:=⟨b,o+k2*2,none⟩) E).trans bg;have dl:M.cell? ⟨b,o+k2*2+1,none⟩=some (Ey Ew y2):=(I.cell (p:=⟨b,o+k2*2+1,none⟩) E).trans bt;have d9:M.cell? ⟨b,o+k3*2,none⟩=some (Ey Ew x3):=(I.cell (p:=⟨b,o+k3*2,none⟩) E).trans br;have dx:M.cell? ⟨b,o+k3*2+1,none⟩=some (Ey Ew y3):=(I.cell (p:=⟨b,o+k3*2+1,none⟩) E).trans bl;go_step;exact hK.out
 . rfl
 repeat refine aj.aD _ ?_
 refine aj.dL (fun D v' M hc Y hf K hK=> ?_) (fun _ _=>aj.aB (b:=⟨_,_⟩) rfl ?_)
 .
  obtain⟨I,jk,jn,X,T,J⟩:=Y;have E:=J.1 hc.1;have e2:w.heap.size<=w.heap.size+1+1:=D5
  have ff:=E.fr;have co:=E.q2;have cn:=E.q3;go_step;exact hK.out Em _ (cD.k E) ⟨(cD.b I),jk.trans (cD.k E),cD.n jn,(cD.f X),(cD.f T),⟨fun h=>Bool.noConfusion h,fun _=>(ai.st (i:=3) (ai.st (i:=2) E))⟩⟩ trivial trivial
 refine aj.aF (fun Dn v' w2 hd Y hf=> ?_);obtain⟨B,jk,jn,oa,or,J⟩:=Y;have oz:=J.2 (hd 13 (Eb rfl));clear J;clear hd hf jk;refine hQ _ _ ?_;clear hQ b9 Q' be;go_wp2_with fail
 rw[rounds_succ];have i6:w.heap.size+1+1<w2.heap.size:=oz.lt;have ip:=B.size
 go_upto_region 5 with fail
 refine aj.fh (fun N0 D v W=>Below w.heap.size w W/\av w2 W/\N0<=W.heap.size/\ai W w.heap.size 80 #[Ey Ew k0,Ey Ew k1,Ey Ew k2,Ey Ew k3]/\ai W (w.heap.size+1) 160 Uk/\((D 13=false->ai W (w.heap.size+1+1) 218 #[Ey Ew x0,Ey Ew y0,Ey Ew x1,Ey Ew y1,Ey Ew 0,Ey Ew 0,Ey Ew 0,Ey Ew 0])/\(D 13=true->ai W (w.heap.size+1+1) 218 #[Ey Ew x0,Ey Ew y0,Ey Ew x1,Ey Ew y1,Ey Ew x2,Ey Ew y2,Ey Ew 0,Ey Ew 0]))) [13] [] [] [(14,[])] [] (fun N0 ah=>⟨fun v=> ?_,fun D v v' W hv Y=> ?_,fun be Q' b9 hQ=> ?_⟩)
 . exact⟨zh,zj,Nat.le_of_eq ah.out,zw,zw,⟨fun _=>zw,(fun h=>Bool.noConfusion h)⟩⟩
 . exact Y
 have eN:=ah.out
 try simp only[Es,World.size_setCell,World.size_drew,World.heap_drewN]at eN
 have dz:w.heap.size<N0:=by first | omega | (have h:=oa.lt; omega)
 have dP:w.heap.size+1<N0:=by first | omega | (have h:=or.lt; omega)
 have em:w.heap.size+1+1<N0:=by first | omega | (have h:=oz.lt; omega)
 have iw:w.heap.size<=N0:=by first | omega | (have h:=B.size; omega)
 clear ah eN
 repeat refine aj.aD _ ?_
 apply aj.RP rfl rfl rfl 21 rfl rfl
 .
  intro D v' M hc Y hf K hK;obtain⟨I,jk,jn,X,T,J⟩:=Y;have dc:M.cell? ⟨b,o+k0*2,none⟩=some (Ey Ew x0):=(I.cell (p:=⟨b,o+k0*2,none⟩) E).trans bh;have cx:M.cell? ⟨b,o+k0*2+1,none⟩=some (Ey Ew y0):=(I.cell (p:=⟨b,o+k0*2+1,none⟩) E).trans cg;have cy:M.cell? ⟨b,o+k1*2,none⟩=some (Ey Ew x1):=(I.cell (p:=⟨b,o+k1*2,none⟩) E).trans ce;have dk:M.cell? ⟨b,o+k1*2+1,none⟩=some (Ey Ew y1):=(I.cell (p:=⟨b,o+k1*2+1,none⟩) E).trans bi;have cU:M.cell? ⟨b,o+k2*2,none⟩=some (Ey Ew x2):=(I.cell (p:=⟨b,o+k2*2,none⟩) E).trans bg;have dl:M.cell? ⟨b,o+k2*2+1,none⟩=some (Ey Ew y2):=(I.cell (p:=⟨b,o+k2*2+1,none⟩) E).trans bt;have d9:M.cell? ⟨b,o+k3*2,none⟩=some (Ey Ew x3):=(I.cell (p:=⟨b,o+k3*2,none⟩) E).trans br;have dx:M.cell? ⟨b,o+k3*2+1,none⟩=some (Ey Ew y3):=(I.cell (p:=⟨b,o+k3*2+1,none⟩) E).trans bl;go_step;exact hK.out
 . rfl
 repeat refine aj.aD _ ?_
 apply aj.RP rfl rfl rfl 26 rfl rfl
 .
  intro D v' M hc Y hf K hK;obtain⟨I,jk,jn,X,T,J⟩:=Y;have dc:M.cell? ⟨b,o+k0*2,none⟩=some (Ey Ew x0):=(I.cell (p:=⟨b,o+k0*2,none⟩) E).trans bh;have cx:M.cell? ⟨b,o+k0*2+1,none⟩=some (Ey Ew y0):=(I.cell (p:=⟨b,o+k0*2+1,none⟩) E).trans cg;have cy:M.cell? ⟨b,o+k1*2,none⟩=some (Ey Ew x1):=(I.cell (p:=⟨b,o+k1*2,none⟩) E).trans ce;have dk:M.cell? ⟨b,o+k1*2+1,none⟩=some (Ey Ew y1):=(I.cell (p:=⟨b,o+k1*2+1,none⟩) E).trans bi;have cU:M.cell? ⟨b,o+k2*2,none⟩=some (Ey Ew x2):=(I.cell (p:=⟨b,o+k2*2,none⟩) E).trans bg;have dl:M.cell? ⟨b,o+k2*2+1,none⟩=some (Ey Ew y2):=(I.cell (p:=⟨b,o+k2*2+1,none⟩) E).trans bt;have d9:M.cell? ⟨b,o+k3*2,none⟩=some (Ey Ew x3):=(I.cell (p:=⟨b,o+k3*2,none⟩) E).trans br;have dx:M.cell? ⟨b,o+k3*2+1,none⟩=some (Ey Ew y3):=(I.cell (p:=⟨b,o+k3*2+1,none⟩) E).trans bl;go_step;exact hK.out
 . rfl
 repeat refine aj.aD _ ?_
 refine aj.dL (fun D v' M hc Y hf K hK=> ?_) (fun _ _=>aj.aB (b:=⟨_,_⟩) rfl ?_)
 .
  obtain⟨I,jk,jn,X,T,J⟩:=Y;have E:=J.1 hc.1;have e2:w.heap.size<=w.heap.size+1+1:=D5
  have ff:=E.fr;have co:=E.q4;have cn:=E.q5;go_step;exact hK.out Em _ (cD.k E) ⟨(cD.b I),jk.trans (cD.k E),cD.n jn,(cD.f X),(cD.f T),⟨fun h=>Bool.noConfusion h,fun _=>(ai.st (i:=5) (ai.st (i:=4) E))⟩⟩ trivial trivial
 refine aj.aF (fun Dn v' w3 hd Y hf=> ?_);obtain⟨B,jk,jn,oa,or,J⟩:=Y;have oz:=J.2 (hd 13 (Eb rfl));clear J;clear hd hf jk;refine hQ _ _ ?_;clear hQ b9 Q' be;go_wp2_with fail
 rw[rounds_succ];have i5:w.heap.size+1+1<w3.heap.size:=oz.lt;have iD:=B.size
 go_upto_region 5 with fail
 refine aj.fh (fun N0 D v W=>Below w.heap.size w W/\av w3 W/\N0<=W.heap.size/\ai W w.heap.size 80 #[Ey Ew k0,Ey Ew k1,Ey Ew k2,Ey Ew k3]/\ai W (w.heap.size+1) 160 Uk/\((D 13=false->ai W (w.heap.size+1+1) 218 #[Ey Ew x0,Ey Ew y0,Ey Ew x1,Ey Ew y1,Ey Ew x2,Ey Ew y2,Ey Ew 0,Ey Ew 0])/\(D 13=true->ai W (w.heap.size+1+1) 218 #[Ey Ew x0,Ey Ew y0,Ey Ew x1,Ey Ew y1,Ey Ew x2,Ey Ew y2,Ey Ew x3,Ey Ew y3]))) [13] [] [] [(14,[])] [] (fun N0 ah=>⟨fun v=> ?_,fun D v v' W hv Y=> ?_,fun be Q' b9 hQ=> ?_⟩)
 . exact⟨zh,zj,Nat.le_of_eq ah.out,zw,zw,⟨fun _=>zw,(fun h=>Bool.noConfusion h)⟩⟩
 . exact Y
 have eN:=ah.out
 try simp only[Es,World.size_setCell,World.size_drew,World.heap_drewN]at eN
 have dz:w.heap.size<N0:=by first | omega | (have h:=oa.lt; omega)
 have dP:w.heap.size+1<N0:=by first | omega | (have h:=or.lt; omega)
 have em:w.heap.size+1+1<N0:=by first | omega | (have h:=oz.lt; omega)
 have iw:w.heap.size<=N0:=by first | omega | (have h:=B.size; omega)
 clear ah eN
 repeat refine aj.aD _ ?_
 apply aj.RP rfl rfl rfl 21 rfl rfl
 .
  intro D v' M hc Y hf K hK;obtain⟨I,jk,jn,X,T,J⟩:=Y;have dc:M.cell? ⟨b,o+k0*2,none⟩=some (Ey Ew x0):=(I.cell (p:=⟨b,o+k0*2,none⟩) E).trans bh;have cx:M.cell? ⟨b,o+k0*2+1,none⟩=some (Ey Ew y0):=(I.cell (p:=⟨b,o+k0*2+1,none⟩) E).trans cg;have cy:M.cell? ⟨b,o+k1*2,none⟩=some (Ey Ew x1):=(I.cell (p:=⟨b,o+k1*2,none⟩) E).trans ce;have dk:M.cell? ⟨b,o+k1*2+1,none⟩=some (Ey Ew y1):=(I.cell (p:=⟨b,o+k1*2+1,none⟩) E).trans bi;have cU:M.cell? ⟨b,o+k2*2,none⟩=some (Ey Ew x2):=(I.cell (p:=⟨b,o+k2*2,none⟩) E).trans bg;have dl:M.cell? ⟨b,o+k2*2+1,none⟩=some (Ey Ew y2):=(I.cell (p:=⟨b,o+k2*2+1,none⟩) E).trans bt;have d9:M.cell? ⟨b,o+k3*2,none⟩=some (Ey Ew x3):=(I.cell (p:=⟨b,o+k3*2,none⟩) E).trans br;have dx:M.cell? ⟨b,o+k3*2+1,none⟩=some (Ey Ew y3):=(I.cell (p:=⟨b,o+k3*2+1,none⟩) E).trans bl;go_step;exact hK.out
 . rfl
 repeat refine aj.aD _ ?_
 apply aj.RP rfl rfl rfl 26 rfl rfl
 .
  intro D v' M hc Y hf K hK;obtain⟨I,jk,jn,X,T,J⟩:=Y;have dc:M.cell? ⟨b,o+k0*2,none⟩=some (Ey Ew x0):=(I.cell (p:=⟨b,o+k0*2,none⟩) E).trans bh;have cx:M.cell? ⟨b,o+k0*2+1,none⟩=some (Ey Ew y0):=(I.cell (p:=⟨b,o+k0*2+1,none⟩) E).trans cg;have cy:M.cell? ⟨b,o+k1*2,none⟩=some (Ey Ew x1):=(I.cell (p:=⟨b,o+k1*2,none⟩) E).trans ce;have dk:M.cell? ⟨b,o+k1*2+1,none⟩=some (Ey Ew y1):=(I.cell (p:=⟨b,o+k1*2+1,none⟩) E).trans bi;have cU:M.cell? ⟨b,o+k2*2,none⟩=some (Ey Ew x2):=(I.cell (p:=⟨b,o+k2*2,none⟩) E).trans bg;have dl:M.cell? ⟨b,o+k2*2+1,none⟩=some (Ey Ew y2):=(I.cell (p:=⟨b,o+k2*2+1,none⟩) E).trans bt;have d9:M.cell? ⟨b,o+k3*2,none⟩=some (Ey Ew x3):=(I.cell (p:=⟨b,o+k3*2,none⟩) E).trans br;have dx:M.cell? ⟨b,o+k3*2+1,none⟩=some (Ey Ew y3):=(I.cell (p:=⟨b,o+k3*2+1,none⟩) E).trans bl;go_step;exact hK.out
 . rfl
 repeat refine aj.aD _ ?_
 refine aj.dL (fun D v' M hc Y hf K hK=> ?_) (fun _ _=>aj.aB (b:=⟨_,_⟩) rfl ?_)
 .
  obtain⟨I,jk,jn,X,T,J⟩:=Y;have E:=J.1 hc.1;have e2:w.heap.size<=w.heap.size+1+1:=D5
  have ff:=E.fr;have co:=E.q6;have cn:=E.q7;go_step;exact hK.out Em _ (cD.k E) ⟨(cD.b I),jk.trans (cD.k E),cD.n jn,(cD.f X),(cD.f T),⟨fun h=>Bool.noConfusion h,fun _=>(ai.st (i:=7) (ai.st (i:=6) E))⟩⟩ trivial trivial
 refine aj.aF (fun Dn v' w4 hd Y hf=> ?_);obtain⟨B,jk,jn,oa,or,J⟩:=Y;have oz:=J.2 (hd 13 (Eb rfl));clear J;clear hd hf jk;refine hQ _ _ ?_;clear hQ b9 Q' be;have la:=oa.lt;have lr:=or.lt;obtain⟨gd,eW,ft,gD,gC,f9,gt,ey⟩:=oz.r7;have lz:=oz.lt;go_wp2_with fail
 rw[rounds_succ];go_wp2_with fail
 refine(m1 _).mono ?_;rintro e w5 ⟨rfl,st⟩;have sk:=bA w4 st;replace B:=bS B sk;replace oa:=oa.ae sk;replace or:=or.ae sk;replace oz:=oz.ae sk;clear st sk la lr gd eW ft gD gC f9 gt ey lz;have la:=oa.lt;have lr:=or.lt;obtain⟨gd,eW,ft,gD,gC,f9,gt,ey⟩:=oz.r7;have lz:=oz.lt;have h9:w.heap.size+1+1<w5.heap.size:=oz.lt;have iu:=B.size
 go_upto_region 8 with fail
 refine aj.fh (fun N0 D v W=>Below w.heap.size w W/\av w5 W/\N0<=W.heap.size/\ai W w.heap.size 80 #[Ey Ew k0,Ey Ew k1,Ey Ew k2,Ey Ew k3]/\ai W (w.heap.size+1) 160 Uk/\ai W (w.heap.size+1+1) 218 #[Ey Ew x0,Ey Ew y0,Ey Ew x1,Ey Ew y1,Ey Ew x2,Ey Ew y2,Ey Ew x3,Ey Ew y3]/\ai W w5.heap.size 217 #[Ey Ew ux,Ey Ew uy]/\(D 14=true->∃g:Nat,v 14 = Ek (some ⟨g,0,none⟩)/\N0<=g/\g<W.heap.size/\(D 16=false->ai W g 217 #[Ey Ew 0,Ey Ew 0])/\(D 16=true->D 6=true/\∃cs,v 6 = Ej cs/\ai W g 217 cs))/\(D 15=true->∃g:Nat,v 15 = Ek (some ⟨g,0,none⟩)/\N0<=g/\g<W.heap.size/\(D 17=false->ai W g 217 #[Ey Ew 0,Ey Ew 0])/\(D 17=true->D 13=true/\∃cs,v 13 = Ej cs/\ai W g 217 cs))/\(D 14=true->D 15=true->v 14≠v 15)) [4,6,11,13,14,15,16,17] [(4,fun z_=>z_ = Ej #[Ey Ew ax,Ey Ew ay]),(6,fun z_=>z_ = Ej #[Ey Ew A1,Ey Ew A2]),(11,fun z_=>z_ = Ej #[Ey Ew bx,Ey Ew cN]),(13,fun z_=>z_ = Ej #[Ey Ew B1,Ey Ew B2]),(14,xI),(15,xI)] [] [(6,[(4,some 39)]),(13,[(11,some 46)]),(16,[(6,some 41),(14,some 9)]),(17,[(13,some 48),(15,some 10)]),(18,[(4,some 39),(6,some 41),(11,some 46),(13,some 48),(14,some 9),(15,some 10)])] [(14,[16]),(6,[16]),(15,[17]),(13,[17])] (fun N0 ah=>⟨fun v=> ?_,fun D v v' W hv Y=> ?_,fun be Q' b9 hQ=> ?_⟩)
 . exact⟨zh,zj,Nat.le_of_eq ah.out,zw,zw,zw,zw,(fun h=>Bool.noConfusion h),(fun h=>Bool.noConfusion h),(fun h=>Bool.noConfusion h)⟩
 .
  obtain⟨I,jk,jn,X,T,J,aX,a9,Z,H⟩:=Y;exact⟨I,jk,jn,X,T,J,aX,fun h=>by obtain⟨g,e1,e2,e3,e4,e5⟩:=a9 h; exact⟨g,(hv 14 h)▸e1,e2,e3,e4,fun h=>by obtain⟨d,cs,e,E⟩:=e5 h; exact⟨d,cs,(hv 6 d)▸e,E⟩⟩,fun h=>by obtain⟨g,e1,e2,e3,e4,e5⟩:=Z h; exact⟨g,(hv 15 h)▸e1,e2,e3,e4,fun h=>by obtain⟨d,cs,e,E⟩:=e5 h; exact⟨d,cs,(hv 13 d)▸e,E⟩⟩,fun h h'=>(hv 14 h)▸(hv 15 h')▸H h h'⟩
 have eN:=ah.out
 try simp only[Es,World.size_setCell,World.size_drew,World.heap_drewN]at eN
 have dz:w.heap.size<N0:=by first | omega | (have h:=oa.lt; omega)
 have dP:w.heap.size+1<N0:=by first | omega | (have h:=or.lt; omega)
 have em:w.heap.size+1+1<N0:=by first | omega | (have h:=oz.lt; omega)
 have gQ:w5.heap.size<N0:=by first | omega | (have h:=ou.lt; omega)
 have iw:w.heap.size<=N0:=by first | omega | (have h:=B.size; omega)
 clear la lr gd eW ft gD gC f9 gt ey lz;clear ah;refine aj.aD 35 ?_;refine aj.aO 36 (fun _ _ _ h=>h.2.2.2.2.2.1.r7) ?_;refine aj.aD 37 ?_;refine aj.aO 38 (fun _ _ _ h=>h.2.2.2.2.2.1.r7) ?_;refine aj.aC rfl (ZB rfl) rfl (fun D v' M hc Y hf K hK=> ?_) ?_
 .
  obtain⟨I,jk,jn,X,T,J,aX,a9,Z,H⟩:=Y;clear hf;go_step;refine(m2 M).mono ?_;rintro e W2 ⟨rfl,N⟩;exact hK.out _ W2 (av.ae N) ⟨X1 I N,jk.aJ N,KQ jn N,X.ae N,T.ae N,J.ae N,aX.ae N,fun h=>by obtain⟨g,e1,e2,e3,e4,e5⟩:=a9 h; exact⟨g,e1,e2,Nat.lt_of_lt_of_le e3 (N).size,fun h=>(e4 h).ae N,fun h=>by obtain⟨d,cs,e,E⟩:=e5 h; exact⟨d,cs,e,E.ae N⟩⟩,fun h=>by obtain⟨g,e1,e2,e3,e4,e5⟩:=Z h; exact⟨g,e1,e2,Nat.lt_of_lt_of_le e3 (N).size,fun h=>(e4 h).ae N,fun h=>by obtain⟨d,cs,e,E⟩:=e5 h; exact⟨d,cs,e,E.ae N⟩⟩,H⟩ trivial rfl
 rintro _ rfl;refine aj.dY rfl ?_;refine aj.aO 40 (fun _ _ _ h=>h.2.2.2.2.2.2.1.r1) ?_;refine aj.aC rfl (ZB rfl) rfl (fun D v' M hc Y hf K hK=> ?_) ?_
 .
  obtain⟨I,jk,jn,X,T,J,aX,a9,Z,H⟩:=Y;clear hf;go_step;refine(j2 M).mono ?_;rintro e W2 ⟨rfl,N⟩;exact hK.out _ W2 (av.ae N) ⟨X1 I N,jk.aJ N,KQ jn N,X.ae N,T.ae N,J.ae N,aX.ae N,fun h=>by obtain⟨g,e1,e2,e3,e4,e5⟩:=a9 h; exact⟨g,e1,e2,Nat.lt_of_lt_of_le e3 (N).size,fun h=>(e4 h).ae N,fun h=>Bool.noConfusion ((hc.2 16 D7).symm.trans h)⟩,fun h=>by obtain⟨g,e1,e2,e3,e4,e5⟩:=Z h; exact⟨g,e1,e2,Nat.lt_of_lt_of_le e3 (N).size,fun h=>(e4 h).ae N,fun h=>by obtain⟨d,cs,e,E⟩:=e5 h; exact⟨d,cs,e,E.ae N⟩⟩,H⟩ trivial rfl
 rintro _ rfl;refine aj.dY rfl ?_;refine aj.aD 42 ?_;refine aj.aO 43 (fun _ _ _ h=>h.2.2.2.2.2.1.r7) ?_;refine aj.aD 44 ?_;refine aj.aO 45 (fun _ _ _ h=>h.2.2.2.2.2.1.r7) ?_;refine aj.aC rfl (ZB rfl) rfl (fun D v' M hc Y hf K hK=> ?_) ?_
 .
  obtain⟨I,jk,jn,X,T,J,aX,a9,Z,H⟩:=Y;clear hf;go_step;refine(m3 M).mono ?_;rintro e W2 ⟨rfl,N⟩;exact hK.out _ W2 (av.ae N) ⟨X1 I N,jk.aJ N,KQ jn N,X.ae N,T.ae N,J.ae N,aX.ae N,fun h=>by obtain⟨g,e1,e2,e3,e4,e5⟩:=a9 h; exact⟨g,e1,e2,Nat.lt_of_lt_of_le e3 (N).size,fun h=>(e4 h).ae N,fun h=>by obtain⟨d,cs,e,E⟩:=e5 h; exact⟨d,cs,e,E.ae N⟩⟩,fun h=>by obtain⟨g,e1,e2,e3,e4,e5⟩:=Z h; exact⟨g,e1,e2,Nat.lt_of_lt_of_le e3 (N).size,fun h=>(e4 h).ae N,fun h=>by obtain⟨d,cs,e,E⟩:=e5 h; exact⟨d,cs,e,E.ae N⟩⟩,H⟩ trivial rfl
 rintro _ rfl;refine aj.dY rfl ?_;refine aj.aO 47 (fun _ _ _ h=>h.2.2.2.2.2.2.1.r1) ?_;refine aj.aC rfl (ZB rfl) rfl (fun D v' M hc Y hf K hK=> ?_) ?_
 .
  obtain⟨I,jk,jn,X,T,J,aX,a9,Z,H⟩:=Y;clear hf;go_step;refine(j3 M).mono ?_;rintro e W2 ⟨rfl,N⟩;exact hK.out _ W2 (av.ae N) ⟨X1 I N,jk.aJ N,KQ jn N,X.ae N,T.ae N,J.ae N,aX.ae N,fun h=>by obtain⟨g,e1,e2,e3,e4,e5⟩:=a9 h; exact⟨g,e1,e2,Nat.lt_of_lt_of_le e3 (N).size,fun h=>(e4 h).ae N,fun h=>by obtain⟨d,cs,e,E⟩:=e5 h; exact⟨d,cs,e,E.ae N⟩⟩,fun h=>by obtain⟨g,e1,e2,e3,e4,e5⟩:=Z h; exact⟨g,e1,e2,Nat.lt_of_lt_of_le e3 (N).size,fun h=>(e4 h).ae N,fun h=>Bool.noConfusion ((hc.2 17 D7).symm.trans h)⟩,H⟩ trivial rfl
 rintro _ rfl;refine aj.dY rfl ?_;refine aj.aC rfl (ZB rfl) rfl (fun D v' M hc Y hf K hK=> ?_) ?_
 .
  obtain⟨I,jk,jn,X,T,J,aX,a9,Z,H⟩:=Y;go_step;have N:∀o:Obj,zf M (M.alloc o):=fun o=>(Below.refl _ _).alloc (Nat.le_refl _) o;exact hK.out _ _ (av.ae (N _)) ⟨X1 I (N _),jk.aJ (N _),KQ jn (N _),X.ae (N _),T.ae (N _),J.ae (N _),aX.ae (N _),fun _=>⟨M.heap.size,rfl,jn,by rw[Es]; omega,fun _=>ai.new _ _ _,fun h=>Bool.noConfusion ((hc.2 16 D7).symm.trans h)⟩,fun h=>by obtain⟨g,e1,e2,e3,e4,e5⟩:=Z h; exact⟨g,e1,e2,Nat.lt_of_lt_of_le e3 ((N _)).size,fun h=>(e4 h).ae (N _),fun h=>by obtain⟨d,cs,e,E⟩:=e5 h; exact⟨d,cs,e,E.ae (N _)⟩⟩,fun _ h'=>by obtain⟨g,e1,e2,e3,e4,e5⟩:=Z h'; exact fun e=>aj.du e3 (e.trans e1)⟩ trivial ⟨_,rfl⟩
 rintro _ ⟨p9,rfl⟩;refine aj.dY rfl ?_;refine aj.aC rfl (ZB rfl) rfl (fun D v' M hc Y hf K hK=> ?_) ?_
 .
  obtain⟨I,jk,jn,X,T,J,aX,a9,Z,H⟩:=Y;go_step;have N:∀o:Obj,zf M (M.alloc o):=fun o=>(Below.refl _ _).alloc (Nat.le_refl _) o;exact hK.out _ _ (av.ae (N _)) ⟨X1 I (N _),jk.aJ (N _),KQ jn (N _),X.ae (N _),T.ae (N _),J.ae (N _),aX.ae (N _),fun h=>by obtain⟨g,e1,e2,e3,e4,e5⟩:=a9 h; exact⟨g,e1,e2,Nat.lt_of_lt_of_le e3 ((N _)).size,fun h=>(e4 h).ae (N _),fun h=>by obtain⟨d,cs,e,E⟩:=e5 h; exact⟨d,cs,e,E.ae (N _)⟩⟩,fun _=>⟨M.heap.size,rfl,jn,by rw[Es]; omega,fun _=>ai.new _ _ _,fun h=>Bool.noConfusion ((hc.2 17 D7).symm.trans h)⟩,fun h _=>by obtain⟨g,e1,e2,e3,e4,e5⟩:=a9 h; exact fun e=>aj.du e3 (e.symm.trans e1)⟩ trivial ⟨_,rfl⟩
 rintro _ ⟨p10,rfl⟩;refine aj.dY rfl ?_;refine aj.dL (fun D v' M hc Y hf K hK=> ?_) (fun _ _=>aj.aB (b:=⟨_,_⟩) rfl ?_)
 .
  obtain⟨I,jk,jn,X,T,J,aX,a9,Z,H⟩:=Y;have f:=hf (14,some 9) (.tail _ (.head _)) rfl;have e6:v' 14 = Ek (some ⟨p9,0,none⟩):=f.2.1;obtain⟨g,e1,e2,e3,e4,e5⟩:=a9 f.1;obtain rfl:p9=g:=aj.bI (e6.symm.trans e1);have E:=e4 hc.1;clear e4 e5;have fc:=hf (6,some 41) (.head _) rfl;have ec:v' 6 = Ej #[Ey Ew A1,Ey Ew A2]:=fc.2.1;have ff:=E.fr;obtain⟨co,cn⟩:=E.r1;go_step;exact hK.out Em _ (cD.k E) ⟨(cD.b I),jk.trans (cD.k E),cD.n jn,(cD.f X),(cD.f T),(cD.f J),(cD.f aX),fun _=>⟨p9,e1,e2,by simpa using e3,fun h=>Bool.noConfusion h,fun _=>⟨fc.1,_,ec,(ai.st (i:=1) (ai.st (i:=0) E))⟩⟩,fun h=>by obtain⟨g,k1,k2,k3,k4,k5⟩:=Z h; have ci:g≠p9:=fun e=>(H f.1 h) (by rw[e6,k1,e]); exact⟨g,k1,k2,by simpa using k3,fun h=>((k4 h).aH ci).aH ci,fun h=>by obtain⟨d,cs,e,gz⟩:=k5 h; exact⟨d,cs,e,((gz).aH ci).aH ci⟩⟩,H⟩ trivial trivial
 refine aj.dL (fun D v' M hc Y hf K hK=> ?_) (fun _ _=>aj.aB (b:=⟨_,_⟩) rfl ?_)
 .
  obtain⟨I,jk,jn,X,T,J,aX,a9,Z,H⟩:=Y;have f:=hf (15,some 10) (.tail _ (.head _)) rfl;have e6:v' 15 = Ek (some ⟨p10,0,none⟩):=f.2.1;obtain⟨g,e1,e2,e3,e4,e5⟩:=Z f.1;obtain rfl:p10=g:=aj.bI (e6.symm.trans e1);have E:=e4 hc.1;clear e4 e5;have fc:=hf (13,some 48) (.head _) rfl;have ec:v' 13 = Ej #[Ey Ew B1,Ey Ew B2]:=fc.2.1;have ff:=E.fr;obtain⟨co,cn⟩:=E.r1;go_step;exact hK.out Em _ (cD.k E) ⟨(cD.b I),jk.trans (cD.k E),cD.n jn,(cD.f X),(cD.f T),(cD.f J),(cD.f aX),fun h=>by obtain⟨g,k1,k2,k3,k4,k5⟩:=a9 h; have ci:g≠p10:=fun e=>(H h f.1) (by rw[e6,k1,e]); exact⟨g,k1,k2,by simpa using k3,fun h=>((k4 h).aH ci).aH ci,fun h=>by obtain⟨d,cs,e,gz⟩:=k5 h; exact⟨d,cs,e,((gz).aH ci).aH ci⟩⟩,fun _=>⟨p10,e1,e2,by simpa using e3,fun h=>Bool.noConfusion h,fun _=>⟨fc.1,_,ec,(ai.st (i:=1) (ai.st (i:=0) E))⟩⟩,H⟩ trivial trivial
 refine aj.aF (fun Dn v' w6 hd Y hf=> ?_);obtain⟨B,jk,jn,oa,or,oz,ou,a9,Z,H⟩:=Y;have f:=hf (14,some 9) (.tail _ (.tail _ (.tail _ (.tail _ (.head _))))) rfl;have ed:v' 14 = Ek (some ⟨p9,0,none⟩):=f.2.1;obtain⟨g,ek,zc,-,-,dy⟩:=a9 f.1;obtain rfl:p9=g:=aj.bI (ed.symm.trans ek);obtain⟨-,gB,ee,oc⟩:=dy (hd 16 (Eb rfl));have ef:v' 6 = Ej #[Ey Ew A1,Ey Ew A2]:=(hf (6,some 41) (.tail _ (.head _)) rfl).2.1;obtain rfl:#[Ey Ew A1,Ey Ew A2]=gB:=by have:=ef.symm.trans ee; simpa only[Value.tuple.injEq,Value.agg.injEq,Array.mk.injEq,List.cons.injEq,and_true,true_and]using this
 clear ee ef f dy ek ed;have f:=hf (15,some 10) (.tail _ (.tail _ (.tail _ (.tail _ (.tail _ (.head _)))))) rfl;have ed:v' 15 = Ek (some ⟨p10,0,none⟩):=f.2.1;obtain⟨g,ek,zd,-,-,dy⟩:=Z f.1;obtain rfl:p10=g:=aj.bI (ed.symm.trans ek);obtain⟨-,gB,ee,od⟩:=dy (hd 17 (Eb rfl));have ef:v' 13 = Ej #[Ey Ew B1,Ey Ew B2]:=(hf (13,some 48) (.tail _ (.tail _ (.tail _ (.head _)))) rfl).2.1;obtain rfl:#[Ey Ew B1,Ey Ew B2]=gB:=by have:=ef.symm.trans ee; simpa only[Value.tuple.injEq,Value.agg.injEq,Array.mk.injEq,List.cons.injEq,and_true,true_and]using this
 clear ee ef f dy ek ed;have gF:p9≠p10:=fun e=>H (hf (14,some 9) (.tail _ (.tail _ (.tail _ (.tail _ (.head _))))) rfl).1 (hf (15,some 10) (.tail _ (.tail _ (.tail _ (.tail _ (.tail _ (.head _)))))) rfl).1 (by have h1:=(hf (14,some 9) (.tail _ (.tail _ (.tail _ (.tail _ (.head _))))) rfl).2.1; have h2:=(hf (15,some 10) (.tail _ (.tail _ (.tail _ (.tail _ (.tail _ (.head _)))))) rfl).2.1; rw[h1,h2]; show Value.pointer _ = Ek _; rw[e]);clear hd hf jk H;refine hQ _ _ ?_;clear hQ b9 Q' be;obtain⟨gZ,gK,gP,gG⟩:=oa.r3;have la:=oa.lt;have lr:=or.lt;have lz:=oz.lt;obtain⟨gV,gX⟩:=ou.r1;have lu:=ou.lt;obtain⟨co,cn⟩:=oc.r1;have lc:=oc.lt;obtain⟨gH,gM⟩:=od.r1;have ld:=od.lt;have i7:p10<w6.heap.size:=od.lt;have iA:=B.size
 go_upto_region 9 with fail
 refine aj.fh (fun N0 D v W=>Below w.heap.size w W/\av w6 W/\N0<=W.heap.size/\ai W w.heap.size 80 #[Ey Ew k0,Ey Ew k1,Ey Ew k2,Ey Ew k3]/\((D 13=false->ai W (w.heap.size+1) 160 Uk)/\(D 13=true->ai W (w.heap.size+1) 160 #[Ey Ew k0,Ey Ew k1,Ey Ew k2,Ey Ew k3,Ey Ew A1,Ey Ew A2,Ey Ew B1,Ey Ew B2,Ey Ew N_]))/\ai W (w.heap.size+1+1) 218 #[Ey Ew x0,Ey Ew y0,Ey Ew x1,Ey Ew y1,Ey Ew x2,Ey Ew y2,Ey Ew x3,Ey Ew y3]/\ai W w5.heap.size 217 #[Ey Ew ux,Ey Ew uy]/\ai W (p9) 217 #[Ey Ew A1,Ey Ew A2]/\ai W (p10) 217 #[Ey Ew B1,Ey Ew B2]) [11,13] [(11,fun z_=>z_ = Ey Ew N_)] [] [(13,[(11,some 60)]),(14,[(11,some 60)])] [] (fun N0 ah=>⟨fun v=> ?_,fun D v v' W hv Y=> ?_,fun be Q' b9 hQ=> ?_⟩)
 . exact⟨zh,zj,Nat.le_of_eq ah.out,zw,⟨fun _=>zw,(fun h=>Bool.noConfusion h)⟩,zw,zw,zw,zw⟩
 . exact Y
 have eN:=ah.out
 try simp only[Es,World.size_setCell,World.size_drew,World.heap_drewN]at eN
 have dz:w.heap.size<N0:=by first | omega | (have h:=oa.lt; omega)
 have dP:w.heap.size+1<N0:=by first | omega | (have h:=or.lt; omega)
 have em:w.heap.size+1+1<N0:=by first | omega | (have h:=oz.lt; omega)
 have gQ:w5.heap.size<N0:=by first | omega | (have h:=ou.lt; omega)
 have ir:p9<N0:=by first | omega | (have h:=oc.lt; omega)
 have iv:p10<N0:=by first | omega | (have h:=od.lt; omega)
 have iw:w.heap.size<=N0:=by first | omega | (have h:=B.size; omega)
 clear gZ gK gP gG la lr lz gV gX lu co cn lc gH gM ld;clear ah;refine aj.aO 49 (fun _ _ _ h=>h.2.2.2.1.r3) ?_;refine aj.aD 50 ?_;refine aj.aO 51 (fun _ _ _ h=>h.2.2.2.2.2.2.2.1.r1) ?_;refine aj.aD 52 ?_;refine aj.aO 53 (fun _ _ _ h=>h.2.2.2.2.2.2.2.1.r1) ?_;refine aj.aD 54 ?_;refine aj.aO 55 (fun _ _ _ h=>h.2.2.2.2.2.2.2.2.r1) ?_;refine aj.aD 56 ?_;refine aj.aO 57 (fun _ _ _ h=>h.2.2.2.2.2.2.2.2.r1) ?_;refine aj.aD 58 ?_;refine aj.aO 59 (fun _ _ _ h=>h.2.2.2.2.2.2.1.r1) ?_;refine aj.aC rfl (ZB rfl) rfl (fun D v' M hc Y hf K hK=> ?_) ?_
 .
  obtain⟨I,jk,jn,X,T,J,aX,g8,er⟩:=Y;clear hf;go_step;refine(sq M).mono ?_;rintro e W2 ⟨rfl,N⟩;exact hK.out _ W2 (av.ae N) ⟨X1 I N,jk.aJ N,KQ jn N,X.ae N,⟨fun h=>(T.1 h).ae N,fun h=>(T.2 h).ae N⟩,J.ae N,aX.ae N,g8.ae N,er.ae N⟩ trivial rfl
 rintro _ rfl;refine aj.dY rfl ?_;refine aj.aD 61 ?_;refine aj.dL (fun D v' M hc Y hf K hK=> ?_) (fun _ _=>aj.aB (b:=⟨_,_⟩) rfl ?_)
 .
  obtain⟨I,jk,jn,X,T,J,aX,g8,er⟩:=Y;have E:=T.1 hc.1;have e2:w.heap.size<=w.heap.size+1:=D5
  have ff:=E.fr;obtain⟨co,cn,iy,iE,it,ig,ij,iB,i8⟩:=E.r8;go_step;exact hK.out Em _ (eP.k E) ⟨(eP.b I),jk.trans (eP.k E),eP.n jn,(eP.f X),⟨fun h=>Bool.noConfusion h,fun _=>(ai.st (i:=8) (ai.st (i:=7) (ai.st (i:=6) (ai.st (i:=5) (ai.st (i:=4) (ai.st (i:=3) (ai.st (i:=2) (ai.st (i:=1) (ai.st (i:=0) E)))))))))⟩,(eP.f J),(eP.f aX),(eP.f g8),(eP.f er)⟩ trivial trivial
 refine aj.aF (fun Dn v' w7 hd Y hf=> ?_);obtain⟨B,jk,jn,oa,T,oz,ou,oc,od⟩:=Y;have or:=T.2 (hd 13 (Eb rfl));clear T;clear hd hf jk;refine hQ _ _ ?_;clear hQ b9 Q' be;have la:=oa.lt;obtain⟨gW,gY,gN,gI,gR,gJ,gO,gT,gL⟩:=or.r8;have lr:=or.lt;have lz:=oz.lt;go_wp2_with fail
 refine bodyPost_ret (by simp[results,Tryz.results145,go_sem,la,gW,gY,gN,gI,gR,gJ,gO,gT,gL,lr,lz]; rfl) rfl ?_;exact⟨rfl,zh⟩
theorem U1 (x:Int) (w:Ee):Ed Ec 193 #[Ey Ew x] w fun e E=>e = Eh (.bool false)/\zf w E:=by
 go_enter Tryz.func193,Tryz.ntmps193
 go_wp2
 go_returns
 exact⟨rfl,zh⟩
theorem U2 (x y:Int) (w:Ee):Ed Ec 173 #[Ey Ew x,Ey Ew y] w fun e I=>e = Eh (Ey Ew (zL x y))/\zf w I:=by
 rcases(show x<y\/x=y\/y<x by omega)with h | h | h
 focus
  have E:Hid (zL x y = -1):=by show zL x y=_; unfold zL; rw[E9 D5,E8 h]
 rotate_left
 focus
  have E:Hid (zL x y=0):=by show zL x y=_; unfold zL; rw[E8 h]
  subst h
 rotate_left
 focus
  have E:Hid (zL x y=1):=by show zL x y=_; unfold zL; rw[E9 D5,E9 D5]
 rotate_left
 all_goals
  go_enter Tryz.func173,Tryz.ntmps173
  go_wp2_with fail
  refine(U1 _ _).mono ?_;rintro e J ⟨rfl,st⟩;have H:=bA w st;clear st;have B:=H;clear H;go_wp2_with fail
  refine(U1 _ _).mono ?_;rintro e M ⟨rfl,st⟩;have H:=bA w st;clear B;clear st;have B:=H;clear H
  go_wp2
  go_returns
  exact⟨yK E.out.symm,zh⟩
theorem BZ (x:Int) (w:Ee):Ed Ec 194 #[Ey Ew x] w fun e E=>e = Eh (.bool false)/\zf w E:=by
 go_enter Tryz.func194,Tryz.ntmps194
 go_wp2
 go_returns
 exact⟨rfl,zh⟩
theorem CI (x y:Int) (w:Ee):Ed Ec 175 #[Ey Ew x,Ey Ew y] w fun e I=>e = Eh (Ey Ew (zL x y))/\zf w I:=by
 rcases(show x<y\/x=y\/y<x by omega)with h | h | h
 focus
  have E:Hid (zL x y = -1):=by show zL x y=_; unfold zL; rw[E9 D5,E8 h]
 rotate_left
 focus
  have E:Hid (zL x y=0):=by show zL x y=_; unfold zL; rw[E8 h]
  subst h
 rotate_left
 focus
  have E:Hid (zL x y=1):=by show zL x y=_; unfold zL; rw[E9 D5,E9 D5]
 rotate_left
 all_goals
  go_enter Tryz.func175,Tryz.ntmps175
  go_wp2_with fail
  refine(BZ _ _).mono ?_;rintro e J ⟨rfl,st⟩;have H:=bA w st;clear st;have B:=H;clear H;go_wp2_with fail
  refine(BZ _ _).mono ?_;rintro e M ⟨rfl,st⟩;have H:=bA w st;clear B;clear st;have B:=H;clear H
  go_wp2
  go_returns
  exact⟨yK E.out.symm,zh⟩
def jR (c d:Int):Int:=if c=0 then d else c
theorem C_ (c d:Int) (g:Nat) (w:Ee) (hg:g<w.heap.size) (h0:w.cell? ⟨g,0,none⟩=some (Ey Ew c)) (M:w.cell? ⟨g,1,none⟩=some (Ey Ew d)) :
  Ed Ec 174 #[Ex (some ⟨g,0,none⟩) 2 2] w fun e J=>e = Eh (Ey Ew (jR c d))/\zf w J:=by
 by_cases hc:c=0
 .
  by_cases hd:d=0
  .
   have E:Hid (jR c d=0):=by show jR c d=_; unfold jR; rw[E8 hc,hd]
   subst hc hd
   go_enter Tryz.func174,Tryz.ntmps174
   go_wp2_with fail
   refine wp_loop_rounds 3 ?_;rw[rounds_succ];go_wp2_with fail
   rw[rounds_succ];go_wp2_with fail
   rw[rounds_succ]
   go_wp2
   go_returns
   exact⟨yK E.out.symm,zh⟩
  .
   have E:Hid (jR c d=d):=E8 hc;have I:(d==0)=false:=by simpa using hd
   subst hc
   go_enter Tryz.func174,Tryz.ntmps174
   go_wp2_with fail
   refine wp_loop_rounds 3 ?_;rw[rounds_succ];go_wp2_with fail
   rw[rounds_succ]
   go_wp2
   go_returns
   exact⟨yK E.out.symm,zh⟩
 .
  have E:Hid (jR c d=c):=E9 hc;have H:(c==0)=false:=by simpa using hc
  go_enter Tryz.func174,Tryz.ntmps174
  go_wp2_with fail
  refine wp_loop_rounds 3 ?_;rw[rounds_succ]
  go_wp2
  go_returns
  exact⟨yK E.out.symm,zh⟩
theorem U3 (x y:Int) (a b:List Int):jP (x::a) (y::b)=jR (zL x y) (jP a b):=by
 show (if x=y then jP a b else if x<y then -1 else 1)=_
 unfold jR zL
 by_cases h:x=y
 . rw[E8 h,E8 h,E8 rfl]
 . rw[E9 h,E9 h]; split<;>rfl
theorem V2 (a b c:Int):jR (jR a b) c=jR a (jR b c):=by unfold jR; by_cases h:a=0<;>simp[h]
theorem U4 (a:Int):jR a 0=a:=by unfold jR; by_cases h:a=0<;>simp[h]
theorem K_ (a b:aV):jy a b=jR (jR (jR (jR (jR (jR (jR (jR (zL (a.a1+a.b1) (b.a1+b.b1)) (zL a.a1 b.a1)) (zL a.a2 b.a2)) (zL a.b1 b.b1)) (zL a.b2 b.b2)) (zL a.k0 b.k0)) (zL a.k1 b.k1)) (zL a.k2 b.k2)) (zL a.k3 b.k3):=by
 unfold jy aV.key;simp only[U3,V2];rw[show jP [] []=0 from rfl,U4]
def V3 (a:aV):Ef:= Ej #[Ey Ew a.k0,Ey Ew a.k1,Ey Ew a.k2,Ey Ew a.k3,Ey Ew a.a1,Ey Ew a.a2,Ey Ew a.b1,Ey Ew a.b2,Ey Ew a.n]
def WI (a:aV):Prop:= -35184372088832<=a.a1/\a.a1<=35184372088832/\-35184372088832<=a.b1/\a.b1<=35184372088832
theorem V4 (x y r:Nat->Int) (N M:Int) (w:Ee) (a1 : -35184372088832<=x 0/\x 0<=35184372088832) (a2 : -35184372088832<=x 2/\x 2<=35184372088832) (b1 : -35184372088832<=y 0/\y 0<=35184372088832) (b2 : -35184372088832<=y 2/\y 2<=35184372088832)
  (h0:r 0=zL (x 0+x 2) (y 0+y 2)) (hr:∀k,r (k+1)=jR (r k) (zL (x k) (y k))) :
  Ed Ec 143 #[Ej #[Ey Ew (x 4),Ey Ew (x 5),Ey Ew (x 6),Ey Ew (x 7),Ey Ew (x 0),Ey Ew (x 1),Ey Ew (x 2),Ey Ew (x 3),Ey Ew N],Ej #[Ey Ew (y 4),Ey Ew (y 5),Ey Ew (y 6),Ey Ew (y 7),Ey Ew (y 0),Ey Ew (y 1),Ey Ew (y 2),Ey Ew (y 3),Ey Ew M]] w fun e T=>e = Eh (Ey Ew (r 8))/\zf w T:=by
 have cp:∀T,Ed Ec 173 #[Ey Ew (x 0+x 2),Ey Ew (y 0+y 2)] T fun e w2=>e = Eh (Ey Ew (r 0))/\zf T w2:=fun T=>by rw[h0]; exact U2 _ _ T
 have HR:=E6 hr;clear h0 hr;have ci:∀k,k<4->(#[Ey Ew (x 4),Ey Ew (x 5),Ey Ew (x 6),Ey Ew (x 7),Ey Ew (x 0),Ey Ew (x 1),Ey Ew (x 2),Ey Ew (x 3),Ey Ew N]:Array Ef)[4+k]? = some (Ey Ew (x k)):=fun k hk=>by rcases(show k=0\/k=1\/k=2\/k=3 by omega)with rfl | rfl | rfl | rfl<;>rfl
 have cg:∀k,k<4->(#[Ey Ew (x 4),Ey Ew (x 5),Ey Ew (x 6),Ey Ew (x 7),Ey Ew (x 0),Ey Ew (x 1),Ey Ew (x 2),Ey Ew (x 3),Ey Ew N]:Array Ef)[k]? = some (Ey Ew (x (4+k))):=fun k hk=>by rcases(show k=0\/k=1\/k=2\/k=3 by omega)with rfl | rfl | rfl | rfl<;>rfl
 have bi:∀k,k<4->(#[Ey Ew (y 4),Ey Ew (y 5),Ey Ew (y 6),Ey Ew (y 7),Ey Ew (y 0),Ey Ew (y 1),Ey Ew (y 2),Ey Ew (y 3),Ey Ew M]:Array Ef)[4+k]? = some (Ey Ew (y k)):=fun k hk=>by rcases(show k=0\/k=1\/k=2\/k=3 by omega)with rfl | rfl | rfl | rfl<;>rfl
 have br:∀k,k<4->(#[Ey Ew (y 4),Ey Ew (y 5),Ey Ew (y 6),Ey Ew (y 7),Ey Ew (y 0),Ey Ew (y 1),Ey Ew (y 2),Ey Ew (y 3),Ey Ew M]:Array Ef)[k]? = some (Ey Ew (y (4+k))):=fun k hk=>by rcases(show k=0\/k=1\/k=2\/k=3 by omega)with rfl | rfl | rfl | rfl<;>rfl
 go_enter Tryz.func143,Tryz.ntmps143
 go_wp2_with fail
 refine(cp _).mono ?_;rintro e w1 ⟨rfl,st⟩;have B:=bA w st;have J:ai w1 w.heap.size 160 #[Ey Ew (x 4),Ey Ew (x 5),Ey Ew (x 6),Ey Ew (x 7),Ey Ew (x 0),Ey Ew (x 1),Ey Ew (x 2),Ey Ew (x 3),Ey Ew N]:=ai.au st;have I:ai w1 (w.heap.size+1) 160 #[Ey Ew (y 4),Ey Ew (y 5),Ey Ew (y 6),Ey Ew (y 7),Ey Ew (y 0),Ey Ew (y 1),Ey Ew (y 2),Ey Ew (y 3),Ey Ew M]:=ai.au st;clear st;clear a1 a2 b1 b2 cp;obtain⟨CA,ce⟩:∃c,(#[Ey Ew (x 4),Ey Ew (x 5),Ey Ew (x 6),Ey Ew (x 7),Ey Ew (x 0),Ey Ew (x 1),Ey Ew (x 2),Ey Ew (x 3),Ey Ew N]:Array Ef)=c:=⟨_,rfl⟩;rw[ce]at J ci cg;clear ce;obtain⟨CB,bt⟩:∃c,(#[Ey Ew (y 4),Ey Ew (y 5),Ey Ew (y 6),Ey Ew (y 7),Ey Ew (y 0),Ey Ew (y 1),Ey Ew (y 2),Ey Ew (y 3),Ey Ew M]:Array Ef)=c:=⟨_,rfl⟩;rw[bt]at I bi br;clear bt;go_wp2_with fail
 go_loopw [5,23] (fun cc kk wr=>∃k:Nat,k<=4/\kk = Ey Ew k/\cc = Ey Ew (r (k))/\ai wr w.heap.size 160 CA/\ai wr (w.heap.size+1) 160 CB/\Below w.heap.size w wr) (fun _ kk _=>(4-(intOf kk).toNat))
 case atStart=>exact⟨0,by omega,rfl,rfl,zw,zw,zh⟩
 case round=>
  obtain⟨k,hk,rfl,rfl,za,zb,zB⟩:=hrel;clear J I B;have J:=za;have I:=zb;have B:=zB;clear za zb zB
  rcases Nat.lt_or_ge k 4 with h4 | h4
  .
   have hA:=ci k h4;have hB:=bi k h4;have hn:=HR.out k;obtain⟨xk,X⟩:∃z,x k=z:=⟨_,rfl⟩;obtain⟨yk,hy⟩:∃z,y k=z:=⟨_,rfl⟩;rw[X]at hA hn;rw[hy]at hB hn;obtain⟨d,hd⟩:∃z,zL xk yk=z:=⟨_,rfl⟩;rw[hd]at hn;obtain⟨c,hc⟩:∃z,r k=z:=⟨_,rfl⟩;rw[hc]at hn|-;obtain⟨e,he⟩:∃z,jR c d=z:=⟨_,rfl⟩;rw[he]at hn;have bh:∀T,Ed Ec 173 #[Ey Ew xk,Ey Ew yk] T fun e w2=>e = Eh (Ey Ew d)/\zf T w2:=fun T=>by rw[<- hd]; exact U2 _ _ T
   have bg:∀g T,g<T.heap.size->T.cell? ⟨g,0,none⟩=some (Ey Ew c)->T.cell? ⟨g,1,none⟩=some (Ey Ew d)->Ed Ec 174 #[Ex (some ⟨g,0,none⟩) 2 2] T fun u w2=>u = Eh (Ey Ew e)/\zf T w2:=fun g T Z h2 h3=>by rw[<- he]; exact C_ _ _ g T Z h2 h3
   have HN:=E6 hn;have co:decide ((k:Int)<4)=true:=E_ D5;clear hn X hy hd hc he;go_wp2_with fail
   refine aj.bZ (fun N0=>fun D v W=>Below w.heap.size w W/\ai W w.heap.size 160 CA/\ai W (w.heap.size+1) 160 CB/\(D 10=true->∃g:Nat,v 10 = Ex (some ⟨g,0,none⟩) 2 2/\N0<=g/\ai W g 3 #[Ey Ew c,Ey Ew d])/\N0<=W.heap.size)
    (aj.inl [9,10,11]) (aj.gv [(9,fun x=>x = Ey Ew d),(11,fun x=>x = Ey Ew e),(10,fun x=>∃g:Nat,x = Ex (some ⟨g,0,none⟩) 2 2)]) aj.aR (fun _=>aj.Any) (fun _ _=>False) (aj.pl [(11,[(10,some 36)]),(13,[(10,some 36)])]) (aj.pl [])
    D6 D6 D6 (aj.bj _ (fun p hp=>by simp only[List.mem_cons,List.not_mem_nil,or_false]at hp; rcases hp with rfl | rfl | rfl; exact⟨_,rfl⟩; exact⟨_,rfl⟩; exact⟨_,0,rfl⟩)) (fun N0 a9=>⟨fun v=> ?_,(fun D v v' W hv Y=> ?_),fun _ _ _ _ _ _ _ _ _ _ _ _ _=>aj.none_,fun _ _ _ _ h=>h.elim,fun aY Q' aX hQ=> ?_⟩)
   . exact⟨(by first | with_reducible exact Below.drew B | with_reducible exact Below.drew (yX B _) | (repeat' first | with_reducible assumption | with_reducible exact Below.refl _ _ | with_reducible refine Below.alloc ?_ ?_ _ | with_reducible refine Below.drew ?_ | with_reducible refine yX ?_ _ | with_reducible refine Below.setCell ?_ ?_ _ | go_size)),(show ai _ _ _ CA from(by first | with_reducible exact J | (repeat' first | with_reducible assumption | (with_reducible refine ai.bO ?_; first | with_reducible rfl | (simp only[Es,World.size_setCell,World.size_drew]; done)) | with_reducible refine ai.alloc ?_ _ | with_reducible refine ai.drew ?_ | with_reducible refine ai.drewN ?_ _ | with_reducible apply ai.both | with_reducible refine ai.aH ?_ ?_ | (show _≠_; omega)))),(show ai _ _ _ CB from(by first | with_reducible exact I | (repeat' first | with_reducible assumption | (with_reducible refine ai.bO ?_; first | with_reducible rfl | (simp only[Es,World.size_setCell,World.size_drew]; done)) | with_reducible refine ai.alloc ?_ _ | with_reducible refine ai.drew ?_ | with_reducible refine ai.drewN ?_ _ | with_reducible apply ai.both | with_reducible refine ai.aH ?_ ?_ | (show _≠_; omega)))),(fun h=>by cases h),(Nat.le_of_eq a9.out)⟩
   .
    obtain⟨B,J,I,E,H⟩:=Y;exact⟨B,J,I,(fun h=>hv 10 h▸E h),H⟩
   have ia:w.heap.size<N0:=by have h:=J.lt; have e:=a9.out; (try simp only[Es,World.size_setCell,World.size_drew,World.heap_drewN]at e); omega
   have ib:w.heap.size+1<N0:=by have h:=I.lt; have e:=a9.out; (try simp only[Es,World.size_setCell,World.size_drew,World.heap_drewN]at e); omega
   have b9:w.heap.size<=N0:=by have h:=Below.size B; have e:=a9.out; (try simp only[Es,World.size_setCell,World.size_drew,World.heap_drewN]at e); (try simp only[Es,World.size_setCell,World.size_drew,World.heap_drewN]at h); omega
   clear B J I a9
   repeat refine aj.aD _ ?_
   apply aj.RP rfl rfl rfl 30 rfl rfl
   .
    intro D v W hc Y hf K hK;obtain⟨B,J,I,E,H⟩:=Y;have cN:World.cell? W ⟨w.heap.size,4+k,none⟩=some (Ey Ew xk):=J.c _ hA;go_step;exact hK.out
   . rfl
   repeat refine aj.aD _ ?_
   apply aj.RP rfl rfl rfl 34 rfl rfl
   .
    intro D v W hc Y hf K hK;obtain⟨B,J,I,E,H⟩:=Y;have cy:World.cell? W ⟨w.heap.size+1,4+k,none⟩=some (Ey Ew yk):=I.c _ hB;go_step;exact hK.out
   . rfl
   refine aj.aC rfl (ZB rfl) rfl (fun D v W hc Y hf K hK=> ?_) (fun x X=> ?_)
   .
    obtain⟨B,J,I,E,H⟩:=Y;go_step;refine(bh _).mono ?_;rintro e W' ⟨rfl,hb⟩;have st:zf W W':=hb;exact hK.out _ _ aj.any ⟨bS B st,J.ae st,I.ae st,(fun h=>let ⟨g,Z,h2,h3⟩:=E h; ⟨g,Z,h2,h3.ae st⟩),(Nat.le_trans H st.size)⟩ aj.none_ rfl
   have X:x = Ey Ew d:=X;subst X;refine aj.aB (b:=⟨#[_,_,_,_,_,_,_,_,_,_,_,_,_,_,_,_,_,_,_,_,_,_,_,_,_,_,_,_,_,_,_,_,_,_,_,_,_,_,_,_,_,_,_,_,_,_,_,_,_,_,_,_,_,_,_,_],[]⟩) rfl ?_;refine aj.aC rfl (ZB rfl) rfl (fun D v W hc Y hf K hK=> ?_) (fun x X=> ?_)
   .
    obtain⟨B,J,I,E,H⟩:=Y;go_step;exact hK.out _ _ aj.any ⟨Below.alloc B B.size _,J.alloc _,I.alloc _,(fun _=>⟨W.heap.size,rfl,H,ai.new W _ _⟩),(Nat.le_trans H (by rw[Es]; exact Nat.le_succ _))⟩ aj.none_ ⟨_,rfl⟩
   obtain⟨gS,X⟩:∃g:Nat,x = Ex (some ⟨g,0,none⟩) 2 2:=X;subst X;refine aj.aB (b:=⟨#[_,_,_,_,_,_,_,_,_,_,_,_,_,_,_,_,_,_,_,_,_,_,_,_,_,_,_,_,_,_,_,_,_,_,_,_,_,_,_,_,_,_,_,_,_,_,_,_,_,_,_,_,_,_,_,_],[]⟩) rfl ?_;refine aj.aC rfl (ZB rfl) rfl (fun D v W hc Y hf K hK=> ?_) (fun x X=> ?_)
   .
    obtain⟨B,J,I,E,H⟩:=Y;obtain⟨hd,he,-⟩:=hf (10,some 36) (.head _) rfl;obtain⟨g,Z,h2,oS⟩:=E hd;obtain rfl:gS=g:=aj.dR ((show v 10=Value.slice (some ⟨gS,0,none⟩) 2 2 from he).symm.trans Z);clear he Z h2;go_step;refine(bg _ _ oS.lt (oS.c 0 rfl) (oS.c 1 rfl)).mono ?_;rintro e W' ⟨rfl,hb⟩;have st:zf W W':=hb;exact hK.out _ _ aj.any ⟨bS B st,J.ae st,I.ae st,(fun h=>let ⟨g,Z,h2,h3⟩:=E h; ⟨g,Z,h2,h3.ae st⟩),(Nat.le_trans H st.size)⟩ aj.none_ rfl
   have X:x = Ey Ew e:=X;subst X;refine aj.aB (b:=⟨#[_,_,_,_,_,_,_,_,_,_,_,_,_,_,_,_,_,_,_,_,_,_,_,_,_,_,_,_,_,_,_,_,_,_,_,_,_,_,_,_,_,_,_,_,_,_,_,_,_,_,_,_,_,_,_,_],[]⟩) rfl ?_;refine aj.aD 5 ?_;refine aj.aF (fun D v W hd Y hf=> ?_);obtain⟨B,J,I,E,H⟩:=Y;obtain⟨-,he,-⟩:=hf (10,some 36) (.head _) rfl;obtain⟨g,Z,ah,h3⟩:=E (hd 10 D7);obtain rfl:gS=g:=aj.dR ((show v 10=Value.slice (some ⟨gS,0,none⟩) 2 2 from he).symm.trans Z);have oS:ai W gS 3 #[Ey Ew c,Ey Ew d]:=h3;have bl:w.heap.size<=gS:=Nat.le_trans b9 ah;have cn:w.heap.size≠gS:=by have:=ia; have:=ah; omega
   have cx:w.heap.size+1≠gS:=by have:=ib; have:=ah; omega
   have be:=Z;clear he Z h3 E ah;clear be H b9;clear hd hf ia ib;refine hQ _ _ ?_;clear hQ aX Q' aY;clear oS
   repeat' (first | go_values | go_skip | go_guarded | go_step | go_upon)
   go_roundw
   case rel=>exact⟨k+1,by omega,by go_num,by rw[HN.out],zw,zw,zh⟩
   case measure=>simp[intOf]; omega
  .
   obtain rfl:k=4:=D5
   rw[show ((4:Nat):Int)=4 from rfl];go_wp2_with fail
   go_loopw [5,39] (fun cc kk wr=>∃k:Nat,k<=4/\kk = Ey Ew k/\cc = Ey Ew (r (4+k))/\ai wr w.heap.size 160 CA/\ai wr (w.heap.size+1) 160 CB/\Below w.heap.size w wr) (fun _ kk _=>(4-(intOf kk).toNat))
   case atStart=>exact⟨0,by omega,rfl,rfl,zw,zw,zh⟩
   case round=>
    obtain⟨k,hk,rfl,rfl,za,zb,zB⟩:=hrel;clear J I B;have J:=za;have I:=zb;have B:=zB;clear za zb zB
    rcases Nat.lt_or_ge k 4 with h4 | h4
    .
     have hA:=cg k h4;have hB:=br k h4;have hn:=HR.out (4+k);obtain⟨xk,X⟩:∃z,x (4+k)=z:=⟨_,rfl⟩;obtain⟨yk,hy⟩:∃z,y (4+k)=z:=⟨_,rfl⟩;rw[X]at hA hn;rw[hy]at hB hn;obtain⟨d,hd⟩:∃z,zL xk yk=z:=⟨_,rfl⟩;rw[hd]at hn;obtain⟨c,hc⟩:∃z,r (4+k)=z:=⟨_,rfl⟩;rw[hc]at hn|-;obtain⟨e,he⟩:∃z,jR c d=z:=⟨_,rfl⟩;rw[he]at hn;have bh:∀T,Ed Ec 175 #[Ey Ew xk,Ey Ew yk] T fun e w2=>e = Eh (Ey Ew d)/\zf T w2:=fun T=>by rw[<- hd]; exact CI _ _ T
     have bg:∀g T,g<T.heap.size->T.cell? ⟨g,0,none⟩=some (Ey Ew c)->T.cell? ⟨g,1,none⟩=some (Ey Ew d)->Ed Ec 174 #[Ex (some ⟨g,0,none⟩) 2 2] T fun u w2=>u = Eh (Ey Ew e)/\zf T w2:=fun g T Z h2 h3=>by rw[<- he]; exact C_ _ _ g T Z h2 h3
     have HN:=E6 hn;have co:decide ((k:Int)<4)=true:=E_ D5;clear hn X hy hd hc he;go_wp2_with fail
     refine aj.bZ (fun N0=>fun D v W=>Below w.heap.size w W/\ai W w.heap.size 160 CA/\ai W (w.heap.size+1) 160 CB/\(D 10=true->∃g:Nat,v 10 = Ex (some ⟨g,0,none⟩) 2 2/\N0<=g/\ai W g 3 #[Ey Ew c,Ey Ew d])/\N0<=W.heap.size)
      (aj.inl [9,10,11]) (aj.gv [(9,fun x=>x = Ey Ew d),(11,fun x=>x = Ey Ew e),(10,fun x=>∃g:Nat,x = Ex (some ⟨g,0,none⟩) 2 2)]) aj.aR (fun _=>aj.Any) (fun _ _=>False) (aj.pl [(11,[(10,some 52)]),(13,[(10,some 52)])]) (aj.pl [])
      D6 D6 D6 (aj.bj _ (fun p hp=>by simp only[List.mem_cons,List.not_mem_nil,or_false]at hp; rcases hp with rfl | rfl | rfl; exact⟨_,rfl⟩; exact⟨_,rfl⟩; exact⟨_,0,rfl⟩)) (fun N0 a9=>⟨fun v=> ?_,(fun D v v' W hv Y=> ?_),fun _ _ _ _ _ _ _ _ _ _ _ _ _=>aj.none_,fun _ _ _ _ h=>h.elim,fun aY Q' aX hQ=> ?_⟩)
     . exact⟨(by first | with_reducible exact Below.drew B | with_reducible exact Below.drew (yX B _) | (repeat' first | with_reducible assumption | with_reducible exact Below.refl _ _ | with_reducible refine Below.alloc ?_ ?_ _ | with_reducible refine Below.drew ?_ | with_reducible refine yX ?_ _ | with_reducible refine Below.setCell ?_ ?_ _ | go_size)),(show ai _ _ _ CA from(by first | with_reducible exact J | (repeat' first | with_reducible assumption | (with_reducible refine ai.bO ?_; first | with_reducible rfl | (simp only[Es,World.size_setCell,World.size_drew]; done)) | with_reducible refine ai.alloc ?_ _ | with_reducible refine ai.drew ?_ | with_reducible refine ai.drewN ?_ _ | with_reducible apply ai.both | with_reducible refine ai.aH ?_ ?_ | (show _≠_; omega)))),(show ai _ _ _ CB from(by first | with_reducible exact I | (repeat' first | with_reducible assumption | (with_reducible refine ai.bO ?_; first | with_reducible rfl | (simp only[Es,World.size_setCell,World.size_drew]; done)) | with_reducible refine ai.alloc ?_ _ | with_reducible refine ai.drew ?_ | with_reducible refine ai.drewN ?_ _ | with_reducible apply ai.both | with_reducible refine ai.aH ?_ ?_ | (show _≠_; omega)))),(fun h=>by cases h),(Nat.le_of_eq a9.out)⟩
     .
      obtain⟨B,J,I,E,H⟩:=Y;exact⟨B,J,I,(fun h=>hv 10 h▸E h),H⟩
     have ia:w.heap.size<N0:=by have h:=J.lt; have e:=a9.out; (try simp only[Es,World.size_setCell,World.size_drew,World.heap_drewN]at e); omega
     have ib:w.heap.size+1<N0:=by have h:=I.lt; have e:=a9.out; (try simp only[Es,World.size_setCell,World.size_drew,World.heap_drewN]at e); omega
     have b9:w.heap.size<=N0:=by have h:=Below.size B; have e:=a9.out; (try simp only[Es,World.size_setCell,World.size_drew,World.heap_drewN]at e); (try simp only[Es,World.size_setCell,World.size_drew,World.heap_drewN]at h); omega
     clear B J I a9
     repeat refine aj.aD _ ?_
     apply aj.RP rfl rfl rfl 46 rfl rfl
     .
      intro D v W hc Y hf K hK;obtain⟨B,J,I,E,H⟩:=Y;have cN:World.cell? W ⟨w.heap.size,k,none⟩=some (Ey Ew xk):=J.c _ hA;go_step;exact hK.out
     . rfl
     repeat refine aj.aD _ ?_
     apply aj.RP rfl rfl rfl 50 rfl rfl
     .
      intro D v W hc Y hf K hK;obtain⟨B,J,I,E,H⟩:=Y;have cy:World.cell? W ⟨w.heap.size+1,k,none⟩=some (Ey Ew yk):=I.c _ hB;go_step;exact hK.out
     . rfl
     refine aj.aC rfl (ZB rfl) rfl (fun D v W hc Y hf K hK=> ?_) (fun x X=> ?_)
     .
      obtain⟨B,J,I,E,H⟩:=Y;go_step;refine(bh _).mono ?_;rintro e W' ⟨rfl,hb⟩;have st:zf W W':=hb;exact hK.out _ _ aj.any ⟨bS B st,J.ae st,I.ae st,(fun h=>let ⟨g,Z,h2,h3⟩:=E h; ⟨g,Z,h2,h3.ae st⟩),(Nat.le_trans H st.size)⟩ aj.none_ rfl
     have X:x = Ey Ew d:=X;subst X;refine aj.aB (b:=⟨#[_,_,_,_,_,_,_,_,_,_,_,_,_,_,_,_,_,_,_,_,_,_,_,_,_,_,_,_,_,_,_,_,_,_,_,_,_,_,_,_,_,_,_,_,_,_,_,_,_,_,_,_,_,_,_,_],[]⟩) rfl ?_;refine aj.aC rfl (ZB rfl) rfl (fun D v W hc Y hf K hK=> ?_) (fun x X=> ?_)
     .
      obtain⟨B,J,I,E,H⟩:=Y;go_step;exact hK.out _ _ aj.any ⟨Below.alloc B B.size _,J.alloc _,I.alloc _,(fun _=>⟨W.heap.size,rfl,H,ai.new W _ _⟩),(Nat.le_trans H (by rw[Es]; exact Nat.le_succ _))⟩ aj.none_ ⟨_,rfl⟩
     obtain⟨gS,X⟩:∃g:Nat,x = Ex (some ⟨g,0,none⟩) 2 2:=X;subst X;refine aj.aB (b:=⟨#[_,_,_,_,_,_,_,_,_,_,_,_,_,_,_,_,_,_,_,_,_,_,_,_,_,_,_,_,_,_,_,_,_,_,_,_,_,_,_,_,_,_,_,_,_,_,_,_,_,_,_,_,_,_,_,_],[]⟩) rfl ?_;refine aj.aC rfl (ZB rfl) rfl (fun D v W hc Y hf K hK=> ?_) (fun x X=> ?_)
     .
      obtain⟨B,J,I,E,H⟩:=Y;obtain⟨hd,he,-⟩:=hf (10,some 52) (.head _) rfl;obtain⟨g,Z,h2,oS⟩:=E hd;obtain rfl:gS=g:=aj.dR ((show v 10=Value.slice (some ⟨gS,0,none⟩) 2 2 from he).symm.trans Z);clear he Z h2;go_step;refine(bg _ _ oS.lt (oS.c 0 rfl) (oS.c 1 rfl)).mono ?_;rintro e W' ⟨rfl,hb⟩;have st:zf W W':=hb;exact hK.out _ _ aj.any ⟨bS B st,J.ae st,I.ae st,(fun h=>let ⟨g,Z,h2,h3⟩:=E h; ⟨g,Z,h2,h3.ae st⟩),(Nat.le_trans H st.size)⟩ aj.none_ rfl
     have X:x = Ey Ew e:=X;subst X;refine aj.aB (b:=⟨#[_,_,_,_,_,_,_,_,_,_,_,_,_,_,_,_,_,_,_,_,_,_,_,_,_,_,_,_,_,_,_,_,_,_,_,_,_,_,_,_,_,_,_,_,_,_,_,_,_,_,_,_,_,_,_,_],[]⟩) rfl ?_;refine aj.aD 5 ?_;refine aj.aF (fun D v W hd Y hf=> ?_);obtain⟨B,J,I,E,H⟩:=Y;obtain⟨-,he,-⟩:=hf (10,some 52) (.head _) rfl;obtain⟨g,Z,ah,h3⟩:=E (hd 10 D7);obtain rfl:gS=g:=aj.dR ((show v 10=Value.slice (some ⟨gS,0,none⟩) 2 2 from he).symm.trans Z);have oS:ai W gS 3 #[Ey Ew c,Ey Ew d]:=h3;have bl:w.heap.size<=gS:=Nat.le_trans b9 ah;have cn:w.heap.size≠gS:=by have:=ia; have:=ah; omega
     have cx:w.heap.size+1≠gS:=by have:=ib; have:=ah; omega
     have be:=Z;clear he Z h3 E ah;clear be H b9;clear hd hf ia ib;refine hQ _ _ ?_;clear hQ aX Q' aY;clear oS
     repeat' (first | go_values | go_skip | go_guarded | go_step | go_upon)
     go_roundw
     case rel=>exact⟨k+1,by omega,by go_num,by rw[show 4+(k+1)=4+k+1 from by omega,HN.out],zw,zw,zh⟩
     case measure=>simp[intOf]; omega
    .
     obtain rfl:k=4:=D5
     rw[show ((4:Nat):Int)=4 from rfl]
     go_wp2
     go_returns
     exact⟨rfl,zh⟩
def WW (a:aV) (i:Nat):Int:=match i with | 0=>a.a1 | 1=>a.a2 | 2=>a.b1 | 3=>a.b2 | 4=>a.k0 | 5=>a.k1 | 6=>a.k2 | _=>a.k3
def B_ (x y:Nat->Int):Nat->Int
 | 0=>zL (x 0+x 2) (y 0+y 2)
 | k+1=>jR (B_ x y k) (zL (x k) (y k))
theorem U5 (a b:aV) (w:Ee) (H:WI a) (E:WI b):Ed Ec 143 #[V3 a,V3 b] w fun e I=>e = Eh (Ey Ew (jy a b))/\zf w I:=by
 rw[K_];exact V4 (WW a) (WW b) (B_ (WW a) (WW b)) a.n b.n w ⟨H.1,H.2.1⟩ H.2.2 ⟨E.1,E.2.1⟩ E.2.2 rfl (fun _=>rfl)
end
end Go.Proofs.YtffmbepfbienaaaGreat
