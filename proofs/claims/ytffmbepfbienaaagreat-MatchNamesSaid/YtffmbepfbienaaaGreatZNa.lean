import Derived.Test.YtffmbepfbienaaaGreatZWa
set_option linter.unusedVariables false
set_option linter.unusedSimpArgs false
set_option maxHeartbeats 6400000
set_option maxRecDepth 1000000
open Go.Value renaming slice->Cq,bool->Cx,int->Cz,tuple->Ck
open Go.IntKind renaming i64->Cv,u32->Cw
open Go.Ending renaming returned->Cg
open Go.Proofs.Tryz renaming prog->Ch
open Go renaming Calls->Cb,World->Cc,Value->Cd,bodyPost_ret->Ci
open Nat renaming le_refl->Cl,lt_or_ge->Cm
open Go.World renaming cell?->Cn,size_alloc->Co
namespace Go.Proofs.YtffmbepfbienaaaGreat
open Go.RowKit
variable {a neg:Bool} {z:Int} {l:List Int} {c n r:Nat} {ao:Option Addr} {t:TypeId} {s u u' v:Cd} {w:Cc}
def zv (neg:Bool) (m:Int):Int:=if neg then -m else m
def zh (z:Int):Int:=((z.natAbs:Nat):Int)
def fits (z:Int):Prop:=(zn (zh z)).length<=4096
instance (z:Int):Decidable (fits z):=inferInstanceAs (Decidable (_<=_))
def qU (z:Int):Int:=if fits z then 0 else 16
def xn (z:Int):Int:=if fits z then z else 0
def az (w:Cc) (v:Cd) (z:Int):Prop:=∃s,v = .agg #[Cx (decide (z<0)),s]/\aA w s (zn (zh z))
theorem az.ae {E:Cc} (h:az w v z) (I:zf w E):az E v z:=by
 obtain⟨s,e,H⟩:=h;exact⟨s,e,H.ae I⟩
theorem xF (neg:Bool) {m:Int} (h:0<=m):zh (zv neg m)=m:=by unfold zh zv; split<;>omega
theorem Wj (neg:Bool) {m:Int} (h:0<=m):decide (zv neg m<0)=(neg&&decide (0<m)):=by
 unfold zv
 cases neg
 . simp; omega
 . simp
theorem JG (h:yn l):0<(zJ l).length↔0<zj l:=by
 have H:=ye h;have E:=zT (zD h);have I:=zD h;rw[H]at E;rw[List.length_pos_iff]
 constructor
 .
  intro e
  rcases Int.lt_or_le 0 (zj l)with g | g
  . exact g
  . exact absurd (E.2 B_) e
 .
  intro e g;have:=E.1 g;omega
theorem az.zero (w:Cc):az w (.agg #[Cx false,Cq none 0 0]) 0:=⟨_,rfl,aA.nil w⟩
theorem az.of {b:Bool} (I:aA w s (zJ l)) (E:yn l) (H:b=(neg&&decide (0<(zJ l).length))):az w (.agg #[Cx b,s]) (zv neg (zj l)):=by
 refine⟨s,?_,?_⟩
 .
  rw[Wj neg (zD E),H]
  congr 3
  have:=JG E
  by_cases g:0<(zJ l).length
  . simp[g,this.1 g]
  . simp[g,show ¬0<zj l from fun h=>g (this.2 h)]
 . rw[xF neg (zD E),ye E]; exact I
theorem YI (neg:Bool) {l:List Int} (h:yn l):fits (zv neg (zj l))↔(zJ l).length<=4096:=by
 unfold fits;rw[xF neg (zD h),ye h]
theorem aA.aL (h:aA w v l) (X:ai w r t #[Cx a,Cq ao n c]) :
  aA ((w.setCell ⟨r,0,none⟩ u).setCell ⟨r,1,none⟩ u') v l:=by
 obtain⟨h0,H,cap,rfl,N,M,T⟩:=h;refine⟨h0,H,cap,rfl,N,M,fun J=> ?_⟩;obtain⟨b,o,rfl,I,hc⟩:=T J
 have E:b≠r:=by
  rintro rfl;have g:=hc 0 (List.length_pos_iff.2 J);rw[X.cell]at g
  match o,g with
  | 0,g=>simp at g
  | 1,g=>simp at g
  | o+2,g=>simp at g
 refine⟨b,o,rfl,by simpa[World.setCell]using I,(hc.set (g:=r) E).set E⟩
theorem az.aL (h:az w v z) (H:ai w r t #[Cx a,Cq ao n c]) :
  az ((w.setCell ⟨r,0,none⟩ u).setCell ⟨r,1,none⟩ u') v z:=by
 obtain⟨s,e,E⟩:=h;exact⟨s,e,E.aL H⟩
theorem az.bc (h:az w v z) (o:Obj):az (w.alloc o) v z:=h.ae ((Below.refl _ _).alloc (Cl _) _)
theorem az.b_ (h:az w v z):az w.drew v z:=h
theorem Z9 {a b:Cd} {x y:Int} (h:a=b) (g:x=y):Ending.returned (Ck #[a,Cz Cv x]) = Cg (Ck #[b,Cz Cv y]):=by rw[h,g]
theorem qr (neg:Bool) {s:Cd} {l:List Int} (w:Cc) (hs:aA w s l) (nl:l.length<=aE) :
  Cb Ch 139 #[Cx neg,s] w fun e w'=>∃v,e = Cg (Ck #[v,Cz Cv (qU (zv neg (zj l)))])/\az w' v (xn (zv neg (zj l)))/\zf w w':=by
 have ok:=hs.ok;have nt:=kl l;unfold aE at nl;obtain⟨n,hn⟩:∃n,(zJ l).length=n:=⟨_,rfl⟩;have Y:=YI neg ok
 have F1:Hid (n<=4096->qU (zv neg (zj l))=0/\xn (zv neg (zj l))=zv neg (zj l)):=fun h=>by
  have g:fits (zv neg (zj l)):=Y.2 B_;exact⟨C7 g,C7 g⟩
 have F2:Hid (4096<n->qU (zv neg (zj l))=16/\xn (zv neg (zj l))=0):=fun h=>by
  have g:¬fits (zv neg (zj l)):=fun g=>by have:=Y.1 g; omega
  exact⟨C8 g,C8 g⟩
 have HO:=C5 ok;have N:=C5 hn;clear Y ok hn
 go_enter Tryz.func139,Tryz.ntmps139
 go_wp2_with fail
 refine(Zo _ (hs.ae zi) (by unfold aE; omega)).mono ?_;rintro e w1 ⟨v1,rfl,E,st⟩;have Z:=bA w st;have or:ai w1 w.heap.size 26 #[Cx false,Cq none 0 0]:=ai.aw st;clear st;have B:=Z;clear Z;obtain⟨I,H,fr,T⟩:=or.s1;have HV:=C5 E;obtain⟨ao,cap,J⟩:=E.au;rw[N.out]at J;subst J;have a9:=N.out;clear E
 rcases Cm 4096 n with M | M
 .
  go_wp2
  refine Ci (by simp[results,Tryz.results139,go_sem,I,H,fr,T]; rfl) rfl ?_;exact⟨_,Z9 rfl (F2.out M).1.symm,by rw[(F2.out M).2]; exact az.zero _,zi⟩
 .
  have F:=F1.out M
  rcases Nat.eq_zero_or_pos n with X | X
  .
   subst X
   cases neg
   all_goals
    go_wp2
    refine Ci (by simp[results,Tryz.results139,go_sem,I,H,fr,T]; rfl) rfl ?_;exact⟨_,Z9 rfl F.1.symm,by rw[F.2]; exact az.of (HV.out.aL or) HO.out (by rw[N.out]; rfl),zi⟩
  .
   cases neg
   all_goals
    go_wp2
    refine Ci (by simp[results,Tryz.results139,go_sem,I,H,fr,T]; rfl) rfl ?_;exact⟨_,Z9 rfl F.1.symm,by rw[F.2]; exact az.of (HV.out.aL or) HO.out (by rw[N.out]; simp[X]),zi⟩
def zS (neg:Bool) (l:List Int):Prop:=l.length<=4096/\zJ l=l/\(l = []->neg=false)
instance (neg:Bool) (l:List Int):Decidable (zS neg l):=inferInstanceAs (Decidable (_/\_/\_))
def xp (p:Prop) [Decidable p]:Int:=if p then 0 else 8
theorem Yi {k:Nat} (h:l.length=k+1):zJ l=l↔l.getD k 0≠0:=by
 constructor
 . intro e; exact kQ e h
 .
  intro e;have E:l≠ []:=by rintro rfl; cases h
  refine jW E ?_;rw[List.getLast_eq_getElem];simpa[List.getD,h]using e
theorem kR (h:aA w s l) (hv:zS neg l):az w (.agg #[Cx neg,s]) (zv neg (zj l)):=by
 refine az.of (by rw[hv.2.1]; exact h) h.ok ?_;rw[hv.2.1]
 cases neg
 . rfl
 .
  have:l≠ []:=fun e=>by have:=hv.2.2 e; cases this
  simp[List.length_pos_iff.2 this]
theorem Zq (ok:yn l) (hv:zS neg l):fits (zv neg (zj l)):=by
 rw[YI neg ok,hv.2.1]; exact hv.1
theorem xf (h:fits z):zS (decide (z<0)) (zn (zh z)):=by
 refine⟨h,xx _,fun e=> ?_⟩;have h0:0<=zh z:=by unfold zh; omega
 have:=(zT h0).1 e;unfold zh at this;simp; omega
theorem je (neg:Bool) {s:Cd} {l:List Int} (w:Cc) (X:aA w s l) :
  Cb Ch 124 #[.agg #[Cx neg,s]] w fun e Z=>e = Cg (Cz Cv (xp (zS neg l)))/\zf w Z:=by
 obtain⟨ao,cap,rfl⟩:=X.au;obtain⟨ok,-,Y,J⟩:=X.cells;obtain⟨n,E⟩:∃n,l.length=n:=⟨_,rfl⟩;rw[E]at Y J|-;clear X
 rcases Cm 4096 n with h1 | h1
 .
  have H:Hid (xp (zS neg l)=8):=C8 (fun h=>by have:=h.1; omega)
  go_enter Tryz.func124,Tryz.ntmps124
  go_wp2
  go_returns
  exact⟨yT H.out.symm,zi⟩
 .
  match n,E with
  | 0,E=>
   obtain rfl:=List.eq_nil_of_length_eq_zero E
   cases neg
   .
    have H:Hid (xp (zS false [])=0):=C7 ⟨by simp,rfl,fun _=>rfl⟩;clear J
    go_enter Tryz.func124,Tryz.ntmps124
    go_wp2
    go_returns
    exact⟨yT H.out.symm,zi⟩
   .
    have H:Hid (xp (zS true [])=8):=C8 (fun h=>by have:=h.2.2 rfl; cases this);clear J
    go_enter Tryz.func124,Tryz.ntmps124
    go_wp2
    go_returns
    exact⟨yT H.out.symm,zi⟩
  | k+1,E=>
   obtain⟨b,o,rfl,hb,hc⟩:=J B_;have I:=Yi E;have g:=hc k B_;obtain⟨x,T⟩:∃x,l.getD k 0=x:=⟨_,rfl⟩;rw[T]at g I
   have g2:(w.alloc (.cells #[Cx neg,Cq (some ⟨b,o,none⟩) (k+1) cap] 26)).cell? ⟨b,o+k,none⟩=some (Cz Cw x):=by
    rw[<- g]; exact World.cell?_of_block (Below.heap_alloc _ _ _ hb)
   have N:l≠ []:=by rintro rfl; cases E
   clear hc J
   rcases Int.decEq x 0 with M | M
   .
    have a9:(x==0)=false:=by simp[M]
    have H:Hid (xp (zS neg l)=0):=C7 ⟨by omega,I.2 M,fun e=>absurd e N⟩;clear I T
    go_enter Tryz.func124,Tryz.ntmps124
    go_wp2
    go_returns
    exact⟨yT H.out.symm,zi⟩
   .
    have H:Hid (xp (zS neg l)=8):=C8 (fun h=>I.1 h.2.1 M);clear I T;subst M
    go_enter Tryz.func124,Tryz.ntmps124
    go_wp2
    go_returns
    exact⟨yT H.out.symm,zi⟩
end Go.Proofs.YtffmbepfbienaaaGreat
/- The program's side (wide): trim, made, Add32. -/
namespace Go.Proofs.YtffmbepfbienaaaGreat
open Go.RowKit
variable {x z:Int} {A B xs:List Int} {k m:Nat} {a b v:Cd} {w:Cc}
theorem Yj {l:List Int} (w:Cc) (J:aA w a l) (nl:l.length<=aE) :
  Cb Ch 133 #[a] w fun e w'=>∃v,e = Cg v/\aA w' v (zJ l)/\zf w w':=by
 obtain⟨aa,ca,rfl⟩:=J.au;obtain⟨ol,-,la,N⟩:=J.cells;have HL:Hid (aA w (Cq aa l.length ca) l):=J;clear J;unfold aE at nl;obtain⟨n,X⟩:∃n,l.length=n:=⟨_,rfl⟩;have H:Hid (l.length=n):=X;rw[X]at N la nl;rw[X];clear X
 go_enter Tryz.func133,Tryz.ntmps133
 go_wp2
 go_loopw [3] (fun i wr=>∃k:Nat,k<=n/\i = Cz Cv k/\zJ (l.take k)=zJ l/\Below w.heap.size w wr) (fun i _=>(intOf i).toNat)
 case atStart=>exact⟨n,Cl _,rfl,by rw[List.take_of_length_le (by have:=H.out; omega)],Below.refl _ _⟩
 case round=>
  obtain⟨k,hk,rfl,hd,E⟩:=hrel;have T:Hid (zJ (l.take k)=zJ l):=hd;clear hd
  have fin:zJ l=l.take k->aA wr (Cq aa k ca) (zJ l):=fun e=>by
   have h1:=H.out;rw[e];have:=HL.out;rw[H.out]at this;exact(this.ae E).take B_
  rcases Nat.eq_zero_or_pos k with rfl | hp
  .
   have L0:=C5 (fin (by rw[<- T.out]; rfl));clear fin
   go_wp2
   go_returns
   exact⟨_,rfl,L0.out,E⟩
  .
   obtain⟨j,rfl⟩:∃j,k=j+1:=⟨k-1,by omega⟩;obtain⟨ba,a9,rfl,Z,I⟩:=N B_;have g1:=(E.cell (p:=⟨ba,a9+j,none⟩) Z).trans (I j (by rw[H.out]; omega));obtain⟨u,Y⟩:∃u,l.getD j 0=u:=⟨_,rfl⟩;rw[Y]at g1;have HU:Hid (l.getD j 0=u):=Y;have M:j<l.length:=by have:=H.out; omega
   rcases Int.decEq u 0 with ah | rfl
   .
    have L0:=C5 (fin (by rw[<- T.out]; exact jq M (by rw[HU.out]; exact ah)));clear fin I N Y M
    go_wp2
    go_returns
    exact⟨_,rfl,L0.out,E⟩
   .
    have T2:Hid (zJ (l.take j)=zJ l):=by rw[<- T.out]; exact(jp M HU.out).symm
    clear fin I N Y M
    go_wp2
    go_roundw
    case rel=>exact⟨j,by omega,by go_num,T2.out,E⟩
    case measure=>simp[intOf]
theorem V_ (x y c:Int) (w:Cc) (H:0<=x/\x<4294967296) (J:0<=y/\y<4294967296) (I:0<=c/\c<=1) :
  Cb Ch 184 #[Cz Cw x,Cz Cw y,Cz Cw c] w fun e E=>e = Cg (Ck #[Cz Cw ((x+y+c)%4294967296),Cz Cw ((x+y+c) / 4294967296)])/\E=w:=by
 go_enter Tryz.func184,Tryz.ntmps184
 go_wp2
 go_returns
 exact⟨rfl,rfl⟩
theorem Ua (v:BitVec 32):BitVec.ofInt 32 ((v.toNat:Nat):Int)=v:=by simp
theorem Xk (a b:Int):bits .and Cw a b=(((BitVec.ofInt 32 a &&& BitVec.ofInt 32 b).toNat:Nat):Int):=by
 show IntKind.u32.wrap (((BitVec.ofInt 32 a &&& BitVec.ofInt 32 b).toNat:Nat):Int)=_
 rw[IntKind.wrap_u32];have:=(BitVec.ofInt 32 a &&& BitVec.ofInt 32 b).isLt;exact Int.emod_eq_of_lt B_ B_
theorem Qd (a b:Int):bits .or Cw a b=(((BitVec.ofInt 32 a ||| BitVec.ofInt 32 b).toNat:Nat):Int):=by
 show IntKind.u32.wrap (((BitVec.ofInt 32 a ||| BitVec.ofInt 32 b).toNat:Nat):Int)=_
 rw[IntKind.wrap_u32];have:=(BitVec.ofInt 32 a ||| BitVec.ofInt 32 b).isLt;exact Int.emod_eq_of_lt B_ B_
theorem Xl (a b:Int):bits .xor Cw a b=(((BitVec.ofInt 32 a ^^^ BitVec.ofInt 32 b).toNat:Nat):Int):=by
 show IntKind.u32.wrap (((BitVec.ofInt 32 a ^^^ BitVec.ofInt 32 b).toNat:Nat):Int)=_
 rw[IntKind.wrap_u32];have:=(BitVec.ofInt 32 a ^^^ BitVec.ofInt 32 b).isLt;exact Int.emod_eq_of_lt B_ B_
theorem Wk (v:BitVec 32):((v.toNat:Nat):Int) / 2147483648=if v.msb then 1 else 0:=by
 have:=v.isLt;rw[BitVec.msb_eq_decide]
 by_cases h:2^(32-1)<=v.toNat
 . simp only[h,decide_true,if_true]; omega
 . simp only[h,decide_false,Bool.false_eq_true,if_false]; omega
theorem YJ (h:0<=x/\x<4294967296):(BitVec.ofInt 32 x).msb=decide (2147483648<=x):=by
 obtain⟨n,rfl⟩:=Int.eq_ofNat_of_zero_le h.1;rw[BitVec.ofInt_natCast,BitVec.msb_eq_decide,BitVec.toNat_ofNat,Nat.mod_eq_of_lt B_]
 by_cases g:2147483648<=n
 . rw[C9 (show 2^(32-1)<=n by omega),C9 B_]
 . rw[C_ (show ¬2^(32-1)<=n by omega),C_ B_]
theorem Qe (x y c:Int) (H:0<=x/\x<4294967296) (I:0<=y/\y<4294967296) (J:0<=c/\c<=1) :
  bits BinOp.or IntKind.u32 (bits BinOp.and IntKind.u32 (bits BinOp.xor IntKind.u32 IntKind.u32.max x) y)
   (bits BinOp.and IntKind.u32 (bits BinOp.xor IntKind.u32 IntKind.u32.max (bits BinOp.xor IntKind.u32 x y)) ((x-y-c)%4294967296)) / 2147483648=if x-y-c<0 then 1 else 0:=by
 have E:IntKind.u32.max=4294967295:=by decide
 rw[E];simp only[Xk,Qd,Xl,Ua];rw[Wk];simp only[BitVec.msb_or,BitVec.msb_and,BitVec.msb_xor];rw[YJ H,YJ I,YJ (show 0<=(x-y-c)%4294967296/\(x-y-c)%4294967296<4294967296 by omega),YJ (show (0:Int)<=4294967295/\(4294967295:Int)<4294967296 by omega)]
 by_cases hx:2147483648<=x<;>by_cases hy:2147483648<=y<;>by_cases hd:2147483648<=(x-y-c)%4294967296<;>simp[hx,hy,hd]<;>omega
theorem Wl (x y c:Int) (w:Cc) (M:0<=x/\x<4294967296) (I:0<=y/\y<4294967296) (H:0<=c/\c<=1) :
  Cb Ch 185 #[Cz Cw x,Cz Cw y,Cz Cw c] w fun e J=>e = Cg (Ck #[Cz Cw ((x-y-c)%4294967296),Cz Cw (if x-y-c<0 then 1 else 0)])/\J=w:=by
 have S:=C5 (Qe x y c M I H);obtain⟨b,E⟩:∃b:Int,(if x-y-c<0 then 1 else 0:Int)=b:=⟨_,rfl⟩;rw[E]at S|-;clear E
 go_enter Tryz.func185,Tryz.ntmps185
 go_wp2
 go_returns
 exact⟨by rw[<- S.out]; rfl,rfl⟩
theorem ku (h:xs.length=k):(zH xs++List.replicate (m+1) (Value.int Cw 0)).toArray[k]? = some (Cz Cw 0):=by
 subst h;simp[zH,List.getElem?_append,List.getElem?_replicate]
theorem xM (n:Nat):(zH (List.replicate n 0))=zH []++List.replicate n (Value.int Cw 0):=by simp[zH]
theorem Qf (w:Cc) (ha:aA w a A) (hb:aA w b B) (nA:A.length<=aE) (nB:B.length<=aE) (be:B.length<=A.length) :
  Cb Ch 159 #[a,b] w fun e w'=>∃v l,e = Cg v/\aA w' v l/\zj l=zj A+zj B/\l.length=max A.length B.length+1/\zf w w':=by
 obtain⟨aa,ca,rfl⟩:=ha.au;obtain⟨ab,cb,rfl⟩:=hb.au;obtain⟨oA,-,lA,fA⟩:=ha.cells;obtain⟨oB,-,lB,fB⟩:=hb.cells;clear ha hb;unfold aE at nA nB;obtain⟨J,hU⟩:∃n,A.length=n:=⟨_,rfl⟩;obtain⟨nV,hV⟩:∃n,B.length=n:=⟨_,rfl⟩;have H:Hid (A.length=J/\B.length=nV):=⟨hU,hV⟩;rw[hU]at nA lA fA be;rw[hV]at nB lB fB be;rw[hU,hV];clear hU hV;have bf:=xE (J+1) B_;simp only[Int.natCast_add,Int.natCast_one]at bf;have Z0:(w.alloc (.cells (madeCells #[Cz Cw 0] (J+1)) 172)).heap.size=w.heap.size+1:=Co _ _;have B0:Below w.heap.size w (w.alloc (.cells (madeCells #[Cz Cw 0] (J+1)) 172)):=(Below.refl _ _).alloc (Cl _) _
 have K0:ai (w.alloc (.cells (madeCells #[Cz Cw 0] (J+1)) 172)) w.heap.size 172 (zH []++List.replicate (J+1) (Value.int Cw 0)).toArray:=by
  have:=ai.new w 172 (madeCells #[Cz Cw 0] (J+1));rw[yt,xM]at this;rw[yt,xM];exact this
 have bt:decide (J<nV)=false:=C_ B_;have bh:decide ((J:Int)<(nV:Int))=false:=C_ B_
 go_enter Tryz.func159,Tryz.ntmps159
 go_wp2
 go_loopw [6,7,8,9,23] (fun c i x y kk wr=>∃ (k:Nat) (xs:List Int) (M:Int),k<=J/\kk = Cz Cv k/\c = Cz Cw M/\0<=M/\M<=1/\xs.length=k/\yn xs/\zj xs+bp k*M=zj (A.take k)+zj (B.take k)/\
   ai wr w.heap.size 172 (zH xs++List.replicate (J-k+1) (Value.int Cw 0)).toArray/\Below w.heap.size w wr) (fun _ _ _ _ k _=>(J-(intOf k).toNat))
 case atStart=>exact⟨0,[],0,Nat.zero_le _,rfl,rfl,by omega,by omega,rfl,z4,by simp[zj],K0,B0⟩
 case round=>
  obtain⟨k,xs,M,hk,rfl,rfl,c0,c1,hl,a9,hv,I,T⟩:=hrel;have N:Hid (xs.length=k/\yn xs/\zj xs+bp k*M=zj (A.take k)+zj (B.take k)):=⟨hl,a9,hv⟩;have HK:=C5 I;have HX:=C5 T;have z1:=I.lt;have g4:wr.cell? ⟨w.heap.size,k,none⟩=some (Cz Cw 0):=I.c _ (ku hl);have g5:wr.frozen? ⟨w.heap.size,k,none⟩=false:=I.fr _;clear bf Z0 B0 K0 hl a9 hv;obtain⟨u,hu⟩:∃u,A.getD k 0=u:=⟨_,rfl⟩;obtain⟨v,hv⟩:∃v,B.getD k 0=v:=⟨_,rfl⟩;have u0:=zF oA k;have v0:=zF oB k;rw[hu]at u0;rw[hv]at v0;have HU:Hid (A.getD k 0=u/\B.getD k 0=v):=⟨hu,hv⟩;have X:nV<=k->v=0:=fun h=>by rw[<- hv]; have:=H.out.2; simp[List.getD,List.getElem?_eq_none (show B.length<=k by omega)]
  rcases Cm k J with h1 | h1
  .
   obtain⟨ba,bl,rfl,bg,Z⟩:=fA B_;have g1:=(T.cell (p:=⟨ba,bl+k,none⟩) bg).trans (Z k (by rw[H.out.1]; omega));rw[hu]at g1;have S0:∀s,s=u+v+M->Hid (zj (xs ++ [s%4294967296])+bp (k+1)*(s / 4294967296)=zj (A.take (k+1))+zj (B.take (k+1))):=fun s h=>xL (s:=s) N.out.1 N.out.2.2 (by rw[HU.out.1,HU.out.2]; exact h)
   rcases Cm k nV with h2 | h2
   .
    obtain⟨bb,bi,rfl,bq,ah⟩:=fB B_;have g2:=(T.cell (p:=⟨bb,bi+k,none⟩) bq).trans (ah k (by rw[H.out.2]; omega));rw[hv]at g2;have S:=S0 _ rfl;clear Z ah fA fB hu hv X I T S0
    go_wp2_with (go_at_call 184; refine(V_ _ _ _ _ B_ B_ B_).mono ?_; rintro e w' ⟨rfl,rfl⟩)
    go_roundw
    case rel=>
     refine⟨k+1,xs ++ [(u+v+M)%4294967296],(u+v+M) / 4294967296,by omega,by go_num,by first | rfl | go_num,by omega,by omega,by rw[List.length_append,N.out.1]; rfl,zO N.out.2.1 B_ B_,S.out,?_,HX.out.setCell (p:=⟨w.heap.size,k,none⟩) (Cl _) _⟩;have Y:=HK.out;rw[show J-k+1=(J-(k+1)+1)+1 by omega]at Y;exact Y.aR (by first | exact yY xs k _ _ N.out.1 | (simp only[Int.add_zero]; exact yY xs k _ _ N.out.1))
    case measure=>simp[intOf]; omega
   .
    obtain rfl:=X h2;have S:=S0 _ rfl;clear Z fA fB hu hv X I T S0
    go_wp2_with (go_at_call 184; refine(V_ _ _ _ _ B_ B_ B_).mono ?_; rintro e w' ⟨rfl,rfl⟩)
    go_roundw
    case rel=>
     refine⟨k+1,xs ++ [(u+0+M)%4294967296],(u+0+M) / 4294967296,by omega,by go_num,by first | rfl | go_num,by omega,by omega,by rw[List.length_append,N.out.1]; rfl,zO N.out.2.1 B_ B_,S.out,?_,HX.out.setCell (p:=⟨w.heap.size,k,none⟩) (Cl _) _⟩;have Y:=HK.out;rw[show J-k+1=(J-(k+1)+1)+1 by omega]at Y;exact Y.aR (by first | exact yY xs k _ _ N.out.1 | (simp only[Int.add_zero]; exact yY xs k _ _ N.out.1))
    case measure=>simp[intOf]; omega
  .
   clear fA fB hu hv X I T;have br:k=J:=B_
   subst br
   go_wp2
   go_returns
   have E:=H.out;have Y:=HK.out;rw[show k-k+1=0+1 by omega]at Y;have b9:=Y.aR (u:= Cz Cw M) (yY xs k 0 M N.out.1);rw[List.replicate_zero,List.append_nil]at b9;have ll:(xs ++ [M]).length=k+1:=by rw[List.length_append,N.out.1]; rfl
   have L:=aA.aY b9 (zO N.out.2.1 B_ B_);rw[ll]at L;refine⟨_,xs ++ [M],rfl,L,?_,by rw[ll]; omega,HX.out.setCell (p:=⟨w.heap.size,k,none⟩) (Cl _) _⟩;have:=N.out.2.2;rw[List.take_of_length_le B_,List.take_of_length_le B_]at this;rw[yE,N.out.1,this]
theorem Qg (w:Cc) (ha:aA w a A) (hb:aA w b B) (nA:A.length<=aE) (nB:B.length<=aE) (Z:A.length<B.length) :
  Cb Ch 159 #[a,b] w fun e w'=>∃v l,e = Cg v/\aA w' v l/\zj l=zj A+zj B/\l.length=max A.length B.length+1/\zf w w':=by
 obtain⟨aa,ca,rfl⟩:=ha.au;obtain⟨ab,cb,rfl⟩:=hb.au;obtain⟨oA,-,lA,fA⟩:=ha.cells;obtain⟨oB,-,lB,fB⟩:=hb.cells;clear ha hb;unfold aE at nA nB;obtain⟨J,hU⟩:∃n,B.length=n:=⟨_,rfl⟩;obtain⟨nV,hV⟩:∃n,A.length=n:=⟨_,rfl⟩;have H:Hid (B.length=J/\A.length=nV):=⟨hU,hV⟩;rw[hU]at nB lB fB Z;rw[hV]at nA lA fA Z;rw[hU,hV];clear hU hV;have bf:=xE (J+1) B_;simp only[Int.natCast_add,Int.natCast_one]at bf;have Z0:(w.alloc (.cells (madeCells #[Cz Cw 0] (J+1)) 172)).heap.size=w.heap.size+1:=Co _ _;have B0:Below w.heap.size w (w.alloc (.cells (madeCells #[Cz Cw 0] (J+1)) 172)):=(Below.refl _ _).alloc (Cl _) _
 have K0:ai (w.alloc (.cells (madeCells #[Cz Cw 0] (J+1)) 172)) w.heap.size 172 (zH []++List.replicate (J+1) (Value.int Cw 0)).toArray:=by
  have:=ai.new w 172 (madeCells #[Cz Cw 0] (J+1));rw[yt,xM]at this;rw[yt,xM];exact this
 have bt:decide (nV<J)=true:=C9 Z;have bh:decide ((nV:Int)<(J:Int))=true:=C9 B_
 go_enter Tryz.func159,Tryz.ntmps159
 go_wp2
 go_loopw [6,7,8,9,23] (fun c i x y kk wr=>∃ (k:Nat) (xs:List Int) (M:Int),k<=J/\kk = Cz Cv k/\c = Cz Cw M/\0<=M/\M<=1/\xs.length=k/\yn xs/\zj xs+bp k*M=zj (B.take k)+zj (A.take k)/\
   ai wr w.heap.size 172 (zH xs++List.replicate (J-k+1) (Value.int Cw 0)).toArray/\Below w.heap.size w wr) (fun _ _ _ _ k _=>(J-(intOf k).toNat))
 case atStart=>exact⟨0,[],0,Nat.zero_le _,rfl,rfl,by omega,by omega,rfl,z4,by simp[zj],K0,B0⟩
 case round=>
  obtain⟨k,xs,M,hk,rfl,rfl,c0,c1,hl,ah,hv,I,T⟩:=hrel;have N:Hid (xs.length=k/\yn xs/\zj xs+bp k*M=zj (B.take k)+zj (A.take k)):=⟨hl,ah,hv⟩;have HK:=C5 I;have HX:=C5 T;have z1:=I.lt;have g4:wr.cell? ⟨w.heap.size,k,none⟩=some (Cz Cw 0):=I.c _ (ku hl);have g5:wr.frozen? ⟨w.heap.size,k,none⟩=false:=I.fr _;clear bf Z0 B0 K0 hl ah hv;obtain⟨u,hu⟩:∃u,B.getD k 0=u:=⟨_,rfl⟩;obtain⟨v,hv⟩:∃v,A.getD k 0=v:=⟨_,rfl⟩;have u0:=zF oB k;have v0:=zF oA k;rw[hu]at u0;rw[hv]at v0;have HU:Hid (B.getD k 0=u/\A.getD k 0=v):=⟨hu,hv⟩;have X:nV<=k->v=0:=fun h=>by rw[<- hv]; have:=H.out.2; simp[List.getD,List.getElem?_eq_none (show A.length<=k by omega)]
  rcases Cm k J with h1 | h1
  .
   obtain⟨ba,bl,rfl,bg,a9⟩:=fB B_;have g1:=(T.cell (p:=⟨ba,bl+k,none⟩) bg).trans (a9 k (by rw[H.out.1]; omega));rw[hu]at g1;have S0:∀s,s=u+v+M->Hid (zj (xs ++ [s%4294967296])+bp (k+1)*(s / 4294967296)=zj (B.take (k+1))+zj (A.take (k+1))):=fun s h=>xL (s:=s) N.out.1 N.out.2.2 (by rw[HU.out.1,HU.out.2]; exact h)
   rcases Cm k nV with h2 | h2
   .
    obtain⟨bb,bi,rfl,bq,b9⟩:=fA B_;have g2:=(T.cell (p:=⟨bb,bi+k,none⟩) bq).trans (b9 k (by rw[H.out.2]; omega));rw[hv]at g2;have S:=S0 _ rfl;clear a9 b9 fA fB hu hv X I T S0
    go_wp2_with (go_at_call 184; refine(V_ _ _ _ _ B_ B_ B_).mono ?_; rintro e w' ⟨rfl,rfl⟩)
    go_roundw
    case rel=>
     refine⟨k+1,xs ++ [(u+v+M)%4294967296],(u+v+M) / 4294967296,by omega,by go_num,by first | rfl | go_num,by omega,by omega,by rw[List.length_append,N.out.1]; rfl,zO N.out.2.1 B_ B_,S.out,?_,HX.out.setCell (p:=⟨w.heap.size,k,none⟩) (Cl _) _⟩;have Y:=HK.out;rw[show J-k+1=(J-(k+1)+1)+1 by omega]at Y;exact Y.aR (by first | exact yY xs k _ _ N.out.1 | (simp only[Int.add_zero]; exact yY xs k _ _ N.out.1))
    case measure=>simp[intOf]; omega
   .
    obtain rfl:=X h2;have S:=S0 _ rfl;clear a9 fA fB hu hv X I T S0
    go_wp2_with (go_at_call 184; refine(V_ _ _ _ _ B_ B_ B_).mono ?_; rintro e w' ⟨rfl,rfl⟩)
    go_roundw
    case rel=>
     refine⟨k+1,xs ++ [(u+0+M)%4294967296],(u+0+M) / 4294967296,by omega,by go_num,by first | rfl | go_num,by omega,by omega,by rw[List.length_append,N.out.1]; rfl,zO N.out.2.1 B_ B_,S.out,?_,HX.out.setCell (p:=⟨w.heap.size,k,none⟩) (Cl _) _⟩;have Y:=HK.out;rw[show J-k+1=(J-(k+1)+1)+1 by omega]at Y;exact Y.aR (by first | exact yY xs k _ _ N.out.1 | (simp only[Int.add_zero]; exact yY xs k _ _ N.out.1))
    case measure=>simp[intOf]; omega
  .
   clear fA fB hu hv X I T;have br:k=J:=B_
   subst br
   go_wp2
   go_returns
   have E:=H.out;have Y:=HK.out;rw[show k-k+1=0+1 by omega]at Y;have be:=Y.aR (u:= Cz Cw M) (yY xs k 0 M N.out.1);rw[List.replicate_zero,List.append_nil]at be;have ll:(xs ++ [M]).length=k+1:=by rw[List.length_append,N.out.1]; rfl
   have L:=aA.aY be (zO N.out.2.1 B_ B_);rw[ll]at L;refine⟨_,xs ++ [M],rfl,L,?_,by rw[ll]; omega,HX.out.setCell (p:=⟨w.heap.size,k,none⟩) (Cl _) _⟩;have:=N.out.2.2;rw[List.take_of_length_le B_,List.take_of_length_le B_]at this;rw[yE,N.out.1,this];omega
theorem UU (w:Cc) (E:aA w a A) (J:aA w b B) (I:A.length<=aE) (H:B.length<=aE) :
  Cb Ch 159 #[a,b] w fun e M=>∃v l,e = Cg v/\aA M v l/\zj l=zj A+zj B/\l.length=max A.length B.length+1/\zf w M:=by
 rcases Cm A.length B.length with h | h
 . exact Qg w E J I H h
 . exact Qf w E J I H h
theorem JH (n:Nat):yn (List.replicate n 0):=fun x E=>by obtain⟨-,rfl⟩:=List.mem_replicate.1 E; omega
theorem JI {O:List Int} {i:Nat} {E:Int} (ht:(O.take i).length=i) (H:xs.length=k) (I:i<=O.length) (F:zj xs+bp k*E=zj (O.drop i)+x*zj B) (hv:zj O=zj (A.take i)*zj B) (J:A.getD i 0=x) :
  zj (O.take i++xs ++ [E])=zj (A.take (i+1))*zj B:=by
 rw[yE,List.length_append,ht,H,xw,ht,X8,yc,J,Int.add_mul,<- hv,yr O i I,Int.mul_assoc (bp i) (bp k),Int.add_assoc,<- Int.mul_add,F,Int.mul_add,Int.mul_assoc (bp i) x];omega
theorem Wm (w:Cc) (ha:aA w a A) (hb:aA w b B) (nA:A.length<=aE) (nB:B.length<=aE) :
  Cb Ch 95 #[a,b] w fun e w'=>∃v l,e = Cg v/\aA w' v l/\zj l=zj A*zj B/\l.length=A.length+B.length/\zf w w':=by
 obtain⟨aa,ca,rfl⟩:=ha.au;obtain⟨ab,cb,rfl⟩:=hb.au;obtain⟨oA,-,lA,fA⟩:=ha.cells;obtain⟨oB,-,lB,fB⟩:=hb.cells;clear ha hb;unfold aE at nA nB;obtain⟨n,hU⟩:∃n,A.length=n:=⟨_,rfl⟩;obtain⟨m,hV⟩:∃n,B.length=n:=⟨_,rfl⟩;have H:Hid (A.length=n/\B.length=m):=⟨hU,hV⟩;rw[hU]at nA lA fA;rw[hV]at nB lB fB;rw[hU,hV];clear hU hV;have bq:=xE (n+m) B_;simp only[Int.natCast_add]at bq;have Z0:(w.alloc (.cells (madeCells #[Cz Cw 0] (n+m)) 172)).heap.size=w.heap.size+1:=Co _ _;have B0:Below w.heap.size w (w.alloc (.cells (madeCells #[Cz Cw 0] (n+m)) 172)):=(Below.refl _ _).alloc (Cl _) _
 have K0:ai (w.alloc (.cells (madeCells #[Cz Cw 0] (n+m)) 172)) w.heap.size 172 (zH (List.replicate m 0)++List.replicate n (Value.int Cw 0)).toArray:=by
  have:=ai.new w 172 (madeCells #[Cz Cw 0] (n+m))
  have e:(zH (List.replicate m 0)++List.replicate n (Value.int Cw 0)).toArray=madeCells #[Cz Cw 0] (n+m):=by
   rw[yt]; simp[zH,List.replicate_append_replicate,Nat.add_comm]
  rw[e];exact this
 go_enter Tryz.func95,Tryz.ntmps95
 go_wp2
 go_loopw [6,7,8,9,10,19] (fun _ _ _ _ _ ii wr=>∃ (i:Nat) (O:List Int),i<=n/\ii = Cz Cv i/\O.length=i+m/\yn O/\zj O=zj (A.take i)*zj B/\
   ai wr w.heap.size 172 (zH O++List.replicate (n-i) (Value.int Cw 0)).toArray/\Below w.heap.size w wr) (fun _ _ _ _ _ ii _=>(n-(intOf ii).toNat))
 case atStart=>exact⟨0,List.replicate m 0,Nat.zero_le _,rfl,by simp,JH m,by rw[X9]; simp[zj],K0,B0⟩
 case round=>
  obtain⟨i,O,hi,rfl,hO,N,hv,J,b9⟩:=hrel;have HO:Hid (O.length=i+m/\yn O/\zj O=zj (A.take i)*zj B):=⟨hO,N,hv⟩;have HX:=C5 b9;have HK:=C5 J;have z1:=J.lt;clear bq Z0 B0 K0 N hv
  rcases Cm i n with h1 | h1
  .
   obtain⟨ba,Y,rfl,bf,be⟩:=fA B_;have HA:=C5 be;obtain⟨x,hx⟩:∃x,A.getD i 0=x:=⟨_,rfl⟩;have x0:=zF oA i;rw[hx]at x0;have g1:wr.cell? ⟨ba,Y+i,none⟩=some (Cz Cw x):=by rw[<- hx]; exact(b9.cell (p:=⟨ba,Y+i,none⟩) bf).trans (be i (by rw[H.out.1]; omega))
   have bl:=C5 hx;have bt:(O.drop i).length=m:=by rw[List.length_drop,hO]; omega
   have ce:yn (O.drop i):=xD HO.out.2.1 i;have a9:(zH (O.take i)).length=i:=by rw[yG,List.length_take,hO]; omega
   have KB:ai wr w.heap.size 172 (xC (zH (O.take i)) ([]++(O.drop i).drop 0) (List.replicate (n-i) (Value.int Cw 0))):=by
    have e:xC (zH (O.take i)) ([]++(O.drop i).drop 0) (List.replicate (n-i) (Value.int Cw 0))=(zH O++List.replicate (n-i) (Value.int Cw 0)).toArray:=by
     simp only[xC,List.nil_append,List.drop_zero];rw[<- List.append_assoc];simp only[zH,<- List.map_append,List.take_append_drop]
    rw[e]; exact J
   have Z:=C5 (C6 bt a9);clear be fA hx hO bt a9 J
   go_wp2
   go_loopw [8,9,10,26] (fun cc _ _ kk wr=>∃ (k:Nat) (xs:List Int) (M:Int),k<=m/\kk = Cz Cv k/\cc = Cz .u64 M/\0<=M/\M<4294967296/\xs.length=k/\yn xs/\zj xs+bp k*M=zj ((O.drop i).take k)+x*zj (B.take k)/\
     ai wr w.heap.size 172 (xC (zH (O.take i)) (xs++(O.drop i).drop k) (List.replicate (n-i) (Value.int Cw 0)))/\Below w.heap.size w wr) (fun _ _ _ kk _=>(m-(intOf kk).toNat))
   case atStart=>exact⟨0,[],0,Nat.zero_le _,rfl,rfl,by omega,by omega,rfl,z4,by simp[zj],KB,HX.out⟩
   case round=>
    obtain⟨k,xs,M,hk,rfl,rfl,c0,c1,hl,N,hv,E,I⟩:=hrel;have HR:Hid (xs.length=k/\yn xs/\zj xs+bp k*M=zj ((O.drop i).take k)+x*zj (B.take k)):=⟨hl,N,hv⟩;have bh:=C5 I;have br:=C5 E;clear KB g1
    rcases Cm k m with h2 | h2
    .
     obtain⟨bb,bi,rfl,cg,bg⟩:=fB B_;obtain⟨v,X⟩:∃v,B.getD k 0=v:=⟨_,rfl⟩;have v0:=zF oB k;rw[X]at v0;have g1:wr.cell? ⟨ba,Y+i,none⟩=some (Cz Cw x):=by rw[<- bl.out]; exact(I.cell (p:=⟨ba,Y+i,none⟩) bf).trans (HA.out i (by rw[H.out.1]; omega))
     have g2:wr.cell? ⟨bb,bi+k,none⟩=some (Cz Cw v):=by rw[<- X]; exact(I.cell (p:=⟨bb,bi+k,none⟩) cg).trans (bg k (by rw[H.out.2]; omega))
     obtain⟨o,ho⟩:∃o,(O.drop i).getD k 0=o:=⟨_,rfl⟩;have o0:=zF ce k;rw[ho]at o0
     have gU:(xs++(O.drop i).drop k).getD k 0=o:=by
      rw[<- ho];simp only[List.getD];rw[List.getElem?_append_right B_,hl,Nat.sub_self,List.getElem?_drop,Nat.add_zero]
     have g3:wr.cell? ⟨w.heap.size,i+k,none⟩=some (Cz Cw o):=by
      rw[<- gU];exact E.c _ (xe Z.out.2 (by rw[List.length_append,List.length_drop,hl]; have:=Z.out.1; omega))
     have g4:wr.frozen? ⟨w.heap.size,i+k,none⟩=false:=E.fr _;obtain⟨p,hp⟩:∃p,x*v=p:=⟨_,rfl⟩;have p0:0<=p:=by rw[<- hp]; exact Int.mul_nonneg x0.1 v0.1
     have p1:p<=18446744065119617025:=by
      rw[<- hp];have:=Int.mul_le_mul (show x<=4294967295 by omega) (show v<=4294967295 by omega) v0.1 B_;omega
     have hw:IntKind.u64.wrap (x*v)=p:=by rw[hp,wrap_u64 B_ B_]
     have HS:Hid (∀s,s=M+(p+o)->zj (xs ++ [s%4294967296])+bp (k+1)*(s / 4294967296)=zj ((O.drop i).take (k+1))+x*zj (B.take (k+1))):=
      fun s h=>Kk (s:=s) hl hv (by rw[X,ho,hp]; exact h)
     clear X ho gU hp hl N hv E I bg fB
     go_wp2
     go_roundw
     case rel=>
      have R:=HR.out;refine⟨k+1,xs ++ [(M+(p+o))%4294967296],(M+(p+o)) / 4294967296,by omega,by go_num,by go_num,by omega,by omega,by rw[List.length_append,R.1]; rfl,zO R.2.1 B_ B_,HS.out _ rfl,?_,bh.out.setCell (p:=⟨w.heap.size,i+k,none⟩) (Cl _) _⟩;refine br.out.aR ?_;exact qk Z.out.2 R.1 (by have:=Z.out.1; omega) _
     case measure=>simp[intOf]; omega
    .
     have ah:k=m:=B_
     subst ah;have z2:=E.lt
     have F:Hid (zj xs+bp k*M=zj (O.drop i)+x*zj B):=by
      rw[List.take_of_length_le (by have:=Z.out.1; omega),List.take_of_length_le (by have:=H.out.2; omega)]at hv;exact hv
     have e0:xC (zH (O.take i)) (xs++(O.drop i).drop k) (List.replicate (n-i) (Value.int Cw 0))=(zH (O.take i++xs)++List.replicate (n-(i+1)+1) (Value.int Cw 0)).toArray:=by
      rw[List.drop_of_length_le (by have:=Z.out.1; omega),List.append_nil,show n-(i+1)+1=n-i by omega];simp only[xC,zH,List.map_append,List.append_assoc]
     rw[e0]at E;have T:(O.take i++xs).length=i+k:=by rw[List.length_append,hl]; have:=Z.out.2; rw[yG]at this; omega
     have g3:wr.cell? ⟨w.heap.size,i+k,none⟩=some (Cz Cw 0):=E.c _ (ku T);have g4:wr.frozen? ⟨w.heap.size,i+k,none⟩=false:=E.fr _;have ci:=C5 E;have HL:=C5 T;clear e0 T hl N hv E I br fB
     go_wp2
     go_roundw
     case rel=>
      refine⟨i+1,O.take i++xs ++ [M],by omega,by go_num,by rw[List.length_append,HL.out,List.length_singleton]; omega,xv.2 ⟨xv.2 ⟨zY HO.out.2.1 i,HR.out.2.1⟩,zU.2 ⟨⟨c0,c1⟩,z4⟩⟩,?_,?_,bh.out.setCell (p:=⟨w.heap.size,i+k,none⟩) (Cl _) _⟩
      .
       have t:(O.take i).length=i:=by have:=Z.out.2; rwa[yG]at this
       exact JI t HR.out.1 (by have:=HO.out.1; omega) F.out HO.out.2.2 bl.out
      .
       have:=ci.out.aR (yY (O.take i++xs) (i+k) (n-(i+1)) M HL.out)
       first | exact this | (try rw[show M%4294967296=M by omega]; exact this)
     case measure=>simp[intOf]; omega
  .
   have ah:i=n:=B_
   subst ah;clear fA fB b9 J
   go_wp2
   go_returns
   have kb:=HK.out;rw[Nat.sub_self,List.replicate_zero,List.append_nil]at kb;have L:=aA.aY kb HO.out.2.1;rw[HO.out.1]at L;refine⟨_,O,rfl,L,?_,HO.out.1,HX.out⟩;have:=HO.out.2.2;rw[List.take_of_length_le (by have:=H.out.1; omega)]at this;exact this
theorem JJ {n:Nat} (h:xs.length=k) (E:k<n):(zH xs++List.replicate (n-k) (Value.int Cw 0)).toArray[k]? = some (Cz Cw 0):=by
 rw[show n-k=(n-k-1)+1 by omega]; exact ku h
theorem Qh (w:Cc) (ha:aA w a A) (hb:aA w b B) (nA:A.length<=aE) (nB:B.length<=A.length) (b9:zj B<=zj A) :
  Cb Ch 160 #[a,b] w fun e w'=>∃v l,e = Cg v/\aA w' v l/\zj l=zj A-zj B/\l.length=A.length/\zf w w':=by
 obtain⟨aa,ca,rfl⟩:=ha.au;obtain⟨ab,cb,rfl⟩:=hb.au;obtain⟨oA,-,lA,fA⟩:=ha.cells;obtain⟨oB,-,lB,fB⟩:=hb.cells;clear ha hb;unfold aE at nA;obtain⟨N,hU⟩:∃n,A.length=n:=⟨_,rfl⟩;obtain⟨nV,hV⟩:∃n,B.length=n:=⟨_,rfl⟩;have H:Hid (A.length=N/\B.length=nV/\zj B<=zj A):=⟨hU,hV,b9⟩;rw[hV,hU]at nB;rw[hU]at nA lA fA;rw[hV]at lB fB;rw[hU,hV];clear hU hV b9;have br:=xE N B_;have Z0:(w.alloc (.cells (madeCells #[Cz Cw 0] N) 172)).heap.size=w.heap.size+1:=Co _ _;have B0:Below w.heap.size w (w.alloc (.cells (madeCells #[Cz Cw 0] N) 172)):=(Below.refl _ _).alloc (Cl _) _
 have K0:ai (w.alloc (.cells (madeCells #[Cz Cw 0] N) 172)) w.heap.size 172 (zH []++List.replicate N (Value.int Cw 0)).toArray:=by
  have:=ai.new w 172 (madeCells #[Cz Cw 0] N);rw[yt,xM]at this;rw[yt,xM];exact this
 go_enter Tryz.func160,Tryz.ntmps160
 go_wp2
 go_loopw [6,7,8,9,15] (fun c i x y kk wr=>∃ (k:Nat) (xs:List Int) (J:Int),k<=N/\kk = Cz Cv k/\c = Cz Cw J/\0<=J/\J<=1/\xs.length=k/\yn xs/\zj xs=zj (A.take k)-zj (B.take k)+bp k*J/\
   ai wr w.heap.size 172 (zH xs++List.replicate (N-k) (Value.int Cw 0)).toArray/\Below w.heap.size w wr) (fun _ _ _ _ k _=>(N-(intOf k).toNat))
 case atStart=>exact⟨0,[],0,Nat.zero_le _,rfl,rfl,by omega,by omega,rfl,z4,by simp[zj],K0,B0⟩
 case round=>
  obtain⟨k,xs,J,hk,rfl,rfl,c0,c1,hl,ah,hv,I,X⟩:=hrel;have HV:Hid (xs.length=k/\yn xs/\zj xs=zj (A.take k)-zj (B.take k)+bp k*J):=⟨hl,ah,hv⟩;have HK:=C5 I;have HX:=C5 X;have z1:=I.lt;clear br Z0 B0 K0 ah;obtain⟨u,hu⟩:∃u,A.getD k 0=u:=⟨_,rfl⟩;obtain⟨v,M⟩:∃v,B.getD k 0=v:=⟨_,rfl⟩;have u0:=zF oA k;have v0:=zF oB k;rw[hu]at u0;rw[M]at v0;have HU:Hid (A.getD k 0=u/\B.getD k 0=v):=⟨hu,M⟩;have Z:nV<=k->v=0:=fun h=>by rw[<- M]; have:=H.out.2.1; simp[List.getD,List.getElem?_eq_none (show B.length<=k by omega)]
  rcases Cm k N with h1 | h1
  .
   have g4:wr.cell? ⟨w.heap.size,k,none⟩=some (Cz Cw 0):=I.c _ (JJ hl h1);have g5:wr.frozen? ⟨w.heap.size,k,none⟩=false:=I.fr _;obtain⟨ba,bh,rfl,bf,a9⟩:=fA B_;have g1:=(X.cell (p:=⟨ba,bh+k,none⟩) bf).trans (a9 k (by rw[H.out.1]; omega));rw[hu]at g1;obtain⟨T,Y⟩:∃b:Int,(if u-v-J<0 then 1 else 0:Int)=b:=⟨_,rfl⟩
   have b0:0<=T/\T<=1/\0<=u-v-J+4294967296*T/\u-v-J+4294967296*T<4294967296/\(u-v-J)%4294967296=u-v-J+4294967296*T:=by
    rw[<- Y]; split<;>omega
   have SB:∀w',Cb Ch 185 #[Cz Cw u,Cz Cw v,Cz Cw J] w' fun e w2=>e = Cg (Ck #[Cz Cw (u-v-J+4294967296*T),Cz Cw T])/\w2=w':=fun w'=>by
    have:=Wl u v J w' u0 v0 ⟨c0,c1⟩;rw[Y,b0.2.2.2.2]at this;exact this
   obtain⟨d,hd⟩:∃d,u-v-J+4294967296*T=d:=⟨_,rfl⟩;have S:Hid (zj (xs ++ [d])=zj (A.take (k+1))-zj (B.take (k+1))+bp (k+1)*T):=qq (t:=u-v-J) (x:=d) (c':=T) HV.out.1 HV.out.2.2 (by rw[HU.out.1,HU.out.2]) hd.symm;rw[hd]at b0 SB;have b1:0<=d/\d<4294967296:=⟨b0.2.2.1,b0.2.2.2.1⟩;have b2:0<=T/\T<=1:=⟨b0.1,b0.2.1⟩
   rcases Cm k nV with h2 | h2
   focus
    obtain⟨bb,bg,rfl,bi,be⟩:=fB B_;have g2:=(X.cell (p:=⟨bb,bg+k,none⟩) bi).trans (be k (by rw[H.out.2.1]; omega));rw[M]at g2;clear a9 be fA fB hu hv M Z I X Y hd b0 hl
   rotate_left
   focus
    obtain rfl:=Z h2;clear a9 fA fB hu hv M Z I X Y hd b0 hl
   rotate_left
   all_goals
    go_wp2_with (go_at_call 185; refine(SB _).mono ?_; rintro e w' ⟨rfl,rfl⟩)
    go_roundw
    case rel=>
     refine⟨k+1,xs ++ [d],T,by omega,by go_num,rfl,b2.1,b2.2,by rw[List.length_append,HV.out.1]; rfl,zO HV.out.2.1 b1.1 b1.2,S.out,?_,HX.out.setCell (p:=⟨w.heap.size,k,none⟩) (Cl _) _⟩;have kb:=HK.out;rw[show N-k=(N-(k+1))+1 by omega]at kb;exact kb.aR (yY xs k _ _ HV.out.1)
    case measure=>simp[intOf]; omega
  .
   clear fA fB hu M Z X;have bq:k=N:=B_
   subst bq;have E:=H.out;rw[Nat.sub_self,List.replicate_zero,List.append_nil]at I;have L:=aA.aY I HV.out.2.1;rw[hl]at L;have e2:=yF HV.out.2.1;have e4:=zD HV.out.2.1;rw[hl]at e2;rw[List.take_of_length_le B_,List.take_of_length_le B_]at hv
   have bl:J=0:=by
    rcases(show J=0\/J=1 by omega)with h | h
    . exact h
    . subst h; rw[Int.mul_one]at hv; have:=H.out.2.2; omega
   subst bl;rw[Int.mul_zero,Int.add_zero]at hv;have F:=C5 (C6 L (C6 hv hl));clear L hv hl I e2 e4 E
   go_wp2
   go_returns
   exact⟨_,xs,rfl,F.out.1,F.out.2.1,F.out.2.2,HX.out⟩
theorem JK {g j b o capu capv:Nat} {pre post:List Cd} {U V:List Int} {q:Int} (w:Cc) (hB:ai w g 172 (xC pre U post)) (hj:pre.length=j) (hU:U.length=m+1) (be:yn U)
  (hV:Cells w b o V) (lV:V.length=m) (b9:yn V) (m0:0<m) (hb:b<w.heap.size) (bf:b≠g) (hn:m<=aE) (q0:0<=q) (q1:q<4294967296) :
  Cb Ch 188 #[Cq (some ⟨g,j,none⟩) (m+1) capu,Cq (some ⟨b,o,none⟩) m capv,Cz Cw q] w fun e Y=>
   ∃ (U':List Int) (E:Int),e = Cg (Cx (E==0))/\0<=E/\E<=1/\U'.length=m+1/\yn U'/\zj U'=zj U-q*zj V+bp (m+1)*E/\ai Y g 172 (xC pre U' post)/\w.grownBy Y (some g):=by
 unfold aE at hn;have HJ:Hid (pre.length=j/\U.length=m+1/\V.length=m):=⟨hj,hU,lV⟩;have HV:=C5 hV;have G0:w.grownBy w (some g):=World.grownBy.refl w _;have B0:ai w g 172 (xC pre ([]++U.drop 0) post):=hB;clear hB hj hU lV hV
 go_enter Tryz.func188,Tryz.ntmps188
 go_wp2
 go_loopw [7,8,9,10,14] (fun c bo i x kk wr=>∃ (k:Nat) (xs:List Int) (H M:Int),k<=m/\kk = Cz Cv k/\bo = Cz Cw H/\c = Cz .u64 M/\0<=H/\H<=1/\0<=M/\M<4294967296/\xs.length=k/\yn xs/\
   zj xs=zj (U.take k)-q*zj (V.take k)+bp k*(M+H)/\ai wr g 172 (xC pre (xs++U.drop k) post)/\w.grownBy wr (some g)) (fun _ _ _ _ k _=>m-(intOf k).toNat)
 case atStart=>exact⟨0,[],0,0,Nat.zero_le _,rfl,rfl,rfl,by omega,by omega,by omega,by omega,rfl,z4,by simp[zj],B0,G0⟩
 case round=>
  obtain⟨k,xs,H,M,hk,rfl,rfl,rfl,b0,b1,c0,c1,hl,ah,hv,J,a9⟩:=hrel;have HR:Hid (xs.length=k/\yn xs/\zj xs=zj (U.take k)-q*zj (V.take k)+bp k*(M+H)):=⟨hl,ah,hv⟩;have HG:=C5 a9;have HK:=C5 J;clear B0 G0;obtain⟨u,hu⟩:∃x,U.getD k 0=x:=⟨_,rfl⟩;obtain⟨v,Z⟩:∃x,V.getD k 0=x:=⟨_,rfl⟩;have u0:=zF be k;have v0:=zF b9 k;rw[hu]at u0;rw[Z]at v0
  have gU:(xs++U.drop k).getD k 0=u:=by
   rw[<- hu];simp only[List.getD];rw[List.getElem?_append_right B_,hl,Nat.sub_self,List.getElem?_drop,Nat.add_zero]
  have g1:wr.cell? ⟨g,j+k,none⟩=some (Cz Cw u):=by
   rw[<- gU];exact J.c _ (xe HJ.out.1 (by rw[List.length_append,List.length_drop,hl]; have:=HJ.out.2.1; omega))
  have g2:wr.frozen? ⟨g,j+k,none⟩=false:=J.fr _;have HX:Hid (U.getD k 0=u/\V.getD k 0=v):=⟨hu,Z⟩
  rcases Cm k m with h1 | h1
  .
   have g3:=(HV.out.grown a9 hb bf) k (by have:=HJ.out.2.2; omega);rw[Z]at g3;obtain⟨p,hp⟩:∃p,q*v=p:=⟨_,rfl⟩;have p0:0<=p:=by rw[<- hp]; exact Int.mul_nonneg q0 v0.1
   have p1:p<=18446744065119617025:=by
    rw[<- hp];have:=Int.mul_le_mul (show q<=4294967295 by omega) (show v<=4294967295 by omega) v0.1 B_;omega
   have hw:IntKind.u64.wrap (q*v)=p:=by rw[hp,wrap_u64 B_ B_]
   obtain⟨I,X⟩:∃l,(M+p)%4294967296=l:=⟨_,rfl⟩;have l0:0<=I/\I<4294967296:=B_
   obtain⟨E,T⟩:∃b:Int,(if u-I-H<0 then 1 else 0:Int)=b:=⟨_,rfl⟩
   have N:0<=E/\E<=1/\0<=u-I-H+4294967296*E/\u-I-H+4294967296*E<4294967296/\(u-I-H)%4294967296=u-I-H+4294967296*E:=by
    rw[<- T]; split<;>omega
   have SB:∀Y,Cb Ch 185 #[Cz Cw u,Cz Cw ((M+p)%4294967296),Cz Cw H] Y fun e w2=>e = Cg (Ck #[Cz Cw (u-I-H+4294967296*E),Cz Cw E])/\w2=Y:=fun Y=>by
    have:=Wl u I H Y u0 l0 ⟨b0,b1⟩;rw[T,N.2.2.2.2]at this;rw[X];exact this
   obtain⟨d,hd⟩:∃d,u-I-H+4294967296*E=d:=⟨_,rfl⟩;have S:Hid (zj (xs ++ [d])=zj (U.take (k+1))-q*zj (V.take (k+1))+bp (k+1)*((M+p) / 4294967296+E)):=qS (s:=M+p) (t:=u-I-H) (b':=E) HR.out.1 HR.out.2.2 (by rw[HX.out.2,hp]) (by rw[HX.out.1,X]) hd.symm;rw[hd]at N SB;have d0:0<=d/\d<4294967296:=⟨N.2.2.1,N.2.2.2.1⟩;have b2:0<=E/\E<=1:=⟨N.1,N.2.1⟩;clear T N hd X l0;clear hu Z gU hp hl ah hv J a9
   go_wp2_with (go_at_call 185; refine(SB _).mono ?_; rintro e Y ⟨rfl,rfl⟩)
   go_roundw
   case rel=>
    have R:=HR.out;refine⟨k+1,xs ++ [d],E,(M+p) / 4294967296,by omega,by go_num,rfl,by go_num,b2.1,b2.2,by omega,by omega,by rw[List.length_append,R.1]; rfl,zO R.2.1 d0.1 d0.2,S.out,?_,xz HG.out _ _⟩;exact HK.out.aR (qk HJ.out.1 R.1 (by have:=HJ.out.2.1; omega) _)
   case measure=>simp[intOf]; omega
  .
   have bh:k=m:=B_
   subst bh;have bg:v=0:=by rw[<- Z]; have:=HJ.out.2.2; simp[List.getD,List.getElem?_eq_none (show V.length<=k by omega)]
   subst bg;obtain⟨I,X⟩:∃l,(M)%4294967296=l:=⟨_,rfl⟩;have l0:0<=I/\I<4294967296:=B_
   obtain⟨E,T⟩:∃b:Int,(if u-I-H<0 then 1 else 0:Int)=b:=⟨_,rfl⟩
   have N:0<=E/\E<=1/\0<=u-I-H+4294967296*E/\u-I-H+4294967296*E<4294967296/\(u-I-H)%4294967296=u-I-H+4294967296*E:=by
    rw[<- T]; split<;>omega
   have SB:∀Y,Cb Ch 185 #[Cz Cw u,Cz Cw ((M)%4294967296),Cz Cw H] Y fun e w2=>e = Cg (Ck #[Cz Cw (u-I-H+4294967296*E),Cz Cw E])/\w2=Y:=fun Y=>by
    have:=Wl u I H Y u0 l0 ⟨b0,b1⟩;rw[T,N.2.2.2.2]at this;rw[X];exact this
   obtain⟨d,hd⟩:∃d,u-I-H+4294967296*E=d:=⟨_,rfl⟩;have S:Hid (zj (xs ++ [d])=zj (U.take (k+1))-q*zj (V.take (k+1))+bp (k+1)*((M) / 4294967296+E)):=qS (s:=M) (t:=u-I-H) (b':=E) HR.out.1 HR.out.2.2 (by rw[HX.out.2]; omega) (by rw[HX.out.1,X]) hd.symm;rw[hd]at N SB;have d0:0<=d/\d<4294967296:=⟨N.2.2.1,N.2.2.2.1⟩;have b2:0<=E/\E<=1:=⟨N.1,N.2.1⟩;clear T N hd X l0;rw[Int.emod_eq_of_lt c0 c1]at SB;rw[Int.ediv_eq_zero_of_lt c0 c1,Int.zero_add]at S;have bi:M%4294967296=M:=Int.emod_eq_of_lt c0 c1;clear hu Z gU hl ah hv J a9
   go_wp2_with (go_at_call 185; refine(SB _).mono ?_; rintro e Y ⟨rfl,rfl⟩)
   go_returns
   have R:=HR.out;refine⟨xs ++ [d],E,rfl,b2.1,b2.2,by rw[List.length_append,R.1]; rfl,zO R.2.1 d0.1 d0.2,?_,?_,xz HG.out _ _⟩
   .
    have:=S.out;rw[List.take_of_length_le (by have:=HJ.out.2.1; omega),List.take_of_length_le (by have:=HJ.out.2.2; omega)]at this;exact this
   .
    have:=HK.out.aR (u:= Cz Cw d) (qk HJ.out.1 R.1 (by have:=HJ.out.2.1; omega) d);rw[List.drop_of_length_le (by have:=HJ.out.2.1; omega),List.append_nil]at this;exact this
theorem xG (neg:Bool) {s:Cd} {l:List Int} (w:Cc) (hs:aA w s l) (nl:l.length<=aE) :
  Cb Ch 94 #[Cx neg,s] w fun e w'=>∃v,e = Cg (Ck #[v,Cz Cv (qU (zv neg (zj l)))])/\az w' v (xn (zv neg (zj l)))/\zf w w':=by
 have ok:=hs.ok;have nt:=kl l;unfold aE at nl;obtain⟨n,hn⟩:∃n,(zJ l).length=n:=⟨_,rfl⟩;have Y:=YI neg ok
 have F1:Hid (n<=4096->qU (zv neg (zj l))=0/\xn (zv neg (zj l))=zv neg (zj l)):=fun h=>by
  have g:fits (zv neg (zj l)):=Y.2 B_;exact⟨C7 g,C7 g⟩
 have F2:Hid (4096<n->qU (zv neg (zj l))=16/\xn (zv neg (zj l))=0):=fun h=>by
  have g:¬fits (zv neg (zj l)):=fun g=>by have:=Y.1 g; omega
  exact⟨C8 g,C8 g⟩
 have HO:=C5 ok;have N:=C5 hn;clear Y ok hn
 go_enter Tryz.func94,Tryz.ntmps94
 go_wp2_with fail
 refine(Yj _ (hs.ae zi) (by unfold aE; omega)).mono ?_;rintro e w1 ⟨v1,rfl,E,st⟩;have Z:=bA w st;have or:ai w1 w.heap.size 26 #[Cx false,Cq none 0 0]:=ai.aw st;clear st;have B:=Z;clear Z;obtain⟨I,H,fr,T⟩:=or.s1;have HV:=C5 E;obtain⟨ao,cap,J⟩:=E.au;rw[N.out]at J;subst J;have a9:=N.out;clear E
 rcases Cm 4096 n with M | M
 .
  go_wp2
  refine Ci (by simp[results,Tryz.results94,go_sem,I,H,fr,T]; rfl) rfl ?_;exact⟨_,Z9 rfl (F2.out M).1.symm,by rw[(F2.out M).2]; exact az.zero _,zi⟩
 .
  have F:=F1.out M
  rcases Nat.eq_zero_or_pos n with X | X
  .
   subst X
   cases neg
   all_goals
    go_wp2
    refine Ci (by simp[results,Tryz.results94,go_sem,I,H,fr,T]; rfl) rfl ?_;exact⟨_,Z9 rfl F.1.symm,by rw[F.2]; exact az.of (HV.out.aL or) HO.out (by rw[N.out]; rfl),zi⟩
  .
   cases neg
   all_goals
    go_wp2
    refine Ci (by simp[results,Tryz.results94,go_sem,I,H,fr,T]; rfl) rfl ?_;exact⟨_,Z9 rfl F.1.symm,by rw[F.2]; exact az.of (HV.out.aL or) HO.out (by rw[N.out]; simp[X]),zi⟩
theorem Wn (E I:Bool) {sa sb:Cd} {la lb:List Int} (w:Cc) (ha:aA w sa la) (hb:aA w sb lb) :
  Cb Ch 156 #[.agg #[Cx E,sa],.agg #[Cx I,sb]] w fun e w'=>e = Cg (Cz Cv (xp (zS E la/\zS I lb)))/\zf w w':=by
 obtain⟨aa,ca,rfl⟩:=ha.au;obtain⟨ab,cb,rfl⟩:=hb.au;obtain⟨n,hn⟩:∃n,la.length=n:=⟨_,rfl⟩;obtain⟨m,hm⟩:∃m,lb.length=m:=⟨_,rfl⟩;rw[hn]at ha|-;rw[hm]at hb|-;clear hn hm
 by_cases h1:zS E la
 .
  have H1:Hid (xp (zS E la)=0):=C7 h1;have H:Hid (xp (zS E la/\zS I lb)=xp (zS I lb)):=by show xp (zS E la/\zS I lb)=_; unfold xp; simp[h1]
  clear h1
  go_enter Tryz.func156,Tryz.ntmps156
  go_wp2_with fail
  refine(je E _ (ha.ae zi)).mono ?_;rintro e w1 ⟨rfl,be⟩;have st:zf _ w1:=be;have J:=bA w st;have N:ai w1 w.heap.size 26 #[Cx E,Cq aa n ca]:=ai.aw st;have M:ai w1 (w.heap.size+1) 26 #[Cx I,Cq ab m cb]:=ai.aw st;clear st;have B:=J;clear J;obtain⟨Z,Y,fa,la⟩:=N.s1;obtain⟨X,T,fb,lb⟩:=M.s1;rw[H1.out];have ah:=hb.ae B;go_wp2_with fail
  refine(je I _ ah).mono ?_;rintro e w2 ⟨rfl,a9⟩;have st:zf _ w2:=a9;have J:=bA w st;have E:=N.aN st;have I:=M.aN st;clear B N M Z Y fa la X T fb lb;clear st;have B:=J;clear J;have N:=E;clear E;obtain⟨Z,Y,fa,la⟩:=N.s1;have M:=I;clear I;obtain⟨X,T,fb,lb⟩:=M.s1
  go_wp2
  go_returns
  exact⟨yT H.out.symm,zi⟩
 .
  have H1:Hid (xp (zS E la)=8):=C8 h1;have H:Hid (xp (zS E la/\zS I lb)=8):=C8 (fun h=>h1 h.1);clear h1
  go_enter Tryz.func156,Tryz.ntmps156
  go_wp2_with fail
  refine(je E _ (ha.ae zi)).mono ?_;rintro e w1 ⟨rfl,st⟩;have J:=bA w st;have N:ai w1 w.heap.size 26 #[Cx E,Cq aa n ca]:=ai.aw st;have M:ai w1 (w.heap.size+1) 26 #[Cx I,Cq ab m cb]:=ai.aw st;clear st;have B:=J;clear J;obtain⟨Z,Y,fa,la⟩:=N.s1;obtain⟨X,T,fb,lb⟩:=M.s1;rw[H1.out];have b9:=ha.ae B;go_wp2_with fail
  refine(je E _ b9).mono ?_;rintro e w2 ⟨rfl,st⟩;have J:=bA w st;have E:=N.aN st;have I:=M.aN st;clear B N M Z Y fa la X T fb lb;clear st;have B:=J;clear J;have N:=E;clear E;obtain⟨Z,Y,fa,la⟩:=N.s1;have M:=I;clear I;obtain⟨X,T,fb,lb⟩:=M.s1;rw[H1.out]
  go_wp2
  go_returns
  exact⟨yT H.out.symm,zi⟩
theorem az.parts (h:az w v z):∃ao c,v = .agg #[Cx (decide (z<0)),Cq ao (zn (zh z)).length c]/\aA w (Cq ao (zn (zh z)).length c) (zn (zh z)):=by
 obtain⟨s,rfl,E⟩:=h;obtain⟨ao,c,rfl⟩:=E.au;exact⟨ao,c,rfl,E⟩
theorem zt (z:Int):0<=zh z:=by unfold zh; omega
theorem Kt (x y:Int) (E:x<0) (H:y<0):zI (zh y) (zh x)=zI x y:=by unfold zI zh; split<;>split<;>(try split)<;>(try split)<;>omega
theorem Ku (x y:Int) (E:0<=x) (H:0<=y):zI (zh x) (zh y)=zI x y:=by unfold zI zh; split<;>split<;>(try split)<;>(try split)<;>omega
theorem xN:bp 2=18446744073709551616:=by rw[xd,xd,jN]; decide
theorem xO (h:zh z<18446744073709551616):fits z:=by
 unfold fits;have:=(yV (zt z) 2).2 (by rw[xN]; exact h);omega
theorem zK (h:fits z):qU z=0:=C7 h
theorem zG (h:fits z):xn z=z:=C7 h
theorem az.au (h:az w v z):∃b ao n c,v = .agg #[Cx b,Cq ao n c]:=by
 obtain⟨ao,c,e,_⟩:=h.parts;exact⟨_,ao,_,c,e⟩
theorem Kv (z:Int) (w:Cc) (z0 : -9223372036854775808<=z) (z1:z<=9223372036854775807) :
  Cb Ch 104 #[Cz Cv z] w fun e E=>∃v,e = Cg v/\az E v z/\zf w E:=by
 have I:fits z:=xO (by unfold zh; omega)
 rcases Int.lt_or_le z 0 with Y | Y
 focus
  have hd:decide (z<0)=true:=by simp[Y]
  have M:Hid (zv true (zj [(-z)%4294967296,(-z) / 4294967296])=z):=by show zv _ _=z; simp only[zv,zj,if_true,Bool.false_eq_true,if_false]; omega
  have J:=C5 (C6 (zK I) (zG I));clear I;obtain⟨m,hm⟩:∃m,-z=m:=⟨_,rfl⟩;have hw:IntKind.u64.wrap (-IntKind.u64.wrap z)=m:=by simp only[IntKind.wrap_u64]; omega
  rw[hm]at M;have m0:0<=m/\m<=9223372036854775808:=B_
  clear hm
  have Z:Cb Ch 139 #[Cx true,Cq (some ⟨w.heap.size+1,0,none⟩) 2 2] ((w.alloc (.cells #[Cx false,Cq none 0 0] 26)).alloc (.cells #[Cz Cw (m%4294967296),Cz Cw (m / 4294967296)] 172)) (fun e E=>∃v,e = Cg (Ck #[v,Cz Cv 0])/\az E v z/\zf ((w.alloc (.cells #[Cx false,Cq none 0 0] 26)).alloc (.cells #[Cz Cw (m%4294967296),Cz Cw (m / 4294967296)] 172)) E):=by
   have L:aA ((w.alloc (.cells #[Cx false,Cq none 0 0] 26)).alloc (.cells #[Cz Cw (m%4294967296),Cz Cw (m / 4294967296)] 172)) (Cq (some ⟨w.heap.size+1,0,none⟩) 2 2) [m%4294967296,m / 4294967296]:=aA.aY (l:= [m%4294967296,m / 4294967296]) (ai.dT w _ _ _) (by simp only[zU]; refine⟨⟨by omega,by omega⟩,⟨by omega,by omega⟩,z4⟩);have C:=qr true _ L (by unfold aE; simp);rw[M.out,J.out.1,J.out.2]at C;exact C
 rotate_left
 focus
  have hd:decide (z<0)=false:=by simp; omega
  have M:Hid (zv false (zj [z%4294967296,z / 4294967296])=z):=by show zv _ _=z; simp only[zv,zj,if_true,Bool.false_eq_true,if_false]; omega
  have J:=C5 (C6 (zK I) (zG I));clear I
  have Z:Cb Ch 139 #[Cx false,Cq (some ⟨w.heap.size+1,0,none⟩) 2 2] ((w.alloc (.cells #[Cx false,Cq none 0 0] 26)).alloc (.cells #[Cz Cw (z%4294967296),Cz Cw (z / 4294967296)] 172)) (fun e E=>∃v,e = Cg (Ck #[v,Cz Cv 0])/\az E v z/\zf ((w.alloc (.cells #[Cx false,Cq none 0 0] 26)).alloc (.cells #[Cz Cw (z%4294967296),Cz Cw (z / 4294967296)] 172)) E):=by
   have L:aA ((w.alloc (.cells #[Cx false,Cq none 0 0] 26)).alloc (.cells #[Cz Cw (z%4294967296),Cz Cw (z / 4294967296)] 172)) (Cq (some ⟨w.heap.size+1,0,none⟩) 2 2) [z%4294967296,z / 4294967296]:=aA.aY (l:= [z%4294967296,z / 4294967296]) (ai.dT w _ _ _) (by simp only[zU]; refine⟨⟨by omega,by omega⟩,⟨by omega,by omega⟩,z4⟩);have C:=qr false _ L (by unfold aE; simp);rw[M.out,J.out.1,J.out.2]at C;exact C
 rotate_left
 all_goals
  go_enter Tryz.func104,Tryz.ntmps104
  go_wp2_with fail
  refine(Z).mono ?_;rintro e w1 ⟨v1,rfl,H,st⟩;have X:=bA w st;have or:ai w1 w.heap.size 26 #[Cx false,Cq none 0 0]:=ai.aw st;clear st;have B:=X;clear X;obtain⟨T,N,fr,lr⟩:=or.s1;obtain⟨bb,ao,n,c,rfl⟩:=H.au;have HV:=C5 H;clear H
  go_wp2
  refine Ci (by simp[results,Tryz.results104,go_sem,T,N,fr,lr]; rfl) rfl ?_;exact⟨_,rfl,(HV.out.aL or).ae ((Below.refl _ _).alloc (Cl _) _),zi⟩
theorem jf (x y:Int):(zI x y=0/\x=y)\/(zI x y = -1/\x<y)\/(zI x y=1/\y<x):=by
 unfold zI
 split
 . left; omega
 .
  split
  . right; left; omega
  . right; right; omega
theorem zV (z:Int):(z<0/\zh z = -z)\/(0<=z/\zh z=z):=by unfold zh; omega
theorem Gd {va vb:Cd} {y:Int} (w:Cc) (ha:az w va x) (hb:az w vb y) (fx:fits x) (fy:fits y) :
  Cb Ch 192 #[va,vb] w fun e H=>∃v,e = Cg (Ck #[v,Cz Cv (qU (x+y))])/\az H v (xn (x+y))/\zf w H:=by
 obtain⟨aa,ca,rfl,pa⟩:=ha.parts;obtain⟨ab,cb,rfl,pb⟩:=hb.parts;unfold fits at fx fy;have nx:(zn (zh x)).length<=aE:=by unfold aE; omega
 have ny:(zn (zh y)).length<=aE:=by unfold aE; omega
 have vx:=zA (zt x);have vy:=zA (zt y);obtain⟨n,hn⟩:∃n,(zn (zh x)).length=n:=⟨_,rfl⟩;obtain⟨m,hm⟩:∃m,(zn (zh y)).length=m:=⟨_,rfl⟩;have dk:Hid ((zn (zh x)).length=n/\(zn (zh y)).length=m):=⟨hn,hm⟩;have HL:Hid (zj (zn (zh x))=zh x/\zj (zn (zh y))=zh y):=⟨vx,vy⟩;rw[hn]at pa|-;rw[hm]at pb|-;have X:=zV x;have Y:=zV y;obtain⟨I,cg⟩:∃b,decide (x<0)=b:=⟨_,rfl⟩;obtain⟨gy,br⟩:∃b,decide (y<0)=b:=⟨_,rfl⟩;rw[cg,br];have HS:Hid (decide (x<0)=I/\decide (y<0)=gy):=⟨cg,br⟩;have HX:=C5 (C6 X Y);have HF:=C5 (C6 fx fy);clear ha hb hn hm cg br X Y vx vy nx ny fx fy
 by_cases hs:I=gy
 .
  subst hs
  have hz:∀l,zj l=zj (zn (zh x))+zj (zn (zh y))->zv I (zj l)=x+y:=fun l h=>by
   rw[h,HL.out.1,HL.out.2];have h1:=HS.out.1;have h2:=HS.out.2;have h3:=HX.out;unfold zv
   cases I
   . simp at h1 h2; simp only[Bool.false_eq_true,if_false]; omega
   . simp at h1 h2; simp only[if_true]; omega
  have Hz:=C5 hz;clear hz
  go_enter Tryz.func192,Tryz.ntmps192
  go_wp2_with fail
  go_region_held3 (fun H=>H.cell? ⟨w.heap.size,0,none⟩=some (Cx I)/\H.cell? ⟨w.heap.size,1,none⟩=some (Cq aa n ca)/\H.cell? ⟨w.heap.size+1,0,none⟩=some (Cx I)/\H.cell? ⟨w.heap.size+1,1,none⟩=some (Cq ab m cb))
   ((refine⟨ai.c (t:=26) (cs:=#[Cx I,Cq aa n ca]) ?_ 0 rfl,ai.c (t:=26) (cs:=#[Cx I,Cq aa n ca]) ?_ 1 rfl,ai.c (t:=26) (cs:=#[Cx I,Cq ab m cb]) ?_ 0 rfl,ai.c (t:=26) (cs:=#[Cx I,Cq ab m cb]) ?_ 1 rfl⟩<;>(repeat' first | with_reducible assumption | (with_reducible refine ai.bO ?_; first | with_reducible rfl | (simp only[Co,World.size_setCell,World.size_drew]; done)) | with_reducible refine ai.alloc ?_ _ | with_reducible refine ai.drew ?_ | with_reducible refine ai.drewN ?_ _ | with_reducible apply ai.both | with_reducible refine ai.aG ?_ ?_ | (show _≠_; omega))))
   (first
    | ((go_at_call 196; refine(Gc _ (pa.ae zi) (pb.ae zi) (by have:=HF.out; unfold aE; omega) (by have:=HF.out; unfold aE; omega)).mono ?_; rintro e E ⟨v1,l1,rfl,bq,cy,dd,be⟩; have d9:=C5 cy; clear cy; go_must (have st:zf _ E:=be; have Bn:=bA w st; have na:ai E w.heap.size 26 #[Cx I,Cq aa n ca]:=ai.aw st; have nb:ai E (w.heap.size+1) 26 #[Cx I,Cq ab m cb]:=ai.aw st; have nr:ai E (w.heap.size+1+1) 26 #[Cx false,Cq none 0 0]:=ai.aw st; clear st; have B:=Bn; clear Bn; have M:=na; clear na; have b9:Cn E ⟨w.heap.size,0,none⟩=some (Cx I):=M.c 0 rfl; have ah:Cn E ⟨w.heap.size,1,none⟩=some (Cq aa n ca):=M.c 1 rfl; have fa:=M.fr; have la:=M.lt; have J:=nb; clear nb; have Z:Cn E ⟨w.heap.size+1,0,none⟩=some (Cx I):=J.c 0 rfl; have N:Cn E ⟨w.heap.size+1,1,none⟩=some (Cq ab m cb):=J.c 1 rfl; have fb:=J.fr; have lb:=J.lt; have or:=nr; clear nr; have a9:Cn E ⟨w.heap.size+1+1,0,none⟩=some (Cx false):=or.c 0 rfl; have T:Cn E ⟨w.heap.size+1+1,1,none⟩=some (Cq none 0 0):=or.c 1 rfl; have fr:=or.fr; have lr:=or.lt)))
    | ((go_at_call 139; refine(qr I _ bq (by have:=HF.out; unfold aE; omega)).mono ?_; rintro e E ⟨v2,rfl,bf,be⟩; go_must (have st:zf _ E:=be; have Bn:=bA w st; have na:ai E w.heap.size 26 #[Cx I,Cq aa n ca]:=ai.aw st; have nb:ai E (w.heap.size+1) 26 #[Cx I,Cq ab m cb]:=ai.aw st; have nr:ai E (w.heap.size+1+1) 26 #[Cx false,Cq none 0 0]:=ai.aw st; clear B M J or b9 ah fa la Z N fb lb a9 T fr lr; clear st; have B:=Bn; clear Bn; have M:=na; clear na; have b9:Cn E ⟨w.heap.size,0,none⟩=some (Cx I):=M.c 0 rfl; have ah:Cn E ⟨w.heap.size,1,none⟩=some (Cq aa n ca):=M.c 1 rfl; have fa:=M.fr; have la:=M.lt; have J:=nb; clear nb; have Z:Cn E ⟨w.heap.size+1,0,none⟩=some (Cx I):=J.c 0 rfl; have N:Cn E ⟨w.heap.size+1,1,none⟩=some (Cq ab m cb):=J.c 1 rfl; have fb:=J.fr; have lb:=J.lt; have or:=nr; clear nr; have a9:Cn E ⟨w.heap.size+1+1,0,none⟩=some (Cx false):=or.c 0 rfl; have T:Cn E ⟨w.heap.size+1+1,1,none⟩=some (Cq none 0 0):=or.c 1 rfl; have fr:=or.fr; have lr:=or.lt; obtain⟨bb,ci,n2,c2,rfl⟩:=bf.au))))
  have ce:=C5 bf;clear bf
  go_wp2
  refine Ci (by simp[results,Tryz.results192,go_sem,b9,ah,fa,la,Z,N,fb,lb,a9,T,fr,lr]; rfl) rfl ?_;have e:=Hz.out l1 d9.out;exact⟨_,Z9 rfl (by rw[e]),by rw[<- e]; exact ce.out.aL or,zi⟩
 .
  have bi:I = !gy:=by cases I<;>cases gy<;>simp_all
  obtain⟨c,hc⟩:∃c,zI (zh x) (zh y)=c:=⟨_,rfl⟩;have cc:=jf (zh x) (zh y);rw[hc]at cc;have CC:=C5 cc;have h0:=zt x;have cx:=zt y
  rcases Int.lt_or_le c 0 with cY | cY
  focus
   have bl:zh x<=zh y:=B_
   have hz:zv gy (zj (zn (zh y-zh x)))=x+y:=by
    rw[zA B_];have h1:=HS.out.1;have h2:=HS.out.2;have h3:=HX.out;unfold zv
    cases I
    .
     cases gy
     . simp at bi
     . simp at h1 h2; simp only[Bool.false_eq_true,if_false,if_true]; omega
    .
     cases gy
     . simp at h1 h2; simp only[Bool.false_eq_true,if_false,if_true]; omega
     . simp at bi
   have bg:(zn (zh x)).length<=(zn (zh y)).length:=by
    rcases Cm (zn (zh y)).length (zn (zh x)).length with g | g
    . have:=z6 (zt y) (zt x) g; omega
    . exact g
   have bt:(zn (zh y-zh x)).length<=aE:=by
    have h5:(zn (zh y-zh x)).length<=(zn (zh y)).length:=by
     rcases Cm (zn (zh y)).length (zn (zh y-zh x)).length with g | g
     . have:=z6 (zt y) (show 0<=zh y-zh x by omega) g; omega
     . exact g
    have:=HF.out; unfold aE; omega
   have Hz:=C5 hz;have HC:=C5 hc
   have mi:∀H,aA H (Cq aa n ca) (zn (zh x))->aA H (Cq ab m cb) (zn (zh y))->Cb Ch 197 #[Cq ab m cb,Cq aa n ca] H fun e w2=>∃v,e = Cg v/\aA w2 v (zn (zh y-zh x))/\zf H w2:=fun H h1 h2=>by
    have:=Kr H h2 h1 (by have:=HF.out; unfold aE; omega) bg (by rw[HL.out.1,HL.out.2]; exact bl);rw[HL.out.1,HL.out.2]at this;exact this
   have bh:∀H,aA H (Cq aa n ca) (zn (zh x))->aA H (Cq ab m cb) (zn (zh y))->Cb Ch 85 #[Cq aa n ca,Cq ab m cb] H fun e w2=>e = Cg (Cz Cv c)/\zf H w2:=fun H h1 h2=>by
    have:=qT H h1 h2 (zt x) (zt y) (by have:=HF.out; unfold aE; omega) (by have:=HF.out; unfold aE; omega);rw[HC.out]at this;exact this
   have cN:(I==gy)=false:=by simp[hs]
   clear hz hc cc bl bg h0 cx bi hs
   go_enter Tryz.func192,Tryz.ntmps192
   go_wp2_with fail
   refine(bh _ (pa.ae zi) (pb.ae zi)).mono ?_;rintro e w1 ⟨rfl,dc⟩;have st:zf _ w1:=dc;have Bn:=bA w st;have M:ai w1 w.heap.size 26 #[Cx I,Cq aa n ca]:=ai.aw st;have J:ai w1 (w.heap.size+1) 26 #[Cx gy,Cq ab m cb]:=ai.aw st;have or:ai w1 (w.heap.size+1+1) 26 #[Cx false,Cq none 0 0]:=ai.aw st;clear st;have B:=Bn;clear Bn;obtain⟨b9,ah,fa,la⟩:=M.s1;obtain⟨Z,N,fb,lb⟩:=J.s1;obtain⟨a9,T,fr,lr⟩:=or.s1;clear bh;go_wp2_with fail
   go_region_held3 (fun H=>H.cell? ⟨w.heap.size,0,none⟩=some (Cx I)/\H.cell? ⟨w.heap.size,1,none⟩=some (Cq aa n ca)/\H.cell? ⟨w.heap.size+1,0,none⟩=some (Cx gy)/\H.cell? ⟨w.heap.size+1,1,none⟩=some (Cq ab m cb))
    ((refine⟨ai.c (t:=26) (cs:=#[Cx I,Cq aa n ca]) ?_ 0 rfl,ai.c (t:=26) (cs:=#[Cx I,Cq aa n ca]) ?_ 1 rfl,ai.c (t:=26) (cs:=#[Cx gy,Cq ab m cb]) ?_ 0 rfl,ai.c (t:=26) (cs:=#[Cx gy,Cq ab m cb]) ?_ 1 rfl⟩<;>(repeat' first | with_reducible assumption | (with_reducible refine ai.bO ?_; first | with_reducible rfl | (simp only[Co,World.size_setCell,World.size_drew]; done)) | with_reducible refine ai.alloc ?_ _ | with_reducible refine ai.drew ?_ | with_reducible refine ai.drewN ?_ _ | with_reducible apply ai.both | with_reducible refine ai.aG ?_ ?_ | (show _≠_; omega))))
    (first
     | ((go_at_call 197; refine(mi _ (pa.ae zi) (pb.ae zi)).mono ?_; rintro e E ⟨v1,rfl,bq,be⟩; go_must (have st:zf _ E:=be; have Bn:=bA w st; have na:ai E w.heap.size 26 #[Cx I,Cq aa n ca]:=ai.aw st; have nb:ai E (w.heap.size+1) 26 #[Cx gy,Cq ab m cb]:=ai.aw st; have nr:ai E (w.heap.size+1+1) 26 #[Cx false,Cq none 0 0]:=ai.aw st; clear B M J or b9 ah fa la Z N fb lb a9 T fr lr; clear st; have B:=Bn; clear Bn; have M:=na; clear na; have b9:Cn E ⟨w.heap.size,0,none⟩=some (Cx I):=M.c 0 rfl; have ah:Cn E ⟨w.heap.size,1,none⟩=some (Cq aa n ca):=M.c 1 rfl; have fa:=M.fr; have la:=M.lt; have J:=nb; clear nb; have Z:Cn E ⟨w.heap.size+1,0,none⟩=some (Cx gy):=J.c 0 rfl; have N:Cn E ⟨w.heap.size+1,1,none⟩=some (Cq ab m cb):=J.c 1 rfl; have fb:=J.fr; have lb:=J.lt; have or:=nr; clear nr; have a9:Cn E ⟨w.heap.size+1+1,0,none⟩=some (Cx false):=or.c 0 rfl; have T:Cn E ⟨w.heap.size+1+1,1,none⟩=some (Cq none 0 0):=or.c 1 rfl; have fr:=or.fr; have lr:=or.lt)))
     | ((go_at_call 139; refine(qr gy _ bq bt).mono ?_; rintro e E ⟨v2,rfl,bf,be⟩; go_must (have st:zf _ E:=be; have Bn:=bA w st; have na:ai E w.heap.size 26 #[Cx I,Cq aa n ca]:=ai.aw st; have nb:ai E (w.heap.size+1) 26 #[Cx gy,Cq ab m cb]:=ai.aw st; have nr:ai E (w.heap.size+1+1) 26 #[Cx false,Cq none 0 0]:=ai.aw st; clear B M J or b9 ah fa la Z N fb lb a9 T fr lr; clear st; have B:=Bn; clear Bn; have M:=na; clear na; have b9:Cn E ⟨w.heap.size,0,none⟩=some (Cx I):=M.c 0 rfl; have ah:Cn E ⟨w.heap.size,1,none⟩=some (Cq aa n ca):=M.c 1 rfl; have fa:=M.fr; have la:=M.lt; have J:=nb; clear nb; have Z:Cn E ⟨w.heap.size+1,0,none⟩=some (Cx gy):=J.c 0 rfl; have N:Cn E ⟨w.heap.size+1,1,none⟩=some (Cq ab m cb):=J.c 1 rfl; have fb:=J.fr; have lb:=J.lt; have or:=nr; clear nr; have a9:Cn E ⟨w.heap.size+1+1,0,none⟩=some (Cx false):=or.c 0 rfl; have T:Cn E ⟨w.heap.size+1+1,1,none⟩=some (Cq none 0 0):=or.c 1 rfl; have fr:=or.fr; have lr:=or.lt; obtain⟨bb,ci,n2,c2,rfl⟩:=bf.au))))
  rotate_left
  focus
   have bl:zh y<=zh x:=B_
   have hz:zv I (zj (zn (zh x-zh y)))=x+y:=by
    rw[zA B_];have h1:=HS.out.1;have h2:=HS.out.2;have h3:=HX.out;unfold zv
    cases I
    .
     cases gy
     . simp at bi
     . simp at h1 h2; simp only[Bool.false_eq_true,if_false,if_true]; omega
    .
     cases gy
     . simp at h1 h2; simp only[Bool.false_eq_true,if_false,if_true]; omega
     . simp at bi
   have bg:(zn (zh y)).length<=(zn (zh x)).length:=by
    rcases Cm (zn (zh x)).length (zn (zh y)).length with g | g
    . have:=z6 (zt x) (zt y) g; omega
    . exact g
   have bt:(zn (zh x-zh y)).length<=aE:=by
    have h5:(zn (zh x-zh y)).length<=(zn (zh x)).length:=by
     rcases Cm (zn (zh x)).length (zn (zh x-zh y)).length with g | g
     . have:=z6 (zt x) (show 0<=zh x-zh y by omega) g; omega
     . exact g
    have:=HF.out; unfold aE; omega
   have Hz:=C5 hz;have HC:=C5 hc
   have mi:∀H,aA H (Cq aa n ca) (zn (zh x))->aA H (Cq ab m cb) (zn (zh y))->Cb Ch 197 #[Cq aa n ca,Cq ab m cb] H fun e w2=>∃v,e = Cg v/\aA w2 v (zn (zh x-zh y))/\zf H w2:=fun H h1 h2=>by
    have:=Kr H h1 h2 (by have:=HF.out; unfold aE; omega) bg (by rw[HL.out.1,HL.out.2]; exact bl);rw[HL.out.1,HL.out.2]at this;exact this
   have bh:∀H,aA H (Cq aa n ca) (zn (zh x))->aA H (Cq ab m cb) (zn (zh y))->Cb Ch 85 #[Cq aa n ca,Cq ab m cb] H fun e w2=>e = Cg (Cz Cv c)/\zf H w2:=fun H h1 h2=>by
    have:=qT H h1 h2 (zt x) (zt y) (by have:=HF.out; unfold aE; omega) (by have:=HF.out; unfold aE; omega);rw[HC.out]at this;exact this
   have cN:(I==gy)=false:=by simp[hs]
   clear hz hc cc bl bg h0 cx bi hs
   go_enter Tryz.func192,Tryz.ntmps192
   go_wp2_with fail
   refine(bh _ (pa.ae zi) (pb.ae zi)).mono ?_;rintro e w1 ⟨rfl,st⟩;have Bn:=bA w st;have M:ai w1 w.heap.size 26 #[Cx I,Cq aa n ca]:=ai.aw st;have J:ai w1 (w.heap.size+1) 26 #[Cx gy,Cq ab m cb]:=ai.aw st;have or:ai w1 (w.heap.size+1+1) 26 #[Cx false,Cq none 0 0]:=ai.aw st;clear st;have B:=Bn;clear Bn;obtain⟨b9,ah,fa,la⟩:=M.s1;obtain⟨Z,N,fb,lb⟩:=J.s1;obtain⟨a9,T,fr,lr⟩:=or.s1;clear bh;go_wp2_with fail
   go_region_held3 (fun H=>H.cell? ⟨w.heap.size,0,none⟩=some (Cx I)/\H.cell? ⟨w.heap.size,1,none⟩=some (Cq aa n ca)/\H.cell? ⟨w.heap.size+1,0,none⟩=some (Cx gy)/\H.cell? ⟨w.heap.size+1,1,none⟩=some (Cq ab m cb))
    ((refine⟨ai.c (t:=26) (cs:=#[Cx I,Cq aa n ca]) ?_ 0 rfl,ai.c (t:=26) (cs:=#[Cx I,Cq aa n ca]) ?_ 1 rfl,ai.c (t:=26) (cs:=#[Cx gy,Cq ab m cb]) ?_ 0 rfl,ai.c (t:=26) (cs:=#[Cx gy,Cq ab m cb]) ?_ 1 rfl⟩<;>(repeat' first | with_reducible assumption | (with_reducible refine ai.bO ?_; first | with_reducible rfl | (simp only[Co,World.size_setCell,World.size_drew]; done)) | with_reducible refine ai.alloc ?_ _ | with_reducible refine ai.drew ?_ | with_reducible refine ai.drewN ?_ _ | with_reducible apply ai.both | with_reducible refine ai.aG ?_ ?_ | (show _≠_; omega))))
    (first
     | ((go_at_call 197; refine(mi _ (pa.ae zi) (pb.ae zi)).mono ?_; rintro e E ⟨v1,rfl,bq,be⟩; go_must (have st:zf _ E:=be; have Bn:=bA w st; have na:ai E w.heap.size 26 #[Cx I,Cq aa n ca]:=ai.aw st; have nb:ai E (w.heap.size+1) 26 #[Cx gy,Cq ab m cb]:=ai.aw st; have nr:ai E (w.heap.size+1+1) 26 #[Cx false,Cq none 0 0]:=ai.aw st; clear B M J or b9 ah fa la Z N fb lb a9 T fr lr; clear st; have B:=Bn; clear Bn; have M:=na; clear na; have b9:Cn E ⟨w.heap.size,0,none⟩=some (Cx I):=M.c 0 rfl; have ah:Cn E ⟨w.heap.size,1,none⟩=some (Cq aa n ca):=M.c 1 rfl; have fa:=M.fr; have la:=M.lt; have J:=nb; clear nb; have Z:Cn E ⟨w.heap.size+1,0,none⟩=some (Cx gy):=J.c 0 rfl; have N:Cn E ⟨w.heap.size+1,1,none⟩=some (Cq ab m cb):=J.c 1 rfl; have fb:=J.fr; have lb:=J.lt; have or:=nr; clear nr; have a9:Cn E ⟨w.heap.size+1+1,0,none⟩=some (Cx false):=or.c 0 rfl; have T:Cn E ⟨w.heap.size+1+1,1,none⟩=some (Cq none 0 0):=or.c 1 rfl; have fr:=or.fr; have lr:=or.lt)))
     | ((go_at_call 139; refine(qr I _ bq bt).mono ?_; rintro e E ⟨v2,rfl,bf,be⟩; go_must (have st:zf _ E:=be; have Bn:=bA w st; have na:ai E w.heap.size 26 #[Cx I,Cq aa n ca]:=ai.aw st; have nb:ai E (w.heap.size+1) 26 #[Cx gy,Cq ab m cb]:=ai.aw st; have nr:ai E (w.heap.size+1+1) 26 #[Cx false,Cq none 0 0]:=ai.aw st; clear B M J or b9 ah fa la Z N fb lb a9 T fr lr; clear st; have B:=Bn; clear Bn; have M:=na; clear na; have b9:Cn E ⟨w.heap.size,0,none⟩=some (Cx I):=M.c 0 rfl; have ah:Cn E ⟨w.heap.size,1,none⟩=some (Cq aa n ca):=M.c 1 rfl; have fa:=M.fr; have la:=M.lt; have J:=nb; clear nb; have Z:Cn E ⟨w.heap.size+1,0,none⟩=some (Cx gy):=J.c 0 rfl; have N:Cn E ⟨w.heap.size+1,1,none⟩=some (Cq ab m cb):=J.c 1 rfl; have fb:=J.fr; have lb:=J.lt; have or:=nr; clear nr; have a9:Cn E ⟨w.heap.size+1+1,0,none⟩=some (Cx false):=or.c 0 rfl; have T:Cn E ⟨w.heap.size+1+1,1,none⟩=some (Cq none 0 0):=or.c 1 rfl; have fr:=or.fr; have lr:=or.lt; obtain⟨bb,ci,n2,c2,rfl⟩:=bf.au))))
  rotate_left
  all_goals
   have ce:=C5 bf;clear bf
   go_wp2
   refine Ci (by simp[results,Tryz.results192,go_sem,b9,ah,fa,la,Z,N,fb,lb,a9,T,fr,lr]; rfl) rfl ?_;exact⟨_,Z9 rfl (by rw[Hz.out]),by have:=ce.out; rw[Hz.out]at this; exact this.aL or,zi⟩
end Go.Proofs.YtffmbepfbienaaaGreat
