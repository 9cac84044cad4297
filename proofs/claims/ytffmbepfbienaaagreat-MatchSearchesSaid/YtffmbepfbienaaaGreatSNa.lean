import Derived.Test.YtffmbepfbienaaaGreatSWa
set_option linter.unusedVariables false
set_option linter.unusedSimpArgs false
set_option maxHeartbeats 6400000
set_option maxRecDepth 1000000
open Go.Value renaming slice->Ex,bool->Ez,int->Ey,tuple->Ev
open Go.IntKind renaming i64->Ew,u32->Eu
open Go.Ending renaming returned->Eh
open Go.Proofs.Tryz renaming prog->Ec
open Go renaming Calls->Ed,World->Ee,Value->Ef,bodyPost_ret->En
open Nat renaming le_refl->Eo,lt_or_ge->Ep
open Go.World renaming cell?->Er,size_alloc->Es
namespace Go.Proofs.YtffmbepfbienaaaGreat
open Go.RowKit
variable {a neg:Bool} {z:Int} {l:List Int} {c n r:Nat} {ao:Option Addr} {t:TypeId} {s u u' v:Ef} {w:Ee}
def zv (neg:Bool) (m:Int):Int:=if neg then -m else m
def zi (z:Int):Int:=((z.natAbs:Nat):Int)
def fits (z:Int):Prop:=(zp (zi z)).length<=4096
instance (z:Int):Decidable (fits z):=inferInstanceAs (Decidable (_<=_))
def qX (z:Int):Int:=if fits z then 0 else 16
def xp (z:Int):Int:=if fits z then z else 0
def az (w:Ee) (v:Ef) (z:Int):Prop:=∃s,v = .agg #[Ez (decide (z<0)),s]/\aA w s (zp (zi z))
theorem az.ae {E:Ee} (h:az w v z) (H:zf w E):az E v z:=by
 obtain⟨s,e,I⟩:=h;exact⟨s,e,I.ae H⟩
theorem xV (neg:Bool) {m:Int} (h:0<=m):zi (zv neg m)=m:=by unfold zi zv; split<;>omega
theorem GR (neg:Bool) {m:Int} (h:0<=m):decide (zv neg m<0)=(neg&&decide (0<m)):=by
 unfold zv
 cases neg
 . simp; omega
 . simp
theorem VC (h:yB l):0<(zQ l).length↔0<zo l:=by
 have H:=yt h;have E:=zY (zE h);have I:=zE h;rw[H]at E;rw[List.length_pos_iff]
 constructor
 .
  intro e
  rcases Int.lt_or_le 0 (zo l)with g | g
  . exact g
  . exact absurd (E.2 D5) e
 .
  intro e g;have:=E.1 g;omega
theorem az.zero (w:Ee):az w (.agg #[Ez false,Ex none 0 0]) 0:=⟨_,rfl,aA.nil w⟩
theorem az.of {b:Bool} (H:aA w s (zQ l)) (E:yB l) (I:b=(neg&&decide (0<(zQ l).length))):az w (.agg #[Ez b,s]) (zv neg (zo l)):=by
 refine⟨s,?_,?_⟩
 .
  rw[GR neg (zE E),I]
  congr 3
  have:=VC E
  by_cases g:0<(zQ l).length
  . simp[g,this.1 g]
  . simp[g,show ¬0<zo l from fun h=>g (this.2 h)]
 . rw[xV neg (zE E),yt E]; exact H
theorem XQ (neg:Bool) {l:List Int} (h:yB l):fits (zv neg (zo l))↔(zQ l).length<=4096:=by
 unfold fits;rw[xV neg (zE h),yt h]
theorem aA.aN (h:aA w v l) (T:ai w r t #[Ez a,Ex ao n c]) :
  aA ((w.setCell ⟨r,0,none⟩ u).setCell ⟨r,1,none⟩ u') v l:=by
 obtain⟨h0,I,cap,rfl,N,X,M⟩:=h;refine⟨h0,I,cap,rfl,N,X,fun J=> ?_⟩;obtain⟨b,o,rfl,H,hc⟩:=M J
 have E:b≠r:=by
  rintro rfl;have g:=hc 0 (List.length_pos_iff.2 J);rw[T.cell]at g
  match o,g with
  | 0,g=>simp at g
  | 1,g=>simp at g
  | o+2,g=>simp at g
 refine⟨b,o,rfl,by simpa[World.setCell]using H,(hc.set (g:=r) E).set E⟩
theorem az.aN (h:az w v z) (E:ai w r t #[Ez a,Ex ao n c]) :
  az ((w.setCell ⟨r,0,none⟩ u).setCell ⟨r,1,none⟩ u') v z:=by
 obtain⟨s,e,H⟩:=h;exact⟨s,e,H.aN E⟩
theorem az.aK (h:az w v z) (o:Obj):az (w.alloc o) v z:=h.ae ((Below.refl _ _).alloc (Eo _) _)
theorem az.cI (h:az w v z):az w.drew v z:=h
theorem Y7 {a b:Ef} {x y:Int} (h:a=b) (g:x=y):Ending.returned (Ev #[a,Ey Ew x]) = Eh (Ev #[b,Ey Ew y]):=by rw[h,g]
theorem qY (neg:Bool) {s:Ef} {l:List Int} (w:Ee) (hs:aA w s l) (nl:l.length<=zP) :
  Ed Ec 139 #[Ez neg,s] w fun e w'=>∃v,e = Eh (Ev #[v,Ey Ew (qX (zv neg (zo l)))])/\az w' v (xp (zv neg (zo l)))/\zf w w':=by
 have ok:=hs.ok;have nt:=vY l;unfold zP at nl;obtain⟨n,hn⟩:∃n,(zQ l).length=n:=⟨_,rfl⟩;have X:=XQ neg ok
 have F1:Hid (n<=4096->qX (zv neg (zo l))=0/\xp (zv neg (zo l))=zv neg (zo l)):=fun h=>by
  have g:fits (zv neg (zo l)):=X.2 D5;exact⟨E8 g,E8 g⟩
 have Z:Hid (4096<n->qX (zv neg (zo l))=16/\xp (zv neg (zo l))=0):=fun h=>by
  have g:¬fits (zv neg (zo l)):=fun g=>by have:=X.1 g; omega
  exact⟨E9 g,E9 g⟩
 have HO:=E6 ok;have N:=E6 hn;clear X ok hn
 go_enter Tryz.func139,Tryz.ntmps139
 go_wp2_with fail
 refine(Ys _ (hs.ae zh) (by unfold zP; omega)).mono ?_;rintro e w1 ⟨v1,rfl,E,st⟩;have Bn:=bA w st;have or:ai w1 w.heap.size 26 #[Ez false,Ex none 0 0]:=ai.aw st;clear st;have B:=Bn;clear Bn;obtain⟨I,H,fr,T⟩:=or.s1;have HV:=E6 E;obtain⟨ao,cap,J⟩:=E.ak;rw[N.out]at J;subst J;have a9:=N.out;clear E
 rcases Ep 4096 n with M | M
 .
  go_wp2
  refine En (by simp[results,Tryz.results139,go_sem,I,H,fr,T]; rfl) rfl ?_;exact⟨_,Y7 rfl (Z.out M).1.symm,by rw[(Z.out M).2]; exact az.zero _,zh⟩
 .
  have F:=F1.out M
  rcases Nat.eq_zero_or_pos n with Y | Y
  .
   subst Y
   cases neg
   all_goals
    go_wp2
    refine En (by simp[results,Tryz.results139,go_sem,I,H,fr,T]; rfl) rfl ?_;exact⟨_,Y7 rfl F.1.symm,by rw[F.2]; exact az.of (HV.out.aN or) HO.out (by rw[N.out]; rfl),zh⟩
  .
   cases neg
   all_goals
    go_wp2
    refine En (by simp[results,Tryz.results139,go_sem,I,H,fr,T]; rfl) rfl ?_;exact⟨_,Y7 rfl F.1.symm,by rw[F.2]; exact az.of (HV.out.aN or) HO.out (by rw[N.out]; simp[Y]),zh⟩
def zS (neg:Bool) (l:List Int):Prop:=l.length<=4096/\zQ l=l/\(l = []->neg=false)
instance (neg:Bool) (l:List Int):Decidable (zS neg l):=inferInstanceAs (Decidable (_/\_/\_))
def yZ (p:Prop) [Decidable p]:Int:=if p then 0 else 8
theorem Xj {k:Nat} (h:l.length=k+1):zQ l=l↔l.getD k 0≠0:=by
 constructor
 . intro e; exact ZD e h
 .
  intro e;have E:l≠ []:=by rintro rfl; cases h
  refine kZ E ?_;rw[List.getLast_eq_getElem];simpa[List.getD,h]using e
theorem qB (h:aA w s l) (hv:zS neg l):az w (.agg #[Ez neg,s]) (zv neg (zo l)):=by
 refine az.of (by rw[hv.2.1]; exact h) h.ok ?_;rw[hv.2.1]
 cases neg
 . rfl
 .
  have:l≠ []:=fun e=>by have:=hv.2.2 e; cases this
  simp[List.length_pos_iff.2 this]
theorem qC (ok:yB l) (hv:zS neg l):fits (zv neg (zo l)):=by
 rw[XQ neg ok,hv.2.1]; exact hv.1
theorem xD (h:fits z):zS (decide (z<0)) (zp (zi z)):=by
 refine⟨h,qi _,fun e=> ?_⟩;have h0:0<=zi z:=by unfold zi; omega
 have:=(zY h0).1 e;unfold zi at this;simp; omega
theorem je (neg:Bool) {s:Ef} {l:List Int} (w:Ee) (X:aA w s l) :
  Ed Ec 124 #[.agg #[Ez neg,s]] w fun e w'=>e = Eh (Ey Ew (yZ (zS neg l)))/\zf w w':=by
 obtain⟨ao,cap,rfl⟩:=X.ak;obtain⟨ok,-,Z,M⟩:=X.cells;obtain⟨n,E⟩:∃n,l.length=n:=⟨_,rfl⟩;rw[E]at Z M|-;clear X
 rcases Ep 4096 n with Y | Y
 .
  have H:Hid (yZ (zS neg l)=8):=E9 (fun h=>by have:=h.1; omega)
  go_enter Tryz.func124,Tryz.ntmps124
  go_wp2
  go_returns
  exact⟨yK H.out.symm,zh⟩
 .
  match n,E with
  | 0,E=>
   obtain rfl:=List.eq_nil_of_length_eq_zero E
   cases neg
   .
    have H:Hid (yZ (zS false [])=0):=E8 ⟨by simp,rfl,fun _=>rfl⟩;clear M
    go_enter Tryz.func124,Tryz.ntmps124
    go_wp2
    go_returns
    exact⟨yK H.out.symm,zh⟩
   .
    have H:Hid (yZ (zS true [])=8):=E9 (fun h=>by have:=h.2.2 rfl; cases this);clear M
    go_enter Tryz.func124,Tryz.ntmps124
    go_wp2
    go_returns
    exact⟨yK H.out.symm,zh⟩
  | k+1,E=>
   obtain⟨b,o,rfl,hb,hc⟩:=M D5;have J:=Xj E;have g:=hc k D5;obtain⟨x,T⟩:∃x,l.getD k 0=x:=⟨_,rfl⟩;rw[T]at g J
   have g2:(w.alloc (.cells #[Ez neg,Ex (some ⟨b,o,none⟩) (k+1) cap] 26)).cell? ⟨b,o+k,none⟩=some (Ey Eu x):=by
    rw[<- g]; exact World.cell?_of_block (Below.heap_alloc _ _ _ hb)
   have N:l≠ []:=by rintro rfl; cases E
   clear hc M
   rcases Int.decEq x 0 with I | I
   .
    have a9:(x==0)=false:=by simp[I]
    have H:Hid (yZ (zS neg l)=0):=E8 ⟨by omega,J.2 I,fun e=>absurd e N⟩;clear J T
    go_enter Tryz.func124,Tryz.ntmps124
    go_wp2
    go_returns
    exact⟨yK H.out.symm,zh⟩
   .
    have H:Hid (yZ (zS neg l)=8):=E9 (fun h=>J.1 h.2.1 I);clear J T;subst I
    go_enter Tryz.func124,Tryz.ntmps124
    go_wp2
    go_returns
    exact⟨yK H.out.symm,zh⟩
end Go.Proofs.YtffmbepfbienaaaGreat
/- The program's side (wide): trim, made, Add32. -/
namespace Go.Proofs.YtffmbepfbienaaaGreat
open Go.RowKit
variable {x y z:Int} {A B xs:List Int} {k m:Nat} {a b v va vb:Ef} {w:Ee}
theorem Xk {l:List Int} (w:Ee) (J:aA w a l) (nl:l.length<=zP) :
  Ed Ec 133 #[a] w fun e w'=>∃v,e = Eh v/\aA w' v (zQ l)/\zf w w':=by
 obtain⟨aa,ca,rfl⟩:=J.ak;obtain⟨ol,-,la,N⟩:=J.cells;have HL:Hid (aA w (Ex aa l.length ca) l):=J;clear J;unfold zP at nl;obtain⟨n,X⟩:∃n,l.length=n:=⟨_,rfl⟩;have H:Hid (l.length=n):=X;rw[X]at N la nl;rw[X];clear X
 go_enter Tryz.func133,Tryz.ntmps133
 go_wp2
 go_loopw [3] (fun i wr=>∃k:Nat,k<=n/\i = Ey Ew k/\zQ (l.take k)=zQ l/\Below w.heap.size w wr) (fun i _=>(intOf i).toNat)
 case atStart=>exact⟨n,Eo _,rfl,by rw[List.take_of_length_le (by have:=H.out; omega)],Below.refl _ _⟩
 case round=>
  obtain⟨k,hk,rfl,hd,E⟩:=hrel;have T:Hid (zQ (l.take k)=zQ l):=hd;clear hd
  have fin:zQ l=l.take k->aA wr (Ex aa k ca) (zQ l):=fun e=>by
   have h1:=H.out;rw[e];have:=HL.out;rw[H.out]at this;exact(this.ae E).take D5
  rcases Nat.eq_zero_or_pos k with rfl | hp
  .
   have L0:=E6 (fin (by rw[<- T.out]; rfl));clear fin
   go_wp2
   go_returns
   exact⟨_,rfl,L0.out,E⟩
  .
   obtain⟨j,rfl⟩:∃j,k=j+1:=⟨k-1,by omega⟩;obtain⟨ba,Z,rfl,a9,I⟩:=N D5;have g1:=(E.cell (p:=⟨ba,Z+j,none⟩) a9).trans (I j (by rw[H.out]; omega));obtain⟨u,Y⟩:∃u,l.getD j 0=u:=⟨_,rfl⟩;rw[Y]at g1;have HU:Hid (l.getD j 0=u):=Y;have M:j<l.length:=by have:=H.out; omega
   rcases Int.decEq u 0 with ah | rfl
   .
    have L0:=E6 (fin (by rw[<- T.out]; exact j_ M (by rw[HU.out]; exact ah)));clear fin I N Y M
    go_wp2
    go_returns
    exact⟨_,rfl,L0.out,E⟩
   .
    have T2:Hid (zQ (l.take j)=zQ l):=by rw[<- T.out]; exact(j9 M HU.out).symm
    clear fin I N Y M
    go_wp2
    go_roundw
    case rel=>exact⟨j,by omega,by go_num,T2.out,E⟩
    case measure=>simp[intOf]
theorem WK (x y c:Int) (w:Ee) (I:0<=x/\x<4294967296) (H:0<=y/\y<4294967296) (J:0<=c/\c<=1) :
  Ed Ec 184 #[Ey Eu x,Ey Eu y,Ey Eu c] w fun e E=>e = Eh (Ev #[Ey Eu ((x+y+c)%4294967296),Ey Eu ((x+y+c) / 4294967296)])/\E=w:=by
 go_enter Tryz.func184,Tryz.ntmps184
 go_wp2
 go_returns
 exact⟨rfl,rfl⟩
theorem WL (v:BitVec 32):BitVec.ofInt 32 ((v.toNat:Nat):Int)=v:=by simp
theorem Qw (a b:Int):bits .and Eu a b=(((BitVec.ofInt 32 a &&& BitVec.ofInt 32 b).toNat:Nat):Int):=by
 show IntKind.u32.wrap (((BitVec.ofInt 32 a &&& BitVec.ofInt 32 b).toNat:Nat):Int)=_
 rw[IntKind.wrap_u32];have:=(BitVec.ofInt 32 a &&& BitVec.ofInt 32 b).isLt;exact Int.emod_eq_of_lt D5 D5
theorem JJ (a b:Int):bits .or Eu a b=(((BitVec.ofInt 32 a ||| BitVec.ofInt 32 b).toNat:Nat):Int):=by
 show IntKind.u32.wrap (((BitVec.ofInt 32 a ||| BitVec.ofInt 32 b).toNat:Nat):Int)=_
 rw[IntKind.wrap_u32];have:=(BitVec.ofInt 32 a ||| BitVec.ofInt 32 b).isLt;exact Int.emod_eq_of_lt D5 D5
theorem Qx (a b:Int):bits .xor Eu a b=(((BitVec.ofInt 32 a ^^^ BitVec.ofInt 32 b).toNat:Nat):Int):=by
 show IntKind.u32.wrap (((BitVec.ofInt 32 a ^^^ BitVec.ofInt 32 b).toNat:Nat):Int)=_
 rw[IntKind.wrap_u32];have:=(BitVec.ofInt 32 a ^^^ BitVec.ofInt 32 b).isLt;exact Int.emod_eq_of_lt D5 D5
theorem GS (v:BitVec 32):((v.toNat:Nat):Int) / 2147483648=if v.msb then 1 else 0:=by
 have:=v.isLt;rw[BitVec.msb_eq_decide]
 by_cases h:2^(32-1)<=v.toNat
 . simp only[h,decide_true,if_true]; omega
 . simp only[h,decide_false,Bool.false_eq_true,if_false]; omega
theorem XR (h:0<=x/\x<4294967296):(BitVec.ofInt 32 x).msb=decide (2147483648<=x):=by
 obtain⟨n,rfl⟩:=Int.eq_ofNat_of_zero_le h.1;rw[BitVec.ofInt_natCast,BitVec.msb_eq_decide,BitVec.toNat_ofNat,Nat.mod_eq_of_lt D5]
 by_cases g:2147483648<=n
 . rw[E_ (show 2^(32-1)<=n by omega),E_ D5]
 . rw[E' (show ¬2^(32-1)<=n by omega),E' D5]
theorem JK (x y c:Int) (I:0<=x/\x<4294967296) (H:0<=y/\y<4294967296) (J:0<=c/\c<=1) :
  bits BinOp.or IntKind.u32 (bits BinOp.and IntKind.u32 (bits BinOp.xor IntKind.u32 IntKind.u32.max x) y)
   (bits BinOp.and IntKind.u32 (bits BinOp.xor IntKind.u32 IntKind.u32.max (bits BinOp.xor IntKind.u32 x y)) ((x-y-c)%4294967296)) / 2147483648=if x-y-c<0 then 1 else 0:=by
 have E:IntKind.u32.max=4294967295:=by decide
 rw[E];simp only[Qw,JJ,Qx,WL];rw[GS];simp only[BitVec.msb_or,BitVec.msb_and,BitVec.msb_xor];rw[XR I,XR H,XR (show 0<=(x-y-c)%4294967296/\(x-y-c)%4294967296<4294967296 by omega),XR (show (0:Int)<=4294967295/\(4294967295:Int)<4294967296 by omega)]
 by_cases hx:2147483648<=x<;>by_cases hy:2147483648<=y<;>by_cases hd:2147483648<=(x-y-c)%4294967296<;>simp[hx,hy,hd]<;>omega
theorem GT (x y c:Int) (w:Ee) (J:0<=x/\x<4294967296) (I:0<=y/\y<4294967296) (H:0<=c/\c<=1) :
  Ed Ec 185 #[Ey Eu x,Ey Eu y,Ey Eu c] w fun e M=>e = Eh (Ev #[Ey Eu ((x-y-c)%4294967296),Ey Eu (if x-y-c<0 then 1 else 0)])/\M=w:=by
 have S:=E6 (JK x y c J I H);obtain⟨b,E⟩:∃b:Int,(if x-y-c<0 then 1 else 0:Int)=b:=⟨_,rfl⟩;rw[E]at S|-;clear E
 go_enter Tryz.func185,Tryz.ntmps185
 go_wp2
 go_returns
 exact⟨by rw[<- S.out]; rfl,rfl⟩
theorem kr (h:xs.length=k):(zI xs++List.replicate (m+1) (Value.int Eu 0)).toArray[k]? = some (Ey Eu 0):=by
 subst h;simp[zI,List.getElem?_append,List.getElem?_replicate]
theorem qD (n:Nat):(zI (List.replicate n 0))=zI []++List.replicate n (Value.int Eu 0):=by simp[zI]
theorem JL (w:Ee) (ha:aA w a A) (hb:aA w b B) (nA:A.length<=zP) (nB:B.length<=zP) (ah:B.length<=A.length) :
  Ed Ec 159 #[a,b] w fun e w'=>∃v l,e = Eh v/\aA w' v l/\zo l=zo A+zo B/\l.length=max A.length B.length+1/\zf w w':=by
 obtain⟨aa,ca,rfl⟩:=ha.ak;obtain⟨ab,cb,rfl⟩:=hb.ak;obtain⟨oA,-,lA,fA⟩:=ha.cells;obtain⟨oB,-,lB,fB⟩:=hb.cells;clear ha hb;unfold zP at nA nB;obtain⟨J,hU⟩:∃n,A.length=n:=⟨_,rfl⟩;obtain⟨nV,hV⟩:∃n,B.length=n:=⟨_,rfl⟩;have H:Hid (A.length=J/\B.length=nV):=⟨hU,hV⟩;rw[hU]at nA lA fA ah;rw[hV]at nB lB fB ah;rw[hU,hV];clear hU hV;have aX:=xT (J+1) D5;simp only[Int.natCast_add,Int.natCast_one]at aX;have Z0:(w.alloc (.cells (madeCells #[Ey Eu 0] (J+1)) 172)).heap.size=w.heap.size+1:=Es _ _;have B0:Below w.heap.size w (w.alloc (.cells (madeCells #[Ey Eu 0] (J+1)) 172)):=(Below.refl _ _).alloc (Eo _) _
 have K0:ai (w.alloc (.cells (madeCells #[Ey Eu 0] (J+1)) 172)) w.heap.size 172 (zI []++List.replicate (J+1) (Value.int Eu 0)).toArray:=by
  have:=ai.new w 172 (madeCells #[Ey Eu 0] (J+1));rw[yH,qD]at this;rw[yH,qD];exact this
 have bt:decide (J<nV)=false:=E' D5;have br:decide ((J:Int)<(nV:Int))=false:=E' D5
 go_enter Tryz.func159,Tryz.ntmps159
 go_wp2
 go_loopw [6,7,8,9,23] (fun c i x y kk wr=>∃ (k:Nat) (xs:List Int) (N:Int),k<=J/\kk = Ey Ew k/\c = Ey Eu N/\0<=N/\N<=1/\xs.length=k/\yB xs/\zo xs+bp k*N=zo (A.take k)+zo (B.take k)/\
   ai wr w.heap.size 172 (zI xs++List.replicate (J-k+1) (Value.int Eu 0)).toArray/\Below w.heap.size w wr) (fun _ _ _ _ k _=>(J-(intOf k).toNat))
 case atStart=>exact⟨0,[],0,Nat.zero_le _,rfl,rfl,by omega,by omega,rfl,yg,by simp[zo],K0,B0⟩
 case round=>
  obtain⟨k,xs,N,hk,rfl,rfl,c0,c1,hl,a9,hv,I,T⟩:=hrel;have M:Hid (xs.length=k/\yB xs/\zo xs+bp k*N=zo (A.take k)+zo (B.take k)):=⟨hl,a9,hv⟩;have HK:=E6 I;have HX:=E6 T;have z1:=I.lt;have g4:wr.cell? ⟨w.heap.size,k,none⟩=some (Ey Eu 0):=I.c _ (kr hl);have g5:wr.frozen? ⟨w.heap.size,k,none⟩=false:=I.fr _;clear aX Z0 B0 K0 hl a9 hv;obtain⟨u,hu⟩:∃u,A.getD k 0=u:=⟨_,rfl⟩;obtain⟨v,hv⟩:∃v,B.getD k 0=v:=⟨_,rfl⟩;have u0:=zG oA k;have v0:=zG oB k;rw[hu]at u0;rw[hv]at v0;have HU:Hid (A.getD k 0=u/\B.getD k 0=v):=⟨hu,hv⟩;have X:nV<=k->v=0:=fun h=>by rw[<- hv]; have:=H.out.2; simp[List.getD,List.getElem?_eq_none (show B.length<=k by omega)]
  rcases Ep k J with h1 | h1
  .
   obtain⟨ba,be,rfl,bh,Z⟩:=fA D5;have g1:=(T.cell (p:=⟨ba,be+k,none⟩) bh).trans (Z k (by rw[H.out.1]; omega));rw[hu]at g1;have S0:∀s,s=u+v+N->Hid (zo (xs ++ [s%4294967296])+bp (k+1)*(s / 4294967296)=zo (A.take (k+1))+zo (B.take (k+1))):=fun s h=>qA (s:=s) M.out.1 M.out.2.2 (by rw[HU.out.1,HU.out.2]; exact h)
   rcases Ep k nV with h2 | h2
   .
    obtain⟨bb,bl,rfl,bi,b9⟩:=fB D5;have g2:=(T.cell (p:=⟨bb,bl+k,none⟩) bi).trans (b9 k (by rw[H.out.2]; omega));rw[hv]at g2;have S:=S0 _ rfl;clear Z b9 fA fB hu hv X I T S0
    go_wp2_with (go_at_call 184; refine(WK _ _ _ _ D5 D5 D5).mono ?_; rintro e w' ⟨rfl,rfl⟩)
    go_roundw
    case rel=>
     refine⟨k+1,xs ++ [(u+v+N)%4294967296],(u+v+N) / 4294967296,by omega,by go_num,by first | rfl | go_num,by omega,by omega,by rw[List.length_append,M.out.1]; rfl,zZ M.out.2.1 D5 D5,S.out,?_,HX.out.setCell (p:=⟨w.heap.size,k,none⟩) (Eo _) _⟩;have Y:=HK.out;rw[show J-k+1=(J-(k+1)+1)+1 by omega]at Y;exact Y.bF (by first | exact xn xs k _ _ M.out.1 | (simp only[Int.add_zero]; exact xn xs k _ _ M.out.1))
    case measure=>simp[intOf]; omega
   .
    obtain rfl:=X h2;have S:=S0 _ rfl;clear Z fA fB hu hv X I T S0
    go_wp2_with (go_at_call 184; refine(WK _ _ _ _ D5 D5 D5).mono ?_; rintro e w' ⟨rfl,rfl⟩)
    go_roundw
    case rel=>
     refine⟨k+1,xs ++ [(u+0+N)%4294967296],(u+0+N) / 4294967296,by omega,by go_num,by first | rfl | go_num,by omega,by omega,by rw[List.length_append,M.out.1]; rfl,zZ M.out.2.1 D5 D5,S.out,?_,HX.out.setCell (p:=⟨w.heap.size,k,none⟩) (Eo _) _⟩;have Y:=HK.out;rw[show J-k+1=(J-(k+1)+1)+1 by omega]at Y;exact Y.bF (by first | exact xn xs k _ _ M.out.1 | (simp only[Int.add_zero]; exact xn xs k _ _ M.out.1))
    case measure=>simp[intOf]; omega
  .
   clear fA fB hu hv X I T;have bg:k=J:=D5
   subst bg
   go_wp2
   go_returns
   have E:=H.out;have Y:=HK.out;rw[show k-k+1=0+1 by omega]at Y;have aY:=Y.bF (u:= Ey Eu N) (xn xs k 0 N M.out.1);rw[List.replicate_zero,List.append_nil]at aY;have ll:(xs ++ [N]).length=k+1:=by rw[List.length_append,M.out.1]; rfl
   have L:=aA.a_ aY (zZ M.out.2.1 D5 D5);rw[ll]at L;refine⟨_,xs ++ [N],rfl,L,?_,by rw[ll]; omega,HX.out.setCell (p:=⟨w.heap.size,k,none⟩) (Eo _) _⟩;have:=M.out.2.2;rw[List.take_of_length_le D5,List.take_of_length_le D5]at this;rw[y9,M.out.1,this]
theorem JM (w:Ee) (ha:aA w a A) (hb:aA w b B) (nA:A.length<=zP) (nB:B.length<=zP) (a9:A.length<B.length) :
  Ed Ec 159 #[a,b] w fun e w'=>∃v l,e = Eh v/\aA w' v l/\zo l=zo A+zo B/\l.length=max A.length B.length+1/\zf w w':=by
 obtain⟨aa,ca,rfl⟩:=ha.ak;obtain⟨ab,cb,rfl⟩:=hb.ak;obtain⟨oA,-,lA,fA⟩:=ha.cells;obtain⟨oB,-,lB,fB⟩:=hb.cells;clear ha hb;unfold zP at nA nB;obtain⟨J,hU⟩:∃n,B.length=n:=⟨_,rfl⟩;obtain⟨nV,hV⟩:∃n,A.length=n:=⟨_,rfl⟩;have H:Hid (B.length=J/\A.length=nV):=⟨hU,hV⟩;rw[hU]at nB lB fB a9;rw[hV]at nA lA fA a9;rw[hU,hV];clear hU hV;have aX:=xT (J+1) D5;simp only[Int.natCast_add,Int.natCast_one]at aX;have Z0:(w.alloc (.cells (madeCells #[Ey Eu 0] (J+1)) 172)).heap.size=w.heap.size+1:=Es _ _;have B0:Below w.heap.size w (w.alloc (.cells (madeCells #[Ey Eu 0] (J+1)) 172)):=(Below.refl _ _).alloc (Eo _) _
 have K0:ai (w.alloc (.cells (madeCells #[Ey Eu 0] (J+1)) 172)) w.heap.size 172 (zI []++List.replicate (J+1) (Value.int Eu 0)).toArray:=by
  have:=ai.new w 172 (madeCells #[Ey Eu 0] (J+1));rw[yH,qD]at this;rw[yH,qD];exact this
 have bt:decide (nV<J)=true:=E_ a9;have br:decide ((nV:Int)<(J:Int))=true:=E_ D5
 go_enter Tryz.func159,Tryz.ntmps159
 go_wp2
 go_loopw [6,7,8,9,23] (fun c i x y kk wr=>∃ (k:Nat) (xs:List Int) (N:Int),k<=J/\kk = Ey Ew k/\c = Ey Eu N/\0<=N/\N<=1/\xs.length=k/\yB xs/\zo xs+bp k*N=zo (B.take k)+zo (A.take k)/\
   ai wr w.heap.size 172 (zI xs++List.replicate (J-k+1) (Value.int Eu 0)).toArray/\Below w.heap.size w wr) (fun _ _ _ _ k _=>(J-(intOf k).toNat))
 case atStart=>exact⟨0,[],0,Nat.zero_le _,rfl,rfl,by omega,by omega,rfl,yg,by simp[zo],K0,B0⟩
 case round=>
  obtain⟨k,xs,N,hk,rfl,rfl,c0,c1,hl,ah,hv,I,T⟩:=hrel;have M:Hid (xs.length=k/\yB xs/\zo xs+bp k*N=zo (B.take k)+zo (A.take k)):=⟨hl,ah,hv⟩;have HK:=E6 I;have HX:=E6 T;have z1:=I.lt;have g4:wr.cell? ⟨w.heap.size,k,none⟩=some (Ey Eu 0):=I.c _ (kr hl);have g5:wr.frozen? ⟨w.heap.size,k,none⟩=false:=I.fr _;clear aX Z0 B0 K0 hl ah hv;obtain⟨u,hu⟩:∃u,B.getD k 0=u:=⟨_,rfl⟩;obtain⟨v,hv⟩:∃v,A.getD k 0=v:=⟨_,rfl⟩;have u0:=zG oB k;have v0:=zG oA k;rw[hu]at u0;rw[hv]at v0;have HU:Hid (B.getD k 0=u/\A.getD k 0=v):=⟨hu,hv⟩;have X:nV<=k->v=0:=fun h=>by rw[<- hv]; have:=H.out.2; simp[List.getD,List.getElem?_eq_none (show A.length<=k by omega)]
  rcases Ep k J with h1 | h1
  .
   obtain⟨ba,be,rfl,bh,Z⟩:=fB D5;have g1:=(T.cell (p:=⟨ba,be+k,none⟩) bh).trans (Z k (by rw[H.out.1]; omega));rw[hu]at g1;have S0:∀s,s=u+v+N->Hid (zo (xs ++ [s%4294967296])+bp (k+1)*(s / 4294967296)=zo (B.take (k+1))+zo (A.take (k+1))):=fun s h=>qA (s:=s) M.out.1 M.out.2.2 (by rw[HU.out.1,HU.out.2]; exact h)
   rcases Ep k nV with h2 | h2
   .
    obtain⟨bb,bl,rfl,bi,b9⟩:=fA D5;have g2:=(T.cell (p:=⟨bb,bl+k,none⟩) bi).trans (b9 k (by rw[H.out.2]; omega));rw[hv]at g2;have S:=S0 _ rfl;clear Z b9 fA fB hu hv X I T S0
    go_wp2_with (go_at_call 184; refine(WK _ _ _ _ D5 D5 D5).mono ?_; rintro e w' ⟨rfl,rfl⟩)
    go_roundw
    case rel=>
     refine⟨k+1,xs ++ [(u+v+N)%4294967296],(u+v+N) / 4294967296,by omega,by go_num,by first | rfl | go_num,by omega,by omega,by rw[List.length_append,M.out.1]; rfl,zZ M.out.2.1 D5 D5,S.out,?_,HX.out.setCell (p:=⟨w.heap.size,k,none⟩) (Eo _) _⟩;have Y:=HK.out;rw[show J-k+1=(J-(k+1)+1)+1 by omega]at Y;exact Y.bF (by first | exact xn xs k _ _ M.out.1 | (simp only[Int.add_zero]; exact xn xs k _ _ M.out.1))
    case measure=>simp[intOf]; omega
   .
    obtain rfl:=X h2;have S:=S0 _ rfl;clear Z fA fB hu hv X I T S0
    go_wp2_with (go_at_call 184; refine(WK _ _ _ _ D5 D5 D5).mono ?_; rintro e w' ⟨rfl,rfl⟩)
    go_roundw
    case rel=>
     refine⟨k+1,xs ++ [(u+0+N)%4294967296],(u+0+N) / 4294967296,by omega,by go_num,by first | rfl | go_num,by omega,by omega,by rw[List.length_append,M.out.1]; rfl,zZ M.out.2.1 D5 D5,S.out,?_,HX.out.setCell (p:=⟨w.heap.size,k,none⟩) (Eo _) _⟩;have Y:=HK.out;rw[show J-k+1=(J-(k+1)+1)+1 by omega]at Y;exact Y.bF (by first | exact xn xs k _ _ M.out.1 | (simp only[Int.add_zero]; exact xn xs k _ _ M.out.1))
    case measure=>simp[intOf]; omega
  .
   clear fA fB hu hv X I T;have bg:k=J:=D5
   subst bg
   go_wp2
   go_returns
   have E:=H.out;have Y:=HK.out;rw[show k-k+1=0+1 by omega]at Y;have aY:=Y.bF (u:= Ey Eu N) (xn xs k 0 N M.out.1);rw[List.replicate_zero,List.append_nil]at aY;have ll:(xs ++ [N]).length=k+1:=by rw[List.length_append,M.out.1]; rfl
   have L:=aA.a_ aY (zZ M.out.2.1 D5 D5);rw[ll]at L;refine⟨_,xs ++ [N],rfl,L,?_,by rw[ll]; omega,HX.out.setCell (p:=⟨w.heap.size,k,none⟩) (Eo _) _⟩;have:=M.out.2.2;rw[List.take_of_length_le D5,List.take_of_length_le D5]at this;rw[y9,M.out.1,this];omega
theorem Gt (w:Ee) (E:aA w a A) (J:aA w b B) (H:A.length<=zP) (I:B.length<=zP) :
  Ed Ec 159 #[a,b] w fun e M=>∃v l,e = Eh v/\aA M v l/\zo l=zo A+zo B/\l.length=max A.length B.length+1/\zf w M:=by
 rcases Ep A.length B.length with h | h
 . exact JM w E J H I h
 . exact JL w E J H I h
theorem VD {n:Nat} (h:xs.length=k) (E:k<n):(zI xs++List.replicate (n-k) (Value.int Eu 0)).toArray[k]? = some (Ey Eu 0):=by
 rw[show n-k=(n-k-1)+1 by omega]; exact kr h
theorem JN (w:Ee) (ha:aA w a A) (hb:aA w b B) (nA:A.length<=zP) (nB:B.length<=A.length) (aY:zo B<=zo A) :
  Ed Ec 160 #[a,b] w fun e w'=>∃v l,e = Eh v/\aA w' v l/\zo l=zo A-zo B/\l.length=A.length/\zf w w':=by
 obtain⟨aa,ca,rfl⟩:=ha.ak;obtain⟨ab,cb,rfl⟩:=hb.ak;obtain⟨oA,-,lA,fA⟩:=ha.cells;obtain⟨oB,-,lB,fB⟩:=hb.cells;clear ha hb;unfold zP at nA;obtain⟨N,hU⟩:∃n,A.length=n:=⟨_,rfl⟩;obtain⟨nV,hV⟩:∃n,B.length=n:=⟨_,rfl⟩;have H:Hid (A.length=N/\B.length=nV/\zo B<=zo A):=⟨hU,hV,aY⟩;rw[hV,hU]at nB;rw[hU]at nA lA fA;rw[hV]at lB fB;rw[hU,hV];clear hU hV aY;have bi:=xT N D5;have Z0:(w.alloc (.cells (madeCells #[Ey Eu 0] N) 172)).heap.size=w.heap.size+1:=Es _ _;have B0:Below w.heap.size w (w.alloc (.cells (madeCells #[Ey Eu 0] N) 172)):=(Below.refl _ _).alloc (Eo _) _
 have K0:ai (w.alloc (.cells (madeCells #[Ey Eu 0] N) 172)) w.heap.size 172 (zI []++List.replicate N (Value.int Eu 0)).toArray:=by
  have:=ai.new w 172 (madeCells #[Ey Eu 0] N);rw[yH,qD]at this;rw[yH,qD];exact this
 go_enter Tryz.func160,Tryz.ntmps160
 go_wp2
 go_loopw [6,7,8,9,15] (fun c i x y kk wr=>∃ (k:Nat) (xs:List Int) (J:Int),k<=N/\kk = Ey Ew k/\c = Ey Eu J/\0<=J/\J<=1/\xs.length=k/\yB xs/\zo xs=zo (A.take k)-zo (B.take k)+bp k*J/\
   ai wr w.heap.size 172 (zI xs++List.replicate (N-k) (Value.int Eu 0)).toArray/\Below w.heap.size w wr) (fun _ _ _ _ k _=>(N-(intOf k).toNat))
 case atStart=>exact⟨0,[],0,Nat.zero_le _,rfl,rfl,by omega,by omega,rfl,yg,by simp[zo],K0,B0⟩
 case round=>
  obtain⟨k,xs,J,hk,rfl,rfl,c0,c1,hl,ah,hv,I,T⟩:=hrel;have HV:Hid (xs.length=k/\yB xs/\zo xs=zo (A.take k)-zo (B.take k)+bp k*J):=⟨hl,ah,hv⟩;have HK:=E6 I;have HX:=E6 T;have z1:=I.lt;clear bi Z0 B0 K0 ah;obtain⟨u,hu⟩:∃u,A.getD k 0=u:=⟨_,rfl⟩;obtain⟨v,M⟩:∃v,B.getD k 0=v:=⟨_,rfl⟩;have u0:=zG oA k;have v0:=zG oB k;rw[hu]at u0;rw[M]at v0;have HU:Hid (A.getD k 0=u/\B.getD k 0=v):=⟨hu,M⟩;have Z:nV<=k->v=0:=fun h=>by rw[<- M]; have:=H.out.2.1; simp[List.getD,List.getElem?_eq_none (show B.length<=k by omega)]
  rcases Ep k N with h1 | h1
  .
   have g4:wr.cell? ⟨w.heap.size,k,none⟩=some (Ey Eu 0):=I.c _ (VD hl h1);have g5:wr.frozen? ⟨w.heap.size,k,none⟩=false:=I.fr _;obtain⟨ba,b9,rfl,bg,a9⟩:=fA D5;have g1:=(T.cell (p:=⟨ba,b9+k,none⟩) bg).trans (a9 k (by rw[H.out.1]; omega));rw[hu]at g1;obtain⟨X,Y⟩:∃b:Int,(if u-v-J<0 then 1 else 0:Int)=b:=⟨_,rfl⟩
   have b0:0<=X/\X<=1/\0<=u-v-J+4294967296*X/\u-v-J+4294967296*X<4294967296/\(u-v-J)%4294967296=u-v-J+4294967296*X:=by
    rw[<- Y]; split<;>omega
   have SB:∀w',Ed Ec 185 #[Ey Eu u,Ey Eu v,Ey Eu J] w' fun e w2=>e = Eh (Ev #[Ey Eu (u-v-J+4294967296*X),Ey Eu X])/\w2=w':=fun w'=>by
    have:=GT u v J w' u0 v0 ⟨c0,c1⟩;rw[Y,b0.2.2.2.2]at this;exact this
   obtain⟨d,hd⟩:∃d,u-v-J+4294967296*X=d:=⟨_,rfl⟩;have S:Hid (zo (xs ++ [d])=zo (A.take (k+1))-zo (B.take (k+1))+bp (k+1)*X):=jt (t:=u-v-J) (x:=d) (c':=X) HV.out.1 HV.out.2.2 (by rw[HU.out.1,HU.out.2]) hd.symm;rw[hd]at b0 SB;have b1:0<=d/\d<4294967296:=⟨b0.2.2.1,b0.2.2.2.1⟩;have b2:0<=X/\X<=1:=⟨b0.1,b0.2.1⟩
   rcases Ep k nV with h2 | h2
   focus
    obtain⟨bb,br,rfl,bh,aX⟩:=fB D5;have g2:=(T.cell (p:=⟨bb,br+k,none⟩) bh).trans (aX k (by rw[H.out.2.1]; omega));rw[M]at g2;clear a9 aX fA fB hu hv M Z I T Y hd b0 hl
   rotate_left
   focus
    obtain rfl:=Z h2;clear a9 fA fB hu hv M Z I T Y hd b0 hl
   rotate_left
   all_goals
    go_wp2_with (go_at_call 185; refine(SB _).mono ?_; rintro e w' ⟨rfl,rfl⟩)
    go_roundw
    case rel=>
     refine⟨k+1,xs ++ [d],X,by omega,by go_num,rfl,b2.1,b2.2,by rw[List.length_append,HV.out.1]; rfl,zZ HV.out.2.1 b1.1 b1.2,S.out,?_,HX.out.setCell (p:=⟨w.heap.size,k,none⟩) (Eo _) _⟩;have kb:=HK.out;rw[show N-k=(N-(k+1))+1 by omega]at kb;exact kb.bF (xn xs k _ _ HV.out.1)
    case measure=>simp[intOf]; omega
  .
   clear fA fB hu M Z T;have be:k=N:=D5
   subst be;have E:=H.out;rw[Nat.sub_self,List.replicate_zero,List.append_nil]at I;have L:=aA.a_ I HV.out.2.1;rw[hl]at L;have e2:=yS HV.out.2.1;have e4:=zE HV.out.2.1;rw[hl]at e2;rw[List.take_of_length_le D5,List.take_of_length_le D5]at hv
   have bl:J=0:=by
    rcases(show J=0\/J=1 by omega)with h | h
    . exact h
    . subst h; rw[Int.mul_one]at hv; have:=H.out.2.2; omega
   subst bl;rw[Int.mul_zero,Int.add_zero]at hv;have F:=E6 (E7 L (E7 hv hl));clear L hv hl I e2 e4 E
   go_wp2
   go_returns
   exact⟨_,xs,rfl,F.out.1,F.out.2.1,F.out.2.2,HX.out⟩
theorem VE {g j b o capu capv:Nat} {pre post:List Ef} {U V:List Int} {q:Int} (w:Ee) (hB:ai w g 172 (xP pre U post)) (hj:pre.length=j) (hU:U.length=m+1) (aY:yB U)
  (hV:Cells w b o V) (lV:V.length=m) (bg:yB V) (m0:0<m) (hb:b<w.heap.size) (be:b≠g) (hn:m<=zP) (q0:0<=q) (q1:q<4294967296) :
  Ed Ec 188 #[Ex (some ⟨g,j,none⟩) (m+1) capu,Ex (some ⟨b,o,none⟩) m capv,Ey Eu q] w fun e Y=>
   ∃ (U':List Int) (E:Int),e = Eh (Ez (E==0))/\0<=E/\E<=1/\U'.length=m+1/\yB U'/\zo U'=zo U-q*zo V+bp (m+1)*E/\ai Y g 172 (xP pre U' post)/\w.grownBy Y (some g):=by
 unfold zP at hn;have HJ:Hid (pre.length=j/\U.length=m+1/\V.length=m):=⟨hj,hU,lV⟩;have HV:=E6 hV;have G0:w.grownBy w (some g):=World.grownBy.refl w _;have B0:ai w g 172 (xP pre ([]++U.drop 0) post):=hB;clear hB hj hU lV hV
 go_enter Tryz.func188,Tryz.ntmps188
 go_wp2
 go_loopw [7,8,9,10,14] (fun c bo i x kk wr=>∃ (k:Nat) (xs:List Int) (H J:Int),k<=m/\kk = Ey Ew k/\bo = Ey Eu H/\c = Ey .u64 J/\0<=H/\H<=1/\0<=J/\J<4294967296/\xs.length=k/\yB xs/\
   zo xs=zo (U.take k)-q*zo (V.take k)+bp k*(J+H)/\ai wr g 172 (xP pre (xs++U.drop k) post)/\w.grownBy wr (some g)) (fun _ _ _ _ k _=>m-(intOf k).toNat)
 case atStart=>exact⟨0,[],0,0,Nat.zero_le _,rfl,rfl,rfl,by omega,by omega,by omega,by omega,rfl,yg,by simp[zo],B0,G0⟩
 case round=>
  obtain⟨k,xs,H,J,hk,rfl,rfl,rfl,b0,b1,c0,c1,hl,ah,hv,M,a9⟩:=hrel;have HR:Hid (xs.length=k/\yB xs/\zo xs=zo (U.take k)-q*zo (V.take k)+bp k*(J+H)):=⟨hl,ah,hv⟩;have HG:=E6 a9;have HK:=E6 M;clear B0 G0;obtain⟨u,hu⟩:∃x,U.getD k 0=x:=⟨_,rfl⟩;obtain⟨v,Z⟩:∃x,V.getD k 0=x:=⟨_,rfl⟩;have u0:=zG aY k;have v0:=zG bg k;rw[hu]at u0;rw[Z]at v0
  have gU:(xs++U.drop k).getD k 0=u:=by
   rw[<- hu];simp only[List.getD];rw[List.getElem?_append_right D5,hl,Nat.sub_self,List.getElem?_drop,Nat.add_zero]
  have g1:wr.cell? ⟨g,j+k,none⟩=some (Ey Eu u):=by
   rw[<- gU];exact M.c _ (xu HJ.out.1 (by rw[List.length_append,List.length_drop,hl]; have:=HJ.out.2.1; omega))
  have g2:wr.frozen? ⟨g,j+k,none⟩=false:=M.fr _;have HX:Hid (U.getD k 0=u/\V.getD k 0=v):=⟨hu,Z⟩
  rcases Ep k m with h1 | h1
  .
   have g3:=(HV.out.grown a9 hb be) k (by have:=HJ.out.2.2; omega);rw[Z]at g3;obtain⟨p,hp⟩:∃p,q*v=p:=⟨_,rfl⟩;have p0:0<=p:=by rw[<- hp]; exact Int.mul_nonneg q0 v0.1
   have p1:p<=18446744065119617025:=by
    rw[<- hp];have:=Int.mul_le_mul (show q<=4294967295 by omega) (show v<=4294967295 by omega) v0.1 D5;omega
   have hw:IntKind.u64.wrap (q*v)=p:=by rw[hp,wrap_u64 D5 D5]
   obtain⟨I,X⟩:∃l,(J+p)%4294967296=l:=⟨_,rfl⟩;have l0:0<=I/\I<4294967296:=D5
   obtain⟨E,N⟩:∃b:Int,(if u-I-H<0 then 1 else 0:Int)=b:=⟨_,rfl⟩
   have T:0<=E/\E<=1/\0<=u-I-H+4294967296*E/\u-I-H+4294967296*E<4294967296/\(u-I-H)%4294967296=u-I-H+4294967296*E:=by
    rw[<- N]; split<;>omega
   have SB:∀Y,Ed Ec 185 #[Ey Eu u,Ey Eu ((J+p)%4294967296),Ey Eu H] Y fun e w2=>e = Eh (Ev #[Ey Eu (u-I-H+4294967296*E),Ey Eu E])/\w2=Y:=fun Y=>by
    have:=GT u I H Y u0 l0 ⟨b0,b1⟩;rw[N,T.2.2.2.2]at this;rw[X];exact this
   obtain⟨d,hd⟩:∃d,u-I-H+4294967296*E=d:=⟨_,rfl⟩;have S:Hid (zo (xs ++ [d])=zo (U.take (k+1))-q*zo (V.take (k+1))+bp (k+1)*((J+p) / 4294967296+E)):=jK (s:=J+p) (t:=u-I-H) (b':=E) HR.out.1 HR.out.2.2 (by rw[HX.out.2,hp]) (by rw[HX.out.1,X]) hd.symm;rw[hd]at T SB;have d0:0<=d/\d<4294967296:=⟨T.2.2.1,T.2.2.2.1⟩;have b2:0<=E/\E<=1:=⟨T.1,T.2.1⟩;clear N T hd X l0;clear hu Z gU hp hl ah hv M a9
   go_wp2_with (go_at_call 185; refine(SB _).mono ?_; rintro e Y ⟨rfl,rfl⟩)
   go_roundw
   case rel=>
    have R:=HR.out;refine⟨k+1,xs ++ [d],E,(J+p) / 4294967296,by omega,by go_num,rfl,by go_num,b2.1,b2.2,by omega,by omega,by rw[List.length_append,R.1]; rfl,zZ R.2.1 d0.1 d0.2,S.out,?_,qk HG.out _ _⟩;exact HK.out.bF (qJ HJ.out.1 R.1 (by have:=HJ.out.2.1; omega) _)
   case measure=>simp[intOf]; omega
  .
   have aX:k=m:=D5
   subst aX;have b9:v=0:=by rw[<- Z]; have:=HJ.out.2.2; simp[List.getD,List.getElem?_eq_none (show V.length<=k by omega)]
   subst b9;obtain⟨I,X⟩:∃l,(J)%4294967296=l:=⟨_,rfl⟩;have l0:0<=I/\I<4294967296:=D5
   obtain⟨E,N⟩:∃b:Int,(if u-I-H<0 then 1 else 0:Int)=b:=⟨_,rfl⟩
   have T:0<=E/\E<=1/\0<=u-I-H+4294967296*E/\u-I-H+4294967296*E<4294967296/\(u-I-H)%4294967296=u-I-H+4294967296*E:=by
    rw[<- N]; split<;>omega
   have SB:∀Y,Ed Ec 185 #[Ey Eu u,Ey Eu ((J)%4294967296),Ey Eu H] Y fun e w2=>e = Eh (Ev #[Ey Eu (u-I-H+4294967296*E),Ey Eu E])/\w2=Y:=fun Y=>by
    have:=GT u I H Y u0 l0 ⟨b0,b1⟩;rw[N,T.2.2.2.2]at this;rw[X];exact this
   obtain⟨d,hd⟩:∃d,u-I-H+4294967296*E=d:=⟨_,rfl⟩;have S:Hid (zo (xs ++ [d])=zo (U.take (k+1))-q*zo (V.take (k+1))+bp (k+1)*((J) / 4294967296+E)):=jK (s:=J) (t:=u-I-H) (b':=E) HR.out.1 HR.out.2.2 (by rw[HX.out.2]; omega) (by rw[HX.out.1,X]) hd.symm;rw[hd]at T SB;have d0:0<=d/\d<4294967296:=⟨T.2.2.1,T.2.2.2.1⟩;have b2:0<=E/\E<=1:=⟨T.1,T.2.1⟩;clear N T hd X l0;rw[Int.emod_eq_of_lt c0 c1]at SB;rw[Int.ediv_eq_zero_of_lt c0 c1,Int.zero_add]at S;have bh:J%4294967296=J:=Int.emod_eq_of_lt c0 c1;clear hu Z gU hl ah hv M a9
   go_wp2_with (go_at_call 185; refine(SB _).mono ?_; rintro e Y ⟨rfl,rfl⟩)
   go_returns
   have R:=HR.out;refine⟨xs ++ [d],E,rfl,b2.1,b2.2,by rw[List.length_append,R.1]; rfl,zZ R.2.1 d0.1 d0.2,?_,?_,qk HG.out _ _⟩
   .
    have:=S.out;rw[List.take_of_length_le (by have:=HJ.out.2.1; omega),List.take_of_length_le (by have:=HJ.out.2.2; omega)]at this;exact this
   .
    have:=HK.out.bF (u:= Ey Eu d) (qJ HJ.out.1 R.1 (by have:=HJ.out.2.1; omega) d);rw[List.drop_of_length_le (by have:=HJ.out.2.1; omega),List.append_nil]at this;exact this
theorem qp (neg:Bool) {s:Ef} {l:List Int} (w:Ee) (hs:aA w s l) (nl:l.length<=zP) :
  Ed Ec 94 #[Ez neg,s] w fun e w'=>∃v,e = Eh (Ev #[v,Ey Ew (qX (zv neg (zo l)))])/\az w' v (xp (zv neg (zo l)))/\zf w w':=by
 have ok:=hs.ok;have nt:=vY l;unfold zP at nl;obtain⟨n,hn⟩:∃n,(zQ l).length=n:=⟨_,rfl⟩;have X:=XQ neg ok
 have F1:Hid (n<=4096->qX (zv neg (zo l))=0/\xp (zv neg (zo l))=zv neg (zo l)):=fun h=>by
  have g:fits (zv neg (zo l)):=X.2 D5;exact⟨E8 g,E8 g⟩
 have Z:Hid (4096<n->qX (zv neg (zo l))=16/\xp (zv neg (zo l))=0):=fun h=>by
  have g:¬fits (zv neg (zo l)):=fun g=>by have:=X.1 g; omega
  exact⟨E9 g,E9 g⟩
 have HO:=E6 ok;have N:=E6 hn;clear X ok hn
 go_enter Tryz.func94,Tryz.ntmps94
 go_wp2_with fail
 refine(Xk _ (hs.ae zh) (by unfold zP; omega)).mono ?_;rintro e w1 ⟨v1,rfl,E,st⟩;have Bn:=bA w st;have or:ai w1 w.heap.size 26 #[Ez false,Ex none 0 0]:=ai.aw st;clear st;have B:=Bn;clear Bn;obtain⟨I,H,fr,T⟩:=or.s1;have HV:=E6 E;obtain⟨ao,cap,J⟩:=E.ak;rw[N.out]at J;subst J;have a9:=N.out;clear E
 rcases Ep 4096 n with M | M
 .
  go_wp2
  refine En (by simp[results,Tryz.results94,go_sem,I,H,fr,T]; rfl) rfl ?_;exact⟨_,Y7 rfl (Z.out M).1.symm,by rw[(Z.out M).2]; exact az.zero _,zh⟩
 .
  have F:=F1.out M
  rcases Nat.eq_zero_or_pos n with Y | Y
  .
   subst Y
   cases neg
   all_goals
    go_wp2
    refine En (by simp[results,Tryz.results94,go_sem,I,H,fr,T]; rfl) rfl ?_;exact⟨_,Y7 rfl F.1.symm,by rw[F.2]; exact az.of (HV.out.aN or) HO.out (by rw[N.out]; rfl),zh⟩
  .
   cases neg
   all_goals
    go_wp2
    refine En (by simp[results,Tryz.results94,go_sem,I,H,fr,T]; rfl) rfl ?_;exact⟨_,Y7 rfl F.1.symm,by rw[F.2]; exact az.of (HV.out.aN or) HO.out (by rw[N.out]; simp[Y]),zh⟩
theorem GV (E I:Bool) {sa sb:Ef} {la lb:List Int} (w:Ee) (ha:aA w sa la) (hb:aA w sb lb) :
  Ed Ec 156 #[.agg #[Ez E,sa],.agg #[Ez I,sb]] w fun e w'=>e = Eh (Ey Ew (yZ (zS E la/\zS I lb)))/\zf w w':=by
 obtain⟨aa,ca,rfl⟩:=ha.ak;obtain⟨ab,cb,rfl⟩:=hb.ak;obtain⟨n,hn⟩:∃n,la.length=n:=⟨_,rfl⟩;obtain⟨m,hm⟩:∃m,lb.length=m:=⟨_,rfl⟩;rw[hn]at ha|-;rw[hm]at hb|-;clear hn hm
 by_cases h1:zS E la
 .
  have H1:Hid (yZ (zS E la)=0):=E8 h1;have H:Hid (yZ (zS E la/\zS I lb)=yZ (zS I lb)):=by show yZ (zS E la/\zS I lb)=_; unfold yZ; simp[h1]
  clear h1
  go_enter Tryz.func156,Tryz.ntmps156
  go_wp2_with fail
  refine(je E _ (ha.ae zh)).mono ?_;rintro e w1 ⟨rfl,a9⟩;have st:zf _ w1:=a9;have M:=bA w st;have N:ai w1 w.heap.size 26 #[Ez E,Ex aa n ca]:=ai.aw st;have J:ai w1 (w.heap.size+1) 26 #[Ez I,Ex ab m cb]:=ai.aw st;clear st;have B:=M;clear M;obtain⟨Z,X,fa,la⟩:=N.s1;obtain⟨Y,T,fb,lb⟩:=J.s1;rw[H1.out];have ah:=hb.ae B;go_wp2_with fail
  refine(je I _ ah).mono ?_;rintro e w2 ⟨rfl,aX⟩;have st:zf _ w2:=aX;have M:=bA w st;have E:=N.aG st;have I:=J.aG st;clear B N J Z X fa la Y T fb lb;clear st;have B:=M;clear M;have N:=E;clear E;obtain⟨Z,X,fa,la⟩:=N.s1;have J:=I;clear I;obtain⟨Y,T,fb,lb⟩:=J.s1
  go_wp2
  go_returns
  exact⟨yK H.out.symm,zh⟩
 .
  have H1:Hid (yZ (zS E la)=8):=E9 h1;have H:Hid (yZ (zS E la/\zS I lb)=8):=E9 (fun h=>h1 h.1);clear h1
  go_enter Tryz.func156,Tryz.ntmps156
  go_wp2_with fail
  refine(je E _ (ha.ae zh)).mono ?_;rintro e w1 ⟨rfl,st⟩;have M:=bA w st;have N:ai w1 w.heap.size 26 #[Ez E,Ex aa n ca]:=ai.aw st;have J:ai w1 (w.heap.size+1) 26 #[Ez I,Ex ab m cb]:=ai.aw st;clear st;have B:=M;clear M;obtain⟨Z,X,fa,la⟩:=N.s1;obtain⟨Y,T,fb,lb⟩:=J.s1;rw[H1.out];have aY:=ha.ae B;go_wp2_with fail
  refine(je E _ aY).mono ?_;rintro e w2 ⟨rfl,st⟩;have M:=bA w st;have E:=N.aG st;have I:=J.aG st;clear B N J Z X fa la Y T fb lb;clear st;have B:=M;clear M;have N:=E;clear E;obtain⟨Z,X,fa,la⟩:=N.s1;have J:=I;clear I;obtain⟨Y,T,fb,lb⟩:=J.s1;rw[H1.out]
  go_wp2
  go_returns
  exact⟨yK H.out.symm,zh⟩
theorem az.parts (h:az w v z):∃ao c,v = .agg #[Ez (decide (z<0)),Ex ao (zp (zi z)).length c]/\aA w (Ex ao (zp (zi z)).length c) (zp (zi z)):=by
 obtain⟨s,rfl,E⟩:=h;obtain⟨ao,c,rfl⟩:=E.ak;exact⟨ao,c,rfl,E⟩
theorem zA (z:Int):0<=zi z:=by unfold zi; omega
theorem Qy (x y:Int) (E:x<0) (H:y<0):zL (zi y) (zi x)=zL x y:=by unfold zL zi; split<;>split<;>(try split)<;>(try split)<;>omega
theorem Qz (x y:Int) (E:0<=x) (H:0<=y):zL (zi x) (zi y)=zL x y:=by unfold zL zi; split<;>split<;>(try split)<;>(try split)<;>omega
theorem VF (w:Ee) (ha:az w va x) (hb:az w vb y) (fx:fits x) (fy:fits y) :
  Ed Ec 128 #[va,vb] w fun e w'=>e = Eh (Ey Ew (zL x y))/\zf w w':=by
 obtain⟨aa,ca,rfl,Z⟩:=ha.parts;obtain⟨ab,cb,rfl,Y⟩:=hb.parts;unfold fits at fx fy;have nx:(zp (zi x)).length<=zP:=by unfold zP; omega
 have ny:(zp (zi y)).length<=zP:=by unfold zP; omega
 obtain⟨n,T⟩:∃n,(zp (zi x)).length=n:=⟨_,rfl⟩;obtain⟨m,X⟩:∃m,(zp (zi y)).length=m:=⟨_,rfl⟩;rw[T]at Z|-;rw[X]at Y|-;clear ha hb
 rcases Int.lt_or_le x 0 with M | M
 .
  have J:decide (x<0)=true:=by simp[M]
  rcases Int.lt_or_le y 0 with I | I
  .
   have H:decide (y<0)=true:=by simp[I]
   have E:=E6 (Qy x y M I);rw[J,H];clear T X J H M I
   go_enter Tryz.func128,Tryz.ntmps128
   go_wp2_with fail
   refine(qO _ (Y.ae zh) (Z.ae zh) (zA _) (zA _) ny nx).mono ?_;rintro e w1 ⟨rfl,N⟩
   go_wp2
   go_returns
   exact⟨yK E.out,(show Below _ _ _ from zh).trans (N.mono (by simp only[Es]; omega))⟩
  .
   have H:decide (y<0)=false:=by simp; omega
   have E:Hid (zL x y = -1):=by show zL x y = -1; unfold zL; rw[E9 D5,E8 D5]
   rw[J,H];clear T X J H M I
   go_enter Tryz.func128,Tryz.ntmps128
   go_wp2
   go_returns
   exact⟨yK E.out.symm,zh⟩
 .
  have J:decide (x<0)=false:=by simp; omega
  rcases Int.lt_or_le y 0 with I | I
  .
   have H:decide (y<0)=true:=by simp[I]
   have E:Hid (zL x y=1):=by show zL x y=1; unfold zL; rw[E9 D5,E9 D5]
   rw[J,H];clear T X J H M I
   go_enter Tryz.func128,Tryz.ntmps128
   go_wp2
   go_returns
   exact⟨yK E.out.symm,zh⟩
  .
   have H:decide (y<0)=false:=by simp; omega
   have E:=E6 (Qz x y M I);rw[J,H];clear T X J H M I
   go_enter Tryz.func128,Tryz.ntmps128
   go_wp2_with fail
   refine(qO _ (Z.ae zh) (Y.ae zh) (zA _) (zA _) nx ny).mono ?_;rintro e w1 ⟨rfl,N⟩
   go_wp2
   go_returns
   exact⟨yK E.out,(show Below _ _ _ from zh).trans (N.mono (by simp only[Es]; omega))⟩
theorem xE:bp 2=18446744073709551616:=by rw[xB,xB,kN]; decide
theorem xZ (h:zi z<18446744073709551616):fits z:=by
 unfold fits;have:=(jT (zA z) 2).2 (by rw[xE]; exact h);omega
theorem zM (h:fits z):qX z=0:=E8 h
theorem zH (h:fits z):xp z=z:=E8 h
theorem az.ak (h:az w v z):∃b ao n c,v = .agg #[Ez b,Ex ao n c]:=by
 obtain⟨ao,c,e,_⟩:=h.parts;exact⟨_,ao,_,c,e⟩
theorem Xl (z:Int) (w:Ee) (z0 : -9223372036854775808<=z) (z1:z<=9223372036854775807) :
  Ed Ec 104 #[Ey Ew z] w fun e E=>∃v,e = Eh v/\az E v z/\zf w E:=by
 have I:fits z:=xZ (by unfold zi; omega)
 rcases Int.lt_or_le z 0 with Y | Y
 focus
  have hd:decide (z<0)=true:=by simp[Y]
  have M:Hid (zv true (zo [(-z)%4294967296,(-z) / 4294967296])=z):=by show zv _ _=z; simp only[zv,zo,if_true,Bool.false_eq_true,if_false]; omega
  have J:=E6 (E7 (zM I) (zH I));clear I;obtain⟨m,Z⟩:∃m,-z=m:=⟨_,rfl⟩;have hw:IntKind.u64.wrap (-IntKind.u64.wrap z)=m:=by simp only[IntKind.wrap_u64]; omega
  rw[Z]at M;have m0:0<=m/\m<=9223372036854775808:=D5
  clear Z
  have cm:Ed Ec 139 #[Ez true,Ex (some ⟨w.heap.size+1,0,none⟩) 2 2] ((w.alloc (.cells #[Ez false,Ex none 0 0] 26)).alloc (.cells #[Ey Eu (m%4294967296),Ey Eu (m / 4294967296)] 172)) (fun e E=>∃v,e = Eh (Ev #[v,Ey Ew 0])/\az E v z/\zf ((w.alloc (.cells #[Ez false,Ex none 0 0] 26)).alloc (.cells #[Ey Eu (m%4294967296),Ey Eu (m / 4294967296)] 172)) E):=by
   have L:aA ((w.alloc (.cells #[Ez false,Ex none 0 0] 26)).alloc (.cells #[Ey Eu (m%4294967296),Ey Eu (m / 4294967296)] 172)) (Ex (some ⟨w.heap.size+1,0,none⟩) 2 2) [m%4294967296,m / 4294967296]:=aA.a_ (l:= [m%4294967296,m / 4294967296]) (ai.dZ w _ _ _) (by simp only[ye]; refine⟨⟨by omega,by omega⟩,⟨by omega,by omega⟩,yg⟩);have C:=qY true _ L (by unfold zP; simp);rw[M.out,J.out.1,J.out.2]at C;exact C
 rotate_left
 focus
  have hd:decide (z<0)=false:=by simp; omega
  have M:Hid (zv false (zo [z%4294967296,z / 4294967296])=z):=by show zv _ _=z; simp only[zv,zo,if_true,Bool.false_eq_true,if_false]; omega
  have J:=E6 (E7 (zM I) (zH I));clear I
  have cm:Ed Ec 139 #[Ez false,Ex (some ⟨w.heap.size+1,0,none⟩) 2 2] ((w.alloc (.cells #[Ez false,Ex none 0 0] 26)).alloc (.cells #[Ey Eu (z%4294967296),Ey Eu (z / 4294967296)] 172)) (fun e E=>∃v,e = Eh (Ev #[v,Ey Ew 0])/\az E v z/\zf ((w.alloc (.cells #[Ez false,Ex none 0 0] 26)).alloc (.cells #[Ey Eu (z%4294967296),Ey Eu (z / 4294967296)] 172)) E):=by
   have L:aA ((w.alloc (.cells #[Ez false,Ex none 0 0] 26)).alloc (.cells #[Ey Eu (z%4294967296),Ey Eu (z / 4294967296)] 172)) (Ex (some ⟨w.heap.size+1,0,none⟩) 2 2) [z%4294967296,z / 4294967296]:=aA.a_ (l:= [z%4294967296,z / 4294967296]) (ai.dZ w _ _ _) (by simp only[ye]; refine⟨⟨by omega,by omega⟩,⟨by omega,by omega⟩,yg⟩);have C:=qY false _ L (by unfold zP; simp);rw[M.out,J.out.1,J.out.2]at C;exact C
 rotate_left
 all_goals
  go_enter Tryz.func104,Tryz.ntmps104
  go_wp2_with fail
  refine(cm).mono ?_;rintro e w1 ⟨v1,rfl,H,st⟩;have X:=bA w st;have or:ai w1 w.heap.size 26 #[Ez false,Ex none 0 0]:=ai.aw st;clear st;have B:=X;clear X;obtain⟨T,N,fr,lr⟩:=or.s1;obtain⟨bb,ao,n,c,rfl⟩:=H.ak;have HV:=E6 H;clear H
  go_wp2
  refine En (by simp[results,Tryz.results104,go_sem,T,N,fr,lr]; rfl) rfl ?_;exact⟨_,rfl,(HV.out.aN or).ae ((Below.refl _ _).alloc (Eo _) _),zh⟩
theorem jV (x y:Int):(zL x y=0/\x=y)\/(zL x y = -1/\x<y)\/(zL x y=1/\y<x):=by
 unfold zL
 split
 . left; omega
 .
  split
  . right; left; omega
  . right; right; omega
theorem yf (z:Int):(z<0/\zi z = -z)\/(0<=z/\zi z=z):=by unfold zi; omega
theorem WM (w:Ee) (ha:az w va x) (hb:az w vb y) (fx:fits x) (fy:fits y) :
  Ed Ec 192 #[va,vb] w fun e H=>∃v,e = Eh (Ev #[v,Ey Ew (qX (x+y))])/\az H v (xp (x+y))/\zf w H:=by
 obtain⟨aa,ca,rfl,pa⟩:=ha.parts;obtain⟨ab,cb,rfl,pb⟩:=hb.parts;unfold fits at fx fy;have nx:(zp (zi x)).length<=zP:=by unfold zP; omega
 have ny:(zp (zi y)).length<=zP:=by unfold zP; omega
 have vx:=zD (zA x);have vy:=zD (zA y);obtain⟨n,hn⟩:∃n,(zp (zi x)).length=n:=⟨_,rfl⟩;obtain⟨m,hm⟩:∃m,(zp (zi y)).length=m:=⟨_,rfl⟩;have d9:Hid ((zp (zi x)).length=n/\(zp (zi y)).length=m):=⟨hn,hm⟩;have HL:Hid (zo (zp (zi x))=zi x/\zo (zp (zi y))=zi y):=⟨vx,vy⟩;rw[hn]at pa|-;rw[hm]at pb|-;have X:=yf x;have Y:=yf y;obtain⟨gx,ce⟩:∃b,decide (x<0)=b:=⟨_,rfl⟩;obtain⟨gy,br⟩:∃b,decide (y<0)=b:=⟨_,rfl⟩;rw[ce,br];have HS:Hid (decide (x<0)=gx/\decide (y<0)=gy):=⟨ce,br⟩;have HX:=E6 (E7 X Y);have HF:=E6 (E7 fx fy);clear ha hb hn hm ce br X Y vx vy nx ny fx fy
 by_cases hs:gx=gy
 .
  subst hs
  have hz:∀l,zo l=zo (zp (zi x))+zo (zp (zi y))->zv gx (zo l)=x+y:=fun l h=>by
   rw[h,HL.out.1,HL.out.2];have h1:=HS.out.1;have h2:=HS.out.2;have h3:=HX.out;unfold zv
   cases gx
   . simp at h1 h2; simp only[Bool.false_eq_true,if_false]; omega
   . simp at h1 h2; simp only[if_true]; omega
  have Hz:=E6 hz;clear hz
  go_enter Tryz.func192,Tryz.ntmps192
  go_wp2_with fail
  go_region_held3 (fun H=>H.cell? ⟨w.heap.size,0,none⟩=some (Ez gx)/\H.cell? ⟨w.heap.size,1,none⟩=some (Ex aa n ca)/\H.cell? ⟨w.heap.size+1,0,none⟩=some (Ez gx)/\H.cell? ⟨w.heap.size+1,1,none⟩=some (Ex ab m cb))
   ((refine⟨ai.c (t:=26) (cs:=#[Ez gx,Ex aa n ca]) ?_ 0 rfl,ai.c (t:=26) (cs:=#[Ez gx,Ex aa n ca]) ?_ 1 rfl,ai.c (t:=26) (cs:=#[Ez gx,Ex ab m cb]) ?_ 0 rfl,ai.c (t:=26) (cs:=#[Ez gx,Ex ab m cb]) ?_ 1 rfl⟩<;>(repeat' first | with_reducible assumption | (with_reducible refine ai.bO ?_; first | with_reducible rfl | (simp only[Es,World.size_setCell,World.size_drew]; done)) | with_reducible refine ai.alloc ?_ _ | with_reducible refine ai.drew ?_ | with_reducible refine ai.drewN ?_ _ | with_reducible apply ai.both | with_reducible refine ai.aH ?_ ?_ | (show _≠_; omega))))
   (first
    | ((go_at_call 196; refine(H9 _ (pa.ae zh) (pb.ae zh) (by have:=HF.out; unfold zP; omega) (by have:=HF.out; unfold zP; omega)).mono ?_; rintro e E ⟨v1,l1,rfl,bh,cg,cU,aX⟩; have co:=E6 cg; clear cg; go_must (have st:zf _ E:=aX; have Bn:=bA w st; have na:ai E w.heap.size 26 #[Ez gx,Ex aa n ca]:=ai.aw st; have nb:ai E (w.heap.size+1) 26 #[Ez gx,Ex ab m cb]:=ai.aw st; have nr:ai E (w.heap.size+1+1) 26 #[Ez false,Ex none 0 0]:=ai.aw st; clear st; have B:=Bn; clear Bn; have J:=na; clear na; have ah:Er E ⟨w.heap.size,0,none⟩=some (Ez gx):=J.c 0 rfl; have N:Er E ⟨w.heap.size,1,none⟩=some (Ex aa n ca):=J.c 1 rfl; have fa:=J.fr; have la:=J.lt; have I:=nb; clear nb; have Z:Er E ⟨w.heap.size+1,0,none⟩=some (Ez gx):=I.c 0 rfl; have M:Er E ⟨w.heap.size+1,1,none⟩=some (Ex ab m cb):=I.c 1 rfl; have fb:=I.fr; have lb:=I.lt; have or:=nr; clear nr; have a9:Er E ⟨w.heap.size+1+1,0,none⟩=some (Ez false):=or.c 0 rfl; have T:Er E ⟨w.heap.size+1+1,1,none⟩=some (Ex none 0 0):=or.c 1 rfl; have fr:=or.fr; have lr:=or.lt)))
    | ((go_at_call 139; refine(qY gx _ bh (by have:=HF.out; unfold zP; omega)).mono ?_; rintro e E ⟨v2,rfl,aY,aX⟩; go_must (have st:zf _ E:=aX; have Bn:=bA w st; have na:ai E w.heap.size 26 #[Ez gx,Ex aa n ca]:=ai.aw st; have nb:ai E (w.heap.size+1) 26 #[Ez gx,Ex ab m cb]:=ai.aw st; have nr:ai E (w.heap.size+1+1) 26 #[Ez false,Ex none 0 0]:=ai.aw st; clear B J I or ah N fa la Z M fb lb a9 T fr lr; clear st; have B:=Bn; clear Bn; have J:=na; clear na; have ah:Er E ⟨w.heap.size,0,none⟩=some (Ez gx):=J.c 0 rfl; have N:Er E ⟨w.heap.size,1,none⟩=some (Ex aa n ca):=J.c 1 rfl; have fa:=J.fr; have la:=J.lt; have I:=nb; clear nb; have Z:Er E ⟨w.heap.size+1,0,none⟩=some (Ez gx):=I.c 0 rfl; have M:Er E ⟨w.heap.size+1,1,none⟩=some (Ex ab m cb):=I.c 1 rfl; have fb:=I.fr; have lb:=I.lt; have or:=nr; clear nr; have a9:Er E ⟨w.heap.size+1+1,0,none⟩=some (Ez false):=or.c 0 rfl; have T:Er E ⟨w.heap.size+1+1,1,none⟩=some (Ex none 0 0):=or.c 1 rfl; have fr:=or.fr; have lr:=or.lt; obtain⟨bb,cn,n2,c2,rfl⟩:=aY.ak))))
  have bl:=E6 aY;clear aY
  go_wp2
  refine En (by simp[results,Tryz.results192,go_sem,ah,N,fa,la,Z,M,fb,lb,a9,T,fr,lr]; rfl) rfl ?_;have e:=Hz.out l1 co.out;exact⟨_,Y7 rfl (by rw[e]),by rw[<- e]; exact bl.out.aN or,zh⟩
 .
  have bg:gx = !gy:=by cases gx<;>cases gy<;>simp_all
  obtain⟨c,hc⟩:∃c,zL (zi x) (zi y)=c:=⟨_,rfl⟩;have cc:=jV (zi x) (zi y);rw[hc]at cc;have CC:=E6 cc;have h0:=zA x;have ci:=zA y
  rcases Int.lt_or_le c 0 with cN | cN
  focus
   have bi:zi x<=zi y:=D5
   have hz:zv gy (zo (zp (zi y-zi x)))=x+y:=by
    rw[zD D5];have h1:=HS.out.1;have h2:=HS.out.2;have h3:=HX.out;unfold zv
    cases gx
    .
     cases gy
     . simp at bg
     . simp at h1 h2; simp only[Bool.false_eq_true,if_false,if_true]; omega
    .
     cases gy
     . simp at h1 h2; simp only[Bool.false_eq_true,if_false,if_true]; omega
     . simp at bg
   have be:(zp (zi x)).length<=(zp (zi y)).length:=by
    rcases Ep (zp (zi y)).length (zp (zi x)).length with g | g
    . have:=yn (zA y) (zA x) g; omega
    . exact g
   have bt:(zp (zi y-zi x)).length<=zP:=by
    have h5:(zp (zi y-zi x)).length<=(zp (zi y)).length:=by
     rcases Ep (zp (zi y)).length (zp (zi y-zi x)).length with g | g
     . have:=yn (zA y) (show 0<=zi y-zi x by omega) g; omega
     . exact g
    have:=HF.out; unfold zP; omega
   have Hz:=E6 hz;have HC:=E6 hc
   have mi:∀H,aA H (Ex aa n ca) (zp (zi x))->aA H (Ex ab m cb) (zp (zi y))->Ed Ec 197 #[Ex ab m cb,Ex aa n ca] H fun e w2=>∃v,e = Eh v/\aA w2 v (zp (zi y-zi x))/\zf H w2:=fun H h1 h2=>by
    have:=Up H h2 h1 (by have:=HF.out; unfold zP; omega) be (by rw[HL.out.1,HL.out.2]; exact bi);rw[HL.out.1,HL.out.2]at this;exact this
   have b9:∀H,aA H (Ex aa n ca) (zp (zi x))->aA H (Ex ab m cb) (zp (zi y))->Ed Ec 85 #[Ex aa n ca,Ex ab m cb] H fun e w2=>e = Eh (Ey Ew c)/\zf H w2:=fun H h1 h2=>by
    have:=qO H h1 h2 (zA x) (zA y) (by have:=HF.out; unfold zP; omega) (by have:=HF.out; unfold zP; omega);rw[HC.out]at this;exact this
   have cy:(gx==gy)=false:=by simp[hs]
   clear hz hc cc bi be h0 ci bg hs
   go_enter Tryz.func192,Tryz.ntmps192
   go_wp2_with fail
   refine(b9 _ (pa.ae zh) (pb.ae zh)).mono ?_;rintro e w1 ⟨rfl,cx⟩;have st:zf _ w1:=cx;have Bn:=bA w st;have J:ai w1 w.heap.size 26 #[Ez gx,Ex aa n ca]:=ai.aw st;have I:ai w1 (w.heap.size+1) 26 #[Ez gy,Ex ab m cb]:=ai.aw st;have or:ai w1 (w.heap.size+1+1) 26 #[Ez false,Ex none 0 0]:=ai.aw st;clear st;have B:=Bn;clear Bn;obtain⟨ah,N,fa,la⟩:=J.s1;obtain⟨Z,M,fb,lb⟩:=I.s1;obtain⟨a9,T,fr,lr⟩:=or.s1;clear b9;go_wp2_with fail
   go_region_held3 (fun H=>H.cell? ⟨w.heap.size,0,none⟩=some (Ez gx)/\H.cell? ⟨w.heap.size,1,none⟩=some (Ex aa n ca)/\H.cell? ⟨w.heap.size+1,0,none⟩=some (Ez gy)/\H.cell? ⟨w.heap.size+1,1,none⟩=some (Ex ab m cb))
    ((refine⟨ai.c (t:=26) (cs:=#[Ez gx,Ex aa n ca]) ?_ 0 rfl,ai.c (t:=26) (cs:=#[Ez gx,Ex aa n ca]) ?_ 1 rfl,ai.c (t:=26) (cs:=#[Ez gy,Ex ab m cb]) ?_ 0 rfl,ai.c (t:=26) (cs:=#[Ez gy,Ex ab m cb]) ?_ 1 rfl⟩<;>(repeat' first | with_reducible assumption | (with_reducible refine ai.bO ?_; first | with_reducible rfl | (simp only[Es,World.size_setCell,World.size_drew]; done)) | with_reducible refine ai.alloc ?_ _ | with_reducible refine ai.drew ?_ | with_reducible refine ai.drewN ?_ _ | with_reducible apply ai.both | with_reducible refine ai.aH ?_ ?_ | (show _≠_; omega))))
    (first
     | ((go_at_call 197; refine(mi _ (pa.ae zh) (pb.ae zh)).mono ?_; rintro e E ⟨v1,rfl,bh,aX⟩; go_must (have st:zf _ E:=aX; have Bn:=bA w st; have na:ai E w.heap.size 26 #[Ez gx,Ex aa n ca]:=ai.aw st; have nb:ai E (w.heap.size+1) 26 #[Ez gy,Ex ab m cb]:=ai.aw st; have nr:ai E (w.heap.size+1+1) 26 #[Ez false,Ex none 0 0]:=ai.aw st; clear B J I or ah N fa la Z M fb lb a9 T fr lr; clear st; have B:=Bn; clear Bn; have J:=na; clear na; have ah:Er E ⟨w.heap.size,0,none⟩=some (Ez gx):=J.c 0 rfl; have N:Er E ⟨w.heap.size,1,none⟩=some (Ex aa n ca):=J.c 1 rfl; have fa:=J.fr; have la:=J.lt; have I:=nb; clear nb; have Z:Er E ⟨w.heap.size+1,0,none⟩=some (Ez gy):=I.c 0 rfl; have M:Er E ⟨w.heap.size+1,1,none⟩=some (Ex ab m cb):=I.c 1 rfl; have fb:=I.fr; have lb:=I.lt; have or:=nr; clear nr; have a9:Er E ⟨w.heap.size+1+1,0,none⟩=some (Ez false):=or.c 0 rfl; have T:Er E ⟨w.heap.size+1+1,1,none⟩=some (Ex none 0 0):=or.c 1 rfl; have fr:=or.fr; have lr:=or.lt)))
     | ((go_at_call 139; refine(qY gy _ bh bt).mono ?_; rintro e E ⟨v2,rfl,aY,aX⟩; go_must (have st:zf _ E:=aX; have Bn:=bA w st; have na:ai E w.heap.size 26 #[Ez gx,Ex aa n ca]:=ai.aw st; have nb:ai E (w.heap.size+1) 26 #[Ez gy,Ex ab m cb]:=ai.aw st; have nr:ai E (w.heap.size+1+1) 26 #[Ez false,Ex none 0 0]:=ai.aw st; clear B J I or ah N fa la Z M fb lb a9 T fr lr; clear st; have B:=Bn; clear Bn; have J:=na; clear na; have ah:Er E ⟨w.heap.size,0,none⟩=some (Ez gx):=J.c 0 rfl; have N:Er E ⟨w.heap.size,1,none⟩=some (Ex aa n ca):=J.c 1 rfl; have fa:=J.fr; have la:=J.lt; have I:=nb; clear nb; have Z:Er E ⟨w.heap.size+1,0,none⟩=some (Ez gy):=I.c 0 rfl; have M:Er E ⟨w.heap.size+1,1,none⟩=some (Ex ab m cb):=I.c 1 rfl; have fb:=I.fr; have lb:=I.lt; have or:=nr; clear nr; have a9:Er E ⟨w.heap.size+1+1,0,none⟩=some (Ez false):=or.c 0 rfl; have T:Er E ⟨w.heap.size+1+1,1,none⟩=some (Ex none 0 0):=or.c 1 rfl; have fr:=or.fr; have lr:=or.lt; obtain⟨bb,cn,n2,c2,rfl⟩:=aY.ak))))
  rotate_left
  focus
   have bi:zi y<=zi x:=D5
   have hz:zv gx (zo (zp (zi x-zi y)))=x+y:=by
    rw[zD D5];have h1:=HS.out.1;have h2:=HS.out.2;have h3:=HX.out;unfold zv
    cases gx
    .
     cases gy
     . simp at bg
     . simp at h1 h2; simp only[Bool.false_eq_true,if_false,if_true]; omega
    .
     cases gy
     . simp at h1 h2; simp only[Bool.false_eq_true,if_false,if_true]; omega
     . simp at bg
   have be:(zp (zi y)).length<=(zp (zi x)).length:=by
    rcases Ep (zp (zi x)).length (zp (zi y)).length with g | g
    . have:=yn (zA x) (zA y) g; omega
    . exact g
   have bt:(zp (zi x-zi y)).length<=zP:=by
    have h5:(zp (zi x-zi y)).length<=(zp (zi x)).length:=by
     rcases Ep (zp (zi x)).length (zp (zi x-zi y)).length with g | g
     . have:=yn (zA x) (show 0<=zi x-zi y by omega) g; omega
     . exact g
    have:=HF.out; unfold zP; omega
   have Hz:=E6 hz;have HC:=E6 hc
   have mi:∀H,aA H (Ex aa n ca) (zp (zi x))->aA H (Ex ab m cb) (zp (zi y))->Ed Ec 197 #[Ex aa n ca,Ex ab m cb] H fun e w2=>∃v,e = Eh v/\aA w2 v (zp (zi x-zi y))/\zf H w2:=fun H h1 h2=>by
    have:=Up H h1 h2 (by have:=HF.out; unfold zP; omega) be (by rw[HL.out.1,HL.out.2]; exact bi);rw[HL.out.1,HL.out.2]at this;exact this
   have b9:∀H,aA H (Ex aa n ca) (zp (zi x))->aA H (Ex ab m cb) (zp (zi y))->Ed Ec 85 #[Ex aa n ca,Ex ab m cb] H fun e w2=>e = Eh (Ey Ew c)/\zf H w2:=fun H h1 h2=>by
    have:=qO H h1 h2 (zA x) (zA y) (by have:=HF.out; unfold zP; omega) (by have:=HF.out; unfold zP; omega);rw[HC.out]at this;exact this
   have cy:(gx==gy)=false:=by simp[hs]
   clear hz hc cc bi be h0 ci bg hs
   go_enter Tryz.func192,Tryz.ntmps192
   go_wp2_with fail
   refine(b9 _ (pa.ae zh) (pb.ae zh)).mono ?_;rintro e w1 ⟨rfl,st⟩;have Bn:=bA w st;have J:ai w1 w.heap.size 26 #[Ez gx,Ex aa n ca]:=ai.aw st;have I:ai w1 (w.heap.size+1) 26 #[Ez gy,Ex ab m cb]:=ai.aw st;have or:ai w1 (w.heap.size+1+1) 26 #[Ez false,Ex none 0 0]:=ai.aw st;clear st;have B:=Bn;clear Bn;obtain⟨ah,N,fa,la⟩:=J.s1;obtain⟨Z,M,fb,lb⟩:=I.s1;obtain⟨a9,T,fr,lr⟩:=or.s1;clear b9;go_wp2_with fail
   go_region_held3 (fun H=>H.cell? ⟨w.heap.size,0,none⟩=some (Ez gx)/\H.cell? ⟨w.heap.size,1,none⟩=some (Ex aa n ca)/\H.cell? ⟨w.heap.size+1,0,none⟩=some (Ez gy)/\H.cell? ⟨w.heap.size+1,1,none⟩=some (Ex ab m cb))
    ((refine⟨ai.c (t:=26) (cs:=#[Ez gx,Ex aa n ca]) ?_ 0 rfl,ai.c (t:=26) (cs:=#[Ez gx,Ex aa n ca]) ?_ 1 rfl,ai.c (t:=26) (cs:=#[Ez gy,Ex ab m cb]) ?_ 0 rfl,ai.c (t:=26) (cs:=#[Ez gy,Ex ab m cb]) ?_ 1 rfl⟩<;>(repeat' first | with_reducible assumption | (with_reducible refine ai.bO ?_; first | with_reducible rfl | (simp only[Es,World.size_setCell,World.size_drew]; done)) | with_reducible refine ai.alloc ?_ _ | with_reducible refine ai.drew ?_ | with_reducible refine ai.drewN ?_ _ | with_reducible apply ai.both | with_reducible refine ai.aH ?_ ?_ | (show _≠_; omega))))
    (first
     | ((go_at_call 197; refine(mi _ (pa.ae zh) (pb.ae zh)).mono ?_; rintro e E ⟨v1,rfl,bh,aX⟩; go_must (have st:zf _ E:=aX; have Bn:=bA w st; have na:ai E w.heap.size 26 #[Ez gx,Ex aa n ca]:=ai.aw st; have nb:ai E (w.heap.size+1) 26 #[Ez gy,Ex ab m cb]:=ai.aw st; have nr:ai E (w.heap.size+1+1) 26 #[Ez false,Ex none 0 0]:=ai.aw st; clear B J I or ah N fa la Z M fb lb a9 T fr lr; clear st; have B:=Bn; clear Bn; have J:=na; clear na; have ah:Er E ⟨w.heap.size,0,none⟩=some (Ez gx):=J.c 0 rfl; have N:Er E ⟨w.heap.size,1,none⟩=some (Ex aa n ca):=J.c 1 rfl; have fa:=J.fr; have la:=J.lt; have I:=nb; clear nb; have Z:Er E ⟨w.heap.size+1,0,none⟩=some (Ez gy):=I.c 0 rfl; have M:Er E ⟨w.heap.size+1,1,none⟩=some (Ex ab m cb):=I.c 1 rfl; have fb:=I.fr; have lb:=I.lt; have or:=nr; clear nr; have a9:Er E ⟨w.heap.size+1+1,0,none⟩=some (Ez false):=or.c 0 rfl; have T:Er E ⟨w.heap.size+1+1,1,none⟩=some (Ex none 0 0):=or.c 1 rfl; have fr:=or.fr; have lr:=or.lt)))
     | ((go_at_call 139; refine(qY gx _ bh bt).mono ?_; rintro e E ⟨v2,rfl,aY,aX⟩; go_must (have st:zf _ E:=aX; have Bn:=bA w st; have na:ai E w.heap.size 26 #[Ez gx,Ex aa n ca]:=ai.aw st; have nb:ai E (w.heap.size+1) 26 #[Ez gy,Ex ab m cb]:=ai.aw st; have nr:ai E (w.heap.size+1+1) 26 #[Ez false,Ex none 0 0]:=ai.aw st; clear B J I or ah N fa la Z M fb lb a9 T fr lr; clear st; have B:=Bn; clear Bn; have J:=na; clear na; have ah:Er E ⟨w.heap.size,0,none⟩=some (Ez gx):=J.c 0 rfl; have N:Er E ⟨w.heap.size,1,none⟩=some (Ex aa n ca):=J.c 1 rfl; have fa:=J.fr; have la:=J.lt; have I:=nb; clear nb; have Z:Er E ⟨w.heap.size+1,0,none⟩=some (Ez gy):=I.c 0 rfl; have M:Er E ⟨w.heap.size+1,1,none⟩=some (Ex ab m cb):=I.c 1 rfl; have fb:=I.fr; have lb:=I.lt; have or:=nr; clear nr; have a9:Er E ⟨w.heap.size+1+1,0,none⟩=some (Ez false):=or.c 0 rfl; have T:Er E ⟨w.heap.size+1+1,1,none⟩=some (Ex none 0 0):=or.c 1 rfl; have fr:=or.fr; have lr:=or.lt; obtain⟨bb,cn,n2,c2,rfl⟩:=aY.ak))))
  rotate_left
  all_goals
   have bl:=E6 aY;clear aY
   go_wp2
   refine En (by simp[results,Tryz.results192,go_sem,ah,N,fa,la,Z,M,fb,lb,a9,T,fr,lr]; rfl) rfl ?_;exact⟨_,Y7 rfl (by rw[Hz.out]),by have:=bl.out; rw[Hz.out]at this; exact this.aN or,zh⟩
end Go.Proofs.YtffmbepfbienaaaGreat
