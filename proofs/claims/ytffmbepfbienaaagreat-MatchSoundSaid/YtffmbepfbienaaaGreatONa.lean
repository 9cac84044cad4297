import Derived.Test.YtffmbepfbienaaaGreatOWa
set_option linter.unusedVariables false
set_option linter.unusedSimpArgs false
set_option maxHeartbeats 6400000
set_option maxRecDepth 1000000
open Go.Value renaming slice->Ex,bool->Ez,int->Ey,tuple->Ev
open Go.IntKind renaming i64->Ew,u32->Eu
open Go.Ending renaming returned->Eh
open Go.Proofs.Tryz renaming prog->Ed
open Go renaming Calls->Ee,World->Ef,Value->Ei,bodyPost_ret->Eo
open Nat renaming le_refl->Ep,lt_or_ge->Er
open Go.World renaming cell?->Es,size_alloc->Et
namespace Go.Proofs.YtffmbepfbienaaaGreat
open Go.RowKit
variable {a neg:Bool} {z:Int} {l:List Int} {c n r:Nat} {ao:Option Addr} {t:TypeId} {s u u' v:Ei} {w:Ef}
def zv (neg:Bool) (m:Int):Int:=if neg then -m else m
def zi (z:Int):Int:=((z.natAbs:Nat):Int)
def fits (z:Int):Prop:=(zp (zi z)).length<=4096
instance (z:Int):Decidable (fits z):=inferInstanceAs (Decidable (_<=_))
def jc (z:Int):Int:=if fits z then 0 else 16
def xt (z:Int):Int:=if fits z then z else 0
def az (w:Ef) (v:Ei) (z:Int):Prop:=∃s,v = .agg #[Ez (decide (z<0)),s]/\aA w s (zp (zi z))
theorem az.ae {E:Ef} (h:az w v z) (I:zf w E):az E v z:=by
 obtain⟨s,e,H⟩:=h;exact⟨s,e,H.ae I⟩
theorem xM (neg:Bool) {m:Int} (h:0<=m):zi (zv neg m)=m:=by unfold zi zv; split<;>omega
theorem G9 (neg:Bool) {m:Int} (h:0<=m):decide (zv neg m<0)=(neg&&decide (0<m)):=by
 unfold zv
 cases neg
 . simp; omega
 . simp
theorem VB (h:yv l):0<(zS l).length↔0<zj l:=by
 have H:=yj h;have E:=zY (zG h);have I:=zG h;rw[H]at E;rw[List.length_pos_iff]
 constructor
 .
  intro e
  rcases Int.lt_or_le 0 (zj l)with g | g
  . exact g
  . exact absurd (E.2 D6) e
 .
  intro e g;have:=E.1 g;omega
theorem az.zero (w:Ef):az w (.agg #[Ez false,Ex none 0 0]) 0:=⟨_,rfl,aA.nil w⟩
theorem az.of {b:Bool} (I:aA w s (zS l)) (E:yv l) (H:b=(neg&&decide (0<(zS l).length))):az w (.agg #[Ez b,s]) (zv neg (zj l)):=by
 refine⟨s,?_,?_⟩
 .
  rw[G9 neg (zG E),H]
  congr 3
  have:=VB E
  by_cases g:0<(zS l).length
  . simp[g,this.1 g]
  . simp[g,show ¬0<zj l from fun h=>g (this.2 h)]
 . rw[xM neg (zG E),yj E]; exact I
theorem XD (neg:Bool) {l:List Int} (h:yv l):fits (zv neg (zj l))↔(zS l).length<=4096:=by
 unfold fits;rw[xM neg (zG h),yj h]
theorem aA.aN (h:aA w v l) (N:ai w r t #[Ez a,Ex ao n c]) :
  aA ((w.setCell ⟨r,0,none⟩ u).setCell ⟨r,1,none⟩ u') v l:=by
 obtain⟨h0,I,cap,rfl,T,X,M⟩:=h;refine⟨h0,I,cap,rfl,T,X,fun J=> ?_⟩;obtain⟨b,o,rfl,H,hc⟩:=M J
 have E:b≠r:=by
  rintro rfl;have g:=hc 0 (List.length_pos_iff.2 J);rw[N.cell]at g
  match o,g with
  | 0,g=>simp at g
  | 1,g=>simp at g
  | o+2,g=>simp at g
 refine⟨b,o,rfl,by simpa[World.setCell]using H,(hc.set (g:=r) E).set E⟩
theorem az.aN (h:az w v z) (H:ai w r t #[Ez a,Ex ao n c]) :
  az ((w.setCell ⟨r,0,none⟩ u).setCell ⟨r,1,none⟩ u') v z:=by
 obtain⟨s,e,E⟩:=h;exact⟨s,e,E.aN H⟩
theorem az.aP (h:az w v z) (o:Obj):az (w.alloc o) v z:=h.ae ((Below.refl _ _).alloc (Ep _) _)
theorem az.cE (h:az w v z):az w.drew v z:=h
theorem YT {a b:Ei} {x y:Int} (h:a=b) (g:x=y):Ending.returned (Ev #[a,Ey Ew x]) = Eh (Ev #[b,Ey Ew y]):=by rw[h,g]
theorem qQ (neg:Bool) {s:Ei} {l:List Int} (w:Ef) (hs:aA w s l) (nl:l.length<=aD) :
  Ee Ed 139 #[Ez neg,s] w fun e w'=>∃v,e = Eh (Ev #[v,Ey Ew (jc (zv neg (zj l)))])/\az w' v (xt (zv neg (zj l)))/\zf w w':=by
 have ok:=hs.ok;have nt:=vw l;unfold aD at nl;obtain⟨n,hn⟩:∃n,(zS l).length=n:=⟨_,rfl⟩;have T:=XD neg ok
 have F1:Hid (n<=4096->jc (zv neg (zj l))=0/\xt (zv neg (zj l))=zv neg (zj l)):=fun h=>by
  have g:fits (zv neg (zj l)):=T.2 D6;exact⟨E9 g,E9 g⟩
 have F2:Hid (4096<n->jc (zv neg (zj l))=16/\xt (zv neg (zj l))=0):=fun h=>by
  have g:¬fits (zv neg (zj l)):=fun g=>by have:=T.1 g; omega
  exact⟨E_ g,E_ g⟩
 have HO:=E7 ok;have N:=E7 hn;clear T ok hn
 go_enter Tryz.func139,Tryz.ntmps139
 go_wp2_with fail
 refine(Yg _ (hs.ae zh) (by unfold aD; omega)).mono ?_;rintro e w1 ⟨v1,rfl,H,st⟩;have Z:=bA w st;have or:ai w1 w.heap.size 26 #[Ez false,Ex none 0 0]:=ai.aw st;clear st;have B:=Z;clear Z;obtain⟨E,I,fr,Y⟩:=or.s1;have HV:=E7 H;obtain⟨ao,cap,J⟩:=H.ak;rw[N.out]at J;subst J;have a9:=N.out;clear H
 rcases Er 4096 n with M | M
 .
  go_wp2
  refine Eo (by simp[results,Tryz.results139,go_sem,E,I,fr,Y]; rfl) rfl ?_;exact⟨_,YT rfl (F2.out M).1.symm,by rw[(F2.out M).2]; exact az.zero _,zh⟩
 .
  have F:=F1.out M
  rcases Nat.eq_zero_or_pos n with X | X
  .
   subst X
   cases neg
   all_goals
    go_wp2
    refine Eo (by simp[results,Tryz.results139,go_sem,E,I,fr,Y]; rfl) rfl ?_;exact⟨_,YT rfl F.1.symm,by rw[F.2]; exact az.of (HV.out.aN or) HO.out (by rw[N.out]; rfl),zh⟩
  .
   cases neg
   all_goals
    go_wp2
    refine Eo (by simp[results,Tryz.results139,go_sem,E,I,fr,Y]; rfl) rfl ?_;exact⟨_,YT rfl F.1.symm,by rw[F.2]; exact az.of (HV.out.aN or) HO.out (by rw[N.out]; simp[X]),zh⟩
def zU (neg:Bool) (l:List Int):Prop:=l.length<=4096/\zS l=l/\(l = []->neg=false)
instance (neg:Bool) (l:List Int):Decidable (zU neg l):=inferInstanceAs (Decidable (_/\_/\_))
def yT (p:Prop) [Decidable p]:Int:=if p then 0 else 8
theorem Y_ {k:Nat} (h:l.length=k+1):zS l=l↔l.getD k 0≠0:=by
 constructor
 . intro e; exact Zj e h
 .
  intro e;have E:l≠ []:=by rintro rfl; cases h
  refine kN E ?_;rw[List.getLast_eq_getElem];simpa[List.getD,h]using e
theorem qt (h:aA w s l) (hv:zU neg l):az w (.agg #[Ez neg,s]) (zv neg (zj l)):=by
 refine az.of (by rw[hv.2.1]; exact h) h.ok ?_;rw[hv.2.1]
 cases neg
 . rfl
 .
  have:l≠ []:=fun e=>by have:=hv.2.2 e; cases this
  simp[List.length_pos_iff.2 this]
theorem qu (ok:yv l) (hv:zU neg l):fits (zv neg (zj l)):=by
 rw[XD neg ok,hv.2.1]; exact hv.1
theorem xy (h:fits z):zU (decide (z<0)) (zp (zi z)):=by
 refine⟨h,xR _,fun e=> ?_⟩;have h0:0<=zi z:=by unfold zi; omega
 have:=(zY h0).1 e;unfold zi at this;simp; omega
theorem qT (neg:Bool) {s:Ei} {l:List Int} (w:Ef) (N:aA w s l) :
  Ee Ed 124 #[.agg #[Ez neg,s]] w fun e Y=>e = Eh (Ey Ew (yT (zU neg l)))/\zf w Y:=by
 obtain⟨ao,cap,rfl⟩:=N.ak;obtain⟨ok,-,lc,J⟩:=N.cells;obtain⟨n,E⟩:∃n,l.length=n:=⟨_,rfl⟩;rw[E]at lc J|-;clear N
 rcases Er 4096 n with h1 | h1
 .
  have H:Hid (yT (zU neg l)=8):=E_ (fun h=>by have:=h.1; omega)
  go_enter Tryz.func124,Tryz.ntmps124
  go_wp2
  go_returns
  exact⟨yE H.out.symm,zh⟩
 .
  match n,E with
  | 0,E=>
   obtain rfl:=List.eq_nil_of_length_eq_zero E
   cases neg
   .
    have H:Hid (yT (zU false [])=0):=E9 ⟨by simp,rfl,fun _=>rfl⟩;clear J
    go_enter Tryz.func124,Tryz.ntmps124
    go_wp2
    go_returns
    exact⟨yE H.out.symm,zh⟩
   .
    have H:Hid (yT (zU true [])=8):=E_ (fun h=>by have:=h.2.2 rfl; cases this);clear J
    go_enter Tryz.func124,Tryz.ntmps124
    go_wp2
    go_returns
    exact⟨yE H.out.symm,zh⟩
  | k+1,E=>
   obtain⟨b,o,rfl,Z,hc⟩:=J D6;have M:=Y_ E;have g:=hc k D6;obtain⟨x,T⟩:∃x,l.getD k 0=x:=⟨_,rfl⟩;rw[T]at g M
   have g2:(w.alloc (.cells #[Ez neg,Ex (some ⟨b,o,none⟩) (k+1) cap] 26)).cell? ⟨b,o+k,none⟩=some (Ey Eu x):=by
    rw[<- g]; exact World.cell?_of_block (Below.heap_alloc _ _ _ Z)
   have X:l≠ []:=by rintro rfl; cases E
   clear hc J
   rcases Int.decEq x 0 with I | I
   .
    have a9:(x==0)=false:=by simp[I]
    have H:Hid (yT (zU neg l)=0):=E9 ⟨by omega,M.2 I,fun e=>absurd e X⟩;clear M T
    go_enter Tryz.func124,Tryz.ntmps124
    go_wp2
    go_returns
    exact⟨yE H.out.symm,zh⟩
   .
    have H:Hid (yT (zU neg l)=8):=E_ (fun h=>M.1 h.2.1 I);clear M T;subst I
    go_enter Tryz.func124,Tryz.ntmps124
    go_wp2
    go_returns
    exact⟨yE H.out.symm,zh⟩
end Go.Proofs.YtffmbepfbienaaaGreat
/- The program's side (wide): trim, made, Add32. -/
namespace Go.Proofs.YtffmbepfbienaaaGreat
open Go.RowKit
variable {x y z:Int} {A B xs:List Int} {k m:Nat} {a b v va vb:Ei} {w:Ef}
theorem Y' {l:List Int} (w:Ef) (M:aA w a l) (nl:l.length<=aD) :
  Ee Ed 133 #[a] w fun e w'=>∃v,e = Eh v/\aA w' v (zS l)/\zf w w':=by
 obtain⟨aa,ca,rfl⟩:=M.ak;obtain⟨ol,-,la,N⟩:=M.cells;have HL:Hid (aA w (Ex aa l.length ca) l):=M;clear M;unfold aD at nl;obtain⟨n,Y⟩:∃n,l.length=n:=⟨_,rfl⟩;have H:Hid (l.length=n):=Y;rw[Y]at N la nl;rw[Y];clear Y
 go_enter Tryz.func133,Tryz.ntmps133
 go_wp2
 go_loopw [3] (fun i wr=>∃k:Nat,k<=n/\i = Ey Ew k/\zS (l.take k)=zS l/\Below w.heap.size w wr) (fun i _=>(intOf i).toNat)
 case atStart=>exact⟨n,Ep _,rfl,by rw[List.take_of_length_le (by have:=H.out; omega)],Below.refl _ _⟩
 case round=>
  obtain⟨k,hk,rfl,hd,E⟩:=hrel;have T:Hid (zS (l.take k)=zS l):=hd;clear hd
  have fin:zS l=l.take k->aA wr (Ex aa k ca) (zS l):=fun e=>by
   have h1:=H.out;rw[e];have:=HL.out;rw[H.out]at this;exact(this.ae E).take D6
  rcases Nat.eq_zero_or_pos k with rfl | hp
  .
   have L0:=E7 (fin (by rw[<- T.out]; rfl));clear fin
   go_wp2
   go_returns
   exact⟨_,rfl,L0.out,E⟩
  .
   obtain⟨j,rfl⟩:∃j,k=j+1:=⟨k-1,by omega⟩;obtain⟨ba,Z,rfl,a9,I⟩:=N D6;have g1:=(E.cell (p:=⟨ba,Z+j,none⟩) a9).trans (I j (by rw[H.out]; omega));obtain⟨u,J⟩:∃u,l.getD j 0=u:=⟨_,rfl⟩;rw[J]at g1;have HU:Hid (l.getD j 0=u):=J;have X:j<l.length:=by have:=H.out; omega
   rcases Int.decEq u 0 with ah | rfl
   .
    have L0:=E7 (fin (by rw[<- T.out]; exact jZ X (by rw[HU.out]; exact ah)));clear fin I N J X
    go_wp2
    go_returns
    exact⟨_,rfl,L0.out,E⟩
   .
    have T2:Hid (zS (l.take j)=zS l):=by rw[<- T.out]; exact(jY X HU.out).symm
    clear fin I N J X
    go_wp2
    go_roundw
    case rel=>exact⟨j,by omega,by go_num,T2.out,E⟩
    case measure=>simp[intOf]
theorem Ga (x y c:Int) (w:Ef) (J:0<=x/\x<4294967296) (I:0<=y/\y<4294967296) (H:0<=c/\c<=1) :
  Ee Ed 184 #[Ey Eu x,Ey Eu y,Ey Eu c] w fun e E=>e = Eh (Ev #[Ey Eu ((x+y+c)%4294967296),Ey Eu ((x+y+c) / 4294967296)])/\E=w:=by
 go_enter Tryz.func184,Tryz.ntmps184
 go_wp2
 go_returns
 exact⟨rfl,rfl⟩
theorem Gb (v:BitVec 32):BitVec.ofInt 32 ((v.toNat:Nat):Int)=v:=by simp
theorem Qd (a b:Int):bits .and Eu a b=(((BitVec.ofInt 32 a &&& BitVec.ofInt 32 b).toNat:Nat):Int):=by
 show IntKind.u32.wrap (((BitVec.ofInt 32 a &&& BitVec.ofInt 32 b).toNat:Nat):Int)=_
 rw[IntKind.wrap_u32];have:=(BitVec.ofInt 32 a &&& BitVec.ofInt 32 b).isLt;exact Int.emod_eq_of_lt D6 D6
theorem Jt (a b:Int):bits .or Eu a b=(((BitVec.ofInt 32 a ||| BitVec.ofInt 32 b).toNat:Nat):Int):=by
 show IntKind.u32.wrap (((BitVec.ofInt 32 a ||| BitVec.ofInt 32 b).toNat:Nat):Int)=_
 rw[IntKind.wrap_u32];have:=(BitVec.ofInt 32 a ||| BitVec.ofInt 32 b).isLt;exact Int.emod_eq_of_lt D6 D6
theorem Qe (a b:Int):bits .xor Eu a b=(((BitVec.ofInt 32 a ^^^ BitVec.ofInt 32 b).toNat:Nat):Int):=by
 show IntKind.u32.wrap (((BitVec.ofInt 32 a ^^^ BitVec.ofInt 32 b).toNat:Nat):Int)=_
 rw[IntKind.wrap_u32];have:=(BitVec.ofInt 32 a ^^^ BitVec.ofInt 32 b).isLt;exact Int.emod_eq_of_lt D6 D6
theorem G_ (v:BitVec 32):((v.toNat:Nat):Int) / 2147483648=if v.msb then 1 else 0:=by
 have:=v.isLt;rw[BitVec.msb_eq_decide]
 by_cases h:2^(32-1)<=v.toNat
 . simp only[h,decide_true,if_true]; omega
 . simp only[h,decide_false,Bool.false_eq_true,if_false]; omega
theorem XE (h:0<=x/\x<4294967296):(BitVec.ofInt 32 x).msb=decide (2147483648<=x):=by
 obtain⟨n,rfl⟩:=Int.eq_ofNat_of_zero_le h.1;rw[BitVec.ofInt_natCast,BitVec.msb_eq_decide,BitVec.toNat_ofNat,Nat.mod_eq_of_lt D6]
 by_cases g:2147483648<=n
 . rw[E' (show 2^(32-1)<=n by omega),E' D6]
 . rw[Ea (show ¬2^(32-1)<=n by omega),Ea D6]
theorem Ju (x y c:Int) (I:0<=x/\x<4294967296) (H:0<=y/\y<4294967296) (J:0<=c/\c<=1) :
  bits BinOp.or IntKind.u32 (bits BinOp.and IntKind.u32 (bits BinOp.xor IntKind.u32 IntKind.u32.max x) y)
   (bits BinOp.and IntKind.u32 (bits BinOp.xor IntKind.u32 IntKind.u32.max (bits BinOp.xor IntKind.u32 x y)) ((x-y-c)%4294967296)) / 2147483648=if x-y-c<0 then 1 else 0:=by
 have E:IntKind.u32.max=4294967295:=by decide
 rw[E];simp only[Qd,Jt,Qe,Gb];rw[G_];simp only[BitVec.msb_or,BitVec.msb_and,BitVec.msb_xor];rw[XE I,XE H,XE (show 0<=(x-y-c)%4294967296/\(x-y-c)%4294967296<4294967296 by omega),XE (show (0:Int)<=4294967295/\(4294967295:Int)<4294967296 by omega)]
 by_cases hx:2147483648<=x<;>by_cases hy:2147483648<=y<;>by_cases hd:2147483648<=(x-y-c)%4294967296<;>simp[hx,hy,hd]<;>omega
theorem G' (x y c:Int) (w:Ef) (M:0<=x/\x<4294967296) (J:0<=y/\y<4294967296) (H:0<=c/\c<=1) :
  Ee Ed 185 #[Ey Eu x,Ey Eu y,Ey Eu c] w fun e I=>e = Eh (Ev #[Ey Eu ((x-y-c)%4294967296),Ey Eu (if x-y-c<0 then 1 else 0)])/\I=w:=by
 have S:=E7 (Ju x y c M J H);obtain⟨b,E⟩:∃b:Int,(if x-y-c<0 then 1 else 0:Int)=b:=⟨_,rfl⟩;rw[E]at S|-;clear E
 go_enter Tryz.func185,Tryz.ntmps185
 go_wp2
 go_returns
 exact⟨by rw[<- S.out]; rfl,rfl⟩
theorem j6 (h:xs.length=k):(zK xs++List.replicate (m+1) (Value.int Eu 0)).toArray[k]? = some (Ey Eu 0):=by
 subst h;simp[zK,List.getElem?_append,List.getElem?_replicate]
theorem qz (n:Nat):(zK (List.replicate n 0))=zK []++List.replicate n (Value.int Eu 0):=by simp[zK]
theorem Jv (w:Ef) (ha:aA w a A) (hb:aA w b B) (nA:A.length<=aD) (nB:B.length<=aD) (b9:B.length<=A.length) :
  Ee Ed 159 #[a,b] w fun e w'=>∃v l,e = Eh v/\aA w' v l/\zj l=zj A+zj B/\l.length=max A.length B.length+1/\zf w w':=by
 obtain⟨aa,ca,rfl⟩:=ha.ak;obtain⟨ab,cb,rfl⟩:=hb.ak;obtain⟨oA,-,lA,fA⟩:=ha.cells;obtain⟨oB,-,lB,fB⟩:=hb.cells;clear ha hb;unfold aD at nA nB;obtain⟨J,hU⟩:∃n,A.length=n:=⟨_,rfl⟩;obtain⟨nV,hV⟩:∃n,B.length=n:=⟨_,rfl⟩;have H:Hid (A.length=J/\B.length=nV):=⟨hU,hV⟩;rw[hU]at nA lA fA b9;rw[hV]at nB lB fB b9;rw[hU,hV];clear hU hV;have ah:=xK (J+1) D6;simp only[Int.natCast_add,Int.natCast_one]at ah;have Z0:(w.alloc (.cells (madeCells #[Ey Eu 0] (J+1)) 172)).heap.size=w.heap.size+1:=Et _ _;have B0:Below w.heap.size w (w.alloc (.cells (madeCells #[Ey Eu 0] (J+1)) 172)):=(Below.refl _ _).alloc (Ep _) _
 have K0:ai (w.alloc (.cells (madeCells #[Ey Eu 0] (J+1)) 172)) w.heap.size 172 (zK []++List.replicate (J+1) (Value.int Eu 0)).toArray:=by
  have:=ai.new w 172 (madeCells #[Ey Eu 0] (J+1));rw[yC,qz]at this;rw[yC,qz];exact this
 have ce:decide (J<nV)=false:=Ea D6;have bg:decide ((J:Int)<(nV:Int))=false:=Ea D6
 go_enter Tryz.func159,Tryz.ntmps159
 go_wp2
 go_loopw [6,7,8,9,23] (fun c i x y kk wr=>∃ (k:Nat) (xs:List Int) (N:Int),k<=J/\kk = Ey Ew k/\c = Ey Eu N/\0<=N/\N<=1/\xs.length=k/\yv xs/\zj xs+bp k*N=zj (A.take k)+zj (B.take k)/\
   ai wr w.heap.size 172 (zK xs++List.replicate (J-k+1) (Value.int Eu 0)).toArray/\Below w.heap.size w wr) (fun _ _ _ _ k _=>(J-(intOf k).toNat))
 case atStart=>exact⟨0,[],0,Nat.zero_le _,rfl,rfl,by omega,by omega,rfl,z6,by simp[zj],K0,B0⟩
 case round=>
  obtain⟨k,xs,N,hk,rfl,rfl,c0,c1,hl,bf,hv,I,T⟩:=hrel;have M:Hid (xs.length=k/\yv xs/\zj xs+bp k*N=zj (A.take k)+zj (B.take k)):=⟨hl,bf,hv⟩;have HK:=E7 I;have HX:=E7 T;have z1:=I.lt;have g4:wr.cell? ⟨w.heap.size,k,none⟩=some (Ey Eu 0):=I.c _ (j6 hl);have g5:wr.frozen? ⟨w.heap.size,k,none⟩=false:=I.fr _;clear ah Z0 B0 K0 hl bf hv;obtain⟨u,hu⟩:∃u,A.getD k 0=u:=⟨_,rfl⟩;obtain⟨v,hv⟩:∃v,B.getD k 0=v:=⟨_,rfl⟩;have u0:=zI oA k;have v0:=zI oB k;rw[hu]at u0;rw[hv]at v0;have HU:Hid (A.getD k 0=u/\B.getD k 0=v):=⟨hu,hv⟩;have X:nV<=k->v=0:=fun h=>by rw[<- hv]; have:=H.out.2; simp[List.getD,List.getElem?_eq_none (show B.length<=k by omega)]
  rcases Er k J with h1 | h1
  .
   obtain⟨ba,bh,rfl,bi,Z⟩:=fA D6;have g1:=(T.cell (p:=⟨ba,bh+k,none⟩) bi).trans (Z k (by rw[H.out.1]; omega));rw[hu]at g1;have S0:∀s,s=u+v+N->Hid (zj (xs ++ [s%4294967296])+bp (k+1)*(s / 4294967296)=zj (A.take (k+1))+zj (B.take (k+1))):=fun s h=>qr (s:=s) M.out.1 M.out.2.2 (by rw[HU.out.1,HU.out.2]; exact h)
   rcases Er k nV with h2 | h2
   .
    obtain⟨bb,br,rfl,bl,a9⟩:=fB D6;have g2:=(T.cell (p:=⟨bb,br+k,none⟩) bl).trans (a9 k (by rw[H.out.2]; omega));rw[hv]at g2;have S:=S0 _ rfl;clear Z a9 fA fB hu hv X I T S0
    go_wp2_with (go_at_call 184; refine(Ga _ _ _ _ D6 D6 D6).mono ?_; rintro e w' ⟨rfl,rfl⟩)
    go_roundw
    case rel=>
     refine⟨k+1,xs ++ [(u+v+N)%4294967296],(u+v+N) / 4294967296,by omega,by go_num,by first | rfl | go_num,by omega,by omega,by rw[List.length_append,M.out.1]; rfl,zX M.out.2.1 D6 D6,S.out,?_,HX.out.setCell (p:=⟨w.heap.size,k,none⟩) (Ep _) _⟩;have Y:=HK.out;rw[show J-k+1=(J-(k+1)+1)+1 by omega]at Y;exact Y.aW (by first | exact xi xs k _ _ M.out.1 | (simp only[Int.add_zero]; exact xi xs k _ _ M.out.1))
    case measure=>simp[intOf]; omega
   .
    obtain rfl:=X h2;have S:=S0 _ rfl;clear Z fA fB hu hv X I T S0
    go_wp2_with (go_at_call 184; refine(Ga _ _ _ _ D6 D6 D6).mono ?_; rintro e w' ⟨rfl,rfl⟩)
    go_roundw
    case rel=>
     refine⟨k+1,xs ++ [(u+0+N)%4294967296],(u+0+N) / 4294967296,by omega,by go_num,by first | rfl | go_num,by omega,by omega,by rw[List.length_append,M.out.1]; rfl,zX M.out.2.1 D6 D6,S.out,?_,HX.out.setCell (p:=⟨w.heap.size,k,none⟩) (Ep _) _⟩;have Y:=HK.out;rw[show J-k+1=(J-(k+1)+1)+1 by omega]at Y;exact Y.aW (by first | exact xi xs k _ _ M.out.1 | (simp only[Int.add_zero]; exact xi xs k _ _ M.out.1))
    case measure=>simp[intOf]; omega
  .
   clear fA fB hu hv X I T;have bt:k=J:=D6
   subst bt
   go_wp2
   go_returns
   have E:=H.out;have Y:=HK.out;rw[show k-k+1=0+1 by omega]at Y;have be:=Y.aW (u:= Ey Eu N) (xi xs k 0 N M.out.1);rw[List.replicate_zero,List.append_nil]at be;have ll:(xs ++ [N]).length=k+1:=by rw[List.length_append,M.out.1]; rfl
   have L:=aA.a_ be (zX M.out.2.1 D6 D6);rw[ll]at L;refine⟨_,xs ++ [N],rfl,L,?_,by rw[ll]; omega,HX.out.setCell (p:=⟨w.heap.size,k,none⟩) (Ep _) _⟩;have:=M.out.2.2;rw[List.take_of_length_le D6,List.take_of_length_le D6]at this;rw[yV,M.out.1,this]
theorem Jw (w:Ef) (ha:aA w a A) (hb:aA w b B) (nA:A.length<=aD) (nB:B.length<=aD) (Z:A.length<B.length) :
  Ee Ed 159 #[a,b] w fun e w'=>∃v l,e = Eh v/\aA w' v l/\zj l=zj A+zj B/\l.length=max A.length B.length+1/\zf w w':=by
 obtain⟨aa,ca,rfl⟩:=ha.ak;obtain⟨ab,cb,rfl⟩:=hb.ak;obtain⟨oA,-,lA,fA⟩:=ha.cells;obtain⟨oB,-,lB,fB⟩:=hb.cells;clear ha hb;unfold aD at nA nB;obtain⟨J,hU⟩:∃n,B.length=n:=⟨_,rfl⟩;obtain⟨nV,hV⟩:∃n,A.length=n:=⟨_,rfl⟩;have H:Hid (B.length=J/\A.length=nV):=⟨hU,hV⟩;rw[hU]at nB lB fB Z;rw[hV]at nA lA fA Z;rw[hU,hV];clear hU hV;have b9:=xK (J+1) D6;simp only[Int.natCast_add,Int.natCast_one]at b9;have Z0:(w.alloc (.cells (madeCells #[Ey Eu 0] (J+1)) 172)).heap.size=w.heap.size+1:=Et _ _;have B0:Below w.heap.size w (w.alloc (.cells (madeCells #[Ey Eu 0] (J+1)) 172)):=(Below.refl _ _).alloc (Ep _) _
 have K0:ai (w.alloc (.cells (madeCells #[Ey Eu 0] (J+1)) 172)) w.heap.size 172 (zK []++List.replicate (J+1) (Value.int Eu 0)).toArray:=by
  have:=ai.new w 172 (madeCells #[Ey Eu 0] (J+1));rw[yC,qz]at this;rw[yC,qz];exact this
 have ce:decide (nV<J)=true:=E' Z;have bg:decide ((nV:Int)<(J:Int))=true:=E' D6
 go_enter Tryz.func159,Tryz.ntmps159
 go_wp2
 go_loopw [6,7,8,9,23] (fun c i x y kk wr=>∃ (k:Nat) (xs:List Int) (N:Int),k<=J/\kk = Ey Ew k/\c = Ey Eu N/\0<=N/\N<=1/\xs.length=k/\yv xs/\zj xs+bp k*N=zj (B.take k)+zj (A.take k)/\
   ai wr w.heap.size 172 (zK xs++List.replicate (J-k+1) (Value.int Eu 0)).toArray/\Below w.heap.size w wr) (fun _ _ _ _ k _=>(J-(intOf k).toNat))
 case atStart=>exact⟨0,[],0,Nat.zero_le _,rfl,rfl,by omega,by omega,rfl,z6,by simp[zj],K0,B0⟩
 case round=>
  obtain⟨k,xs,N,hk,rfl,rfl,c0,c1,hl,bf,hv,I,T⟩:=hrel;have M:Hid (xs.length=k/\yv xs/\zj xs+bp k*N=zj (B.take k)+zj (A.take k)):=⟨hl,bf,hv⟩;have HK:=E7 I;have HX:=E7 T;have z1:=I.lt;have g4:wr.cell? ⟨w.heap.size,k,none⟩=some (Ey Eu 0):=I.c _ (j6 hl);have g5:wr.frozen? ⟨w.heap.size,k,none⟩=false:=I.fr _;clear b9 Z0 B0 K0 hl bf hv;obtain⟨u,hu⟩:∃u,B.getD k 0=u:=⟨_,rfl⟩;obtain⟨v,hv⟩:∃v,A.getD k 0=v:=⟨_,rfl⟩;have u0:=zI oB k;have v0:=zI oA k;rw[hu]at u0;rw[hv]at v0;have HU:Hid (B.getD k 0=u/\A.getD k 0=v):=⟨hu,hv⟩;have X:nV<=k->v=0:=fun h=>by rw[<- hv]; have:=H.out.2; simp[List.getD,List.getElem?_eq_none (show A.length<=k by omega)]
  rcases Er k J with h1 | h1
  .
   obtain⟨ba,bh,rfl,bi,a9⟩:=fB D6;have g1:=(T.cell (p:=⟨ba,bh+k,none⟩) bi).trans (a9 k (by rw[H.out.1]; omega));rw[hu]at g1;have S0:∀s,s=u+v+N->Hid (zj (xs ++ [s%4294967296])+bp (k+1)*(s / 4294967296)=zj (B.take (k+1))+zj (A.take (k+1))):=fun s h=>qr (s:=s) M.out.1 M.out.2.2 (by rw[HU.out.1,HU.out.2]; exact h)
   rcases Er k nV with h2 | h2
   .
    obtain⟨bb,br,rfl,bl,ah⟩:=fA D6;have g2:=(T.cell (p:=⟨bb,br+k,none⟩) bl).trans (ah k (by rw[H.out.2]; omega));rw[hv]at g2;have S:=S0 _ rfl;clear a9 ah fA fB hu hv X I T S0
    go_wp2_with (go_at_call 184; refine(Ga _ _ _ _ D6 D6 D6).mono ?_; rintro e w' ⟨rfl,rfl⟩)
    go_roundw
    case rel=>
     refine⟨k+1,xs ++ [(u+v+N)%4294967296],(u+v+N) / 4294967296,by omega,by go_num,by first | rfl | go_num,by omega,by omega,by rw[List.length_append,M.out.1]; rfl,zX M.out.2.1 D6 D6,S.out,?_,HX.out.setCell (p:=⟨w.heap.size,k,none⟩) (Ep _) _⟩;have Y:=HK.out;rw[show J-k+1=(J-(k+1)+1)+1 by omega]at Y;exact Y.aW (by first | exact xi xs k _ _ M.out.1 | (simp only[Int.add_zero]; exact xi xs k _ _ M.out.1))
    case measure=>simp[intOf]; omega
   .
    obtain rfl:=X h2;have S:=S0 _ rfl;clear a9 fA fB hu hv X I T S0
    go_wp2_with (go_at_call 184; refine(Ga _ _ _ _ D6 D6 D6).mono ?_; rintro e w' ⟨rfl,rfl⟩)
    go_roundw
    case rel=>
     refine⟨k+1,xs ++ [(u+0+N)%4294967296],(u+0+N) / 4294967296,by omega,by go_num,by first | rfl | go_num,by omega,by omega,by rw[List.length_append,M.out.1]; rfl,zX M.out.2.1 D6 D6,S.out,?_,HX.out.setCell (p:=⟨w.heap.size,k,none⟩) (Ep _) _⟩;have Y:=HK.out;rw[show J-k+1=(J-(k+1)+1)+1 by omega]at Y;exact Y.aW (by first | exact xi xs k _ _ M.out.1 | (simp only[Int.add_zero]; exact xi xs k _ _ M.out.1))
    case measure=>simp[intOf]; omega
  .
   clear fA fB hu hv X I T;have bt:k=J:=D6
   subst bt
   go_wp2
   go_returns
   have E:=H.out;have Y:=HK.out;rw[show k-k+1=0+1 by omega]at Y;have be:=Y.aW (u:= Ey Eu N) (xi xs k 0 N M.out.1);rw[List.replicate_zero,List.append_nil]at be;have ll:(xs ++ [N]).length=k+1:=by rw[List.length_append,M.out.1]; rfl
   have L:=aA.a_ be (zX M.out.2.1 D6 D6);rw[ll]at L;refine⟨_,xs ++ [N],rfl,L,?_,by rw[ll]; omega,HX.out.setCell (p:=⟨w.heap.size,k,none⟩) (Ep _) _⟩;have:=M.out.2.2;rw[List.take_of_length_le D6,List.take_of_length_le D6]at this;rw[yV,M.out.1,this];omega
theorem GM (w:Ef) (M:aA w a A) (I:aA w b B) (J:A.length<=aD) (E:B.length<=aD) :
  Ee Ed 159 #[a,b] w fun e H=>∃v l,e = Eh v/\aA H v l/\zj l=zj A+zj B/\l.length=max A.length B.length+1/\zf w H:=by
 rcases Er A.length B.length with h | h
 . exact Jw w M I J E h
 . exact Jv w M I J E h
theorem VC {n:Nat} (h:xs.length=k) (E:k<n):(zK xs++List.replicate (n-k) (Value.int Eu 0)).toArray[k]? = some (Ey Eu 0):=by
 rw[show n-k=(n-k-1)+1 by omega]; exact j6 h
theorem Jy (w:Ef) (ha:aA w a A) (hb:aA w b B) (nA:A.length<=aD) (nB:B.length<=A.length) (b9:zj B<=zj A) :
  Ee Ed 160 #[a,b] w fun e w'=>∃v l,e = Eh v/\aA w' v l/\zj l=zj A-zj B/\l.length=A.length/\zf w w':=by
 obtain⟨aa,ca,rfl⟩:=ha.ak;obtain⟨ab,cb,rfl⟩:=hb.ak;obtain⟨oA,-,lA,fA⟩:=ha.cells;obtain⟨oB,-,lB,fB⟩:=hb.cells;clear ha hb;unfold aD at nA;obtain⟨N,hU⟩:∃n,A.length=n:=⟨_,rfl⟩;obtain⟨nV,hV⟩:∃n,B.length=n:=⟨_,rfl⟩;have H:Hid (A.length=N/\B.length=nV/\zj B<=zj A):=⟨hU,hV,b9⟩;rw[hV,hU]at nB;rw[hU]at nA lA fA;rw[hV]at lB fB;rw[hU,hV];clear hU hV b9;have bh:=xK N D6;have Z0:(w.alloc (.cells (madeCells #[Ey Eu 0] N) 172)).heap.size=w.heap.size+1:=Et _ _;have B0:Below w.heap.size w (w.alloc (.cells (madeCells #[Ey Eu 0] N) 172)):=(Below.refl _ _).alloc (Ep _) _
 have K0:ai (w.alloc (.cells (madeCells #[Ey Eu 0] N) 172)) w.heap.size 172 (zK []++List.replicate N (Value.int Eu 0)).toArray:=by
  have:=ai.new w 172 (madeCells #[Ey Eu 0] N);rw[yC,qz]at this;rw[yC,qz];exact this
 go_enter Tryz.func160,Tryz.ntmps160
 go_wp2
 go_loopw [6,7,8,9,15] (fun c i x y kk wr=>∃ (k:Nat) (xs:List Int) (J:Int),k<=N/\kk = Ey Ew k/\c = Ey Eu J/\0<=J/\J<=1/\xs.length=k/\yv xs/\zj xs=zj (A.take k)-zj (B.take k)+bp k*J/\
   ai wr w.heap.size 172 (zK xs++List.replicate (N-k) (Value.int Eu 0)).toArray/\Below w.heap.size w wr) (fun _ _ _ _ k _=>(N-(intOf k).toNat))
 case atStart=>exact⟨0,[],0,Nat.zero_le _,rfl,rfl,by omega,by omega,rfl,z6,by simp[zj],K0,B0⟩
 case round=>
  obtain⟨k,xs,J,hk,rfl,rfl,c0,c1,hl,be,hv,I,X⟩:=hrel;have HV:Hid (xs.length=k/\yv xs/\zj xs=zj (A.take k)-zj (B.take k)+bp k*J):=⟨hl,be,hv⟩;have HK:=E7 I;have HX:=E7 X;have z1:=I.lt;clear bh Z0 B0 K0 be;obtain⟨u,hu⟩:∃u,A.getD k 0=u:=⟨_,rfl⟩;obtain⟨v,M⟩:∃v,B.getD k 0=v:=⟨_,rfl⟩;have u0:=zI oA k;have v0:=zI oB k;rw[hu]at u0;rw[M]at v0;have HU:Hid (A.getD k 0=u/\B.getD k 0=v):=⟨hu,M⟩;have Y:nV<=k->v=0:=fun h=>by rw[<- M]; have:=H.out.2.1; simp[List.getD,List.getElem?_eq_none (show B.length<=k by omega)]
  rcases Er k N with h1 | h1
  .
   have g4:wr.cell? ⟨w.heap.size,k,none⟩=some (Ey Eu 0):=I.c _ (VC hl h1);have g5:wr.frozen? ⟨w.heap.size,k,none⟩=false:=I.fr _;obtain⟨ba,bf,rfl,bg,a9⟩:=fA D6;have g1:=(X.cell (p:=⟨ba,bf+k,none⟩) bg).trans (a9 k (by rw[H.out.1]; omega));rw[hu]at g1;obtain⟨T,Z⟩:∃b:Int,(if u-v-J<0 then 1 else 0:Int)=b:=⟨_,rfl⟩
   have b0:0<=T/\T<=1/\0<=u-v-J+4294967296*T/\u-v-J+4294967296*T<4294967296/\(u-v-J)%4294967296=u-v-J+4294967296*T:=by
    rw[<- Z]; split<;>omega
   have SB:∀w',Ee Ed 185 #[Ey Eu u,Ey Eu v,Ey Eu J] w' fun e w2=>e = Eh (Ev #[Ey Eu (u-v-J+4294967296*T),Ey Eu T])/\w2=w':=fun w'=>by
    have:=G' u v J w' u0 v0 ⟨c0,c1⟩;rw[Z,b0.2.2.2.2]at this;exact this
   obtain⟨d,hd⟩:∃d,u-v-J+4294967296*T=d:=⟨_,rfl⟩;have S:Hid (zj (xs ++ [d])=zj (A.take (k+1))-zj (B.take (k+1))+bp (k+1)*T):=q_ (t:=u-v-J) (x:=d) (c':=T) HV.out.1 HV.out.2.2 (by rw[HU.out.1,HU.out.2]) hd.symm;rw[hd]at b0 SB;have b1:0<=d/\d<4294967296:=⟨b0.2.2.1,b0.2.2.2.1⟩;have b2:0<=T/\T<=1:=⟨b0.1,b0.2.1⟩
   rcases Er k nV with h2 | h2
   focus
    obtain⟨bb,br,rfl,bl,ah⟩:=fB D6;have g2:=(X.cell (p:=⟨bb,br+k,none⟩) bl).trans (ah k (by rw[H.out.2.1]; omega));rw[M]at g2;clear a9 ah fA fB hu hv M Y I X Z hd b0 hl
   rotate_left
   focus
    obtain rfl:=Y h2;clear a9 fA fB hu hv M Y I X Z hd b0 hl
   rotate_left
   all_goals
    go_wp2_with (go_at_call 185; refine(SB _).mono ?_; rintro e w' ⟨rfl,rfl⟩)
    go_roundw
    case rel=>
     refine⟨k+1,xs ++ [d],T,by omega,by go_num,rfl,b2.1,b2.2,by rw[List.length_append,HV.out.1]; rfl,zX HV.out.2.1 b1.1 b1.2,S.out,?_,HX.out.setCell (p:=⟨w.heap.size,k,none⟩) (Ep _) _⟩;have kb:=HK.out;rw[show N-k=(N-(k+1))+1 by omega]at kb;exact kb.aW (xi xs k _ _ HV.out.1)
    case measure=>simp[intOf]; omega
  .
   clear fA fB hu M Y X;have bt:k=N:=D6
   subst bt;have E:=H.out;rw[Nat.sub_self,List.replicate_zero,List.append_nil]at I;have L:=aA.a_ I HV.out.2.1;rw[hl]at L;have e2:=yO HV.out.2.1;have e4:=zG HV.out.2.1;rw[hl]at e2;rw[List.take_of_length_le D6,List.take_of_length_le D6]at hv
   have bi:J=0:=by
    rcases(show J=0\/J=1 by omega)with h | h
    . exact h
    . subst h; rw[Int.mul_one]at hv; have:=H.out.2.2; omega
   subst bi;rw[Int.mul_zero,Int.add_zero]at hv;have F:=E7 (E8 L (E8 hv hl));clear L hv hl I e2 e4 E
   go_wp2
   go_returns
   exact⟨_,xs,rfl,F.out.1,F.out.2.1,F.out.2.2,HX.out⟩
theorem VD {g j b o capu capv:Nat} {pre post:List Ei} {U V:List Int} {q:Int} (w:Ef) (hB:ai w g 172 (xG pre U post)) (hj:pre.length=j) (hU:U.length=m+1) (bf:yv U)
  (hV:Cells w b o V) (lV:V.length=m) (b9:yv V) (m0:0<m) (hb:b<w.heap.size) (bg:b≠g) (hn:m<=aD) (q0:0<=q) (q1:q<4294967296) :
  Ee Ed 188 #[Ex (some ⟨g,j,none⟩) (m+1) capu,Ex (some ⟨b,o,none⟩) m capv,Ey Eu q] w fun e Y=>
   ∃ (U':List Int) (E:Int),e = Eh (Ez (E==0))/\0<=E/\E<=1/\U'.length=m+1/\yv U'/\zj U'=zj U-q*zj V+bp (m+1)*E/\ai Y g 172 (xG pre U' post)/\w.grownBy Y (some g):=by
 unfold aD at hn;have HJ:Hid (pre.length=j/\U.length=m+1/\V.length=m):=⟨hj,hU,lV⟩;have HV:=E7 hV;have G0:w.grownBy w (some g):=World.grownBy.refl w _;have B0:ai w g 172 (xG pre ([]++U.drop 0) post):=hB;clear hB hj hU lV hV
 go_enter Tryz.func188,Tryz.ntmps188
 go_wp2
 go_loopw [7,8,9,10,14] (fun c bo i x kk wr=>∃ (k:Nat) (xs:List Int) (H M:Int),k<=m/\kk = Ey Ew k/\bo = Ey Eu H/\c = Ey .u64 M/\0<=H/\H<=1/\0<=M/\M<4294967296/\xs.length=k/\yv xs/\
   zj xs=zj (U.take k)-q*zj (V.take k)+bp k*(M+H)/\ai wr g 172 (xG pre (xs++U.drop k) post)/\w.grownBy wr (some g)) (fun _ _ _ _ k _=>m-(intOf k).toNat)
 case atStart=>exact⟨0,[],0,0,Nat.zero_le _,rfl,rfl,rfl,by omega,by omega,by omega,by omega,rfl,z6,by simp[zj],B0,G0⟩
 case round=>
  obtain⟨k,xs,H,M,hk,rfl,rfl,rfl,b0,b1,c0,c1,hl,ah,hv,J,a9⟩:=hrel;have HR:Hid (xs.length=k/\yv xs/\zj xs=zj (U.take k)-q*zj (V.take k)+bp k*(M+H)):=⟨hl,ah,hv⟩;have HG:=E7 a9;have HK:=E7 J;clear B0 G0;obtain⟨u,hu⟩:∃x,U.getD k 0=x:=⟨_,rfl⟩;obtain⟨v,Z⟩:∃x,V.getD k 0=x:=⟨_,rfl⟩;have u0:=zI bf k;have v0:=zI b9 k;rw[hu]at u0;rw[Z]at v0
  have gU:(xs++U.drop k).getD k 0=u:=by
   rw[<- hu];simp only[List.getD];rw[List.getElem?_append_right D6,hl,Nat.sub_self,List.getElem?_drop,Nat.add_zero]
  have g1:wr.cell? ⟨g,j+k,none⟩=some (Ey Eu u):=by
   rw[<- gU];exact J.c _ (xm HJ.out.1 (by rw[List.length_append,List.length_drop,hl]; have:=HJ.out.2.1; omega))
  have g2:wr.frozen? ⟨g,j+k,none⟩=false:=J.fr _;have HX:Hid (U.getD k 0=u/\V.getD k 0=v):=⟨hu,Z⟩
  rcases Er k m with h1 | h1
  .
   have g3:=(HV.out.grown a9 hb bg) k (by have:=HJ.out.2.2; omega);rw[Z]at g3;obtain⟨p,hp⟩:∃p,q*v=p:=⟨_,rfl⟩;have p0:0<=p:=by rw[<- hp]; exact Int.mul_nonneg q0 v0.1
   have p1:p<=18446744065119617025:=by
    rw[<- hp];have:=Int.mul_le_mul (show q<=4294967295 by omega) (show v<=4294967295 by omega) v0.1 D6;omega
   have hw:IntKind.u64.wrap (q*v)=p:=by rw[hp,wrap_u64 D6 D6]
   obtain⟨I,X⟩:∃l,(M+p)%4294967296=l:=⟨_,rfl⟩;have l0:0<=I/\I<4294967296:=D6
   obtain⟨E,T⟩:∃b:Int,(if u-I-H<0 then 1 else 0:Int)=b:=⟨_,rfl⟩
   have N:0<=E/\E<=1/\0<=u-I-H+4294967296*E/\u-I-H+4294967296*E<4294967296/\(u-I-H)%4294967296=u-I-H+4294967296*E:=by
    rw[<- T]; split<;>omega
   have SB:∀Y,Ee Ed 185 #[Ey Eu u,Ey Eu ((M+p)%4294967296),Ey Eu H] Y fun e w2=>e = Eh (Ev #[Ey Eu (u-I-H+4294967296*E),Ey Eu E])/\w2=Y:=fun Y=>by
    have:=G' u I H Y u0 l0 ⟨b0,b1⟩;rw[T,N.2.2.2.2]at this;rw[X];exact this
   obtain⟨d,hd⟩:∃d,u-I-H+4294967296*E=d:=⟨_,rfl⟩;have S:Hid (zj (xs ++ [d])=zj (U.take (k+1))-q*zj (V.take (k+1))+bp (k+1)*((M+p) / 4294967296+E)):=jC (s:=M+p) (t:=u-I-H) (b':=E) HR.out.1 HR.out.2.2 (by rw[HX.out.2,hp]) (by rw[HX.out.1,X]) hd.symm;rw[hd]at N SB;have d0:0<=d/\d<4294967296:=⟨N.2.2.1,N.2.2.2.1⟩;have b2:0<=E/\E<=1:=⟨N.1,N.2.1⟩;clear T N hd X l0;clear hu Z gU hp hl ah hv J a9
   go_wp2_with (go_at_call 185; refine(SB _).mono ?_; rintro e Y ⟨rfl,rfl⟩)
   go_roundw
   case rel=>
    have R:=HR.out;refine⟨k+1,xs ++ [d],E,(M+p) / 4294967296,by omega,by go_num,rfl,by go_num,b2.1,b2.2,by omega,by omega,by rw[List.length_append,R.1]; rfl,zX R.2.1 d0.1 d0.2,S.out,?_,xT HG.out _ _⟩;exact HK.out.aW (qF HJ.out.1 R.1 (by have:=HJ.out.2.1; omega) _)
   case measure=>simp[intOf]; omega
  .
   have bh:k=m:=D6
   subst bh;have be:v=0:=by rw[<- Z]; have:=HJ.out.2.2; simp[List.getD,List.getElem?_eq_none (show V.length<=k by omega)]
   subst be;obtain⟨I,X⟩:∃l,(M)%4294967296=l:=⟨_,rfl⟩;have l0:0<=I/\I<4294967296:=D6
   obtain⟨E,T⟩:∃b:Int,(if u-I-H<0 then 1 else 0:Int)=b:=⟨_,rfl⟩
   have N:0<=E/\E<=1/\0<=u-I-H+4294967296*E/\u-I-H+4294967296*E<4294967296/\(u-I-H)%4294967296=u-I-H+4294967296*E:=by
    rw[<- T]; split<;>omega
   have SB:∀Y,Ee Ed 185 #[Ey Eu u,Ey Eu ((M)%4294967296),Ey Eu H] Y fun e w2=>e = Eh (Ev #[Ey Eu (u-I-H+4294967296*E),Ey Eu E])/\w2=Y:=fun Y=>by
    have:=G' u I H Y u0 l0 ⟨b0,b1⟩;rw[T,N.2.2.2.2]at this;rw[X];exact this
   obtain⟨d,hd⟩:∃d,u-I-H+4294967296*E=d:=⟨_,rfl⟩;have S:Hid (zj (xs ++ [d])=zj (U.take (k+1))-q*zj (V.take (k+1))+bp (k+1)*((M) / 4294967296+E)):=jC (s:=M) (t:=u-I-H) (b':=E) HR.out.1 HR.out.2.2 (by rw[HX.out.2]; omega) (by rw[HX.out.1,X]) hd.symm;rw[hd]at N SB;have d0:0<=d/\d<4294967296:=⟨N.2.2.1,N.2.2.2.1⟩;have b2:0<=E/\E<=1:=⟨N.1,N.2.1⟩;clear T N hd X l0;rw[Int.emod_eq_of_lt c0 c1]at SB;rw[Int.ediv_eq_zero_of_lt c0 c1,Int.zero_add]at S;have bi:M%4294967296=M:=Int.emod_eq_of_lt c0 c1;clear hu Z gU hl ah hv J a9
   go_wp2_with (go_at_call 185; refine(SB _).mono ?_; rintro e Y ⟨rfl,rfl⟩)
   go_returns
   have R:=HR.out;refine⟨xs ++ [d],E,rfl,b2.1,b2.2,by rw[List.length_append,R.1]; rfl,zX R.2.1 d0.1 d0.2,?_,?_,xT HG.out _ _⟩
   .
    have:=S.out;rw[List.take_of_length_le (by have:=HJ.out.2.1; omega),List.take_of_length_le (by have:=HJ.out.2.2; omega)]at this;exact this
   .
    have:=HK.out.aW (u:= Ey Eu d) (qF HJ.out.1 R.1 (by have:=HJ.out.2.1; omega) d);rw[List.drop_of_length_le (by have:=HJ.out.2.1; omega),List.append_nil]at this;exact this
theorem xX (neg:Bool) {s:Ei} {l:List Int} (w:Ef) (hs:aA w s l) (nl:l.length<=aD) :
  Ee Ed 94 #[Ez neg,s] w fun e w'=>∃v,e = Eh (Ev #[v,Ey Ew (jc (zv neg (zj l)))])/\az w' v (xt (zv neg (zj l)))/\zf w w':=by
 have ok:=hs.ok;have nt:=vw l;unfold aD at nl;obtain⟨n,hn⟩:∃n,(zS l).length=n:=⟨_,rfl⟩;have T:=XD neg ok
 have F1:Hid (n<=4096->jc (zv neg (zj l))=0/\xt (zv neg (zj l))=zv neg (zj l)):=fun h=>by
  have g:fits (zv neg (zj l)):=T.2 D6;exact⟨E9 g,E9 g⟩
 have F2:Hid (4096<n->jc (zv neg (zj l))=16/\xt (zv neg (zj l))=0):=fun h=>by
  have g:¬fits (zv neg (zj l)):=fun g=>by have:=T.1 g; omega
  exact⟨E_ g,E_ g⟩
 have HO:=E7 ok;have N:=E7 hn;clear T ok hn
 go_enter Tryz.func94,Tryz.ntmps94
 go_wp2_with fail
 refine(Y' _ (hs.ae zh) (by unfold aD; omega)).mono ?_;rintro e w1 ⟨v1,rfl,H,st⟩;have Z:=bA w st;have or:ai w1 w.heap.size 26 #[Ez false,Ex none 0 0]:=ai.aw st;clear st;have B:=Z;clear Z;obtain⟨E,I,fr,Y⟩:=or.s1;have HV:=E7 H;obtain⟨ao,cap,J⟩:=H.ak;rw[N.out]at J;subst J;have a9:=N.out;clear H
 rcases Er 4096 n with M | M
 .
  go_wp2
  refine Eo (by simp[results,Tryz.results94,go_sem,E,I,fr,Y]; rfl) rfl ?_;exact⟨_,YT rfl (F2.out M).1.symm,by rw[(F2.out M).2]; exact az.zero _,zh⟩
 .
  have F:=F1.out M
  rcases Nat.eq_zero_or_pos n with X | X
  .
   subst X
   cases neg
   all_goals
    go_wp2
    refine Eo (by simp[results,Tryz.results94,go_sem,E,I,fr,Y]; rfl) rfl ?_;exact⟨_,YT rfl F.1.symm,by rw[F.2]; exact az.of (HV.out.aN or) HO.out (by rw[N.out]; rfl),zh⟩
  .
   cases neg
   all_goals
    go_wp2
    refine Eo (by simp[results,Tryz.results94,go_sem,E,I,fr,Y]; rfl) rfl ?_;exact⟨_,YT rfl F.1.symm,by rw[F.2]; exact az.of (HV.out.aN or) HO.out (by rw[N.out]; simp[X]),zh⟩
theorem Ha (E I:Bool) {sa sb:Ei} {la lb:List Int} (w:Ef) (ha:aA w sa la) (hb:aA w sb lb) :
  Ee Ed 156 #[.agg #[Ez E,sa],.agg #[Ez I,sb]] w fun e w'=>e = Eh (Ey Ew (yT (zU E la/\zU I lb)))/\zf w w':=by
 obtain⟨aa,ca,rfl⟩:=ha.ak;obtain⟨ab,cb,rfl⟩:=hb.ak;obtain⟨n,hn⟩:∃n,la.length=n:=⟨_,rfl⟩;obtain⟨m,hm⟩:∃m,lb.length=m:=⟨_,rfl⟩;rw[hn]at ha|-;rw[hm]at hb|-;clear hn hm
 by_cases h1:zU E la
 .
  have H1:Hid (yT (zU E la)=0):=E9 h1;have H:Hid (yT (zU E la/\zU I lb)=yT (zU I lb)):=by show yT (zU E la/\zU I lb)=_; unfold yT; simp[h1]
  clear h1
  go_enter Tryz.func156,Tryz.ntmps156
  go_wp2_with fail
  refine(qT E _ (ha.ae zh)).mono ?_;rintro e w1 ⟨rfl,ah⟩;have st:zf _ w1:=ah;have J:=bA w st;have N:ai w1 w.heap.size 26 #[Ez E,Ex aa n ca]:=ai.aw st;have T:ai w1 (w.heap.size+1) 26 #[Ez I,Ex ab m cb]:=ai.aw st;clear st;have B:=J;clear J;obtain⟨M,X,fa,la⟩:=N.s1;obtain⟨Y,Z,fb,lb⟩:=T.s1;rw[H1.out];have a9:=hb.ae B;go_wp2_with fail
  refine(qT I _ a9).mono ?_;rintro e w2 ⟨rfl,b9⟩;have st:zf _ w2:=b9;have J:=bA w st;have E:=N.aM st;have I:=T.aM st;clear B N T M X fa la Y Z fb lb;clear st;have B:=J;clear J;have N:=E;clear E;obtain⟨M,X,fa,la⟩:=N.s1;have T:=I;clear I;obtain⟨Y,Z,fb,lb⟩:=T.s1
  go_wp2
  go_returns
  exact⟨yE H.out.symm,zh⟩
 .
  have H1:Hid (yT (zU E la)=8):=E_ h1;have H:Hid (yT (zU E la/\zU I lb)=8):=E_ (fun h=>h1 h.1);clear h1
  go_enter Tryz.func156,Tryz.ntmps156
  go_wp2_with fail
  refine(qT E _ (ha.ae zh)).mono ?_;rintro e w1 ⟨rfl,st⟩;have J:=bA w st;have N:ai w1 w.heap.size 26 #[Ez E,Ex aa n ca]:=ai.aw st;have T:ai w1 (w.heap.size+1) 26 #[Ez I,Ex ab m cb]:=ai.aw st;clear st;have B:=J;clear J;obtain⟨M,X,fa,la⟩:=N.s1;obtain⟨Y,Z,fb,lb⟩:=T.s1;rw[H1.out];have be:=ha.ae B;go_wp2_with fail
  refine(qT E _ be).mono ?_;rintro e w2 ⟨rfl,st⟩;have J:=bA w st;have E:=N.aM st;have I:=T.aM st;clear B N T M X fa la Y Z fb lb;clear st;have B:=J;clear J;have N:=E;clear E;obtain⟨M,X,fa,la⟩:=N.s1;have T:=I;clear I;obtain⟨Y,Z,fb,lb⟩:=T.s1;rw[H1.out]
  go_wp2
  go_returns
  exact⟨yE H.out.symm,zh⟩
theorem az.parts (h:az w v z):∃ao c,v = .agg #[Ez (decide (z<0)),Ex ao (zp (zi z)).length c]/\aA w (Ex ao (zp (zi z)).length c) (zp (zi z)):=by
 obtain⟨s,rfl,E⟩:=h;obtain⟨ao,c,rfl⟩:=E.ak;exact⟨ao,c,rfl,E⟩
theorem zD (z:Int):0<=zi z:=by unfold zi; omega
theorem Qf (x y:Int) (H:x<0) (E:y<0):zM (zi y) (zi x)=zM x y:=by unfold zM zi; split<;>split<;>(try split)<;>(try split)<;>omega
theorem Qg (x y:Int) (H:0<=x) (E:0<=y):zM (zi x) (zi y)=zM x y:=by unfold zM zi; split<;>split<;>(try split)<;>(try split)<;>omega
theorem VE (w:Ef) (ha:az w va x) (hb:az w vb y) (fx:fits x) (fy:fits y) :
  Ee Ed 128 #[va,vb] w fun e w'=>e = Eh (Ey Ew (zM x y))/\zf w w':=by
 obtain⟨aa,ca,rfl,Z⟩:=ha.parts;obtain⟨ab,cb,rfl,Y⟩:=hb.parts;unfold fits at fx fy;have nx:(zp (zi x)).length<=aD:=by unfold aD; omega
 have ny:(zp (zi y)).length<=aD:=by unfold aD; omega
 obtain⟨n,X⟩:∃n,(zp (zi x)).length=n:=⟨_,rfl⟩;obtain⟨m,T⟩:∃m,(zp (zi y)).length=m:=⟨_,rfl⟩;rw[X]at Z|-;rw[T]at Y|-;clear ha hb
 rcases Int.lt_or_le x 0 with M | M
 .
  have J:decide (x<0)=true:=by simp[M]
  rcases Int.lt_or_le y 0 with I | I
  .
   have H:decide (y<0)=true:=by simp[I]
   have E:=E7 (Qf x y M I);rw[J,H];clear X T J H M I
   go_enter Tryz.func128,Tryz.ntmps128
   go_wp2_with fail
   refine(qJ _ (Y.ae zh) (Z.ae zh) (zD _) (zD _) ny nx).mono ?_;rintro e w1 ⟨rfl,N⟩
   go_wp2
   go_returns
   exact⟨yE E.out,(show Below _ _ _ from zh).trans (N.mono (by simp only[Et]; omega))⟩
  .
   have H:decide (y<0)=false:=by simp; omega
   have E:Hid (zM x y = -1):=by show zM x y = -1; unfold zM; rw[E_ D6,E9 D6]
   rw[J,H];clear X T J H M I
   go_enter Tryz.func128,Tryz.ntmps128
   go_wp2
   go_returns
   exact⟨yE E.out.symm,zh⟩
 .
  have J:decide (x<0)=false:=by simp; omega
  rcases Int.lt_or_le y 0 with I | I
  .
   have H:decide (y<0)=true:=by simp[I]
   have E:Hid (zM x y=1):=by show zM x y=1; unfold zM; rw[E_ D6,E_ D6]
   rw[J,H];clear X T J H M I
   go_enter Tryz.func128,Tryz.ntmps128
   go_wp2
   go_returns
   exact⟨yE E.out.symm,zh⟩
  .
   have H:decide (y<0)=false:=by simp; omega
   have E:=E7 (Qg x y M I);rw[J,H];clear X T J H M I
   go_enter Tryz.func128,Tryz.ntmps128
   go_wp2_with fail
   refine(qJ _ (Z.ae zh) (Y.ae zh) (zD _) (zD _) nx ny).mono ?_;rintro e w1 ⟨rfl,N⟩
   go_wp2
   go_returns
   exact⟨yE E.out,(show Below _ _ _ from zh).trans (N.mono (by simp only[Et]; omega))⟩
theorem qA:bp 2=18446744073709551616:=by rw[xx,xx,kD]; decide
theorem xP (h:zi z<18446744073709551616):fits z:=by
 unfold fits;have:=(xl (zD z) 2).2 (by rw[qA]; exact h);omega
theorem zQ (h:fits z):jc z=0:=E9 h
theorem zJ (h:fits z):xt z=z:=E9 h
theorem az.ak (h:az w v z):∃b ao n c,v = .agg #[Ez b,Ex ao n c]:=by
 obtain⟨ao,c,e,_⟩:=h.parts;exact⟨_,ao,_,c,e⟩
theorem Xa (z:Int) (w:Ef) (z0 : -9223372036854775808<=z) (z1:z<=9223372036854775807) :
  Ee Ed 104 #[Ey Ew z] w fun e E=>∃v,e = Eh v/\az E v z/\zf w E:=by
 have I:fits z:=xP (by unfold zi; omega)
 rcases Int.lt_or_le z 0 with Z | Z
 focus
  have hd:decide (z<0)=true:=by simp[Z]
  have M:Hid (zv true (zj [(-z)%4294967296,(-z) / 4294967296])=z):=by show zv _ _=z; simp only[zv,zj,if_true,Bool.false_eq_true,if_false]; omega
  have J:=E7 (E8 (zQ I) (zJ I));clear I;obtain⟨m,Y⟩:∃m,-z=m:=⟨_,rfl⟩;have hw:IntKind.u64.wrap (-IntKind.u64.wrap z)=m:=by simp only[IntKind.wrap_u64]; omega
  rw[Y]at M;have m0:0<=m/\m<=9223372036854775808:=D6
  clear Y
  have cm:Ee Ed 139 #[Ez true,Ex (some ⟨w.heap.size+1,0,none⟩) 2 2] ((w.alloc (.cells #[Ez false,Ex none 0 0] 26)).alloc (.cells #[Ey Eu (m%4294967296),Ey Eu (m / 4294967296)] 172)) (fun e E=>∃v,e = Eh (Ev #[v,Ey Ew 0])/\az E v z/\zf ((w.alloc (.cells #[Ez false,Ex none 0 0] 26)).alloc (.cells #[Ey Eu (m%4294967296),Ey Eu (m / 4294967296)] 172)) E):=by
   have L:aA ((w.alloc (.cells #[Ez false,Ex none 0 0] 26)).alloc (.cells #[Ey Eu (m%4294967296),Ey Eu (m / 4294967296)] 172)) (Ex (some ⟨w.heap.size+1,0,none⟩) 2 2) [m%4294967296,m / 4294967296]:=aA.a_ (l:= [m%4294967296,m / 4294967296]) (ai.eh w _ _ _) (by simp only[zZ]; refine⟨⟨by omega,by omega⟩,⟨by omega,by omega⟩,z6⟩);have C:=qQ true _ L (by unfold aD; simp);rw[M.out,J.out.1,J.out.2]at C;exact C
 rotate_left
 focus
  have hd:decide (z<0)=false:=by simp; omega
  have M:Hid (zv false (zj [z%4294967296,z / 4294967296])=z):=by show zv _ _=z; simp only[zv,zj,if_true,Bool.false_eq_true,if_false]; omega
  have J:=E7 (E8 (zQ I) (zJ I));clear I
  have cm:Ee Ed 139 #[Ez false,Ex (some ⟨w.heap.size+1,0,none⟩) 2 2] ((w.alloc (.cells #[Ez false,Ex none 0 0] 26)).alloc (.cells #[Ey Eu (z%4294967296),Ey Eu (z / 4294967296)] 172)) (fun e E=>∃v,e = Eh (Ev #[v,Ey Ew 0])/\az E v z/\zf ((w.alloc (.cells #[Ez false,Ex none 0 0] 26)).alloc (.cells #[Ey Eu (z%4294967296),Ey Eu (z / 4294967296)] 172)) E):=by
   have L:aA ((w.alloc (.cells #[Ez false,Ex none 0 0] 26)).alloc (.cells #[Ey Eu (z%4294967296),Ey Eu (z / 4294967296)] 172)) (Ex (some ⟨w.heap.size+1,0,none⟩) 2 2) [z%4294967296,z / 4294967296]:=aA.a_ (l:= [z%4294967296,z / 4294967296]) (ai.eh w _ _ _) (by simp only[zZ]; refine⟨⟨by omega,by omega⟩,⟨by omega,by omega⟩,z6⟩);have C:=qQ false _ L (by unfold aD; simp);rw[M.out,J.out.1,J.out.2]at C;exact C
 rotate_left
 all_goals
  go_enter Tryz.func104,Tryz.ntmps104
  go_wp2_with fail
  refine(cm).mono ?_;rintro e w1 ⟨v1,rfl,H,st⟩;have X:=bA w st;have or:ai w1 w.heap.size 26 #[Ez false,Ex none 0 0]:=ai.aw st;clear st;have B:=X;clear X;obtain⟨N,T,fr,lr⟩:=or.s1;obtain⟨bb,ao,n,c,rfl⟩:=H.ak;have HV:=E7 H;clear H
  go_wp2
  refine Eo (by simp[results,Tryz.results104,go_sem,N,T,fr,lr]; rfl) rfl ?_;exact⟨_,rfl,(HV.out.aN or).ae ((Below.refl _ _).alloc (Ep _) _),zh⟩
theorem jO (x y:Int):(zM x y=0/\x=y)\/(zM x y = -1/\x<y)\/(zM x y=1/\y<x):=by
 unfold zM
 split
 . left; omega
 .
  split
  . right; left; omega
  . right; right; omega
theorem z4 (z:Int):(z<0/\zi z = -z)\/(0<=z/\zi z=z):=by unfold zi; omega
theorem Hb (w:Ef) (ha:az w va x) (hb:az w vb y) (fx:fits x) (fy:fits y) :
  Ee Ed 192 #[va,vb] w fun e H=>∃v,e = Eh (Ev #[v,Ey Ew (jc (x+y))])/\az H v (xt (x+y))/\zf w H:=by
 obtain⟨aa,ca,rfl,pa⟩:=ha.parts;obtain⟨ab,cb,rfl,pb⟩:=hb.parts;unfold fits at fx fy;have nx:(zp (zi x)).length<=aD:=by unfold aD; omega
 have ny:(zp (zi y)).length<=aD:=by unfold aD; omega
 have vx:=zE (zD x);have vy:=zE (zD y);obtain⟨n,hn⟩:∃n,(zp (zi x)).length=n:=⟨_,rfl⟩;obtain⟨m,hm⟩:∃m,(zp (zi y)).length=m:=⟨_,rfl⟩;have dc:Hid ((zp (zi x)).length=n/\(zp (zi y)).length=m):=⟨hn,hm⟩;have HL:Hid (zj (zp (zi x))=zi x/\zj (zp (zi y))=zi y):=⟨vx,vy⟩;rw[hn]at pa|-;rw[hm]at pb|-;have X:=z4 x;have Y:=z4 y;obtain⟨gx,br⟩:∃b,decide (x<0)=b:=⟨_,rfl⟩;obtain⟨gy,ce⟩:∃b,decide (y<0)=b:=⟨_,rfl⟩;rw[br,ce];have HS:Hid (decide (x<0)=gx/\decide (y<0)=gy):=⟨br,ce⟩;have HX:=E7 (E8 X Y);have HF:=E7 (E8 fx fy);clear ha hb hn hm br ce X Y vx vy nx ny fx fy
 by_cases hs:gx=gy
 .
  subst hs
  have hz:∀l,zj l=zj (zp (zi x))+zj (zp (zi y))->zv gx (zj l)=x+y:=fun l h=>by
   rw[h,HL.out.1,HL.out.2];have h1:=HS.out.1;have h2:=HS.out.2;have h3:=HX.out;unfold zv
   cases gx
   . simp at h1 h2; simp only[Bool.false_eq_true,if_false]; omega
   . simp at h1 h2; simp only[if_true]; omega
  have Hz:=E7 hz;clear hz
  go_enter Tryz.func192,Tryz.ntmps192
  go_wp2_with fail
  go_region_held3 (fun H=>H.cell? ⟨w.heap.size,0,none⟩=some (Ez gx)/\H.cell? ⟨w.heap.size,1,none⟩=some (Ex aa n ca)/\H.cell? ⟨w.heap.size+1,0,none⟩=some (Ez gx)/\H.cell? ⟨w.heap.size+1,1,none⟩=some (Ex ab m cb))
   ((refine⟨ai.c (t:=26) (cs:=#[Ez gx,Ex aa n ca]) ?_ 0 rfl,ai.c (t:=26) (cs:=#[Ez gx,Ex aa n ca]) ?_ 1 rfl,ai.c (t:=26) (cs:=#[Ez gx,Ex ab m cb]) ?_ 0 rfl,ai.c (t:=26) (cs:=#[Ez gx,Ex ab m cb]) ?_ 1 rfl⟩<;>(repeat' first | with_reducible assumption | (with_reducible refine ai.bK ?_; first | with_reducible rfl | (simp only[Et,World.size_setCell,World.size_drew]; done)) | with_reducible refine ai.alloc ?_ _ | with_reducible refine ai.drew ?_ | with_reducible refine ai.drewN ?_ _ | with_reducible apply ai.both | with_reducible refine ai.aK ?_ ?_ | (show _≠_; omega))))
   (first
    | ((go_at_call 196; refine(Bw _ (pa.ae zh) (pb.ae zh) (by have:=HF.out; unfold aD; omega) (by have:=HF.out; unfold aD; omega)).mono ?_; rintro e E ⟨v1,l1,rfl,bl,ci,dk,b9⟩; have d9:=E7 ci; clear ci; go_must (have st:zf _ E:=b9; have Bn:=bA w st; have na:ai E w.heap.size 26 #[Ez gx,Ex aa n ca]:=ai.aw st; have nb:ai E (w.heap.size+1) 26 #[Ez gx,Ex ab m cb]:=ai.aw st; have nr:ai E (w.heap.size+1+1) 26 #[Ez false,Ex none 0 0]:=ai.aw st; clear st; have B:=Bn; clear Bn; have I:=na; clear na; have M:Es E ⟨w.heap.size,0,none⟩=some (Ez gx):=I.c 0 rfl; have T:Es E ⟨w.heap.size,1,none⟩=some (Ex aa n ca):=I.c 1 rfl; have fa:=I.fr; have la:=I.lt; have J:=nb; clear nb; have Z:Es E ⟨w.heap.size+1,0,none⟩=some (Ez gx):=J.c 0 rfl; have a9:Es E ⟨w.heap.size+1,1,none⟩=some (Ex ab m cb):=J.c 1 rfl; have fb:=J.fr; have lb:=J.lt; have or:=nr; clear nr; have N:Es E ⟨w.heap.size+1+1,0,none⟩=some (Ez false):=or.c 0 rfl; have ah:Es E ⟨w.heap.size+1+1,1,none⟩=some (Ex none 0 0):=or.c 1 rfl; have fr:=or.fr; have lr:=or.lt)))
    | ((go_at_call 139; refine(qQ gx _ bl (by have:=HF.out; unfold aD; omega)).mono ?_; rintro e E ⟨v2,rfl,be,b9⟩; go_must (have st:zf _ E:=b9; have Bn:=bA w st; have na:ai E w.heap.size 26 #[Ez gx,Ex aa n ca]:=ai.aw st; have nb:ai E (w.heap.size+1) 26 #[Ez gx,Ex ab m cb]:=ai.aw st; have nr:ai E (w.heap.size+1+1) 26 #[Ez false,Ex none 0 0]:=ai.aw st; clear B I J or M T fa la Z a9 fb lb N ah fr lr; clear st; have B:=Bn; clear Bn; have I:=na; clear na; have M:Es E ⟨w.heap.size,0,none⟩=some (Ez gx):=I.c 0 rfl; have T:Es E ⟨w.heap.size,1,none⟩=some (Ex aa n ca):=I.c 1 rfl; have fa:=I.fr; have la:=I.lt; have J:=nb; clear nb; have Z:Es E ⟨w.heap.size+1,0,none⟩=some (Ez gx):=J.c 0 rfl; have a9:Es E ⟨w.heap.size+1,1,none⟩=some (Ex ab m cb):=J.c 1 rfl; have fb:=J.fr; have lb:=J.lt; have or:=nr; clear nr; have N:Es E ⟨w.heap.size+1+1,0,none⟩=some (Ez false):=or.c 0 rfl; have ah:Es E ⟨w.heap.size+1+1,1,none⟩=some (Ex none 0 0):=or.c 1 rfl; have fr:=or.fr; have lr:=or.lt; obtain⟨bb,cx,n2,c2,rfl⟩:=be.ak))))
  have cg:=E7 be;clear be
  go_wp2
  refine Eo (by simp[results,Tryz.results192,go_sem,M,T,fa,la,Z,a9,fb,lb,N,ah,fr,lr]; rfl) rfl ?_;have e:=Hz.out l1 d9.out;exact⟨_,YT rfl (by rw[e]),by rw[<- e]; exact cg.out.aN or,zh⟩
 .
  have bh:gx = !gy:=by cases gx<;>cases gy<;>simp_all
  obtain⟨c,hc⟩:∃c,zM (zi x) (zi y)=c:=⟨_,rfl⟩;have cc:=jO (zi x) (zi y);rw[hc]at cc;have CC:=E7 cc;have h0:=zD x;have cn:=zD y
  rcases Int.lt_or_le c 0 with cN | cN
  focus
   have bi:zi x<=zi y:=D6
   have hz:zv gy (zj (zp (zi y-zi x)))=x+y:=by
    rw[zE D6];have h1:=HS.out.1;have h2:=HS.out.2;have h3:=HX.out;unfold zv
    cases gx
    .
     cases gy
     . simp at bh
     . simp at h1 h2; simp only[Bool.false_eq_true,if_false,if_true]; omega
    .
     cases gy
     . simp at h1 h2; simp only[Bool.false_eq_true,if_false,if_true]; omega
     . simp at bh
   have bf:(zp (zi x)).length<=(zp (zi y)).length:=by
    rcases Er (zp (zi y)).length (zp (zi x)).length with g | g
    . have:=ye (zD y) (zD x) g; omega
    . exact g
   have bt:(zp (zi y-zi x)).length<=aD:=by
    have h5:(zp (zi y-zi x)).length<=(zp (zi y)).length:=by
     rcases Er (zp (zi y)).length (zp (zi y-zi x)).length with g | g
     . have:=ye (zD y) (show 0<=zi y-zi x by omega) g; omega
     . exact g
    have:=HF.out; unfold aD; omega
   have Hz:=E7 hz;have HC:=E7 hc
   have mi:∀H,aA H (Ex aa n ca) (zp (zi x))->aA H (Ex ab m cb) (zp (zi y))->Ee Ed 197 #[Ex ab m cb,Ex aa n ca] H fun e w2=>∃v,e = Eh v/\aA w2 v (zp (zi y-zi x))/\zf H w2:=fun H h1 h2=>by
    have:=Ut H h2 h1 (by have:=HF.out; unfold aD; omega) bf (by rw[HL.out.1,HL.out.2]; exact bi);rw[HL.out.1,HL.out.2]at this;exact this
   have bg:∀H,aA H (Ex aa n ca) (zp (zi x))->aA H (Ex ab m cb) (zp (zi y))->Ee Ed 85 #[Ex aa n ca,Ex ab m cb] H fun e w2=>e = Eh (Ey Ew c)/\zf H w2:=fun H h1 h2=>by
    have:=qJ H h1 h2 (zD x) (zD y) (by have:=HF.out; unfold aD; omega) (by have:=HF.out; unfold aD; omega);rw[HC.out]at this;exact this
   have cZ:(gx==gy)=false:=by simp[hs]
   clear hz hc cc bi bf h0 cn bh hs
   go_enter Tryz.func192,Tryz.ntmps192
   go_wp2_with fail
   refine(bg _ (pa.ae zh) (pb.ae zh)).mono ?_;rintro e w1 ⟨rfl,cy⟩;have st:zf _ w1:=cy;have Bn:=bA w st;have I:ai w1 w.heap.size 26 #[Ez gx,Ex aa n ca]:=ai.aw st;have J:ai w1 (w.heap.size+1) 26 #[Ez gy,Ex ab m cb]:=ai.aw st;have or:ai w1 (w.heap.size+1+1) 26 #[Ez false,Ex none 0 0]:=ai.aw st;clear st;have B:=Bn;clear Bn;obtain⟨M,T,fa,la⟩:=I.s1;obtain⟨Z,a9,fb,lb⟩:=J.s1;obtain⟨N,ah,fr,lr⟩:=or.s1;clear bg;go_wp2_with fail
   go_region_held3 (fun H=>H.cell? ⟨w.heap.size,0,none⟩=some (Ez gx)/\H.cell? ⟨w.heap.size,1,none⟩=some (Ex aa n ca)/\H.cell? ⟨w.heap.size+1,0,none⟩=some (Ez gy)/\H.cell? ⟨w.heap.size+1,1,none⟩=some (Ex ab m cb))
    ((refine⟨ai.c (t:=26) (cs:=#[Ez gx,Ex aa n ca]) ?_ 0 rfl,ai.c (t:=26) (cs:=#[Ez gx,Ex aa n ca]) ?_ 1 rfl,ai.c (t:=26) (cs:=#[Ez gy,Ex ab m cb]) ?_ 0 rfl,ai.c (t:=26) (cs:=#[Ez gy,Ex ab m cb]) ?_ 1 rfl⟩<;>(repeat' first | with_reducible assumption | (with_reducible refine ai.bK ?_; first | with_reducible rfl | (simp only[Et,World.size_setCell,World.size_drew]; done)) | with_reducible refine ai.alloc ?_ _ | with_reducible refine ai.drew ?_ | with_reducible refine ai.drewN ?_ _ | with_reducible apply ai.both | with_reducible refine ai.aK ?_ ?_ | (show _≠_; omega))))
    (first
     | ((go_at_call 197; refine(mi _ (pa.ae zh) (pb.ae zh)).mono ?_; rintro e E ⟨v1,rfl,bl,b9⟩; go_must (have st:zf _ E:=b9; have Bn:=bA w st; have na:ai E w.heap.size 26 #[Ez gx,Ex aa n ca]:=ai.aw st; have nb:ai E (w.heap.size+1) 26 #[Ez gy,Ex ab m cb]:=ai.aw st; have nr:ai E (w.heap.size+1+1) 26 #[Ez false,Ex none 0 0]:=ai.aw st; clear B I J or M T fa la Z a9 fb lb N ah fr lr; clear st; have B:=Bn; clear Bn; have I:=na; clear na; have M:Es E ⟨w.heap.size,0,none⟩=some (Ez gx):=I.c 0 rfl; have T:Es E ⟨w.heap.size,1,none⟩=some (Ex aa n ca):=I.c 1 rfl; have fa:=I.fr; have la:=I.lt; have J:=nb; clear nb; have Z:Es E ⟨w.heap.size+1,0,none⟩=some (Ez gy):=J.c 0 rfl; have a9:Es E ⟨w.heap.size+1,1,none⟩=some (Ex ab m cb):=J.c 1 rfl; have fb:=J.fr; have lb:=J.lt; have or:=nr; clear nr; have N:Es E ⟨w.heap.size+1+1,0,none⟩=some (Ez false):=or.c 0 rfl; have ah:Es E ⟨w.heap.size+1+1,1,none⟩=some (Ex none 0 0):=or.c 1 rfl; have fr:=or.fr; have lr:=or.lt)))
     | ((go_at_call 139; refine(qQ gy _ bl bt).mono ?_; rintro e E ⟨v2,rfl,be,b9⟩; go_must (have st:zf _ E:=b9; have Bn:=bA w st; have na:ai E w.heap.size 26 #[Ez gx,Ex aa n ca]:=ai.aw st; have nb:ai E (w.heap.size+1) 26 #[Ez gy,Ex ab m cb]:=ai.aw st; have nr:ai E (w.heap.size+1+1) 26 #[Ez false,Ex none 0 0]:=ai.aw st; clear B I J or M T fa la Z a9 fb lb N ah fr lr; clear st; have B:=Bn; clear Bn; have I:=na; clear na; have M:Es E ⟨w.heap.size,0,none⟩=some (Ez gx):=I.c 0 rfl; have T:Es E ⟨w.heap.size,1,none⟩=some (Ex aa n ca):=I.c 1 rfl; have fa:=I.fr; have la:=I.lt; have J:=nb; clear nb; have Z:Es E ⟨w.heap.size+1,0,none⟩=some (Ez gy):=J.c 0 rfl; have a9:Es E ⟨w.heap.size+1,1,none⟩=some (Ex ab m cb):=J.c 1 rfl; have fb:=J.fr; have lb:=J.lt; have or:=nr; clear nr; have N:Es E ⟨w.heap.size+1+1,0,none⟩=some (Ez false):=or.c 0 rfl; have ah:Es E ⟨w.heap.size+1+1,1,none⟩=some (Ex none 0 0):=or.c 1 rfl; have fr:=or.fr; have lr:=or.lt; obtain⟨bb,cx,n2,c2,rfl⟩:=be.ak))))
  rotate_left
  focus
   have bi:zi y<=zi x:=D6
   have hz:zv gx (zj (zp (zi x-zi y)))=x+y:=by
    rw[zE D6];have h1:=HS.out.1;have h2:=HS.out.2;have h3:=HX.out;unfold zv
    cases gx
    .
     cases gy
     . simp at bh
     . simp at h1 h2; simp only[Bool.false_eq_true,if_false,if_true]; omega
    .
     cases gy
     . simp at h1 h2; simp only[Bool.false_eq_true,if_false,if_true]; omega
     . simp at bh
   have bf:(zp (zi y)).length<=(zp (zi x)).length:=by
    rcases Er (zp (zi x)).length (zp (zi y)).length with g | g
    . have:=ye (zD x) (zD y) g; omega
    . exact g
   have bt:(zp (zi x-zi y)).length<=aD:=by
    have h5:(zp (zi x-zi y)).length<=(zp (zi x)).length:=by
     rcases Er (zp (zi x)).length (zp (zi x-zi y)).length with g | g
     . have:=ye (zD x) (show 0<=zi x-zi y by omega) g; omega
     . exact g
    have:=HF.out; unfold aD; omega
   have Hz:=E7 hz;have HC:=E7 hc
   have mi:∀H,aA H (Ex aa n ca) (zp (zi x))->aA H (Ex ab m cb) (zp (zi y))->Ee Ed 197 #[Ex aa n ca,Ex ab m cb] H fun e w2=>∃v,e = Eh v/\aA w2 v (zp (zi x-zi y))/\zf H w2:=fun H h1 h2=>by
    have:=Ut H h1 h2 (by have:=HF.out; unfold aD; omega) bf (by rw[HL.out.1,HL.out.2]; exact bi);rw[HL.out.1,HL.out.2]at this;exact this
   have bg:∀H,aA H (Ex aa n ca) (zp (zi x))->aA H (Ex ab m cb) (zp (zi y))->Ee Ed 85 #[Ex aa n ca,Ex ab m cb] H fun e w2=>e = Eh (Ey Ew c)/\zf H w2:=fun H h1 h2=>by
    have:=qJ H h1 h2 (zD x) (zD y) (by have:=HF.out; unfold aD; omega) (by have:=HF.out; unfold aD; omega);rw[HC.out]at this;exact this
   have cZ:(gx==gy)=false:=by simp[hs]
   clear hz hc cc bi bf h0 cn bh hs
   go_enter Tryz.func192,Tryz.ntmps192
   go_wp2_with fail
   refine(bg _ (pa.ae zh) (pb.ae zh)).mono ?_;rintro e w1 ⟨rfl,st⟩;have Bn:=bA w st;have I:ai w1 w.heap.size 26 #[Ez gx,Ex aa n ca]:=ai.aw st;have J:ai w1 (w.heap.size+1) 26 #[Ez gy,Ex ab m cb]:=ai.aw st;have or:ai w1 (w.heap.size+1+1) 26 #[Ez false,Ex none 0 0]:=ai.aw st;clear st;have B:=Bn;clear Bn;obtain⟨M,T,fa,la⟩:=I.s1;obtain⟨Z,a9,fb,lb⟩:=J.s1;obtain⟨N,ah,fr,lr⟩:=or.s1;clear bg;go_wp2_with fail
   go_region_held3 (fun H=>H.cell? ⟨w.heap.size,0,none⟩=some (Ez gx)/\H.cell? ⟨w.heap.size,1,none⟩=some (Ex aa n ca)/\H.cell? ⟨w.heap.size+1,0,none⟩=some (Ez gy)/\H.cell? ⟨w.heap.size+1,1,none⟩=some (Ex ab m cb))
    ((refine⟨ai.c (t:=26) (cs:=#[Ez gx,Ex aa n ca]) ?_ 0 rfl,ai.c (t:=26) (cs:=#[Ez gx,Ex aa n ca]) ?_ 1 rfl,ai.c (t:=26) (cs:=#[Ez gy,Ex ab m cb]) ?_ 0 rfl,ai.c (t:=26) (cs:=#[Ez gy,Ex ab m cb]) ?_ 1 rfl⟩<;>(repeat' first | with_reducible assumption | (with_reducible refine ai.bK ?_; first | with_reducible rfl | (simp only[Et,World.size_setCell,World.size_drew]; done)) | with_reducible refine ai.alloc ?_ _ | with_reducible refine ai.drew ?_ | with_reducible refine ai.drewN ?_ _ | with_reducible apply ai.both | with_reducible refine ai.aK ?_ ?_ | (show _≠_; omega))))
    (first
     | ((go_at_call 197; refine(mi _ (pa.ae zh) (pb.ae zh)).mono ?_; rintro e E ⟨v1,rfl,bl,b9⟩; go_must (have st:zf _ E:=b9; have Bn:=bA w st; have na:ai E w.heap.size 26 #[Ez gx,Ex aa n ca]:=ai.aw st; have nb:ai E (w.heap.size+1) 26 #[Ez gy,Ex ab m cb]:=ai.aw st; have nr:ai E (w.heap.size+1+1) 26 #[Ez false,Ex none 0 0]:=ai.aw st; clear B I J or M T fa la Z a9 fb lb N ah fr lr; clear st; have B:=Bn; clear Bn; have I:=na; clear na; have M:Es E ⟨w.heap.size,0,none⟩=some (Ez gx):=I.c 0 rfl; have T:Es E ⟨w.heap.size,1,none⟩=some (Ex aa n ca):=I.c 1 rfl; have fa:=I.fr; have la:=I.lt; have J:=nb; clear nb; have Z:Es E ⟨w.heap.size+1,0,none⟩=some (Ez gy):=J.c 0 rfl; have a9:Es E ⟨w.heap.size+1,1,none⟩=some (Ex ab m cb):=J.c 1 rfl; have fb:=J.fr; have lb:=J.lt; have or:=nr; clear nr; have N:Es E ⟨w.heap.size+1+1,0,none⟩=some (Ez false):=or.c 0 rfl; have ah:Es E ⟨w.heap.size+1+1,1,none⟩=some (Ex none 0 0):=or.c 1 rfl; have fr:=or.fr; have lr:=or.lt)))
     | ((go_at_call 139; refine(qQ gx _ bl bt).mono ?_; rintro e E ⟨v2,rfl,be,b9⟩; go_must (have st:zf _ E:=b9; have Bn:=bA w st; have na:ai E w.heap.size 26 #[Ez gx,Ex aa n ca]:=ai.aw st; have nb:ai E (w.heap.size+1) 26 #[Ez gy,Ex ab m cb]:=ai.aw st; have nr:ai E (w.heap.size+1+1) 26 #[Ez false,Ex none 0 0]:=ai.aw st; clear B I J or M T fa la Z a9 fb lb N ah fr lr; clear st; have B:=Bn; clear Bn; have I:=na; clear na; have M:Es E ⟨w.heap.size,0,none⟩=some (Ez gx):=I.c 0 rfl; have T:Es E ⟨w.heap.size,1,none⟩=some (Ex aa n ca):=I.c 1 rfl; have fa:=I.fr; have la:=I.lt; have J:=nb; clear nb; have Z:Es E ⟨w.heap.size+1,0,none⟩=some (Ez gy):=J.c 0 rfl; have a9:Es E ⟨w.heap.size+1,1,none⟩=some (Ex ab m cb):=J.c 1 rfl; have fb:=J.fr; have lb:=J.lt; have or:=nr; clear nr; have N:Es E ⟨w.heap.size+1+1,0,none⟩=some (Ez false):=or.c 0 rfl; have ah:Es E ⟨w.heap.size+1+1,1,none⟩=some (Ex none 0 0):=or.c 1 rfl; have fr:=or.fr; have lr:=or.lt; obtain⟨bb,cx,n2,c2,rfl⟩:=be.ak))))
  rotate_left
  all_goals
   have cg:=E7 be;clear be
   go_wp2
   refine Eo (by simp[results,Tryz.results192,go_sem,M,T,fa,la,Z,a9,fb,lb,N,ah,fr,lr]; rfl) rfl ?_;exact⟨_,YT rfl (by rw[Hz.out]),by have:=cg.out; rw[Hz.out]at this; exact this.aN or,zh⟩
end Go.Proofs.YtffmbepfbienaaaGreat
