import Derived.Test.YtffmbepfbienaaaGreatOTz
import Derived.WalkLawsBesides
set_option linter.unusedVariables false
set_option linter.unusedSimpArgs false
set_option maxHeartbeats 6400000
set_option maxRecDepth 1000000
open Go.Value renaming slice->Ex,bool->Ez,int->Ey,agg->Ej,pointer->Ek,tuple->Ev
open Go.IntKind renaming i64->Ew,u32->Eu
open Go.Ending renaming returned->Eh
open Go.Proofs.Tryz renaming prog->Ed
open Go renaming Calls->Ee,World->Ef,Value->Ei,undef->En,bodyPost_ret->Eo
open Nat renaming le_refl->Ep,lt_or_ge->Er
open Go.World renaming cell?->Es
namespace Go.Proofs.YtffmbepfbienaaaGreat
section
open Go.RowKit
variable {A B:List Int} {a b:Ei}
theorem Xb (n:Nat):yv (List.replicate n 0):=fun x E=>by obtain⟨-,rfl⟩:=List.mem_replicate.1 E; omega
theorem Xc {O xs:List Int} {i k:Nat} {E x:Int} (ht:(O.take i).length=i) (J:xs.length=k) (H:i<=O.length) (F:zj xs+bp k*E=zj (O.drop i)+x*zj B) (hv:zj O=zj (A.take i)*zj B) (I:A.getD i 0=x) :
  zj (O.take i++xs ++ [E])=zj (A.take (i+1))*zj B:=by
 rw[yV,List.length_append,ht,J,xQ,ht,Jo,yp,I,Int.add_mul,<- hv,yH O i H,Int.mul_assoc (bp i) (bp k),Int.add_assoc,<- Int.mul_add,F,Int.mul_add,Int.mul_assoc (bp i) x];omega
theorem Hc (w:Ef) (ha:aA w a A) (hb:aA w b B) (nA:A.length<=aD) (nB:B.length<=aD) :
  Ee Ed 158 #[a,b] w fun e w'=>∃v l,e = Eh v/\aA w' v l/\zj l=zj A*zj B/\l.length=A.length+B.length/\zf w w':=by
 obtain⟨aa,ca,rfl⟩:=ha.ak;obtain⟨ab,cb,rfl⟩:=hb.ak;obtain⟨oA,-,lA,fA⟩:=ha.cells;obtain⟨oB,-,lB,fB⟩:=hb.cells;clear ha hb;unfold aD at nA nB;obtain⟨n,hU⟩:∃n,A.length=n:=⟨_,rfl⟩;obtain⟨m,hV⟩:∃n,B.length=n:=⟨_,rfl⟩;have H:Hid (A.length=n/\B.length=m):=⟨hU,hV⟩;rw[hU]at nA lA fA;rw[hV]at nB lB fB;rw[hU,hV];clear hU hV;have bi:=xK (n+m) D6;simp only[Int.natCast_add]at bi;have Z0:(w.alloc (.cells (madeCells #[Ey Eu 0] (n+m)) 172)).heap.size=w.heap.size+1:=World.size_alloc _ _;have B0:Below w.heap.size w (w.alloc (.cells (madeCells #[Ey Eu 0] (n+m)) 172)):=(Below.refl _ _).alloc (Ep _) _
 have K0:ai (w.alloc (.cells (madeCells #[Ey Eu 0] (n+m)) 172)) w.heap.size 172 (zK (List.replicate m 0)++List.replicate n (Value.int Eu 0)).toArray:=by
  have:=ai.new w 172 (madeCells #[Ey Eu 0] (n+m))
  have e:(zK (List.replicate m 0)++List.replicate n (Value.int Eu 0)).toArray=madeCells #[Ey Eu 0] (n+m):=by
   rw[yC]; simp[zK,List.replicate_append_replicate,Nat.add_comm]
  rw[e];exact this
 go_enter Tryz.func158,Tryz.ntmps158
 go_wp2
 go_loopw [6,7,8] (fun ii c0 k0 wr=>∃ (i:Nat) (O:List Int),i<=n/\ii = Ey Ew i/\O.length=i+m/\yv O/\zj O=zj (A.take i)*zj B/\
   ai wr w.heap.size 172 (zK O++List.replicate (n-i) (Value.int Eu 0)).toArray/\Below w.heap.size w wr) (fun ii _ _ _=>(n-(intOf ii).toNat))
 case atStart=>exact⟨0,List.replicate m 0,Nat.zero_le _,rfl,by simp,Xb m,by rw[Z']; simp[zj],K0,B0⟩
 case round=>
  obtain⟨i,O,hi,rfl,hO,N,hv,J,ah⟩:=hrel;have HO:Hid (O.length=i+m/\yv O/\zj O=zj (A.take i)*zj B):=⟨hO,N,hv⟩;have HX:=E7 ah;have HK:=E7 J;have z1:=J.lt;clear bi Z0 B0 K0 N hv
  rcases Er i n with h1 | h1
  .
   obtain⟨ba,Y,rfl,bg,a9⟩:=fA D6;have HA:=E7 a9;obtain⟨x,hx⟩:∃x,A.getD i 0=x:=⟨_,rfl⟩;have x0:=zI oA i;rw[hx]at x0;have g1:wr.cell? ⟨ba,Y+i,none⟩=some (Ey Eu x):=by rw[<- hx]; exact(ah.cell (p:=⟨ba,Y+i,none⟩) bg).trans (a9 i (by rw[H.out.1]; omega))
   have br:=E7 hx;have bh:(O.drop i).length=m:=by rw[List.length_drop,hO]; omega
   have cg:yv (O.drop i):=xJ HO.out.2.1 i;have Z:(zK (O.take i)).length=i:=by rw[yF,List.length_take,hO]; omega
   have KB:ai wr w.heap.size 172 (xG (zK (O.take i)) ([]++(O.drop i).drop 0) (List.replicate (n-i) (Value.int Eu 0))):=by
    have e:xG (zK (O.take i)) ([]++(O.drop i).drop 0) (List.replicate (n-i) (Value.int Eu 0))=(zK O++List.replicate (n-i) (Value.int Eu 0)).toArray:=by
     simp only[xG,List.nil_append,List.drop_zero];rw[<- List.append_assoc];simp only[zK,<- List.map_append,List.take_append_drop]
    rw[e]; exact J
   have HP:=E7 (E8 bh Z);clear a9 fA hx hO bh Z J
   go_wp2
   go_loopw [7,8] (fun cc kk wr=>∃ (k:Nat) (xs:List Int) (M:Int),k<=m/\kk = Ey Ew k/\cc = Ey .u64 M/\0<=M/\M<4294967296/\xs.length=k/\yv xs/\zj xs+bp k*M=zj ((O.drop i).take k)+x*zj (B.take k)/\
     ai wr w.heap.size 172 (xG (zK (O.take i)) (xs++(O.drop i).drop k) (List.replicate (n-i) (Value.int Eu 0)))/\Below w.heap.size w wr) (fun _ kk _=>(m-(intOf kk).toNat))
   case atStart=>exact⟨0,[],0,Nat.zero_le _,rfl,rfl,by omega,by omega,rfl,z6,by simp[zj],KB,HX.out⟩
   case round=>
    obtain⟨k,xs,M,hk,rfl,rfl,c0,c1,hl,N,hv,E,I⟩:=hrel;have HR:Hid (xs.length=k/\yv xs/\zj xs+bp k*M=zj ((O.drop i).take k)+x*zj (B.take k)):=⟨hl,N,hv⟩;have bl:=E7 I;have bf:=E7 E;clear KB g1
    rcases Er k m with h2 | h2
    .
     obtain⟨bb,bt,rfl,ci,be⟩:=fB D6;obtain⟨v,X⟩:∃v,B.getD k 0=v:=⟨_,rfl⟩;have v0:=zI oB k;rw[X]at v0;have g1:wr.cell? ⟨ba,Y+i,none⟩=some (Ey Eu x):=by rw[<- br.out]; exact(I.cell (p:=⟨ba,Y+i,none⟩) bg).trans (HA.out i (by rw[H.out.1]; omega))
     have g2:wr.cell? ⟨bb,bt+k,none⟩=some (Ey Eu v):=by rw[<- X]; exact(I.cell (p:=⟨bb,bt+k,none⟩) ci).trans (be k (by rw[H.out.2]; omega))
     obtain⟨o,ho⟩:∃o,(O.drop i).getD k 0=o:=⟨_,rfl⟩;have o0:=zI cg k;rw[ho]at o0
     have gU:(xs++(O.drop i).drop k).getD k 0=o:=by
      rw[<- ho];simp only[List.getD];rw[List.getElem?_append_right D6,hl,Nat.sub_self,List.getElem?_drop,Nat.add_zero]
     have g3:wr.cell? ⟨w.heap.size,i+k,none⟩=some (Ey Eu o):=by
      rw[<- gU];exact E.c _ (xm HP.out.2 (by rw[List.length_append,List.length_drop,hl]; have:=HP.out.1; omega))
     have g4:wr.frozen? ⟨w.heap.size,i+k,none⟩=false:=E.fr _;obtain⟨p,hp⟩:∃p,x*v=p:=⟨_,rfl⟩;have p0:0<=p:=by rw[<- hp]; exact Int.mul_nonneg x0.1 v0.1
     have p1:p<=18446744065119617025:=by
      rw[<- hp];have:=Int.mul_le_mul (show x<=4294967295 by omega) (show v<=4294967295 by omega) v0.1 D6;omega
     have hw:IntKind.u64.wrap (x*v)=p:=by rw[hp,wrap_u64 D6 D6]
     have HS:Hid (∀s,s=M+(p+o)->zj (xs ++ [s%4294967296])+bp (k+1)*(s / 4294967296)=zj ((O.drop i).take (k+1))+x*zj (B.take (k+1))):=
      fun s h=>X9 (s:=s) hl hv (by rw[X,ho,hp]; exact h)
     clear X ho gU hp hl N hv E I be fB;go_wp2_with fail
     go_quiet (fail)
     go_wp2
     go_roundw
     case rel=>
      have R:=HR.out;refine⟨k+1,xs ++ [(M+(p+o))%4294967296],(M+(p+o)) / 4294967296,by omega,by go_num,by go_num,by omega,by omega,by rw[List.length_append,R.1]; rfl,zX R.2.1 D6 D6,HS.out _ rfl,?_,(yS bl.out _).setCell (p:=⟨w.heap.size,i+k,none⟩) (Ep _) _⟩;refine(bf.out.drewN _).aW ?_;exact qF HP.out.2 R.1 (by have:=HP.out.1; omega) _
     case measure=>simp[intOf]; omega
    .
     have b9:k=m:=D6
     subst b9;have z2:=E.lt
     have F:Hid (zj xs+bp k*M=zj (O.drop i)+x*zj B):=by
      rw[List.take_of_length_le (by have:=HP.out.1; omega),List.take_of_length_le (by have:=H.out.2; omega)]at hv;exact hv
     have e0:xG (zK (O.take i)) (xs++(O.drop i).drop k) (List.replicate (n-i) (Value.int Eu 0))=(zK (O.take i++xs)++List.replicate (n-(i+1)+1) (Value.int Eu 0)).toArray:=by
      rw[List.drop_of_length_le (by have:=HP.out.1; omega),List.append_nil,show n-(i+1)+1=n-i by omega];simp only[xG,zK,List.map_append,List.append_assoc]
     rw[e0]at E;have T:(O.take i++xs).length=i+k:=by rw[List.length_append,hl]; have:=HP.out.2; rw[yF]at this; omega
     have g3:wr.cell? ⟨w.heap.size,i+k,none⟩=some (Ey Eu 0):=E.c _ (j6 T);have g4:wr.frozen? ⟨w.heap.size,i+k,none⟩=false:=E.fr _;have ce:=E7 E;have HL:=E7 T;clear e0 T hl N hv E I bf fB
     go_wp2
     go_roundw
     case rel=>
      refine⟨i+1,O.take i++xs ++ [M],by omega,by go_num,by rw[List.length_append,HL.out,List.length_singleton]; omega,xj.2 ⟨xj.2 ⟨z8 HO.out.2.1 i,HR.out.2.1⟩,zZ.2 ⟨⟨c0,c1⟩,z6⟩⟩,?_,?_,bl.out.setCell (p:=⟨w.heap.size,i+k,none⟩) (Ep _) _⟩
      .
       have t:(O.take i).length=i:=by have:=HP.out.2; rwa[yF]at this
       exact Xc t HR.out.1 (by have:=HO.out.1; omega) F.out HO.out.2.2 br.out
      .
       have:=ce.out.aW (xi (O.take i++xs) (i+k) (n-(i+1)) M HL.out)
       first | exact this | (try rw[show M%4294967296=M by omega]; exact this)
     case measure=>simp[intOf]; omega
  .
   have b9:i=n:=D6
   subst b9;clear fA fB ah J
   go_wp2
   go_returns
   have kb:=HK.out;rw[Nat.sub_self,List.replicate_zero,List.append_nil]at kb;have L:=aA.a_ kb HO.out.2.1;rw[HO.out.1]at L;refine⟨_,O,rfl,L,?_,HO.out.1,HX.out⟩;have:=HO.out.2.2;rw[List.take_of_length_le (by have:=H.out.1; omega)]at this;exact this
theorem Hd (w:Ef) (ha:aA w a A) (hb:aA w b B) (nA:A.length<=aD) (nB:B.length<=aD) :
  Ee Ed 95 #[a,b] w fun e w'=>∃v l,e = Eh v/\aA w' v l/\zj l=zj A*zj B/\l.length=A.length+B.length/\zf w w':=by
 obtain⟨aa,ca,rfl⟩:=ha.ak;obtain⟨ab,cb,rfl⟩:=hb.ak;obtain⟨oA,-,lA,fA⟩:=ha.cells;obtain⟨oB,-,lB,fB⟩:=hb.cells;clear ha hb;unfold aD at nA nB;obtain⟨n,hU⟩:∃n,A.length=n:=⟨_,rfl⟩;obtain⟨m,hV⟩:∃n,B.length=n:=⟨_,rfl⟩;have H:Hid (A.length=n/\B.length=m):=⟨hU,hV⟩;rw[hU]at nA lA fA;rw[hV]at nB lB fB;rw[hU,hV];clear hU hV;have bi:=xK (n+m) D6;simp only[Int.natCast_add]at bi;have Z0:(w.alloc (.cells (madeCells #[Ey Eu 0] (n+m)) 172)).heap.size=w.heap.size+1:=World.size_alloc _ _;have B0:Below w.heap.size w (w.alloc (.cells (madeCells #[Ey Eu 0] (n+m)) 172)):=(Below.refl _ _).alloc (Ep _) _
 have K0:ai (w.alloc (.cells (madeCells #[Ey Eu 0] (n+m)) 172)) w.heap.size 172 (zK (List.replicate m 0)++List.replicate n (Value.int Eu 0)).toArray:=by
  have:=ai.new w 172 (madeCells #[Ey Eu 0] (n+m))
  have e:(zK (List.replicate m 0)++List.replicate n (Value.int Eu 0)).toArray=madeCells #[Ey Eu 0] (n+m):=by
   rw[yC]; simp[zK,List.replicate_append_replicate,Nat.add_comm]
  rw[e];exact this
 go_enter Tryz.func95,Tryz.ntmps95
 go_wp2
 go_loopw [6,7,8,9,10,19] (fun _ _ _ _ _ ii wr=>∃ (i:Nat) (O:List Int),i<=n/\ii = Ey Ew i/\O.length=i+m/\yv O/\zj O=zj (A.take i)*zj B/\
   ai wr w.heap.size 172 (zK O++List.replicate (n-i) (Value.int Eu 0)).toArray/\Below w.heap.size w wr) (fun _ _ _ _ _ ii _=>(n-(intOf ii).toNat))
 case atStart=>exact⟨0,List.replicate m 0,Nat.zero_le _,rfl,by simp,Xb m,by rw[Z']; simp[zj],K0,B0⟩
 case round=>
  obtain⟨i,O,hi,rfl,hO,N,hv,J,ah⟩:=hrel;have HO:Hid (O.length=i+m/\yv O/\zj O=zj (A.take i)*zj B):=⟨hO,N,hv⟩;have HX:=E7 ah;have HK:=E7 J;have z1:=J.lt;clear bi Z0 B0 K0 N hv
  rcases Er i n with h1 | h1
  .
   obtain⟨ba,Y,rfl,bg,a9⟩:=fA D6;have HA:=E7 a9;obtain⟨x,hx⟩:∃x,A.getD i 0=x:=⟨_,rfl⟩;have x0:=zI oA i;rw[hx]at x0;have g1:wr.cell? ⟨ba,Y+i,none⟩=some (Ey Eu x):=by rw[<- hx]; exact(ah.cell (p:=⟨ba,Y+i,none⟩) bg).trans (a9 i (by rw[H.out.1]; omega))
   have br:=E7 hx;have bh:(O.drop i).length=m:=by rw[List.length_drop,hO]; omega
   have cg:yv (O.drop i):=xJ HO.out.2.1 i;have Z:(zK (O.take i)).length=i:=by rw[yF,List.length_take,hO]; omega
   have KB:ai wr w.heap.size 172 (xG (zK (O.take i)) ([]++(O.drop i).drop 0) (List.replicate (n-i) (Value.int Eu 0))):=by
    have e:xG (zK (O.take i)) ([]++(O.drop i).drop 0) (List.replicate (n-i) (Value.int Eu 0))=(zK O++List.replicate (n-i) (Value.int Eu 0)).toArray:=by
     simp only[xG,List.nil_append,List.drop_zero];rw[<- List.append_assoc];simp only[zK,<- List.map_append,List.take_append_drop]
    rw[e]; exact J
   have HP:=E7 (E8 bh Z);clear a9 fA hx hO bh Z J
   go_wp2
   go_loopw [8,9,10,26] (fun cc _ _ kk wr=>∃ (k:Nat) (xs:List Int) (M:Int),k<=m/\kk = Ey Ew k/\cc = Ey .u64 M/\0<=M/\M<4294967296/\xs.length=k/\yv xs/\zj xs+bp k*M=zj ((O.drop i).take k)+x*zj (B.take k)/\
     ai wr w.heap.size 172 (xG (zK (O.take i)) (xs++(O.drop i).drop k) (List.replicate (n-i) (Value.int Eu 0)))/\Below w.heap.size w wr) (fun _ _ _ kk _=>(m-(intOf kk).toNat))
   case atStart=>exact⟨0,[],0,Nat.zero_le _,rfl,rfl,by omega,by omega,rfl,z6,by simp[zj],KB,HX.out⟩
   case round=>
    obtain⟨k,xs,M,hk,rfl,rfl,c0,c1,hl,N,hv,E,I⟩:=hrel;have HR:Hid (xs.length=k/\yv xs/\zj xs+bp k*M=zj ((O.drop i).take k)+x*zj (B.take k)):=⟨hl,N,hv⟩;have bl:=E7 I;have bf:=E7 E;clear KB g1
    rcases Er k m with h2 | h2
    .
     obtain⟨bb,bt,rfl,ci,be⟩:=fB D6;obtain⟨v,X⟩:∃v,B.getD k 0=v:=⟨_,rfl⟩;have v0:=zI oB k;rw[X]at v0;have g1:wr.cell? ⟨ba,Y+i,none⟩=some (Ey Eu x):=by rw[<- br.out]; exact(I.cell (p:=⟨ba,Y+i,none⟩) bg).trans (HA.out i (by rw[H.out.1]; omega))
     have g2:wr.cell? ⟨bb,bt+k,none⟩=some (Ey Eu v):=by rw[<- X]; exact(I.cell (p:=⟨bb,bt+k,none⟩) ci).trans (be k (by rw[H.out.2]; omega))
     obtain⟨o,ho⟩:∃o,(O.drop i).getD k 0=o:=⟨_,rfl⟩;have o0:=zI cg k;rw[ho]at o0
     have gU:(xs++(O.drop i).drop k).getD k 0=o:=by
      rw[<- ho];simp only[List.getD];rw[List.getElem?_append_right D6,hl,Nat.sub_self,List.getElem?_drop,Nat.add_zero]
     have g3:wr.cell? ⟨w.heap.size,i+k,none⟩=some (Ey Eu o):=by
      rw[<- gU];exact E.c _ (xm HP.out.2 (by rw[List.length_append,List.length_drop,hl]; have:=HP.out.1; omega))
     have g4:wr.frozen? ⟨w.heap.size,i+k,none⟩=false:=E.fr _;obtain⟨p,hp⟩:∃p,x*v=p:=⟨_,rfl⟩;have p0:0<=p:=by rw[<- hp]; exact Int.mul_nonneg x0.1 v0.1
     have p1:p<=18446744065119617025:=by
      rw[<- hp];have:=Int.mul_le_mul (show x<=4294967295 by omega) (show v<=4294967295 by omega) v0.1 D6;omega
     have hw:IntKind.u64.wrap (x*v)=p:=by rw[hp,wrap_u64 D6 D6]
     have HS:Hid (∀s,s=M+(p+o)->zj (xs ++ [s%4294967296])+bp (k+1)*(s / 4294967296)=zj ((O.drop i).take (k+1))+x*zj (B.take (k+1))):=
      fun s h=>X9 (s:=s) hl hv (by rw[X,ho,hp]; exact h)
     clear X ho gU hp hl N hv E I be fB
     go_wp2
     go_roundw
     case rel=>
      have R:=HR.out;refine⟨k+1,xs ++ [(M+(p+o))%4294967296],(M+(p+o)) / 4294967296,by omega,by go_num,by go_num,by omega,by omega,by rw[List.length_append,R.1]; rfl,zX R.2.1 D6 D6,HS.out _ rfl,?_,bl.out.setCell (p:=⟨w.heap.size,i+k,none⟩) (Ep _) _⟩;refine bf.out.aW ?_;exact qF HP.out.2 R.1 (by have:=HP.out.1; omega) _
     case measure=>simp[intOf]; omega
    .
     have b9:k=m:=D6
     subst b9;have z2:=E.lt
     have F:Hid (zj xs+bp k*M=zj (O.drop i)+x*zj B):=by
      rw[List.take_of_length_le (by have:=HP.out.1; omega),List.take_of_length_le (by have:=H.out.2; omega)]at hv;exact hv
     have e0:xG (zK (O.take i)) (xs++(O.drop i).drop k) (List.replicate (n-i) (Value.int Eu 0))=(zK (O.take i++xs)++List.replicate (n-(i+1)+1) (Value.int Eu 0)).toArray:=by
      rw[List.drop_of_length_le (by have:=HP.out.1; omega),List.append_nil,show n-(i+1)+1=n-i by omega];simp only[xG,zK,List.map_append,List.append_assoc]
     rw[e0]at E;have T:(O.take i++xs).length=i+k:=by rw[List.length_append,hl]; have:=HP.out.2; rw[yF]at this; omega
     have g3:wr.cell? ⟨w.heap.size,i+k,none⟩=some (Ey Eu 0):=E.c _ (j6 T);have g4:wr.frozen? ⟨w.heap.size,i+k,none⟩=false:=E.fr _;have ce:=E7 E;have HL:=E7 T;clear e0 T hl N hv E I bf fB
     go_wp2
     go_roundw
     case rel=>
      refine⟨i+1,O.take i++xs ++ [M],by omega,by go_num,by rw[List.length_append,HL.out,List.length_singleton]; omega,xj.2 ⟨xj.2 ⟨z8 HO.out.2.1 i,HR.out.2.1⟩,zZ.2 ⟨⟨c0,c1⟩,z6⟩⟩,?_,?_,bl.out.setCell (p:=⟨w.heap.size,i+k,none⟩) (Ep _) _⟩
      .
       have t:(O.take i).length=i:=by have:=HP.out.2; rwa[yF]at this
       exact Xc t HR.out.1 (by have:=HO.out.1; omega) F.out HO.out.2.2 br.out
      .
       have:=ce.out.aW (xi (O.take i++xs) (i+k) (n-(i+1)) M HL.out)
       first | exact this | (try rw[show M%4294967296=M by omega]; exact this)
     case measure=>simp[intOf]; omega
  .
   have b9:i=n:=D6
   subst b9;clear fA fB ah J
   go_wp2
   go_returns
   have kb:=HK.out;rw[Nat.sub_self,List.replicate_zero,List.append_nil]at kb;have L:=aA.a_ kb HO.out.2.1;rw[HO.out.1]at L;refine⟨_,O,rfl,L,?_,HO.out.1,HX.out⟩;have:=HO.out.2.2;rw[List.take_of_length_le (by have:=H.out.1; omega)]at this;exact this
end
section
open Go.RowKit
variable {p q x y:Int} {i j:Nat} {r s:Rat} {v va vb:Ei} {w:Ef}
theorem UU (x y:Int):zv (decide (x<0) != decide (y<0)) (zi x*zi y)=x*y:=by
 by_cases h1:x<0
 .
  by_cases h2:y<0
  .
   have e:zi x*zi y=x*y:=by
    rw[show zi x = -x by unfold zi; omega,show zi y = -y by unfold zi; omega,Int.neg_mul_neg]
   simp[h1,h2,zv,e]
  .
   have e:zi x*zi y = -(x*y):=by
    rw[show zi x = -x by unfold zi; omega,show zi y=y by unfold zi; omega,Int.neg_mul]
   simp[h1,h2,zv,e]
 .
  by_cases h2:y<0
  .
   have e:zi x*zi y = -(x*y):=by
    rw[show zi x=x by unfold zi; omega,show zi y = -y by unfold zi; omega,Int.mul_neg]
   simp[h1,h2,zv,e]
  .
   have e:zi x*zi y=x*y:=by
    rw[show zi x=x by unfold zi; omega,show zi y=y by unfold zi; omega]
   simp[h1,h2,zv,e]
theorem C_ (w:Ef) (ha:az w va x) (hb:az w vb y) (fx:fits x) (fy:fits y) :
  Ee Ed 127 #[va,vb] w fun e E=>∃v,e = Eh (Ev #[v,Ey Ew (jc (x*y))])/\az E v (xt (x*y))/\zf w E:=by
 have bo:=fun(E:Ef) (h:zf w E)=>j' E (ha.ae h) (hb.ae h) fx fy;obtain⟨aa,ca,rfl,pa⟩:=ha.parts;obtain⟨ab,cb,rfl,pb⟩:=hb.parts;unfold fits at fx fy;have nx:(zp (zi x)).length<=aD:=by unfold aD; omega
 have ny:(zp (zi y)).length<=aD:=by unfold aD; omega
 have vx:=zE (zD x);have vy:=zE (zD y);obtain⟨g,hg⟩:∃g,(decide (x<0) != decide (y<0))=g:=⟨_,rfl⟩
 have tm:∀E,zf w E->Ee Ed 158 #[Ex aa (zp (zi x)).length ca,Ex ab (zp (zi y)).length cb] E fun e w2=>∃v l,e = Eh v/\aA w2 v l/\zj l=zi x*zi y/\l.length<=aD/\zf E w2:=fun E h=>by
  refine(Hc E (pa.ae h) (pb.ae h) nx ny).mono ?_;rintro e w2 ⟨v,l,rfl,h1,h2,h3,h4⟩;exact⟨v,l,rfl,h1,by rw[h2,vx,vy],by unfold aD; omega,h4⟩
 have mk:∀E s l,aA E s l->zj l=zi x*zi y->l.length<=aD->Ee Ed 139 #[Ez g,s] E fun e w2=>∃v,e = Eh (Ev #[v,Ey Ew (jc (x*y))])/\az w2 v (xt (x*y))/\zf E w2:=fun E s l h h2 h3=>by
  have:=qQ g E h h3;rw[h2,<- hg,UU]at this;rw[<- hg];exact this
 obtain⟨n,hn⟩:∃n,(zp (zi x)).length=n:=⟨_,rfl⟩;obtain⟨m,hm⟩:∃m,(zp (zi y)).length=m:=⟨_,rfl⟩;rw[hn]at bo tm|-;rw[hm]at bo tm|-;obtain⟨gx,bf⟩:∃b,decide (x<0)=b:=⟨_,rfl⟩;obtain⟨gy,be⟩:∃b,decide (y<0)=b:=⟨_,rfl⟩;rw[bf,be]at hg bo|-;have bt:(gx==gy) = !g:=by rw[<- hg]; cases gx<;>cases gy<;>rfl
 clear ha hb pa pb hn hm bf be hg fx fy nx ny vx vy
 go_enter Tryz.func127,Tryz.ntmps127
 go_wp2_with fail
 refine(bo _ zh).mono ?_;rintro e w1 ⟨rfl,st⟩;have Bn:=bA w st;have I:ai w1 w.heap.size 26 #[Ez gx,Ex aa n ca]:=ai.aw st;have J:ai w1 (w.heap.size+1) 26 #[Ez gy,Ex ab m cb]:=ai.aw st;have or:ai w1 (w.heap.size+1+1) 26 #[Ez false,Ex none 0 0]:=ai.aw st;clear st;have B:=Bn;clear Bn;obtain⟨M,T,fa,la⟩:=I.s1;obtain⟨X,Y,fb,lb⟩:=J.s1;obtain⟨N,Z,fr,lr⟩:=or.s1;clear bo;go_wp2_with fail
 go_region_held3 (fun E=>E.cell? ⟨w.heap.size,0,none⟩=some (Ez gx)/\E.cell? ⟨w.heap.size,1,none⟩=some (Ex aa n ca)/\E.cell? ⟨w.heap.size+1,0,none⟩=some (Ez gy)/\E.cell? ⟨w.heap.size+1,1,none⟩=some (Ex ab m cb))
  ((refine⟨ai.c (t:=26) (cs:=#[Ez gx,Ex aa n ca]) ?_ 0 rfl,ai.c (t:=26) (cs:=#[Ez gx,Ex aa n ca]) ?_ 1 rfl,ai.c (t:=26) (cs:=#[Ez gy,Ex ab m cb]) ?_ 0 rfl,ai.c (t:=26) (cs:=#[Ez gy,Ex ab m cb]) ?_ 1 rfl⟩<;>(repeat' first | with_reducible assumption | (with_reducible refine ai.bK ?_; first | with_reducible rfl | (simp only[World.size_alloc,World.size_setCell,World.size_drew]; done)) | with_reducible refine ai.alloc ?_ _ | with_reducible refine ai.drew ?_ | with_reducible refine ai.drewN ?_ _ | with_reducible apply ai.both | with_reducible refine ai.aK ?_ ?_ | (show _≠_; omega))))
  (first
   | ((go_at_call 158; refine(tm _ zh).mono ?_; rintro e H ⟨v1,l1,rfl,bg,b9,bi,ah⟩; go_must (have bl:=E7 b9; clear b9; have st:zf _ H:=ah; have Bn:=bA w st; have na:ai H w.heap.size 26 #[Ez gx,Ex aa n ca]:=ai.aw st; have nb:ai H (w.heap.size+1) 26 #[Ez gy,Ex ab m cb]:=ai.aw st; have nr:ai H (w.heap.size+1+1) 26 #[Ez false,Ex none 0 0]:=ai.aw st; clear B I J or M T fa la X Y fb lb N Z fr lr; clear st; have B:=Bn; clear Bn; have I:=na; clear na; have M:Es H ⟨w.heap.size,0,none⟩=some (Ez gx):=I.c 0 rfl; have T:Es H ⟨w.heap.size,1,none⟩=some (Ex aa n ca):=I.c 1 rfl; have fa:=I.fr; have la:=I.lt; have J:=nb; clear nb; have X:Es H ⟨w.heap.size+1,0,none⟩=some (Ez gy):=J.c 0 rfl; have Y:Es H ⟨w.heap.size+1,1,none⟩=some (Ex ab m cb):=J.c 1 rfl; have fb:=J.fr; have lb:=J.lt; have or:=nr; clear nr; have N:Es H ⟨w.heap.size+1+1,0,none⟩=some (Ez false):=or.c 0 rfl; have Z:Es H ⟨w.heap.size+1+1,1,none⟩=some (Ex none 0 0):=or.c 1 rfl; have fr:=or.fr; have lr:=or.lt)))
   | ((go_at_call 139; refine(mk _ _ l1 bg bl.out bi).mono ?_; rintro e H ⟨v2,rfl,a9,ah⟩; go_must (have st:zf _ H:=ah; have Bn:=bA w st; have na:ai H w.heap.size 26 #[Ez gx,Ex aa n ca]:=ai.aw st; have nb:ai H (w.heap.size+1) 26 #[Ez gy,Ex ab m cb]:=ai.aw st; have nr:ai H (w.heap.size+1+1) 26 #[Ez false,Ex none 0 0]:=ai.aw st; clear B I J or M T fa la X Y fb lb N Z fr lr; clear st; have B:=Bn; clear Bn; have I:=na; clear na; have M:Es H ⟨w.heap.size,0,none⟩=some (Ez gx):=I.c 0 rfl; have T:Es H ⟨w.heap.size,1,none⟩=some (Ex aa n ca):=I.c 1 rfl; have fa:=I.fr; have la:=I.lt; have J:=nb; clear nb; have X:Es H ⟨w.heap.size+1,0,none⟩=some (Ez gy):=J.c 0 rfl; have Y:Es H ⟨w.heap.size+1,1,none⟩=some (Ex ab m cb):=J.c 1 rfl; have fb:=J.fr; have lb:=J.lt; have or:=nr; clear nr; have N:Es H ⟨w.heap.size+1+1,0,none⟩=some (Ez false):=or.c 0 rfl; have Z:Es H ⟨w.heap.size+1+1,1,none⟩=some (Ex none 0 0):=or.c 1 rfl; have fr:=or.fr; have lr:=or.lt; obtain⟨bb,br,n2,c2,rfl⟩:=a9.ak))))
 have bh:=E7 a9;clear a9
 go_wp2
 refine Eo (by simp[results,Tryz.results127,go_sem,M,T,fa,la,X,Y,fb,lb,N,Z,fr,lr]; rfl) rfl ?_;exact⟨_,rfl,bh.out.aN or,zh⟩
theorem C' (w:Ef) (ha:az w va x) (hb:az w vb y) (fx:fits x) (fy:fits y) :
  Ee Ed 171 #[va,vb] w fun e E=>∃v,e = Eh (Ev #[v,Ey Ew (jc (x+y))])/\az E v (xt (x+y))/\zf w E:=by
 have Y:=fun(E:Ef) (h:zf w E)=>j' E (ha.ae h) (hb.ae h) fx fy;have sm:=fun(E:Ef) (h:zf w E)=>Hb E (ha.ae h) (hb.ae h) fx fy;obtain⟨aa,ca,rfl,pa⟩:=ha.parts;obtain⟨ab,cb,rfl,pb⟩:=hb.parts;obtain⟨n,hn⟩:∃n,(zp (zi x)).length=n:=⟨_,rfl⟩;obtain⟨m,hm⟩:∃m,(zp (zi y)).length=m:=⟨_,rfl⟩;rw[hn]at Y sm|-;rw[hm]at Y sm|-;obtain⟨gx,ah⟩:∃b,decide (x<0)=b:=⟨_,rfl⟩;obtain⟨gy,a9⟩:∃b,decide (y<0)=b:=⟨_,rfl⟩;rw[ah]at Y sm|-;rw[a9]at Y sm|-;clear ha hb pa pb hn hm ah a9 fx fy
 go_enter Tryz.func171,Tryz.ntmps171
 go_wp2_with fail
 refine(Y _ zh).mono ?_;rintro e w1 ⟨rfl,st⟩;have Z:=bA w st;have oa:ai w1 w.heap.size 26 #[Ez gx,Ex aa n ca]:=ai.aw st;have ob:ai w1 (w.heap.size+1) 26 #[Ez gy,Ex ab m cb]:=ai.aw st;have or:ai w1 (w.heap.size+1+1) 26 #[Ez false,Ex none 0 0]:=ai.aw st;clear st;have B:=Z;clear Z;obtain⟨I,M,fa,la⟩:=oa.s1;obtain⟨N,T,fb,lb⟩:=ob.s1;obtain⟨J,X,fr,lr⟩:=or.s1;clear Y;go_wp2_with fail
 refine(sm _ B).mono ?_;rintro e w2 ⟨v2,rfl,H,st⟩;have Z:=bA w st;have na:=oa.aM st;have nb:=ob.aM st;have nr:=or.aM st;clear B oa ob or I M fa la N T fb lb J X fr lr;clear st;have B:=Z;clear Z;have oa:=na;clear na;obtain⟨I,M,fa,la⟩:=oa.s1;have ob:=nb;clear nb;obtain⟨N,T,fb,lb⟩:=ob.s1;have or:=nr;clear nr;obtain⟨J,X,fr,lr⟩:=or.s1;clear sm;obtain⟨bb,be,n2,c2,rfl⟩:=H.ak;have b9:=E7 H;clear H
 go_wp2
 refine Eo (by simp[results,Tryz.results171,go_sem,I,M,fa,la,N,T,fb,lb,J,X,fr,lr]; rfl) rfl ?_;exact⟨_,rfl,b9.out.aN or,zh⟩
theorem bX.fit (h:bX w v p q):fits p/\fits q/\0<q:=by
 obtain⟨_,_,_,_,_,q0,_,H,E⟩:=h;exact⟨H,E,q0⟩
theorem jH (w:Ef) (N:az w va x) (I:az w vb y) (M:fits x) (J:fits y) (H:fits (x*y)) :
  Ee Ed 127 #[va,vb] w fun e E=>∃v,e = Eh (Ev #[v,Ey Ew 0])/\az E v (x*y)/\zf w E:=by
 have:=C_ w N I M J;rw[zQ H,zJ H]at this;exact this
theorem VP (w:Ef) (N:az w va x) (I:az w vb y) (M:fits x) (J:fits y) (H:fits (x+y)) :
  Ee Ed 171 #[va,vb] w fun e E=>∃v,e = Eh (Ev #[v,Ey Ew 0])/\az E v (x+y)/\zf w E:=by
 have:=C' w N I M J;rw[zQ H,zJ H]at this;exact this
theorem QG (w:Ef) (ha:bX w va p q) (hb:bX w vb x y) (f1:fits (p*y)) (f2:fits (x*q)) (f3:fits (q*y)) (f4:fits (p*y+x*q)) (f5:fits (p*y-x*q)) :
  Ee Ed 140 #[va,vb,Ez false] w fun e E=>∃v,e = Eh (Ev #[v,Ey Ew 0])/\bX E v (Xl (p*y+x*q) (q*y)) (Yp (p*y+x*q) (q*y))/\zf w E:=by
 have fa:=ha.fit;have fb:=hb.fit;obtain⟨ap,np,cp,aq,nq,cq,rfl,hp,hq⟩:=ha.bU;obtain⟨em,mp,dp,bq,mq,dq,rfl,kp,kq⟩:=hb.bU;have m1:=fun(E:Ef) (h:zf w E)=>jH E (hp.ae h) (kq.ae h) fa.1 fb.2.1 f1;have m2:=fun(E:Ef) (h:zf w E)=>jH E (kp.ae h) (hq.ae h) fb.1 fa.2.1 f2;have m3:=fun(E:Ef) (h:zf w E)=>jH E (hq.ae h) (kq.ae h) fa.2.1 fb.2.1 f3;have h0:q*y≠0:=by have:=Int.mul_pos fa.2.2 fb.2.2; omega
 obtain⟨dy,dc⟩:∃b,decide (p<0)=b:=⟨_,rfl⟩;obtain⟨dP,cN⟩:∃b,decide (x<0)=b:=⟨_,rfl⟩;rw[dc]at m1|-;rw[cN]at m2|-;obtain⟨X,hX⟩:∃X,p*y=X:=⟨_,rfl⟩;obtain⟨Y,hY⟩:∃Y,x*q=Y:=⟨_,rfl⟩;obtain⟨Z,hZ⟩:∃Z,q*y=Z:=⟨_,rfl⟩;rw[hX]at f1 f4 f5 m1|-;rw[hY]at f2 f4 f5 m2|-;rw[hZ]at f3 h0 m3|-;have ad:∀E v1 v2,az E v1 X->az E v2 Y->Ee Ed 171 #[v1,v2] E fun e w2=>∃v,e = Eh (Ev #[v,Ey Ew 0])/\az w2 v (X+Y)/\zf E w2:=fun E v1 v2 h1 h2=>VP E h1 h2 f1 f2 f4;have rd:∀E v1 v2,az E v1 (X+Y)->az E v2 Z->Ee Ed 138 #[v1,v2] E fun e w2=>∃v,e = Eh v/\bX w2 v (Xl (X+Y) Z) (Yp (X+Y) Z)/\zf E w2:=fun E v1 v2 h1 h2=>Qt E h1 h2 f4 f3 h0;clear hp hq kp kq fa fb ha hb f1 f2 f3 f4 f5 h0 hX hY hZ dc cN
 go_enter Tryz.func140,Tryz.ntmps140
 go_wp2_with fail
 refine(m1 _ zh).mono ?_;rintro e w1 ⟨v1,rfl,cx,st⟩;have Bn:=bA w st;have oa:ai w1 w.heap.size 28 #[Ez dy,Ex ap np cp,Ez false,Ex aq nq cq]:=ai.aw st;have ob:ai w1 (w.heap.size+1) 28 #[Ez dP,Ex em mp dp,Ez false,Ex bq mq dq]:=ai.aw st;have or:ai w1 (w.heap.size+1+1) 28 jN:=ai.aw st;clear st;have B:=Bn;clear Bn;obtain⟨bf,N,b9,bg,fa,la⟩:=oa.s3;obtain⟨H,I,ah,T,fb,lb⟩:=ob.s3;obtain⟨M,be,a9,J,fr,lr⟩:=or.s3;clear m1;obtain⟨gx,sx,kx,ex,rfl⟩:=cx.ak;have Nx:=E7 cx;clear cx;have zx:w.heap.size+1+1<w1.heap.size:=or.lt;go_wp2_with fail
 refine(m2 _ zh).mono ?_;rintro e w2 ⟨v2,rfl,cg,cZ⟩;have st:zf _ w2:=cZ;have Bn:=bA w st;have na:=oa.aM st;have nb:=ob.aM st;have nr:=or.aM st;have ox:ai w2 w1.heap.size 26 #[Ez gx,Ex sx kx ex]:=ai.aw st;clear B oa ob or bf N b9 bg fa la H I ah T fb lb M be a9 J fr lr;clear st;have B:=Bn;clear Bn;have oa:=na;clear na;obtain⟨bf,N,b9,bg,fa,la⟩:=oa.s3;have ob:=nb;clear nb;obtain⟨H,I,ah,T,fb,lb⟩:=ob.s3;have or:=nr;clear nr;obtain⟨M,be,a9,J,fr,lr⟩:=or.s3;obtain⟨bi,bh,fx,lx⟩:=ox.s1;clear m2;have dl:=E7 ((Nx.out.aP (.cells #[Ez gx,Ex sx kx ex] 26)).ae cZ);clear Nx;obtain⟨gy,sy,ky,ey,rfl⟩:=cg.ak;have Ny:=E7 cg;clear cg;have zy:w1.heap.size<w2.heap.size:=ox.lt;go_wp2_with fail
 refine(m3 _ zh).mono ?_;rintro e w3 ⟨v3,rfl,ci,bt⟩;have st:zf _ w3:=bt;have Bn:=bA w st;have na:=oa.aM st;have nb:=ob.aM st;have nr:=or.aM st;have nx:=ox.aM st;have oy:ai w3 w2.heap.size 26 #[Ez gy,Ex sy ky ey]:=ai.aw st;clear B oa ob or ox bf N b9 bg fa la H I ah T fb lb M be a9 J fr lr bi bh fx lx;clear st;have B:=Bn;clear Bn;have oa:=na;clear na;obtain⟨bf,N,b9,bg,fa,la⟩:=oa.s3;have ob:=nb;clear nb;obtain⟨H,I,ah,T,fb,lb⟩:=ob.s3;have or:=nr;clear nr;obtain⟨M,be,a9,J,fr,lr⟩:=or.s3;have ox:=nx;clear nx;obtain⟨bi,bh,fx,lx⟩:=ox.s1;obtain⟨bl,br,fy,ly⟩:=oy.s1;clear m3;have dt:=E7 ((dl.out.aP (.cells #[Ez gy,Ex sy ky ey] 26)).ae bt);have d9:=E7 ((Ny.out.aP (.cells #[Ez gy,Ex sy ky ey] 26)).ae bt);clear dl Ny;obtain⟨gd,sd,kd,ed,rfl⟩:=ci.ak;have Nd:=E7 ci;clear ci;have zd:w2.heap.size<w3.heap.size:=oy.lt;go_wp2_with fail
 refine(ad _ _ _ (dt.out.aP _) (d9.out.aP _)).mono ?_;rintro e w4 ⟨v4,rfl,cn,dk⟩;have st:zf _ w4:=dk;have Bn:=bA w st;have na:=oa.aM st;have nb:=ob.aM st;have nr:=or.aM st;have nx:=ox.aM st;have ny:=oy.aM st;have od:ai w4 w3.heap.size 26 #[Ez gd,Ex sd kd ed]:=ai.aw st;clear B oa ob or ox oy bf N b9 bg fa la H I ah T fb lb M be a9 J fr lr bi bh fx lx bl br fy ly;clear st;have B:=Bn;clear Bn;have oa:=na;clear na;obtain⟨bf,N,b9,bg,fa,la⟩:=oa.s3;have ob:=nb;clear nb;obtain⟨H,I,ah,T,fb,lb⟩:=ob.s3;have or:=nr;clear nr;obtain⟨M,be,a9,J,fr,lr⟩:=or.s3;have ox:=nx;clear nx;obtain⟨bi,bh,fx,lx⟩:=ox.s1;have oy:=ny;clear ny;obtain⟨bl,br,fy,ly⟩:=oy.s1;obtain⟨cy,ce,fd,ld⟩:=od.s1;clear ad;have dx:=E7 ((Nd.out.aP (.cells #[Ez gd,Ex sd kd ed] 26)).ae dk);clear Nd;clear dt d9;obtain⟨gn,sn,kn,en,rfl⟩:=cn.ak;have Nn:=E7 cn;clear cn;have zn:w3.heap.size<w4.heap.size:=od.lt;go_wp2_with fail
 refine(rd _ _ _ (Nn.out.aP _) (dx.out.aP _)).mono ?_;rintro e w5 ⟨v6,rfl,hf,st⟩;have Bn:=bA w st;have na:=oa.aM st;have nb:=ob.aM st;have nr:=or.aM st;have nx:=ox.aM st;have ny:=oy.aM st;have nd:=od.aM st;have on:ai w5 w4.heap.size 26 #[Ez gn,Ex sn kn en]:=ai.aw st;clear B oa ob or ox oy od bf N b9 bg fa la H I ah T fb lb M be a9 J fr lr bi bh fx lx bl br fy ly cy ce fd ld;clear st;have B:=Bn;clear Bn;have oa:=na;clear na;obtain⟨bf,N,b9,bg,fa,la⟩:=oa.s3;have ob:=nb;clear nb;obtain⟨H,I,ah,T,fb,lb⟩:=ob.s3;have or:=nr;clear nr;obtain⟨M,be,a9,J,fr,lr⟩:=or.s3;have ox:=nx;clear nx;obtain⟨bi,bh,fx,lx⟩:=ox.s1;have oy:=ny;clear ny;obtain⟨bl,br,fy,ly⟩:=oy.s1;have od:=nd;clear nd;obtain⟨cy,ce,fd,ld⟩:=od.s1;obtain⟨ec,ek,fn,ln⟩:=on.s1;clear rd Nn dx;obtain⟨h1,h2,h3,h4,h5,h6,h7,h8,rfl⟩:=hf.ak;have HF:=E7 hf;clear hf;dsimp only; repeat' (first | go_values | go_skip | go_guarded | go_step | go_upon)
 refine Eo (by simp[results,Tryz.results140,go_sem,bf,N,b9,bg,fa,la,H,I,ah,T,fb,lb,M,be,a9,J,fr,lr,bi,bh,fx,lx,bl,br,fy,ly,cy,ce,fd,ld,ec,ek,fn,ln]; rfl) rfl ?_;exact⟨_,rfl,HF.out.only or rfl ((bJ.refl _ _).set.set.set.set),zh⟩
def eD (w:Ef) (v:Ei):Prop:=∃gx H gy E la lb,v = Ej #[Ez gx,H,Ez gy,E]/\aA w H la/\aA w E lb/\¬xB gx la gy lb
theorem eD.af {E:Ef} (h:eD w v) (k:av w E):eD E v:=by
 obtain⟨gx,J,gy,I,la,lb,e,H,M,hv⟩:=h;exact⟨gx,J,gy,I,la,lb,e,k _ _ H,k _ _ M,hv⟩
theorem eD.ak (h:eD w v):∃a s n c b t m d,v = Ej #[Ez a,Ex s n c,Ez b,Ex t m d]:=by
 obtain⟨gx,J,gy,I,la,lb,e,H,E,hv⟩:=h;obtain⟨s,c,rfl⟩:=H.ak;obtain⟨t,d,rfl⟩:=E.ak;exact⟨_,_,_,_,_,_,_,_,e⟩
theorem VS {gx gy:Bool} {H E:Ei} {la lb:List Int} (I:aA w H la) (J:aA w E lb):(∃r,FR w (Ej #[Ez gx,H,Ez gy,E]) r/\zi r.num<=bp la.length/\(r.den:Int)<=bp lb.length)\/eD w (Ej #[Ez gx,H,Ez gy,E]):=by
 by_cases h:xB gx la gy lb
 .
  left
  obtain⟨r,T,N,M⟩:=(bX.ep I J h).fr;have Y:=yO I.ok;have X:=yO J.ok;refine⟨r,M,?_,by rw[N]; omega⟩;rw[T,xM gx (zG I.ok)]; omega
 . right; exact⟨gx,H,gy,E,la,lb,rfl,I,J,h⟩
theorem Zp (w:Ef) (h:FR w v r):Ee Ed 86 #[v] w fun e E=>e = Eh (Ey Ew 0)/\zf w E:=JG w h
theorem QH (w:Ef) (h:eD w v):Ee Ed 86 #[v] w fun e H=>e = Eh (Ey Ew 8)/\zf w H:=by
 obtain⟨gx,M,gy,J,la,lb,rfl,E,I,hv⟩:=h;have:=KH gx gy w E I;rw[vK,E_ hv]at this;exact this
theorem QI (w:Ef) (ha:FR w va r) (hb:FR w vb s) :
  Ee Ed 126 #[va,vb] w fun e w'=>e = Eh (Ey Ew 0)/\zf w w':=by
 obtain⟨a1,a2,a3,a4,a5,a6,a7,a8,rfl⟩:=ha.ak;obtain⟨b1,b2,b3,b4,b5,b6,b7,b8,rfl⟩:=hb.ak;have X:=E7 ha;clear ha;have N:=E7 hb;clear hb
 go_enter Tryz.func126,Tryz.ntmps126
 go_wp2_with fail
 refine(Zp _ (X.out.af zw)).mono ?_;rintro e w1 ⟨rfl,st⟩;have I:=bA w st;have E:=kB w st;have T:ai w1 w.heap.size 28 #[Ez a1,Ex a2 a3 a4,Ez a5,Ex a6 a7 a8]:=ai.au st;have Y:ai w1 (w.heap.size+1) 28 #[Ez b1,Ex b2 b3 b4,Ez b5,Ex b6 b7 b8]:=ai.au st;clear st;have B:=I;clear I;replace X:=E7 (X.out.af E);replace N:=E7 (N.out.af E);clear E;obtain⟨J,a9,Z,M,fa,la⟩:=T.s3;obtain⟨ah,b9,H,be,fb,lb⟩:=Y.s3;go_wp2_with fail
 refine(Zp _ (N.out.af zw)).mono ?_;rintro e w2 ⟨rfl,st⟩;have I:=bA w st;have E:=kB w1 st;have na:=T.dG st;have nb:=Y.dG st;clear B T Y J a9 Z M fa la ah b9 H be fb lb;clear st;have B:=I;clear I;replace X:=E7 (X.out.af E);replace N:=E7 (N.out.af E);clear E;have T:=na;clear na;obtain⟨J,a9,Z,M,fa,la⟩:=T.s3;have Y:=nb;clear nb;obtain⟨ah,b9,H,be,fb,lb⟩:=Y.s3
 go_wp2
 go_returns
 exact⟨rfl,zh⟩
theorem BU (w:Ef) (ha:FR w va r) (hb:FR w vb s) (hr:sz r i) (hs:sz s j) (hk:i+j<=4094) :
  Ee Ed 120 #[va,vb] w fun e E=>∃v,e = Eh (Ev #[v,Ey Ew 0])/\FR E v (r+s)/\zf w E:=by
 have fa:=ha.fit;have fb:=hb.fit;have bo:=fun(E:Ef) (h:zf w E)=>QI E (ha.ae h) (hb.ae h);obtain⟨h1,h2,h3⟩:=jh hr hs;have g1:=yB h1 D6;have g2:=yB h2 D6;have g3:=yB h3 D6;have g4:=yB (xU h1 h2) D6;have g5:fits (r.num*s.den-s.num*r.den):=by rw[Int.sub_eq_add_neg]; exact yB (xU h1 (by rw[vO]; exact h2)) D6
 have pr:∀E,zf w E->Ee Ed 140 #[va,vb,Ez false] E fun e w2=>∃v,e = Eh (Ev #[v,Ey Ew 0])/\FR w2 v (r+s)/\zf E w2:=fun E h=>by
  refine(QG E (ha.ae h) (hb.ae h) g1 g2 g3 g4 g5).mono ?_;rintro e w2 ⟨v,rfl,h1,h2⟩;have h3:=FR.el (jT r s) h1;rw[Yt]at h3;exact⟨v,rfl,h3,h2⟩
 obtain⟨a1,a2,a3,a4,a5,a6,a7,a8,rfl⟩:=ha.ak;obtain⟨b1,b2,b3,b4,b5,b6,b7,b8,rfl⟩:=hb.ak;clear g1 g2 g3 g4 g5 h1 h2 h3 fa fb ha hb hr hs hk
 go_enter Tryz.func120,Tryz.ntmps120
 go_wp2_with fail
 refine(bo _ zh).mono ?_;rintro e w1 ⟨rfl,st⟩;have Bn:=bA w st;have oa:ai w1 w.heap.size 28 #[Ez a1,Ex a2 a3 a4,Ez a5,Ex a6 a7 a8]:=ai.au st;have ob:ai w1 (w.heap.size+1) 28 #[Ez b1,Ex b2 b3 b4,Ez b5,Ex b6 b7 b8]:=ai.au st;have or:ai w1 (w.heap.size+1+1) 28 jN:=ai.au st;clear st;have B:=Bn;clear Bn;obtain⟨J,Y,X,M,fa,la⟩:=oa.s3;obtain⟨Z,a9,H,ah,fb,lb⟩:=ob.s3;obtain⟨N,b9,be,I,fr,lr⟩:=or.s3;clear bo;go_wp2_with fail
 refine(pr _ B).mono ?_;rintro e w2 ⟨vq,rfl,T,st⟩;have Bn:=bA w st;have na:=oa.dG st;have nb:=ob.dG st;have nr:=or.dG st;clear B oa ob or J Y X M fa la Z a9 H ah fb lb N b9 be I fr lr;clear st;have B:=Bn;clear Bn;have oa:=na;clear na;obtain⟨J,Y,X,M,fa,la⟩:=oa.s3;have ob:=nb;clear nb;obtain⟨Z,a9,H,ah,fb,lb⟩:=ob.s3;have or:=nr;clear nr;obtain⟨N,b9,be,I,fr,lr⟩:=or.s3;obtain⟨q1,q2,q3,q4,q5,q6,q7,q8,rfl⟩:=T.ak;have Fq:=E7 T;clear T;clear pr;dsimp only; repeat' (first | go_values | go_skip | go_guarded | go_step | go_upon)
 refine Eo (by simp[results,Tryz.results120,go_sem,J,Y,X,M,fa,la,Z,a9,H,ah,fb,lb,N,b9,be,I,fr,lr]; rfl) rfl ?_;exact⟨_,rfl,Fq.out.af zw,zh⟩
theorem UV (w:Ef) (ha:FR w va r) (hb:FR w vb s) (hr:sz r i) (hs:sz s j) (hk:i+j<=4095) :
  Ee Ed 87 #[va,vb] w fun e E=>e = Eh (Ev #[Ey Ew (z9 r s),Ey Ew 0])/\zf w E:=by
 have fa:=ha.fit;have fb:=hb.fit;have bo:=fun(E:Ef) (h:zf w E)=>QI E (ha.ae h) (hb.ae h);obtain⟨h1,h2,h3⟩:=jh hr hs;have g1:=yB h1 hk;have g2:=yB h2 hk;obtain⟨a2,a3,a4,a6,a7,a8,rfl,na,da,-⟩:=ha.bU;obtain⟨b2,b3,b4,b6,b7,b8,rfl,bg,db,-⟩:=hb.bU;have m1:=fun(E:Ef) (h:zf w E)=>jH E (na.ae h) (db.ae h) fa.1 fb.2 g1;have m2:=fun(E:Ef) (h:zf w E)=>jH E (bg.ae h) (da.ae h) fb.1 fa.2 g2
 have cm:∀E v u,az E v (r.num*s.den)->az E u (s.num*r.den)->Ee Ed 128 #[v,u] E fun e w2=>e = Eh (Ey Ew (z9 r s))/\zf E w2:=fun E v u h1 h2=>by
  have:=VE E h1 h2 g1 g2;rw[vM]at this;exact this
 obtain⟨ga,br⟩:∃g,decide (r<0)=g:=⟨_,rfl⟩;obtain⟨gb,bi⟩:∃g,decide (s<0)=g:=⟨_,rfl⟩;obtain⟨c,hc⟩:∃c,z9 r s=c:=⟨_,rfl⟩;rw[br]at m1 bo|-;rw[bi]at m2 bo|-;rw[hc]at cm|-;obtain⟨X,hX⟩:∃X:Int,r.num*s.den=X:=⟨_,rfl⟩;obtain⟨Y,hY⟩:∃X:Int,s.num*r.den=X:=⟨_,rfl⟩;rw[hX]at m1 cm;rw[hY]at m2 cm;clear br bi hc hX hY na da bg db g1 g2 h1 h2 h3 fa fb ha hb hr hs hk
 go_enter Tryz.func87,Tryz.ntmps87
 go_wp2_with fail
 refine(bo _ zh).mono ?_;rintro e w1 ⟨rfl,st⟩;have Bn:=bA w st;have M:ai w1 w.heap.size 28 #[Ez ga,Ex a2 a3 a4,Ez false,Ex a6 a7 a8]:=ai.au st;have H:ai w1 (w.heap.size+1) 28 #[Ez gb,Ex b2 b3 b4,Ez false,Ex b6 b7 b8]:=ai.au st;clear st;have B:=Bn;clear Bn;obtain⟨J,Z,T,N,fa,la⟩:=M.s3;obtain⟨a9,ah,I,b9,fb,lb⟩:=H.s3;clear bo;go_wp2_with fail
 refine(m1 _ B).mono ?_;rintro e w2 ⟨vx,rfl,bf,st⟩;have Bn:=bA w st;have na:=M.dG st;have nb:=H.dG st;clear B M H J Z T N fa la a9 ah I b9 fb lb;clear st;have B:=Bn;clear Bn;have M:=na;clear na;obtain⟨J,Z,T,N,fa,la⟩:=M.s3;have H:=nb;clear nb;obtain⟨a9,ah,I,b9,fb,lb⟩:=H.s3;obtain⟨x1,x2,x3,x4,rfl⟩:=bf.ak;have Fx:=E7 bf;clear bf;clear m1;have zx:w.heap.size+1<w2.heap.size:=H.lt;go_wp2_with fail
 refine(m2 _ zh).mono ?_;rintro e w3 ⟨vy,rfl,be,st⟩;have Bn:=bA w st;have kp:=kB w2 st;have na:=M.dG st;have nb:=H.dG st;have ox:ai w3 w2.heap.size 26 #[Ez x1,Ex x2 x3 x4]:=ai.au st;clear B M H J Z T N fa la a9 ah I b9 fb lb;clear st;have B:=Bn;clear Bn;replace Fx:=E7 (Fx.out.af kp);clear kp;have M:=na;clear na;obtain⟨J,Z,T,N,fa,la⟩:=M.s3;have H:=nb;clear nb;obtain⟨a9,ah,I,b9,fb,lb⟩:=H.s3;obtain⟨bl,bh,fx,lx⟩:=ox.s1;obtain⟨y1,y2,y3,y4,rfl⟩:=be.ak;have Fy:=E7 be;clear be;clear m2;have zy:w2.heap.size<w3.heap.size:=ox.lt;go_wp2_with fail
 refine(cm _ _ _ (Fx.out.af zw) (Fy.out.af zw)).mono ?_;rintro e w4 ⟨rfl,st⟩;have Bn:=bA w st;have kp:=kB w3 st;have na:=M.dG st;have nb:=H.dG st;have nx:=ox.dG st;have oy:ai w4 w3.heap.size 26 #[Ez y1,Ex y2 y3 y4]:=ai.au st;clear B M H ox J Z T N fa la a9 ah I b9 fb lb bl bh fx lx;clear st;have B:=Bn;clear Bn;replace Fx:=E7 (Fx.out.af kp);replace Fy:=E7 (Fy.out.af kp);clear kp;have M:=na;clear na;obtain⟨J,Z,T,N,fa,la⟩:=M.s3;have H:=nb;clear nb;obtain⟨a9,ah,I,b9,fb,lb⟩:=H.s3;have ox:=nx;clear nx;obtain⟨bl,bh,fx,lx⟩:=ox.s1;obtain⟨ce,bt,fy,ly⟩:=oy.s1
 go_wp2
 go_returns
 exact⟨rfl,zh⟩
end
section
open Go.RowKit
variable {x y:Int} {l:List (Int×Int)} {i j:Nat} {r s:Rat} {v va vb:Ei} {w:Ef}
def PM (x y:Int) (l:List Int):Prop:=zj l=zi x*zi y/\l.length<=aD
def PE (L l:List Int):Prop:=l=L
theorem VT (w:Ef) (ha:az w va x) (hb:az w vb y) (fx:fits x) (fy:fits y) :
  Ee Ed 55 #[va,vb] w fun e E=>∃v,e = Eh (Ev #[v,Ey Ew (jc (x*y))])/\az E v (xt (x*y))/\zf w E:=by
 have ck:∀ (E:Ef) (q:Nat) (J N:Ei),ai E q 26 #[Ez (decide (x<0)),J,Ez (decide (y<0)),N]->aA E J (zp (zi x))->aA E N (zp (zi y))->
   Ee Ed 93 #[Ex (some ⟨q,0,none⟩) 2 2] E fun e I=>e = Eh (Ey Ew 0)/\zf E I:=fun E q J N hb h1 M=>xA E hb h1 M fx fy
 obtain⟨aa,ca,rfl,pa⟩:=ha.parts;obtain⟨ab,cb,rfl,pb⟩:=hb.parts;unfold fits at fx fy;have nx:(zp (zi x)).length<=aD:=by unfold aD; omega
 have ny:(zp (zi y)).length<=aD:=by unfold aD; omega
 have vx:=zE (zD x);have vy:=zE (zD y);obtain⟨g,hg⟩:∃g,(decide (x<0) != decide (y<0))=g:=⟨_,rfl⟩
 have tm:∀E J N,aA E J (zp (zi x))->aA E N (zp (zi y))->Ee Ed 95 #[J,N] E fun e I=>∃v,e = Eh v/\dZ (PM x y) v I/\zf E I:=fun E J N h1 M=>by
  refine(Hd E h1 M nx ny).mono ?_;rintro e I ⟨v,l,rfl,h1,M,h3,h4⟩;exact⟨v,rfl,⟨l,⟨by rw[M,vx,vy],by unfold aD; omega⟩,h1⟩,h4⟩
 have mk:∀E s,dZ (PM x y) s E->Ee Ed 94 #[Ez g,s] E fun e I=>∃v,e = Eh (Ev #[v,Ey Ew (jc (x*y))])/\az I v (xt (x*y))/\zf E I:=fun E s ⟨l,⟨M,h3⟩,h⟩=>by
  have:=xX g E h h3;rw[M,<- hg,UU]at this;rw[<- hg];exact this
 obtain⟨LX,ah⟩:∃l,zp (zi x)=l:=⟨_,rfl⟩;obtain⟨LY,a9⟩:∃l,zp (zi y)=l:=⟨_,rfl⟩;rw[ah]at tm ck pa|-;rw[a9]at tm ck pb|-;obtain⟨n,hn⟩:∃n,LX.length=n:=⟨_,rfl⟩;obtain⟨m,hm⟩:∃m,LY.length=m:=⟨_,rfl⟩;rw[hn]at pa|-;rw[hm]at pb|-;obtain⟨gx,b9⟩:∃b,decide (x<0)=b:=⟨_,rfl⟩;obtain⟨gy,Z⟩:∃b,decide (y<0)=b:=⟨_,rfl⟩;rw[b9,Z]at hg ck|-;have ce:(gx==gy) = !g:=by rw[<- hg]; cases gx<;>cases gy<;>rfl
 have X:=E7 pa;have T:=E7 pb;clear ha hb pa pb hn hm b9 Z hg ah a9 fx fy nx ny vx vy
 go_enter Tryz.func55,Tryz.ntmps55
 go_wp2_with fail
 refine(ck _ _ _ _ zC (X.out.af zw) (T.out.af zw)).mono ?_;rintro e w1 ⟨rfl,st⟩;have B:=bA w st;have kp:=kB w st;have oa:ai w1 w.heap.size 26 #[Ez gx,Ex aa n ca]:=ai.au st;have ob:ai w1 (w.heap.size+1) 26 #[Ez gy,Ex ab m cb]:=ai.au st;have or:ai w1 (w.heap.size+1+1) 26 #[Ez false,Ex none 0 0]:=ai.au st;replace X:=E7 (X.out.af kp);replace T:=E7 (T.out.af kp);clear kp;clear st;obtain⟨be,bg⟩:=oa.r1;have la:=oa.lt;obtain⟨bh,bi⟩:=ob.r1;have lb:=ob.lt;clear ck;have zr:w.heap.size+1+1<w1.heap.size:=or.lt;have bt:=B.size
 go_upto_region 4 with fail
 refine aj.c_ w w1 [.o w.heap.size 26 #[Ez gx,Ex aa n ca],.o (w.heap.size+1) 26 #[Ez gy,Ex ab m cb],.s (w.heap.size+1+1) 26 #[Ez false,Ex none 0 0] 13 [10] (aj.vT 0)] [9,10,13] [(9,Hn),(10,vS (jc (x*y)))] [(9,dZ (PM x y)),(10,cD (xt (x*y)) (jc (x*y)))] [(10,[(9,some 24)]),(13,[(10,some 25)]),(15,[(9,some 24),(10,some 25)])] [(10,[13])] (by simp only[aV]; exact⟨zh,zw,zC,zC,zC,trivial⟩) (fun N0 bl Y Q' H hQ=> ?_);clear be bg la bh bi lb;clear bl;refine aj.aG 15 ?_;refine aj.aS 16 (fun _ _ _ h=>h.e.1.r1) ?_;refine aj.aG 17 ?_;refine aj.aS 18 (fun _ _ _ h=>h.e.2.1.r1) ?_
 repeat refine aj.aG _ ?_
 refine aj.aS 21 (fun _ _ _ h=>h.e.1.r1) ?_;refine aj.aG 22 ?_;refine aj.aS 23 (fun _ _ _ h=>h.e.2.1.r1) ?_;refine aj.sC H (fun D v' W' h _=>tm W' _ _ (X.out.af h.k) (T.out.af h.k)) ?_;rintro _ ⟨t1,t2,t3,rfl⟩;refine aj.aB (b:=⟨#[_,_,_,_,_,_,_,_,_,_,_,_,_,_,_,_,_,_,_,_,_,_,_,_,_,_,_,_],[]⟩) rfl ?_;refine aj.sC H (fun D v' W' _ hf=>mk W' _ (hf (9,some 24) (.head _) rfl).2.2) ?_;rintro _ ⟨p1,p2,p3,p4,rfl⟩;refine aj.aB (b:=⟨#[_,_,_,_,_,_,_,_,_,_,_,_,_,_,_,_,_,_,_,_,_,_,_,_,_,_,_,_],[]⟩) rfl ?_
 repeat refine aj.aG _ ?_
 refine aj.sS H ?_;refine aj.aG 5 ?_;refine aj.sE (fun _ v' I B jk hl _ _ hf=> ?_);simp only[xZ,qk]at hl;obtain⟨oa,ob,or,-⟩:=hl;have or:ai I (w.heap.size+1+1) 26 #[Ez p1,Ex p2 p3 p4]:=or;have Fp:=E7 (cD.get (z:=xt (x*y)) (e:=(jc (x*y))) (v:= Ej #[Ez p1,Ex p2 p3 p4]) (hf (10,some 25) (.tail _ (.head _)) rfl).2.2);replace X:=E7 (X.out.af jk);replace T:=E7 (T.out.af jk);clear hf jk;refine hQ _ _ ?_;clear hQ H Q' Y;obtain⟨bf,br⟩:=or.r1;have lr:=or.lt;clear tm mk;go_wp2_with fail
 refine Eo (by simp[results,Tryz.results55,go_sem,bf,br,lr]; rfl) rfl ?_;exact⟨_,rfl,Fp.out.af zw,zh⟩
theorem Da (w:Ef) (ha:az w va x) (N:fits x) :
  Ee Ed 131 #[va] w fun e E=>∃v,e = Eh (Ev #[v,Ey Ew 0])/\az E v (-x)/\zf w E:=by
 have ck:∀ (E:Ef) (q:Nat) (J:Ei),ai E q 26 #[Ez (decide (x<0)),J]->aA E J (zp (zi x))->
   Ee Ed 93 #[Ex (some ⟨q,0,none⟩) 1 1] E fun e I=>e = Eh (Ey Ew 0)/\zf E I:=fun E q J hb h1=>by
  have:=Kz E hb h1;rw[show yT (zU (decide (x<0)) (zp (zi x)))=0 from E9 (xy N)]at this;exact this
 obtain⟨aa,ca,rfl,pa⟩:=ha.parts;have nx:(zp (zi x)).length<=aD:=by unfold fits at N; unfold aD; omega
 have vx:=zE (zD x)
 have cl:∀E J,aA E J (zp (zi x))->Ee Ed 134 #[J] E fun e I=>∃v,e = Eh v/\dZ (PE (zp (zi x))) v I/\zf E I:=fun E J h1=>by
  refine(Yj E h1 nx).mono ?_;rintro e I ⟨v,rfl,_,h2,h3⟩;exact⟨v,rfl,⟨_,rfl,h2⟩,h3⟩
 have mk:∀E s,dZ (PE (zp (zi x))) s E->Ee Ed 94 #[Ez (!decide (x<0)),s] E fun e I=>∃v,e = Eh (Ev #[v,Ey Ew 0])/\az I v (-x)/\zf E I:=fun E s ⟨l,hl,h⟩=>by
  obtain rfl:l=zp (zi x):=hl;have:=xX (!decide (x<0)) E h nx
  have e:zv (!decide (x<0)) (zj (zp (zi x))) = -x:=by
   rw[vx]; unfold zv zi
   by_cases h:x<0
   . rw[E' h]; simp; omega
   . rw[Ea h]; simp; omega
  rw[e,show jc (-x)=0 from E9 (kj N),show xt (-x) = -x from E9 (kj N)]at this;exact this
 obtain⟨LX,X⟩:∃l,zp (zi x)=l:=⟨_,rfl⟩;rw[X]at cl mk ck pa|-;obtain⟨n,hn⟩:∃n,LX.length=n:=⟨_,rfl⟩;rw[hn]at pa|-;obtain⟨gx,Y⟩:∃b,decide (x<0)=b:=⟨_,rfl⟩;rw[Y]at mk ck|-;have M:=E7 pa;clear ha pa hn Y X N nx vx
 go_enter Tryz.func131,Tryz.ntmps131
 go_wp2_with fail
 refine(ck _ _ _ zC (M.out.af zw)).mono ?_;rintro e w1 ⟨rfl,st⟩;have B:=bA w st;have kp:=kB w st;have oa:ai w1 w.heap.size 26 #[Ez gx,Ex aa n ca]:=ai.au st;have or:ai w1 (w.heap.size+1) 26 #[Ez false,Ex none 0 0]:=ai.au st;replace M:=E7 (M.out.af kp);clear kp;clear st;obtain⟨a9,b9⟩:=oa.r1;have la:=oa.lt;clear ck;have zr:w.heap.size+1<w1.heap.size:=or.lt;have bg:=B.size
 go_upto_region 4 with fail
 refine aj.c_ w w1 [.o w.heap.size 26 #[Ez gx,Ex aa n ca],.s (w.heap.size+1) 26 #[Ez false,Ex none 0 0] 9 [6] (aj.vT 0)] [5,6,9] [(5,Hn),(6,vS 0)] [(5,dZ (PE LX)),(6,cD (-x) 0)] [(6,[(5,some 17)]),(9,[(6,some 18)]),(11,[(5,some 17),(6,some 18)])] [(6,[9])] (by simp only[aV]; exact⟨zh,zw,zC,zC,trivial⟩) (fun N0 be T Q' H hQ=> ?_);clear a9 b9 la;clear be;refine aj.aG 12 ?_;refine aj.aS 13 (fun _ _ _ h=>h.e.1.r1) ?_
 repeat refine aj.aG _ ?_
 refine aj.aS 16 (fun _ _ _ h=>h.e.1.r1) ?_;refine aj.sC H (fun D v' W' h _=>cl W' _ (M.out.af h.k)) ?_;rintro _ ⟨t1,t2,t3,rfl⟩;refine aj.aB (b:=⟨#[_,_,_,_,_,_,_,_,_,_,_,_,_,_,_,_,_,_,_,_,_],[]⟩) rfl ?_;refine aj.sC H (fun D v' W' _ Z=>mk W' _ (Z (5,some 17) (.head _) rfl).2.2) ?_;rintro _ ⟨p1,p2,p3,p4,rfl⟩;refine aj.aB (b:=⟨#[_,_,_,_,_,_,_,_,_,_,_,_,_,_,_,_,_,_,_,_,_],[]⟩) rfl ?_
 repeat refine aj.aG _ ?_
 refine aj.sS H ?_;refine aj.aG 3 ?_;refine aj.sE (fun _ v' I B jk hl _ _ Z=> ?_);simp only[xZ,qk]at hl;obtain⟨oa,or,-⟩:=hl;have or:ai I (w.heap.size+1) 26 #[Ez p1,Ex p2 p3 p4]:=or;have Fp:=E7 (cD.get (z:= -x) (e:=0) (v:= Ej #[Ez p1,Ex p2 p3 p4]) (Z (6,some 18) (.tail _ (.head _)) rfl).2.2);replace M:=E7 (M.out.af jk);clear Z jk;refine hQ _ _ ?_;clear hQ H Q' T;obtain⟨ah,bf⟩:=or.r1;have lr:=or.lt;clear cl mk;go_wp2_with fail
 refine Eo (by simp[results,Tryz.results131,go_sem,ah,bf,lr]; rfl) rfl ?_;exact⟨_,rfl,Fp.out.af zw,zh⟩
theorem UW (w:Ef) (ha:az w va x) (Y:fits x) :
  Ee Ed 150 #[va] w fun e E=>e = Eh (Ey Ew 0)/\zf w E:=by
 have T:∀ (E:Ef) (q:Nat) (M:Ei),ai E q 26 #[Ez (decide (x<0)),M]->aA E M (zp (zi x))->
   Ee Ed 93 #[Ex (some ⟨q,0,none⟩) 1 1] E fun e w2=>e = Eh (Ey Ew 0)/\zf E w2:=fun E q M hb h1=>by
  have:=Kz E hb h1;rw[show yT (zU (decide (x<0)) (zp (zi x)))=0 from E9 (xy Y)]at this;exact this
 obtain⟨aa,ca,rfl,J⟩:=ha.parts;obtain⟨LX,I⟩:∃l,zp (zi x)=l:=⟨_,rfl⟩;rw[I]at T J|-;obtain⟨n,Z⟩:∃n,LX.length=n:=⟨_,rfl⟩;rw[Z]at J|-;obtain⟨gx,H⟩:∃b,decide (x<0)=b:=⟨_,rfl⟩;rw[H]at T|-;have N:=E7 J;clear ha J Z H I Y
 go_enter Tryz.func150,Tryz.ntmps150
 go_wp2_with fail
 refine(T _ _ _ zC (N.out.af zw)).mono ?_;rintro e w1 ⟨rfl,st⟩;have B:=bA w st;have X:=kB w st;have oa:ai w1 w.heap.size 26 #[Ez gx,Ex aa n ca]:=ai.au st;replace N:=E7 (N.out.af X);clear X;clear st
 go_wp2
 go_returns
 exact⟨rfl,zh⟩
theorem Hs (w:Ef):Ee Ed 57 #[Ey Ew 0] w fun e E=>e = Eh (Ev #[])/\E=w:=by
 go_enter Tryz.func57,Tryz.ntmps57
 go_wp2
 go_end0
 exact⟨rfl,rfl⟩
def Dr (e:Int):Ei:= .iface 143 (Ej #[Ey Ew e])
theorem xV (p:Addr) (w:Ef) :
  CallsD Ed 56 #[Ek (some p)] .returning w fun e E I=>e = Eh (Ev #[])/\E = .returning/\I=w:=by
 refine callsD_of_wpS Tryz.func56 rfl fun H cs J=> ?_;apply wpS_seq
 apply wpS_region
 simp[wpOpsS,go_sem,recoverD,J,Tryz.ntmps56,Exit.thenS];refine wpS_of_wp ?_
 show Code.wp _ _ _ ⟨#[Ek (some p),En,En,En,En,.nilIface,En,En,En,En,En,En,En,En,En],[]⟩ w
 go_wp2_with fail
 cases H
 simp_all [bodyPostS,results,Tryz.results56]
theorem qc (H : -9223372036854775808<=x) (E:x<=9223372036854775807):fits x:=yB (k:=2) (by rw[qA]; unfold zi; omega) D6
theorem kt (w:Ef) (E:az w va x):Ee Ed 54 #[va,Ey Ew 0] w fun e H=>∃v,e = Eh v/\az H v x/\zf w H:=by
 obtain⟨a1,a2,M,J,rfl⟩:=E.ak;have I:=E7 E;clear E
 go_enter Tryz.func54,Tryz.ntmps54
 go_wp2_with fail
 refine Eo (by simp[results,Tryz.results54,go_sem,]; rfl) rfl ?_;exact⟨_,rfl,I.out.af zw,zh⟩
theorem vZ (w:Ef) (ha:az w va x) (hb:az w vb y) (fx:fits x) (fy:fits y) (hy:y≠0) :
  Ee Ed 92 #[va,vb] w fun e H=>∃v,e = Eh v/\FR H v ((x:Rat) / (y:Rat))/\zf w H:=by
 have RA:=JJ (x:=x) hy;have fP:fits (Xl x y):=yA RA.1 fx;have fQ:fits (Yp x y):=yA RA.2.1 fy;have fG:fits (rg x y):=yA RA.2.2 fy;have g0:=Qs (x:=x) hy;have gc:∀H u v,az H u x->az H v y->Ee Ed 96 #[u,v] H fun e M=>∃v,e = Eh (Ev #[v,Ey Ew 0])/\az M v (yn x y)/\zf H M:=fun H u v h1 h2=>(BI H h1 h2 fx fy).mono (by rintro e M ⟨v,rfl,h,-,hs⟩; exact⟨v,rfl,h,hs⟩);have d1:∀H u v,az H u x->az H v (rg x y)->Ee Ed 132 #[u,v] H fun e M=>∃q r,e = Eh (Ev #[q,r,Ey Ew 0])/\az M q (Xl x y)/\az M r (xv x (rg x y))/\zf H M:=fun H u v h1 h2=>KI H h1 h2 fx fG g0;have d2:∀H u v,az H u y->az H v (rg x y)->Ee Ed 132 #[u,v] H fun e M=>∃q r,e = Eh (Ev #[q,r,Ey Ew 0])/\az M q (Yp x y)/\az M r (xv y (rg x y))/\zf H M:=fun H u v h1 h2=>KI H h1 h2 fy fG g0;have MK:Hid (∀H a s b t,az H (Ej #[Ez a,s]) (Xl x y)->az H (Ej #[Ez b,t]) (Yp x y)->FR H (Ej #[Ez a,s,Ez b,t]) ((x:Rat) / (y:Rat))):=fun H a s b t h1 h2=>FR.el hy (bX.mk' h1 h2 (ZU (x:=x) hy) (JH (x:=x) hy) fP fQ)
 have fg:fits (yn x y):=by
  unfold rg at fG
  split at fG
  . have:=kj fG; rwa[Int.neg_neg]at this
  . exact fG
 have ng:∀H v,az H v (yn x y)->Ee Ed 131 #[v] H fun e M=>∃v,e = Eh (Ev #[v,Ey Ew 0])/\az M v (-yn x y)/\zf H M:=fun H v h=>Da H h fg;obtain⟨a1,a2,a3,a4,rfl⟩:=ha.ak;have X:=E7 ha;clear ha;obtain⟨b2,b4,rfl,-⟩:=hb.parts;obtain⟨b3,bh⟩:∃n,(zp (zi y)).length=n:=⟨_,rfl⟩;rw[bh]at hb|-
 by_cases hs:y<0
 focus
  rw[E' hs]at hb|-;have HG:rg x y = -yn x y:=E9 hs;rw[HG]at d1 d2;have N:=E7 hb;clear hb bh hs HG fg hy fx fy g0 RA fP fQ fG
  go_enter Tryz.func92,Tryz.ntmps92
  go_wp2_with fail
  refine(gc _ _ _ (X.out.af zw) (N.out.af zw)).mono ?_;rintro e w1 ⟨vg,rfl,b9,dt⟩;have st:zf _ w1:=dt;have B:=bA w st;have kp:=kB w st;have T:ai w1 w.heap.size 26 #[Ez a1,Ex a2 a3 a4]:=ai.au st;have J:ai w1 (w.heap.size+1) 26 #[Ez true,Ex b2 b3 b4]:=ai.au st;have or:ai w1 (w.heap.size+1+1) 28 jN:=ai.au st;replace X:=E7 (X.out.af kp);replace N:=E7 (N.out.af kp);clear kp;clear st;obtain⟨g1,g2,g3,g4,rfl⟩:=b9.ak;have Z:=E7 b9;clear b9;clear gc;go_wp2_with fail
  refine(kt _ (Z.out.af zw)).mono ?_;rintro e M ⟨dl,rfl,I,dx⟩;have st:zf _ M:=dx;have sk:=bA w1 st;replace B:=bS B sk;replace T:=T.ae sk;replace J:=J.ae sk;replace or:=or.ae sk;replace X:=E7 (X.out.ae sk);replace N:=E7 (N.out.ae sk);replace Z:=E7 (Z.out.ae sk);clear st sk;have la:=T.lt;obtain⟨bf,bg⟩:=J.r1;have lb:=J.lt;have lr:=or.lt;obtain⟨bt,bl,bi,br,rfl⟩:=I.ak;have E:=E7 I;clear I;have zr:w.heap.size+1+1<M.heap.size:=or.lt;have ed:=B.size;go_wp2_with fail
  refine(ng _ _ (E.out.af zw)).mono ?_;rintro e w3 ⟨vh,rfl,cy,bh⟩;have st:zf _ w3:=bh;have sk:=bA M st;replace B:=bS B sk;have og:ai w3 M.heap.size 26 #[Ez bt,Ex bl bi br]:=ai.au st;replace T:=T.ae sk;replace J:=J.ae sk;replace or:=or.ae sk;replace X:=E7 (X.out.ae sk);replace N:=E7 (N.out.ae sk);replace Z:=E7 (Z.out.ae sk);replace E:=E7 (E.out.ae sk);clear st sk la bf bg lb lr;obtain⟨h1,h2,h3,h4,rfl⟩:=cy.ak;have Fh:=E7 cy;clear cy;clear ng;go_wp2_with fail
  refine(kt _ (Fh.out.af zw)).mono ?_;rintro e w4 ⟨eM,rfl,a9,em⟩;have st:zf _ w4:=em;have sk:=bA w3 st;replace B:=bS B sk;replace T:=T.ae sk;replace J:=J.ae sk;replace or:=or.ae sk;replace og:=og.ae sk;replace X:=E7 (X.out.ae sk);replace N:=E7 (N.out.ae sk);replace Z:=E7 (Z.out.ae sk);replace E:=E7 (E.out.ae sk);replace Fh:=E7 (Fh.out.ae sk);clear st sk;obtain⟨cN,cx⟩:=T.r1;have la:=T.lt;have lb:=J.lt;have lr:=or.lt;obtain⟨cn,cg,fg,lg⟩:=og.s1;obtain⟨dc,d9,dk,cZ,rfl⟩:=a9.ak;have Y:=E7 a9;clear a9;go_wp2_with fail
  refine(d1 _ _ _ (X.out.af zw) (Y.out.af zw)).mono ?_;rintro e w5 ⟨vp,vs,rfl,be,ah,st⟩;have Bn:=bA w st;have kp:=kB w4 st;replace T:ai w5 w.heap.size 26 #[Ez a1,Ex a2 a3 a4]:=ai.au st;replace J:ai w5 (w.heap.size+1) 26 #[Ez true,Ex b2 b3 b4]:=ai.au st;replace or:ai w5 (w.heap.size+1+1) 28 jN:=ai.au st;replace og:ai w5 M.heap.size 26 #[Ez dc,Ex d9 dk cZ]:=ai.au st;clear cN cx la lb lr cn cg fg lg;replace B:=Bn;replace X:=E7 (X.out.af kp);replace N:=E7 (N.out.af kp);replace Z:=E7 (Z.out.af kp);replace E:=E7 (E.out.af kp);replace Fh:=E7 (Fh.out.af kp);replace Y:=E7 (Y.out.af kp);clear kp;clear st;have la:=T.lt;obtain⟨bf,bg⟩:=J.r1;have lb:=J.lt;have lr:=or.lt;obtain⟨cn,cg⟩:=og.r1;have lg:=og.lt;obtain⟨p1,p2,p3,p4,rfl⟩:=be.ak;obtain⟨s1,s2,s3,s4,rfl⟩:=ah.ak;have Fp:=E7 be;clear be;have Fs:=E7 ah;clear ah;clear d1;have zg:M.heap.size<w5.heap.size:=og.lt;have eS:=B.size;go_wp2_with fail
  refine(d2 _ _ _ (N.out.af zw) (Y.out.af zw)).mono ?_;rintro e w6 ⟨vq,vt,rfl,ce,ci,st⟩;have sk:=bA w5 st;replace B:=bS B sk;have op:ai w6 w5.heap.size 26 #[Ez p1,Ex p2 p3 p4]:=ai.au st;have os:ai w6 (w5.heap.size+1) 26 #[Ez s1,Ex s2 s3 s4]:=ai.au st;replace T:=T.ae sk;replace J:=J.ae sk;replace or:=or.ae sk;replace og:=og.ae sk;replace X:=E7 (X.out.ae sk);replace N:=E7 (N.out.ae sk);replace Z:=E7 (Z.out.ae sk);replace E:=E7 (E.out.ae sk);replace Fh:=E7 (Fh.out.ae sk);replace Y:=E7 (Y.out.ae sk)
 rotate_left
 focus
  rw[Ea hs]at hb|-;have HG:rg x y=yn x y:=E_ hs;rw[HG]at d1 d2;have N:=E7 hb;clear hb bh hs HG fg hy fx fy g0 RA fP fQ fG ng
  go_enter Tryz.func92,Tryz.ntmps92
  go_wp2_with fail
  refine(gc _ _ _ (X.out.af zw) (N.out.af zw)).mono ?_;rintro e w1 ⟨vg,rfl,b9,st⟩;have B:=bA w st;have kp:=kB w st;have T:ai w1 w.heap.size 26 #[Ez a1,Ex a2 a3 a4]:=ai.au st;have J:ai w1 (w.heap.size+1) 26 #[Ez false,Ex b2 b3 b4]:=ai.au st;have or:ai w1 (w.heap.size+1+1) 28 jN:=ai.au st;replace X:=E7 (X.out.af kp);replace N:=E7 (N.out.af kp);clear kp;clear st;obtain⟨g1,g2,g3,g4,rfl⟩:=b9.ak;have Z:=E7 b9;clear b9;clear gc;go_wp2_with fail
  refine(kt _ (Z.out.af zw)).mono ?_;rintro e M ⟨dl,rfl,I,st⟩;have sk:=bA w1 st;replace B:=bS B sk;replace T:=T.ae sk;replace J:=J.ae sk;replace or:=or.ae sk;replace X:=E7 (X.out.ae sk);replace N:=E7 (N.out.ae sk);replace Z:=E7 (Z.out.ae sk);clear st sk;obtain⟨cN,cx⟩:=T.r1;have la:=T.lt;obtain⟨bf,bg⟩:=J.r1;have lb:=J.lt;have lr:=or.lt;obtain⟨bt,bl,bi,br,rfl⟩:=I.ak;have E:=E7 I;clear I;have zr:w.heap.size+1+1<M.heap.size:=or.lt;have ed:=B.size;go_wp2_with fail
  refine(d1 _ _ _ (X.out.af zw) (E.out.af zw)).mono ?_;rintro e w5 ⟨vp,vs,rfl,be,ah,st⟩;have sk:=bA M st;replace B:=bS B sk;have og:ai w5 M.heap.size 26 #[Ez bt,Ex bl bi br]:=ai.au st;replace T:=T.ae sk;replace J:=J.ae sk;replace or:=or.ae sk;replace X:=E7 (X.out.ae sk);replace N:=E7 (N.out.ae sk);replace Z:=E7 (Z.out.ae sk);replace E:=E7 (E.out.ae sk);clear st sk cN cx la bf bg lb lr;have la:=T.lt;obtain⟨bf,bg⟩:=J.r1;have lb:=J.lt;have lr:=or.lt;obtain⟨cn,cg⟩:=og.r1;have lg:=og.lt;obtain⟨p1,p2,p3,p4,rfl⟩:=be.ak;obtain⟨s1,s2,s3,s4,rfl⟩:=ah.ak;have Fp:=E7 be;clear be;have Fs:=E7 ah;clear ah;clear d1;have zg:M.heap.size<w5.heap.size:=og.lt;have eW:=B.size;go_wp2_with fail
  refine(d2 _ _ _ (N.out.af zw) (E.out.af zw)).mono ?_;rintro e w6 ⟨vq,vt,rfl,ce,ci,st⟩;have sk:=bA w5 st;replace B:=bS B sk;have op:ai w6 w5.heap.size 26 #[Ez p1,Ex p2 p3 p4]:=ai.au st;have os:ai w6 (w5.heap.size+1) 26 #[Ez s1,Ex s2 s3 s4]:=ai.au st;replace T:=T.ae sk;replace J:=J.ae sk;replace or:=or.ae sk;replace og:=og.ae sk;replace X:=E7 (X.out.ae sk);replace N:=E7 (N.out.ae sk);replace Z:=E7 (Z.out.ae sk);replace E:=E7 (E.out.ae sk)
 rotate_left
 all_goals
  replace Fp:=E7 (Fp.out.ae sk);replace Fs:=E7 (Fs.out.ae sk);clear st sk la bf bg lb lr cn cg lg;have la:=T.lt;have lb:=J.lt;obtain⟨ec,ey,ek,dy,fr,lr⟩:=or.s3;obtain⟨dP,er⟩:=op.r1;have lp:=op.lt;have ls:=os.lt;obtain⟨q1,q2,q3,q4,rfl⟩:=ce.ak;obtain⟨t1,t2,t3,t4,rfl⟩:=ci.ak;have Fq:=E7 ce;clear ce;have Ft:=E7 ci;clear ci;clear d2;have zs:w5.heap.size+1<w6.heap.size:=os.lt;have f7:=B.size;go_wp2_with fail
  refine Eo (by simp[results,Tryz.results92,go_sem,la,lb,ec,ey,ek,dy,fr,lr,dP,er,lp,ls]; rfl) rfl ?_;exact⟨_,rfl,MK.out _ _ _ _ _ (Fp.out.af zw) (Fq.out.af zw),zh⟩
theorem xN (w:Ef):Ee Ed 57 #[Ey Ew 0] w fun e E=>e = Eh (Ev #[])/\zf w E:=(Hs w).mono (by rintro e E ⟨rfl,rfl⟩; exact⟨rfl,Below.refl _ _⟩)
theorem BV (w:Ef) (ha:az w va x) (hb:az w vb y) (fx:fits x) (fy:fits y) (hy:y≠0) :
  Ee Ed 117 #[va,vb] w fun e E=>∃v,e = Eh (Ev #[v,Ey Ew 0])/\FR E v ((x:Rat) / (y:Rat))/\zf w E:=by
 have c1:∀E v,az E v x->Ee Ed 150 #[v] E fun e Y=>e = Eh (Ey Ew 0)/\zf E Y:=fun E v h=>UW E h fx;have c2:∀E v,az E v y->Ee Ed 150 #[v] E fun e Y=>e = Eh (Ey Ew 0)/\zf E Y:=fun E v h=>UW E h fy;have zr:∀E v,az E v y->Ee Ed 97 #[v] E fun e Y=>e = Eh (Ez false)/\zf E Y:=fun E v h=>by have:=UF E h; rwa[Ea hy]at this
 have rd:∀E u v,az E u x->az E v y->Ee Ed 92 #[u,v] E fun e Y=>∃v,e = Eh v/\FR Y v ((x:Rat) / (y:Rat))/\zf E Y:=fun E u v h1 h2=>vZ E h1 h2 fx fy hy;obtain⟨a1,a2,a3,a4,rfl⟩:=ha.ak;have N:=E7 ha;clear ha;obtain⟨b1,b2,b3,b4,rfl⟩:=hb.ak;have J:=E7 hb;clear hb;clear fx fy hy
 go_enter_defers Tryz.func117,Tryz.ntmps117
 go_wp2_with fail
 refine(c1 _ _ (N.out.af zw)).mono ?_;rintro e w1 ⟨rfl,st⟩;have B:=bA w st;have kp:=kB w st;have M:ai w1 w.heap.size 26 #[Ez a1,Ex a2 a3 a4]:=ai.au st;have H:ai w1 (w.heap.size+1) 26 #[Ez b1,Ex b2 b3 b4]:=ai.au st;have or:ai w1 (w.heap.size+1+1) 28 jN:=ai.au st;have I:ai w1 (w.heap.size+1+1+1) 32 #[Ey Ew 0]:=ai.au st;replace N:=E7 (N.out.af kp);replace J:=E7 (J.out.af kp);clear kp;clear st;go_wp2_with fail
 refine(xN _).mono ?_;rintro e Y ⟨rfl,st⟩;have sk:=bA w1 st;replace B:=bS B sk;replace M:=M.ae sk;replace H:=H.ae sk;replace or:=or.ae sk;replace I:=I.ae sk;replace N:=E7 (N.out.ae sk);replace J:=E7 (J.out.ae sk);clear st sk;have la:=M.lt;obtain⟨T,X⟩:=H.r1;have lb:=H.lt;have lr:=or.lt;have le:=I.lt;go_wp2_with fail
 refine(c2 _ _ (J.out.af zw)).mono ?_;rintro e w3 ⟨rfl,st⟩;have sk:=bA Y st;replace B:=bS B sk;replace M:=M.ae sk;replace H:=H.ae sk;replace or:=or.ae sk;replace I:=I.ae sk;replace N:=E7 (N.out.ae sk);replace J:=E7 (J.out.ae sk);clear st sk la T X lb lr le;go_wp2_with fail
 refine(xN _).mono ?_;rintro e w4 ⟨rfl,st⟩;have sk:=bA w3 st;replace B:=bS B sk;replace M:=M.ae sk;replace H:=H.ae sk;replace or:=or.ae sk;replace I:=I.ae sk;replace N:=E7 (N.out.ae sk);replace J:=E7 (J.out.ae sk);clear st sk;have la:=M.lt;obtain⟨T,X⟩:=H.r1;have lb:=H.lt;have lr:=or.lt;have le:=I.lt;go_wp2_with fail
 refine(zr _ _ (J.out.af zw)).mono ?_;rintro e w5 ⟨rfl,st⟩;have sk:=bA w4 st;replace B:=bS B sk;replace M:=M.ae sk;replace H:=H.ae sk;replace or:=or.ae sk;replace I:=I.ae sk;replace N:=E7 (N.out.ae sk);replace J:=E7 (J.out.ae sk);clear st sk la T X lb lr le;obtain⟨ah,be⟩:=M.r1;have la:=M.lt;obtain⟨T,X⟩:=H.r1;have lb:=H.lt;have lr:=or.lt;have le:=I.lt;go_wp2_with fail
 refine(rd _ _ _ (N.out.af zw) (J.out.af zw)).mono ?_;rintro e w6 ⟨vq,rfl,Z,st⟩;have sk:=bA w5 st;replace B:=bS B sk;replace M:=M.ae sk;replace H:=H.ae sk;replace or:=or.ae sk;replace I:=I.ae sk;replace N:=E7 (N.out.ae sk);replace J:=E7 (J.out.ae sk);clear st sk ah be la T X lb lr le;have la:=M.lt;have lb:=H.lt;obtain⟨b9,bg,bh,a9,fr,lr⟩:=or.s3;have bf:=I.q0;have fe:=I.fr;have le:=I.lt;obtain⟨q1,q2,q3,q4,q5,q6,q7,q8,rfl⟩:=Z.ak;have Fq:=E7 Z;clear Z;go_wp2_with fail
 refine leaves_cons (f:=56) (args:=#[Ek (some ⟨w.heap.size+1+1+1,0,none⟩)]) D9 (by simp[go_sem]) ?_;refine(xV _ _).mono ?_;rintro e u' bi ⟨rfl,rfl,rfl⟩;refine⟨_,by simp[results,Tryz.results117,go_sem,la,lb,b9,bg,bh,a9,fr,lr,bf,fe,le]; rfl,?_⟩;exact⟨_,rfl,Fq.out.af zw,zh⟩
theorem QJ (x y:Int) (w:Ef) (x0 : -9223372036854775808<=x) (x1:x<=9223372036854775807) (Z : -9223372036854775808<=y) (y1:y<=9223372036854775807) (hy:y≠0) :
  Ee Ed 77 #[Ey Ew x,Ey Ew y] w fun e E=>∃v,e = Eh (Ev #[v,Ey Ew 0])/\FR E v ((x:Rat) / (y:Rat))/\zf w E:=by
 have fx:fits x:=qc x0 x1;have fy:fits y:=qc Z y1;have f1:=fun E=>UB x E x0 x1;have f2:=fun E=>UB y E Z y1;have mk:∀E u v,az E u x->az E v y->Ee Ed 117 #[u,v] E fun e T=>∃v,e = Eh (Ev #[v,Ey Ew 0])/\FR T v ((x:Rat) / (y:Rat))/\zf E T:=fun E u v h1 h2=>BV E h1 h2 fx fy hy;clear x0 x1 Z y1 fx fy hy
 go_enter Tryz.func77,Tryz.ntmps77
 go_wp2_with fail
 refine(f1 _).mono ?_;rintro e w1 ⟨bh,rfl,H,st⟩;have B:=bA w st;have or:ai w1 w.heap.size 28 jN:=ai.au st;clear st;obtain⟨ce,b9,br,bf,rfl⟩:=H.ak;have I:=E7 H;clear H;go_wp2_with fail
 refine(f2 _).mono ?_;rintro e T ⟨be,rfl,J,st⟩;have sk:=bA w1 st;replace B:=bS B sk;replace or:=or.ae sk;replace I:=E7 (I.out.ae sk);clear st sk;obtain⟨bi,bg,bl,bt,rfl⟩:=J.ak;have M:=E7 J;clear J;go_wp2_with fail
 refine(mk _ _ _ (I.out.af zw) (M.out.af zw)).mono ?_;rintro e w3 ⟨vq,rfl,N,st⟩;have sk:=bA T st;replace B:=bS B sk;replace or:=or.ae sk;replace I:=E7 (I.out.ae sk);replace M:=E7 (M.out.ae sk);clear st sk;obtain⟨Y,a9,ah,X,fr,lr⟩:=or.s3;obtain⟨q1,q2,q3,q4,q5,q6,q7,q8,rfl⟩:=N.ak;have Fq:=E7 N;clear N;go_wp2_with fail
 refine Eo (by simp[results,Tryz.results77,go_sem,Y,a9,ah,X,fr,lr]; rfl) rfl ?_;exact⟨_,rfl,Fq.out.af zw,zh⟩
theorem k9 (w:Ef) (ha:FR w va r) (Y:FR w vb s) (f:fits (r.num*s.den)) :
  Ee Ed 60 #[va,vb] w fun e E=>∃v,e = Eh v/\az E v (r.num*s.den)/\zf w E:=by
 have fa:=ha.fit;have fb:=Y.fit;obtain⟨a2,a3,a4,a6,a7,a8,rfl,na,da,-⟩:=ha.bU;obtain⟨b2,b3,b4,b6,b7,b8,rfl,Z,db,-⟩:=Y.bU
 have m1:∀E u v,az E u r.num->az E v s.den->Ee Ed 55 #[u,v] E fun e w2=>∃v,e = Eh (Ev #[v,Ey Ew 0])/\az w2 v (r.num*s.den)/\zf E w2:=fun E u v h1 h2=>by
  have:=VT E h1 h2 fa.1 fb.2;rw[zQ f,zJ f]at this;exact this
 obtain⟨ga,T⟩:∃g,decide (r<0)=g:=⟨_,rfl⟩;obtain⟨gb,N⟩:∃g,decide (s<0)=g:=⟨_,rfl⟩;rw[T]at na|-;rw[N];have M:=E7 na;have J:=E7 db;clear T N na da Z db fa fb ha Y f
 go_enter Tryz.func60,Tryz.ntmps60
 go_wp2_with fail
 refine(m1 _ _ _ (M.out.af zw) (J.out.af zw)).mono ?_;rintro e X ⟨vp,rfl,H,st⟩;have B:=bA w st;have kp:=kB w st;have oa:ai X w.heap.size 28 #[Ez ga,Ex a2 a3 a4,Ez false,Ex a6 a7 a8]:=ai.au st;have ob:ai X (w.heap.size+1) 28 #[Ez gb,Ex b2 b3 b4,Ez false,Ex b6 b7 b8]:=ai.au st;have or:ai X (w.heap.size+1+1) 26 #[Ez false,Ex none 0 0]:=ai.au st;replace M:=E7 (M.out.af kp);replace J:=E7 (J.out.af kp);clear kp;clear st;obtain⟨p1,p2,p3,p4,rfl⟩:=H.ak;have Fp:=E7 H;clear H;go_wp2_with fail
 refine(kt _ (Fp.out.af zw)).mono ?_;rintro e w2 ⟨vq,rfl,I,st⟩;have sk:=bA X st;replace B:=bS B sk;replace oa:=oa.ae sk;replace ob:=ob.ae sk;replace or:=or.ae sk;replace M:=E7 (M.out.ae sk);replace J:=E7 (J.out.ae sk);replace Fp:=E7 (Fp.out.ae sk);clear st sk;have la:=oa.lt;have lb:=ob.lt;obtain⟨a9,ah,fr,lr⟩:=or.s1;obtain⟨q1,q2,q3,q4,rfl⟩:=I.ak;have Fq:=E7 I;clear I;go_wp2_with fail
 refine Eo (by simp[results,Tryz.results60,go_sem,la,lb,a9,ah,fr,lr]; rfl) rfl ?_;exact⟨_,rfl,Fq.out.af zw,zh⟩
theorem xC (w:Ef) (h:FR w v r):Ee Ed 58 #[v] w fun e E=>e = Eh (Ey Ew 0)/\zf w E:=VJ w h
theorem JR (w:Ef) (h:eD w v):Ee Ed 58 #[v] w fun e H=>e = Eh (Ey Ew 8)/\zf w H:=by
 obtain⟨gx,M,gy,J,la,lb,rfl,E,I,hv⟩:=h;have:=UH gx gy w E I;rw[vK,E_ hv]at this;exact this
theorem BY (w:Ef) (ha:FR w va r) (hb:FR w vb s) (g1:fits (r.num*s.den)) (g2:fits (s.num*r.den)) (g3:fits (r.num*s.den+s.num*r.den)) (g4:fits (r.den*s.den)) :
  Ee Ed 154 #[va,vb] w fun e E=>∃u v,e = Eh (Ev #[u,v])/\az E u (r.num*s.den+s.num*r.den)/\az E v (r.den*s.den)/\zf w E:=by
 have fa:=ha.fit;have fb:=hb.fit
 have m2:∀E u v,az E u (r.den)->az E v (s.den)->Ee Ed 55 #[u,v] E fun e J=>∃v,e = Eh (Ev #[v,Ey Ew 0])/\az J v (r.den*s.den)/\zf E J:=fun E u v h1 T=>by
  have:=VT E h1 T fa.2 fb.2;rw[zQ g4,zJ g4]at this;exact this
 have cg:∀E u v,FR E u r->FR E v s->Ee Ed 60 #[u,v] E fun e J=>∃v,e = Eh v/\az J v (r.num*s.den)/\zf E J:=fun E u v h1 T=>k9 E h1 T g1;have bt:∀E u v,FR E u s->FR E v r->Ee Ed 60 #[u,v] E fun e J=>∃v,e = Eh v/\az J v (s.num*r.den)/\zf E J:=fun E u v h1 T=>k9 E h1 T g2
 have ad:∀E u v,az E u (r.num*s.den)->az E v (s.num*r.den)->Ee Ed 155 #[u,v] E fun e J=>∃v,e = Eh (Ev #[v,Ey Ew 0])/\az J v (r.num*s.den+s.num*r.den)/\zf E J:=fun E u v h1 T=>by
  have:=C6 E h1 T g1 g2;rw[zQ g3,zJ g3]at this;exact this
 have Y:=ha;have ah:=hb;obtain⟨a2,a3,a4,a6,a7,a8,rfl,na,da,-⟩:=ha.bU;obtain⟨b2,b3,b4,b6,b7,b8,rfl,N,db,-⟩:=hb.bU;obtain⟨ga,bf⟩:∃g,decide (r<0)=g:=⟨_,rfl⟩;obtain⟨gb,b9⟩:∃g,decide (s<0)=g:=⟨_,rfl⟩;rw[bf]at na Y|-;rw[b9]at N ah|-;have Fa:=E7 Y;have Fb:=E7 ah;have bg:=E7 na;have bh:=E7 N;have Z:=E7 da;have a9:=E7 db;clear bf b9 na da N db ha hb Y ah fa fb;clear g3 g4 g1 g2
 go_enter Tryz.func154,Tryz.ntmps154
 go_upto_region 1 with fail
 refine aj.c_ w w [.o w.heap.size 28 #[Ez ga,Ex a2 a3 a4,Ez false,Ex a6 a7 a8],.o (w.heap.size+1) 28 #[Ez gb,Ex b2 b3 b4,Ez false,Ex b6 b7 b8],.s (w.heap.size+1+1) 26 #[Ez false,Ex none 0 0] 18 [9] aj.v1,.s (w.heap.size+1+1+1) 26 #[Ez false,Ex none 0 0] 19 [17] aj.v1] [2,5,6,9,14,17,18,19] [(2,vQ),(5,vQ),(6,vS 0),(9,vQ),(14,vS 0),(17,vQ)] [(2,dD (r.num*s.den)),(5,dD (s.num*r.den)),(6,cD (r.num*s.den+s.num*r.den) 0),(9,dD (r.num*s.den+s.num*r.den)),(14,cD (r.den*s.den) 0),(17,dD (r.den*s.den))] [(6,[(2,some 8),(5,some 11)]),(9,[(6,some 12)]),(17,[(14,some 20)]),(18,[(9,some 15)]),(19,[(17,some 23)]),(20,[(2,some 8),(5,some 11),(6,some 12),(9,some 15),(14,some 20),(17,some 23)])] [(9,[18]),(17,[19])] (by simp only[aV]; exact⟨zh,zw,zC,zC,zC,zC,trivial⟩) (fun N0 ci be Q' H hQ=> ?_);clear ci;refine aj.aS 6 (fun _ _ _ h=>h.e.1.r3) ?_;refine aj.aS 7 (fun _ _ _ h=>h.e.2.1.r3) ?_;refine aj.sC H (fun D v' I h _=>cg I _ _ (Fa.out.af h.k) (Fb.out.af h.k)) ?_;rintro _ ⟨cZ,d9,dk,cx,rfl⟩;refine aj.dm rfl ?_;refine aj.aS 9 (fun _ _ _ h=>h.e.2.1.r3) ?_;refine aj.aS 10 (fun _ _ _ h=>h.e.1.r3) ?_;refine aj.sC H (fun D v' I h _=>bt I _ _ (Fb.out.af h.k) (Fa.out.af h.k)) ?_;rintro _ ⟨cn,cy,ek,cN,rfl⟩;refine aj.dm rfl ?_;refine aj.sC H (fun D v' I _ M=>ad I _ _ (M (2,some 8) (.head _) rfl).2.2 (M (5,some 11) (.tail _ (.head _)) rfl).2.2) ?_;rintro _ ⟨dy,dc,dl,dP,rfl⟩;refine aj.dm rfl ?_
 repeat refine aj.aG _ ?_
 refine aj.sC H (fun D v' I _ M=>kt I (M (6,some 12) (.head _) rfl).2.2.get) ?_;rintro _ ⟨N1,N2,N3,N4,rfl⟩;refine aj.dm rfl ?_;refine aj.aG 16 ?_;refine aj.aS 17 (fun _ _ _ h=>h.e.1.r3) ?_;refine aj.aG 18 ?_;refine aj.aS 19 (fun _ _ _ h=>h.e.2.1.r3) ?_;refine aj.sC H (fun D v' I h _=>m2 I _ _ (Z.out.af h.k) (a9.out.af h.k)) ?_;rintro _ ⟨ed,dx,ec,dt,rfl⟩;refine aj.dm rfl ?_
 repeat refine aj.aG _ ?_
 refine aj.sC H (fun D v' I _ M=>kt I (M (14,some 20) (.head _) rfl).2.2.get) ?_;rintro _ ⟨D1,D2,D3,D4,rfl⟩;refine aj.dm rfl ?_;refine aj.sS H ?_;refine aj.sS H ?_;refine aj.sE (fun _ v' w1 B X hl _ _ M=> ?_);simp only[xZ,qk]at hl;obtain⟨oa,ob,op,oq,-⟩:=hl;have op:ai w1 (w.heap.size+1+1) 26 #[Ez N1,Ex N2 N3 N4]:=op;have oq:ai w1 (w.heap.size+1+1+1) 26 #[Ez D1,Ex D2 D3 D4]:=oq;have FN:Hid (az w1 (Ej #[Ez N1,Ex N2 N3 N4]) (r.num*s.den+s.num*r.den)):=(M (9,some 15) (.tail _ (.tail _ (.tail _ (.head _)))) rfl).2.2;have FD:Hid (az w1 (Ej #[Ez D1,Ex D2 D3 D4]) (r.den*s.den)):=(M (17,some 23) (.tail _ (.tail _ (.tail _ (.tail _ (.tail _ (.head _)))))) rfl).2.2;replace Fa:=E7 (Fa.out.af X);replace Fb:=E7 (Fb.out.af X);replace bg:=E7 (bg.out.af X);replace Z:=E7 (Z.out.af X);replace bh:=E7 (bh.out.af X);replace a9:=E7 (a9.out.af X);clear M X;refine hQ _ _ ?_;clear hQ H Q' be;have la:=oa.lt;have lb:=ob.lt;obtain⟨bi,ce⟩:=op.r1;have lp:=op.lt;obtain⟨br,bl⟩:=oq.r1;have lq:=oq.lt;go_wp2_with fail
 refine Eo (by simp[results,Tryz.results154,go_sem,la,lb,bi,ce,lp,br,bl,lq]; rfl) rfl ?_;exact⟨_,_,rfl,FN.out.af zw,FD.out.af zw,zh⟩
theorem BZ (w:Ef) (ha:FR w va r) (hb:FR w vb s) (g1:fits (r.num*s.den)) (g2:fits (s.num*r.den)) (g3:fits (r.num*s.den+s.num*r.den)) (g4:fits (r.den*s.den)) :
  Ee Ed 52 #[va,vb,.func (.func 154) #[] #[]] w fun e E=>∃v,e = Eh (Ev #[v,Ey Ew 0])/\FR E v (r+s)/\zf w E:=by
 have cl:∀E u v,FR E u r->FR E v s->Ee Ed 154 #[u,v] E fun e T=>∃u v,e = Eh (Ev #[u,v])/\az T u (r.num*s.den+s.num*r.den)/\az T v (r.den*s.den)/\zf E T:=fun E u v h1 h2=>BY E h1 h2 g1 g2 g3 g4
 have rd:∀E u v,az E u (r.num*s.den+s.num*r.den)->az E v (r.den*s.den)->Ee Ed 92 #[u,v] E fun e T=>∃v,e = Eh v/\FR T v (r+s)/\zf E T:=fun E u v h1 h2=>by
  have:=vZ E h1 h2 g3 g4 (jT r s);rw[Yt]at this;exact this
 obtain⟨a1,a2,a3,a4,a5,a6,a7,a8,rfl⟩:=ha.ak;obtain⟨b1,b2,b3,b4,b5,b6,b7,b8,rfl⟩:=hb.ak;have N:=E7 ha;have M:=E7 hb;clear ha hb g3 g4 g1 g2
 go_enter_defers Tryz.func52,Tryz.ntmps52
 go_wp2_with fail
 refine(xC _ (N.out.af zw)).mono ?_;rintro e w1 ⟨rfl,st⟩;have B:=bA w st;have kp:=kB w st;have J:ai w1 w.heap.size 28 #[Ez a1,Ex a2 a3 a4,Ez a5,Ex a6 a7 a8]:=ai.au st;have H:ai w1 (w.heap.size+1) 28 #[Ez b1,Ex b2 b3 b4,Ez b5,Ex b6 b7 b8]:=ai.au st;have or:ai w1 (w.heap.size+1+1) 28 jN:=ai.au st;have I:ai w1 (w.heap.size+1+1+1) 32 #[Ey Ew 0]:=ai.au st;replace N:=E7 (N.out.af kp);replace M:=E7 (M.out.af kp);clear kp;clear st;go_wp2_with fail
 refine(xN _).mono ?_;rintro e T ⟨rfl,st⟩;have sk:=bA w1 st;replace B:=bS B sk;replace J:=J.ae sk;replace H:=H.ae sk;replace or:=or.ae sk;replace I:=I.ae sk;replace N:=E7 (N.out.ae sk);replace M:=E7 (M.out.ae sk);clear st sk;have la:=J.lt;obtain⟨a9,b9,X,be⟩:=H.r3;have lb:=H.lt;have lr:=or.lt;have le:=I.lt;go_wp2_with fail
 refine(xC _ (M.out.af zw)).mono ?_;rintro e w3 ⟨rfl,st⟩;have sk:=bA T st;replace B:=bS B sk;replace J:=J.ae sk;replace H:=H.ae sk;replace or:=or.ae sk;replace I:=I.ae sk;replace N:=E7 (N.out.ae sk);replace M:=E7 (M.out.ae sk);clear st sk la a9 b9 X be lb lr le;go_wp2_with fail
 refine(xN _).mono ?_;rintro e w4 ⟨rfl,st⟩;have sk:=bA w3 st;replace B:=bS B sk;replace J:=J.ae sk;replace H:=H.ae sk;replace or:=or.ae sk;replace I:=I.ae sk;replace N:=E7 (N.out.ae sk);replace M:=E7 (M.out.ae sk);clear st sk;obtain⟨bg,br,bl,bh⟩:=J.r3;have la:=J.lt;obtain⟨a9,b9,X,be⟩:=H.r3;have lb:=H.lt;have lr:=or.lt;have le:=I.lt;go_wp2_with fail
 refine(cl _ _ _ (N.out.af zw) (M.out.af zw)).mono ?_;rintro e w5 ⟨vn,vd,rfl,Y,ah,st⟩;have sk:=bA w4 st;replace B:=bS B sk;replace J:=J.ae sk;replace H:=H.ae sk;replace or:=or.ae sk;replace I:=I.ae sk;replace N:=E7 (N.out.ae sk);replace M:=E7 (M.out.ae sk);clear st sk bg br bl bh la a9 b9 X be lb lr le;obtain⟨n1,n2,n3,n4,rfl⟩:=Y.ak;obtain⟨d1,d2,d3,d4,rfl⟩:=ah.ak;have Fn:=E7 Y;clear Y;have Fd:=E7 ah;clear ah;go_wp2_with fail
 refine(rd _ _ _ (Fn.out.af zw) (Fd.out.af zw)).mono ?_;rintro e w6 ⟨vq,rfl,Z,st⟩;have sk:=bA w5 st;replace B:=bS B sk;replace J:=J.ae sk;replace H:=H.ae sk;replace or:=or.ae sk;replace I:=I.ae sk;replace N:=E7 (N.out.ae sk);replace M:=E7 (M.out.ae sk);replace Fn:=E7 (Fn.out.ae sk);replace Fd:=E7 (Fd.out.ae sk);clear st sk;have la:=J.lt;have lb:=H.lt;obtain⟨bi,ce,cg,bf,fr,lr⟩:=or.s3;have bt:=I.q0;have fe:=I.fr;have le:=I.lt;obtain⟨q1,q2,q3,q4,q5,q6,q7,q8,rfl⟩:=Z.ak;have Fq:=E7 Z;clear Z;go_wp2_with fail
 refine leaves_cons (f:=56) (args:=#[Ek (some ⟨w.heap.size+1+1+1,0,none⟩)]) D9 (by simp[go_sem]) ?_;refine(xV _ _).mono ?_;rintro e u' ci ⟨rfl,rfl,rfl⟩;refine⟨_,by simp[results,Tryz.results52,go_sem,la,lb,bi,ce,cg,bf,fr,lr,bt,fe,le]; rfl,?_⟩;exact⟨_,rfl,Fq.out.af zw,zh⟩
theorem B_ (w:Ef) (Z:FR w va r) (N:FR w vb s) (hr:sz r i) (hs:sz s j) (hk:i+j<=4094) :
  Ee Ed 123 #[va,vb] w fun e E=>∃v,e = Eh (Ev #[v,Ey Ew 0])/\FR E v (r+s)/\zf w E:=by
 obtain⟨I,J,h3⟩:=jh hr hs;have g1:=yB I D6;have g2:=yB J D6;have g4:=yB h3 D6;have g3:=yB (xU I J) D6;have bo:∀E u v,FR E u r->FR E v s->Ee Ed 52 #[u,v,.func (.func 154) #[] #[]] E fun e w2=>∃v,e = Eh (Ev #[v,Ey Ew 0])/\FR w2 v (r+s)/\zf E w2:=fun E u v I J=>BZ E I J g1 g2 g3 g4;obtain⟨a1,a2,a3,a4,a5,a6,a7,a8,rfl⟩:=Z.ak;obtain⟨b1,b2,b3,b4,b5,b6,b7,b8,rfl⟩:=N.ak;have Y:=E7 Z;have T:=E7 N;clear Z N hr hs hk g1 g2 g3 g4;clear I J h3
 go_enter Tryz.func123,Tryz.ntmps123
 go_wp2_with fail
 refine(bo _ _ _ (Y.out.af zw) (T.out.af zw)).mono ?_;rintro e w1 ⟨vq,rfl,H,st⟩;have B:=bA w st;have kp:=kB w st;have oa:ai w1 w.heap.size 28 #[Ez a1,Ex a2 a3 a4,Ez a5,Ex a6 a7 a8]:=ai.au st;have ob:ai w1 (w.heap.size+1) 28 #[Ez b1,Ex b2 b3 b4,Ez b5,Ex b6 b7 b8]:=ai.au st;have or:ai w1 (w.heap.size+1+1) 28 jN:=ai.au st;replace Y:=E7 (Y.out.af kp);replace T:=E7 (T.out.af kp);clear kp;clear st;have la:=oa.lt;have lb:=ob.lt;obtain⟨X,a9,ah,M,fr,lr⟩:=or.s3;obtain⟨q1,q2,q3,q4,q5,q6,q7,q8,rfl⟩:=H.ak;have Fq:=E7 H;clear H;go_wp2_with fail
 refine Eo (by simp[results,Tryz.results123,go_sem,la,lb,X,a9,ah,M,fr,lr]; rfl) rfl ?_;exact⟨_,rfl,Fq.out.af zw,zh⟩
theorem B' (w:Ef) (ha:FR w va r) (hb:FR w vb s) (g1:fits (r.num*s.den)) (g2:fits (s.num*r.den)) (g3:fits (r.num*s.den-s.num*r.den)) (g4:fits (r.den*s.den)) :
  Ee Ed 151 #[va,vb] w fun e E=>∃u v,e = Eh (Ev #[u,v])/\az E u (r.num*s.den-s.num*r.den)/\az E v (r.den*s.den)/\zf w E:=by
 have fa:=ha.fit;have fb:=hb.fit
 have m2:∀E u v,az E u (r.den)->az E v (s.den)->Ee Ed 55 #[u,v] E fun e J=>∃v,e = Eh (Ev #[v,Ey Ew 0])/\az J v (r.den*s.den)/\zf E J:=fun E u v h1 T=>by
  have:=VT E h1 T fa.2 fb.2;rw[zQ g4,zJ g4]at this;exact this
 have cg:∀E u v,FR E u r->FR E v s->Ee Ed 60 #[u,v] E fun e J=>∃v,e = Eh v/\az J v (r.num*s.den)/\zf E J:=fun E u v h1 T=>k9 E h1 T g1;have bt:∀E u v,FR E u s->FR E v r->Ee Ed 60 #[u,v] E fun e J=>∃v,e = Eh v/\az J v (s.num*r.den)/\zf E J:=fun E u v h1 T=>k9 E h1 T g2
 have ad:∀E u v,az E u (r.num*s.den)->az E v (s.num*r.den)->Ee Ed 152 #[u,v] E fun e J=>∃v,e = Eh (Ev #[v,Ey Ew 0])/\az J v (r.num*s.den-s.num*r.den)/\zf E J:=fun E u v h1 T=>by
  have:=C8 E h1 T g1 g2;rw[zQ g3,zJ g3]at this;exact this
 have Y:=ha;have ah:=hb;obtain⟨a2,a3,a4,a6,a7,a8,rfl,na,da,-⟩:=ha.bU;obtain⟨b2,b3,b4,b6,b7,b8,rfl,N,db,-⟩:=hb.bU;obtain⟨ga,bf⟩:∃g,decide (r<0)=g:=⟨_,rfl⟩;obtain⟨gb,b9⟩:∃g,decide (s<0)=g:=⟨_,rfl⟩;rw[bf]at na Y|-;rw[b9]at N ah|-;have Fa:=E7 Y;have Fb:=E7 ah;have bg:=E7 na;have bh:=E7 N;have Z:=E7 da;have a9:=E7 db;clear bf b9 na da N db ha hb Y ah fa fb;clear g3 g4 g1 g2
 go_enter Tryz.func151,Tryz.ntmps151
 go_upto_region 1 with fail
 refine aj.c_ w w [.o w.heap.size 28 #[Ez ga,Ex a2 a3 a4,Ez false,Ex a6 a7 a8],.o (w.heap.size+1) 28 #[Ez gb,Ex b2 b3 b4,Ez false,Ex b6 b7 b8],.s (w.heap.size+1+1) 26 #[Ez false,Ex none 0 0] 18 [9] aj.v1,.s (w.heap.size+1+1+1) 26 #[Ez false,Ex none 0 0] 19 [17] aj.v1] [2,5,6,9,14,17,18,19] [(2,vQ),(5,vQ),(6,vS 0),(9,vQ),(14,vS 0),(17,vQ)] [(2,dD (r.num*s.den)),(5,dD (s.num*r.den)),(6,cD (r.num*s.den-s.num*r.den) 0),(9,dD (r.num*s.den-s.num*r.den)),(14,cD (r.den*s.den) 0),(17,dD (r.den*s.den))] [(6,[(2,some 8),(5,some 11)]),(9,[(6,some 12)]),(17,[(14,some 20)]),(18,[(9,some 15)]),(19,[(17,some 23)]),(20,[(2,some 8),(5,some 11),(6,some 12),(9,some 15),(14,some 20),(17,some 23)])] [(9,[18]),(17,[19])] (by simp only[aV]; exact⟨zh,zw,zC,zC,zC,zC,trivial⟩) (fun N0 ci be Q' H hQ=> ?_);clear ci;refine aj.aS 6 (fun _ _ _ h=>h.e.1.r3) ?_;refine aj.aS 7 (fun _ _ _ h=>h.e.2.1.r3) ?_;refine aj.sC H (fun D v' I h _=>cg I _ _ (Fa.out.af h.k) (Fb.out.af h.k)) ?_;rintro _ ⟨cZ,d9,dk,cx,rfl⟩;refine aj.dm rfl ?_;refine aj.aS 9 (fun _ _ _ h=>h.e.2.1.r3) ?_;refine aj.aS 10 (fun _ _ _ h=>h.e.1.r3) ?_;refine aj.sC H (fun D v' I h _=>bt I _ _ (Fb.out.af h.k) (Fa.out.af h.k)) ?_;rintro _ ⟨cn,cy,ek,cN,rfl⟩;refine aj.dm rfl ?_;refine aj.sC H (fun D v' I _ M=>ad I _ _ (M (2,some 8) (.head _) rfl).2.2 (M (5,some 11) (.tail _ (.head _)) rfl).2.2) ?_;rintro _ ⟨dy,dc,dl,dP,rfl⟩;refine aj.dm rfl ?_
 repeat refine aj.aG _ ?_
 refine aj.sC H (fun D v' I _ M=>kt I (M (6,some 12) (.head _) rfl).2.2.get) ?_;rintro _ ⟨N1,N2,N3,N4,rfl⟩;refine aj.dm rfl ?_;refine aj.aG 16 ?_;refine aj.aS 17 (fun _ _ _ h=>h.e.1.r3) ?_;refine aj.aG 18 ?_;refine aj.aS 19 (fun _ _ _ h=>h.e.2.1.r3) ?_;refine aj.sC H (fun D v' I h _=>m2 I _ _ (Z.out.af h.k) (a9.out.af h.k)) ?_;rintro _ ⟨ed,dx,ec,dt,rfl⟩;refine aj.dm rfl ?_
 repeat refine aj.aG _ ?_
 refine aj.sC H (fun D v' I _ M=>kt I (M (14,some 20) (.head _) rfl).2.2.get) ?_;rintro _ ⟨D1,D2,D3,D4,rfl⟩;refine aj.dm rfl ?_;refine aj.sS H ?_;refine aj.sS H ?_;refine aj.sE (fun _ v' w1 B X hl _ _ M=> ?_);simp only[xZ,qk]at hl;obtain⟨oa,ob,op,oq,-⟩:=hl;have op:ai w1 (w.heap.size+1+1) 26 #[Ez N1,Ex N2 N3 N4]:=op;have oq:ai w1 (w.heap.size+1+1+1) 26 #[Ez D1,Ex D2 D3 D4]:=oq;have FN:Hid (az w1 (Ej #[Ez N1,Ex N2 N3 N4]) (r.num*s.den-s.num*r.den)):=(M (9,some 15) (.tail _ (.tail _ (.tail _ (.head _)))) rfl).2.2;have FD:Hid (az w1 (Ej #[Ez D1,Ex D2 D3 D4]) (r.den*s.den)):=(M (17,some 23) (.tail _ (.tail _ (.tail _ (.tail _ (.tail _ (.head _)))))) rfl).2.2;replace Fa:=E7 (Fa.out.af X);replace Fb:=E7 (Fb.out.af X);replace bg:=E7 (bg.out.af X);replace Z:=E7 (Z.out.af X);replace bh:=E7 (bh.out.af X);replace a9:=E7 (a9.out.af X);clear M X;refine hQ _ _ ?_;clear hQ H Q' be;have la:=oa.lt;have lb:=ob.lt;obtain⟨bi,ce⟩:=op.r1;have lp:=op.lt;obtain⟨br,bl⟩:=oq.r1;have lq:=oq.lt;go_wp2_with fail
 refine Eo (by simp[results,Tryz.results151,go_sem,la,lb,bi,ce,lp,br,bl,lq]; rfl) rfl ?_;exact⟨_,_,rfl,FN.out.af zw,FD.out.af zw,zh⟩
theorem Ca (w:Ef) (ha:FR w va r) (hb:FR w vb s) (g1:fits (r.num*s.den)) (g2:fits (s.num*r.den)) (g3:fits (r.num*s.den-s.num*r.den)) (g4:fits (r.den*s.den)) :
  Ee Ed 52 #[va,vb,.func (.func 151) #[] #[]] w fun e E=>∃v,e = Eh (Ev #[v,Ey Ew 0])/\FR E v (r-s)/\zf w E:=by
 have cl:∀E u v,FR E u r->FR E v s->Ee Ed 151 #[u,v] E fun e T=>∃u v,e = Eh (Ev #[u,v])/\az T u (r.num*s.den-s.num*r.den)/\az T v (r.den*s.den)/\zf E T:=fun E u v h1 h2=>B' E h1 h2 g1 g2 g3 g4
 have rd:∀E u v,az E u (r.num*s.den-s.num*r.den)->az E v (r.den*s.den)->Ee Ed 92 #[u,v] E fun e T=>∃v,e = Eh v/\FR T v (r-s)/\zf E T:=fun E u v h1 h2=>by
  have:=vZ E h1 h2 g3 g4 (jT r s);rw[Qw]at this;exact this
 obtain⟨a1,a2,a3,a4,a5,a6,a7,a8,rfl⟩:=ha.ak;obtain⟨b1,b2,b3,b4,b5,b6,b7,b8,rfl⟩:=hb.ak;have N:=E7 ha;have M:=E7 hb;clear ha hb g3 g4 g1 g2
 go_enter_defers Tryz.func52,Tryz.ntmps52
 go_wp2_with fail
 refine(xC _ (N.out.af zw)).mono ?_;rintro e w1 ⟨rfl,st⟩;have B:=bA w st;have kp:=kB w st;have J:ai w1 w.heap.size 28 #[Ez a1,Ex a2 a3 a4,Ez a5,Ex a6 a7 a8]:=ai.au st;have H:ai w1 (w.heap.size+1) 28 #[Ez b1,Ex b2 b3 b4,Ez b5,Ex b6 b7 b8]:=ai.au st;have or:ai w1 (w.heap.size+1+1) 28 jN:=ai.au st;have I:ai w1 (w.heap.size+1+1+1) 32 #[Ey Ew 0]:=ai.au st;replace N:=E7 (N.out.af kp);replace M:=E7 (M.out.af kp);clear kp;clear st;go_wp2_with fail
 refine(xN _).mono ?_;rintro e T ⟨rfl,st⟩;have sk:=bA w1 st;replace B:=bS B sk;replace J:=J.ae sk;replace H:=H.ae sk;replace or:=or.ae sk;replace I:=I.ae sk;replace N:=E7 (N.out.ae sk);replace M:=E7 (M.out.ae sk);clear st sk;have la:=J.lt;obtain⟨a9,b9,X,be⟩:=H.r3;have lb:=H.lt;have lr:=or.lt;have le:=I.lt;go_wp2_with fail
 refine(xC _ (M.out.af zw)).mono ?_;rintro e w3 ⟨rfl,st⟩;have sk:=bA T st;replace B:=bS B sk;replace J:=J.ae sk;replace H:=H.ae sk;replace or:=or.ae sk;replace I:=I.ae sk;replace N:=E7 (N.out.ae sk);replace M:=E7 (M.out.ae sk);clear st sk la a9 b9 X be lb lr le;go_wp2_with fail
 refine(xN _).mono ?_;rintro e w4 ⟨rfl,st⟩;have sk:=bA w3 st;replace B:=bS B sk;replace J:=J.ae sk;replace H:=H.ae sk;replace or:=or.ae sk;replace I:=I.ae sk;replace N:=E7 (N.out.ae sk);replace M:=E7 (M.out.ae sk);clear st sk;obtain⟨bg,br,bl,bh⟩:=J.r3;have la:=J.lt;obtain⟨a9,b9,X,be⟩:=H.r3;have lb:=H.lt;have lr:=or.lt;have le:=I.lt;go_wp2_with fail
 refine(cl _ _ _ (N.out.af zw) (M.out.af zw)).mono ?_;rintro e w5 ⟨vn,vd,rfl,Y,ah,st⟩;have sk:=bA w4 st;replace B:=bS B sk;replace J:=J.ae sk;replace H:=H.ae sk;replace or:=or.ae sk;replace I:=I.ae sk;replace N:=E7 (N.out.ae sk);replace M:=E7 (M.out.ae sk);clear st sk bg br bl bh la a9 b9 X be lb lr le;obtain⟨n1,n2,n3,n4,rfl⟩:=Y.ak;obtain⟨d1,d2,d3,d4,rfl⟩:=ah.ak;have Fn:=E7 Y;clear Y;have Fd:=E7 ah;clear ah;go_wp2_with fail
 refine(rd _ _ _ (Fn.out.af zw) (Fd.out.af zw)).mono ?_;rintro e w6 ⟨vq,rfl,Z,st⟩;have sk:=bA w5 st;replace B:=bS B sk;replace J:=J.ae sk;replace H:=H.ae sk;replace or:=or.ae sk;replace I:=I.ae sk;replace N:=E7 (N.out.ae sk);replace M:=E7 (M.out.ae sk);replace Fn:=E7 (Fn.out.ae sk);replace Fd:=E7 (Fd.out.ae sk);clear st sk;have la:=J.lt;have lb:=H.lt;obtain⟨bi,ce,cg,bf,fr,lr⟩:=or.s3;have bt:=I.q0;have fe:=I.fr;have le:=I.lt;obtain⟨q1,q2,q3,q4,q5,q6,q7,q8,rfl⟩:=Z.ak;have Fq:=E7 Z;clear Z;go_wp2_with fail
 refine leaves_cons (f:=56) (args:=#[Ek (some ⟨w.heap.size+1+1+1,0,none⟩)]) D9 (by simp[go_sem]) ?_;refine(xV _ _).mono ?_;rintro e u' ci ⟨rfl,rfl,rfl⟩;refine⟨_,by simp[results,Tryz.results52,go_sem,la,lb,bi,ce,cg,bf,fr,lr,bt,fe,le]; rfl,?_⟩;exact⟨_,rfl,Fq.out.af zw,zh⟩
theorem GS (w:Ef) (Z:FR w va r) (N:FR w vb s) (hr:sz r i) (hs:sz s j) (hk:i+j<=4094) :
  Ee Ed 119 #[va,vb] w fun e E=>∃v,e = Eh (Ev #[v,Ey Ew 0])/\FR E v (r-s)/\zf w E:=by
 obtain⟨I,J,h3⟩:=jh hr hs;have g1:=yB I D6;have g2:=yB J D6;have g4:=yB h3 D6;have g3:fits (r.num*s.den-s.num*r.den):=by rw[Int.sub_eq_add_neg]; exact yB (xU I (by rw[vO]; exact J)) D6
 have bo:∀E u v,FR E u r->FR E v s->Ee Ed 52 #[u,v,.func (.func 151) #[] #[]] E fun e w2=>∃v,e = Eh (Ev #[v,Ey Ew 0])/\FR w2 v (r-s)/\zf E w2:=fun E u v I J=>Ca E I J g1 g2 g3 g4;obtain⟨a1,a2,a3,a4,a5,a6,a7,a8,rfl⟩:=Z.ak;obtain⟨b1,b2,b3,b4,b5,b6,b7,b8,rfl⟩:=N.ak;have Y:=E7 Z;have T:=E7 N;clear Z N hr hs hk g1 g2 g3 g4;clear I J h3
 go_enter Tryz.func119,Tryz.ntmps119
 go_wp2_with fail
 refine(bo _ _ _ (Y.out.af zw) (T.out.af zw)).mono ?_;rintro e w1 ⟨vq,rfl,H,st⟩;have B:=bA w st;have kp:=kB w st;have oa:ai w1 w.heap.size 28 #[Ez a1,Ex a2 a3 a4,Ez a5,Ex a6 a7 a8]:=ai.au st;have ob:ai w1 (w.heap.size+1) 28 #[Ez b1,Ex b2 b3 b4,Ez b5,Ex b6 b7 b8]:=ai.au st;have or:ai w1 (w.heap.size+1+1) 28 jN:=ai.au st;replace Y:=E7 (Y.out.af kp);replace T:=E7 (T.out.af kp);clear kp;clear st;have la:=oa.lt;have lb:=ob.lt;obtain⟨X,a9,ah,M,fr,lr⟩:=or.s3;obtain⟨q1,q2,q3,q4,q5,q6,q7,q8,rfl⟩:=H.ak;have Fq:=E7 H;clear H;go_wp2_with fail
 refine Eo (by simp[results,Tryz.results119,go_sem,la,lb,X,a9,ah,M,fr,lr]; rfl) rfl ?_;exact⟨_,rfl,Fq.out.af zw,zh⟩
theorem Cb (w:Ef) (ha:FR w va r) (hb:FR w vb s) (g3:fits (r.num*s.num)) (g4:fits (r.den*s.den)) :
  Ee Ed 53 #[va,vb] w fun e H=>∃u v,e = Eh (Ev #[u,v])/\az H u (r.num*s.num)/\az H v (r.den*s.den)/\zf w H:=by
 have fa:=ha.fit;have fb:=hb.fit
 have m2:∀H u v,az H u (r.den)->az H v (s.den)->Ee Ed 55 #[u,v] H fun e w2=>∃v,e = Eh (Ev #[v,Ey Ew 0])/\az w2 v (r.den*s.den)/\zf H w2:=fun H u v h1 h2=>by
  have:=VT H h1 h2 fa.2 fb.2;rw[zQ g4,zJ g4]at this;exact this
 have m1:∀H u v,az H u (r.num)->az H v (s.num)->Ee Ed 55 #[u,v] H fun e w2=>∃v,e = Eh (Ev #[v,Ey Ew 0])/\az w2 v (r.num*s.num)/\zf H w2:=fun H u v h1 h2=>by
  have:=VT H h1 h2 fa.1 fb.1;rw[zQ g3,zJ g3]at this;exact this
 have X:=ha;have a9:=hb;obtain⟨a2,a3,a4,a6,a7,a8,rfl,na,da,-⟩:=ha.bU;obtain⟨b2,b3,b4,b6,b7,b8,rfl,N,db,-⟩:=hb.bU;obtain⟨ga,be⟩:∃g,decide (r<0)=g:=⟨_,rfl⟩;obtain⟨gb,b9⟩:∃g,decide (s<0)=g:=⟨_,rfl⟩;rw[be]at na X|-;rw[b9]at N a9|-;have Fa:=E7 X;have Fb:=E7 a9;have T:=E7 na;have Z:=E7 N;have J:=E7 da;have M:=E7 db;clear be b9 na da N db ha hb X a9 fa fb;clear g3 g4
 go_enter Tryz.func53,Tryz.ntmps53
 go_upto_region 1 with fail
 refine aj.c_ w w [.o w.heap.size 28 #[Ez ga,Ex a2 a3 a4,Ez false,Ex a6 a7 a8],.o (w.heap.size+1) 28 #[Ez gb,Ex b2 b3 b4,Ez false,Ex b6 b7 b8],.s (w.heap.size+1+1) 26 #[Ez false,Ex none 0 0] 16 [7] aj.v1,.s (w.heap.size+1+1+1) 26 #[Ez false,Ex none 0 0] 17 [15] aj.v1] [4,7,12,15,16,17] [(4,vS 0),(7,vQ),(12,vS 0),(15,vQ)] [(4,cD (r.num*s.num) 0),(7,dD (r.num*s.num)),(12,cD (r.den*s.den) 0),(15,dD (r.den*s.den))] [(7,[(4,some 10)]),(15,[(12,some 18)]),(16,[(7,some 13)]),(17,[(15,some 21)]),(18,[(4,some 10),(7,some 13),(12,some 18),(15,some 21)])] [(7,[16]),(15,[17])] (by simp only[aV]; exact⟨zh,zw,zC,zC,zC,zC,trivial⟩) (fun N0 bi ah Q' E hQ=> ?_);clear bi;refine aj.aG 6 ?_;refine aj.aS 7 (fun _ _ _ h=>h.e.1.r3) ?_;refine aj.aG 8 ?_;refine aj.aS 9 (fun _ _ _ h=>h.e.2.1.r3) ?_;refine aj.sC E (fun D v' Y h _=>m1 Y _ _ (T.out.af h.k) (Z.out.af h.k)) ?_;rintro _ ⟨cg,cy,ci,bt,rfl⟩;refine aj.aB (b:=⟨#[_,_,_,_,_,_,_,_,_,_,_,_,_,_,_,_,_,_,_,_,_,_],_⟩) rfl ?_
 repeat refine aj.aG _ ?_
 refine aj.sC E (fun D v' Y _ hf=>kt Y (hf (4,some 10) (.head _) rfl).2.2.get) ?_;rintro _ ⟨N1,N2,N3,N4,rfl⟩;refine aj.aB (b:=⟨#[_,_,_,_,_,_,_,_,_,_,_,_,_,_,_,_,_,_,_,_,_,_],_⟩) rfl ?_;refine aj.aG 14 ?_;refine aj.aS 15 (fun _ _ _ h=>h.e.1.r3) ?_;refine aj.aG 16 ?_;refine aj.aS 17 (fun _ _ _ h=>h.e.2.1.r3) ?_;refine aj.sC E (fun D v' Y h _=>m2 Y _ _ (J.out.af h.k) (M.out.af h.k)) ?_;rintro _ ⟨br,cn,cx,ce,rfl⟩;refine aj.aB (b:=⟨#[_,_,_,_,_,_,_,_,_,_,_,_,_,_,_,_,_,_,_,_,_,_],_⟩) rfl ?_
 repeat refine aj.aG _ ?_
 refine aj.sC E (fun D v' Y _ hf=>kt Y (hf (12,some 18) (.head _) rfl).2.2.get) ?_;rintro _ ⟨D1,D2,D3,D4,rfl⟩;refine aj.aB (b:=⟨#[_,_,_,_,_,_,_,_,_,_,_,_,_,_,_,_,_,_,_,_,_,_],_⟩) rfl ?_;refine aj.sS E ?_;refine aj.sS E ?_;refine aj.sE (fun _ v' w1 B I hl _ _ hf=> ?_);simp only[xZ,qk]at hl;obtain⟨oa,ob,op,oq,-⟩:=hl;have op:ai w1 (w.heap.size+1+1) 26 #[Ez N1,Ex N2 N3 N4]:=op;have oq:ai w1 (w.heap.size+1+1+1) 26 #[Ez D1,Ex D2 D3 D4]:=oq;have FN:Hid (az w1 (Ej #[Ez N1,Ex N2 N3 N4]) (r.num*s.num)):=(hf (7,some 13) (.tail _ (.head _)) rfl).2.2;have FD:Hid (az w1 (Ej #[Ez D1,Ex D2 D3 D4]) (r.den*s.den)):=(hf (15,some 21) (.tail _ (.tail _ (.tail _ (.head _)))) rfl).2.2;replace Fa:=E7 (Fa.out.af I);replace Fb:=E7 (Fb.out.af I);replace T:=E7 (T.out.af I);replace J:=E7 (J.out.af I);replace Z:=E7 (Z.out.af I);replace M:=E7 (M.out.af I);clear hf I;refine hQ _ _ ?_;clear hQ E Q' ah;have la:=oa.lt;have lb:=ob.lt;obtain⟨bf,bh⟩:=op.r1;have lp:=op.lt;obtain⟨bl,bg⟩:=oq.r1;have lq:=oq.lt;go_wp2_with fail
 refine Eo (by simp[results,Tryz.results53,go_sem,la,lb,bf,bh,lp,bl,bg,lq]; rfl) rfl ?_;exact⟨_,_,rfl,FN.out.af zw,FD.out.af zw,zh⟩
theorem Cc (w:Ef) (ha:FR w va r) (hb:FR w vb s) (g3:fits (r.num*s.num)) (g4:fits (r.den*s.den)) :
  Ee Ed 52 #[va,vb,.func (.func 53) #[] #[]] w fun e E=>∃v,e = Eh (Ev #[v,Ey Ew 0])/\FR E v (r*s)/\zf w E:=by
 have cl:∀E u v,FR E u r->FR E v s->Ee Ed 53 #[u,v] E fun e T=>∃u v,e = Eh (Ev #[u,v])/\az T u (r.num*s.num)/\az T v (r.den*s.den)/\zf E T:=fun E u v h1 h2=>Cb E h1 h2 g3 g4
 have rd:∀E u v,az E u (r.num*s.num)->az E v (r.den*s.den)->Ee Ed 92 #[u,v] E fun e T=>∃v,e = Eh v/\FR T v (r*s)/\zf E T:=fun E u v h1 h2=>by
  have:=vZ E h1 h2 g3 g4 (jT r s);rw[Qv]at this;exact this
 obtain⟨a1,a2,a3,a4,a5,a6,a7,a8,rfl⟩:=ha.ak;obtain⟨b1,b2,b3,b4,b5,b6,b7,b8,rfl⟩:=hb.ak;have N:=E7 ha;have M:=E7 hb;clear ha hb g3 g4
 go_enter_defers Tryz.func52,Tryz.ntmps52
 go_wp2_with fail
 refine(xC _ (N.out.af zw)).mono ?_;rintro e w1 ⟨rfl,st⟩;have B:=bA w st;have kp:=kB w st;have J:ai w1 w.heap.size 28 #[Ez a1,Ex a2 a3 a4,Ez a5,Ex a6 a7 a8]:=ai.au st;have H:ai w1 (w.heap.size+1) 28 #[Ez b1,Ex b2 b3 b4,Ez b5,Ex b6 b7 b8]:=ai.au st;have or:ai w1 (w.heap.size+1+1) 28 jN:=ai.au st;have I:ai w1 (w.heap.size+1+1+1) 32 #[Ey Ew 0]:=ai.au st;replace N:=E7 (N.out.af kp);replace M:=E7 (M.out.af kp);clear kp;clear st;go_wp2_with fail
 refine(xN _).mono ?_;rintro e T ⟨rfl,st⟩;have sk:=bA w1 st;replace B:=bS B sk;replace J:=J.ae sk;replace H:=H.ae sk;replace or:=or.ae sk;replace I:=I.ae sk;replace N:=E7 (N.out.ae sk);replace M:=E7 (M.out.ae sk);clear st sk;have la:=J.lt;obtain⟨a9,b9,X,be⟩:=H.r3;have lb:=H.lt;have lr:=or.lt;have le:=I.lt;go_wp2_with fail
 refine(xC _ (M.out.af zw)).mono ?_;rintro e w3 ⟨rfl,st⟩;have sk:=bA T st;replace B:=bS B sk;replace J:=J.ae sk;replace H:=H.ae sk;replace or:=or.ae sk;replace I:=I.ae sk;replace N:=E7 (N.out.ae sk);replace M:=E7 (M.out.ae sk);clear st sk la a9 b9 X be lb lr le;go_wp2_with fail
 refine(xN _).mono ?_;rintro e w4 ⟨rfl,st⟩;have sk:=bA w3 st;replace B:=bS B sk;replace J:=J.ae sk;replace H:=H.ae sk;replace or:=or.ae sk;replace I:=I.ae sk;replace N:=E7 (N.out.ae sk);replace M:=E7 (M.out.ae sk);clear st sk;obtain⟨bg,br,bl,bh⟩:=J.r3;have la:=J.lt;obtain⟨a9,b9,X,be⟩:=H.r3;have lb:=H.lt;have lr:=or.lt;have le:=I.lt;go_wp2_with fail
 refine(cl _ _ _ (N.out.af zw) (M.out.af zw)).mono ?_;rintro e w5 ⟨vn,vd,rfl,Y,ah,st⟩;have sk:=bA w4 st;replace B:=bS B sk;replace J:=J.ae sk;replace H:=H.ae sk;replace or:=or.ae sk;replace I:=I.ae sk;replace N:=E7 (N.out.ae sk);replace M:=E7 (M.out.ae sk);clear st sk bg br bl bh la a9 b9 X be lb lr le;obtain⟨n1,n2,n3,n4,rfl⟩:=Y.ak;obtain⟨d1,d2,d3,d4,rfl⟩:=ah.ak;have Fn:=E7 Y;clear Y;have Fd:=E7 ah;clear ah;go_wp2_with fail
 refine(rd _ _ _ (Fn.out.af zw) (Fd.out.af zw)).mono ?_;rintro e w6 ⟨vq,rfl,Z,st⟩;have sk:=bA w5 st;replace B:=bS B sk;replace J:=J.ae sk;replace H:=H.ae sk;replace or:=or.ae sk;replace I:=I.ae sk;replace N:=E7 (N.out.ae sk);replace M:=E7 (M.out.ae sk);replace Fn:=E7 (Fn.out.ae sk);replace Fd:=E7 (Fd.out.ae sk);clear st sk;have la:=J.lt;have lb:=H.lt;obtain⟨bi,ce,cg,bf,fr,lr⟩:=or.s3;have bt:=I.q0;have fe:=I.fr;have le:=I.lt;obtain⟨q1,q2,q3,q4,q5,q6,q7,q8,rfl⟩:=Z.ak;have Fq:=E7 Z;clear Z;go_wp2_with fail
 refine leaves_cons (f:=56) (args:=#[Ek (some ⟨w.heap.size+1+1+1,0,none⟩)]) D9 (by simp[go_sem]) ?_;refine(xV _ _).mono ?_;rintro e u' ci ⟨rfl,rfl,rfl⟩;refine⟨_,by simp[results,Tryz.results52,go_sem,la,lb,bi,ce,cg,bf,fr,lr,bt,fe,le]; rfl,?_⟩;exact⟨_,rfl,Fq.out.af zw,zh⟩
theorem Cd (w:Ef) (Z:FR w va r) (M:FR w vb s) (I:sz r i) (hs:sz s j) (X:i+j<=4095) :
  Ee Ed 20 #[va,vb] w fun e E=>∃v,e = Eh (Ev #[v,Ey Ew 0])/\FR E v (r*s)/\zf w E:=by
 have d1:zi (r.den:Int)<=bp i:=by rw[xY]; exact I.2
 have d2:zi (s.den:Int)<=bp j:=by rw[xY]; exact hs.2
 have g3:=yB (yK I.1 hs.1) X;have g4:=yB (yK d1 d2) X;have bo:∀E u v,FR E u r->FR E v s->Ee Ed 52 #[u,v,.func (.func 53) #[] #[]] E fun e w2=>∃v,e = Eh (Ev #[v,Ey Ew 0])/\FR w2 v (r*s)/\zf E w2:=fun E u v h1 h2=>Cc E h1 h2 g3 g4;obtain⟨a1,a2,a3,a4,a5,a6,a7,a8,rfl⟩:=Z.ak;obtain⟨b1,b2,b3,b4,b5,b6,b7,b8,rfl⟩:=M.ak;have Y:=E7 Z;have N:=E7 M;clear Z M I hs X g3 g4;clear d1 d2
 go_enter Tryz.func20,Tryz.ntmps20
 go_wp2_with fail
 refine(bo _ _ _ (Y.out.af zw) (N.out.af zw)).mono ?_;rintro e w1 ⟨vq,rfl,H,st⟩;have B:=bA w st;have kp:=kB w st;have oa:ai w1 w.heap.size 28 #[Ez a1,Ex a2 a3 a4,Ez a5,Ex a6 a7 a8]:=ai.au st;have ob:ai w1 (w.heap.size+1) 28 #[Ez b1,Ex b2 b3 b4,Ez b5,Ex b6 b7 b8]:=ai.au st;have or:ai w1 (w.heap.size+1+1) 28 jN:=ai.au st;replace Y:=E7 (Y.out.af kp);replace N:=E7 (N.out.af kp);clear kp;clear st;have la:=oa.lt;have lb:=ob.lt;obtain⟨T,a9,ah,J,fr,lr⟩:=or.s3;obtain⟨q1,q2,q3,q4,q5,q6,q7,q8,rfl⟩:=H.ak;have Fq:=E7 H;clear H;go_wp2_with fail
 refine Eo (by simp[results,Tryz.results20,go_sem,la,lb,T,a9,ah,J,fr,lr]; rfl) rfl ?_;exact⟨_,rfl,Fq.out.af zw,zh⟩
theorem UX (w:Ef) (ha:FR w va r) (hb:FR w vb s) (hr:sz r i) (hs:sz s j) (hk:i+j<=4095) :
  Ee Ed 21 #[va,vb] w fun e E=>e = Eh (Ev #[Ey Ew (z9 r s),Ey Ew 0])/\zf w E:=by
 obtain⟨Y,Z,h3⟩:=jh hr hs;have g1:=yB Y hk;have g2:=yB Z hk;have ce:∀E u v,FR E u r->FR E v s->Ee Ed 60 #[u,v] E fun e X=>∃v,e = Eh v/\az X v (r.num*s.den)/\zf E X:=fun E u v Y Z=>k9 E Y Z g1;have cg:∀E u v,FR E u s->FR E v r->Ee Ed 60 #[u,v] E fun e X=>∃v,e = Eh v/\az X v (s.num*r.den)/\zf E X:=fun E u v Y Z=>k9 E Y Z g2
 have cm:∀E v u,az E v (r.num*s.den)->az E u (s.num*r.den)->Ee Ed 59 #[v,u] E fun e X=>e = Eh (Ev #[Ey Ew (z9 r s),Ey Ew 0])/\zf E X:=fun E v u Y Z=>by
  have:=BG E Y Z g1 g2;rw[vM]at this;exact this
 obtain⟨c,hc⟩:∃c,z9 r s=c:=⟨_,rfl⟩;rw[hc]at cm|-;obtain⟨a1,a2,a3,a4,a5,a6,a7,a8,rfl⟩:=ha.ak;obtain⟨b1,b2,b3,b4,b5,b6,b7,b8,rfl⟩:=hb.ak;have M:=E7 ha;have J:=E7 hb;clear ha hb hr hs hk g1 g2 Y Z h3 hc
 go_enter_defers Tryz.func21,Tryz.ntmps21
 go_wp2_with fail
 refine(xC _ (M.out.af zw)).mono ?_;rintro e w1 ⟨rfl,st⟩;have B:=bA w st;have kp:=kB w st;have T:ai w1 w.heap.size 28 #[Ez a1,Ex a2 a3 a4,Ez a5,Ex a6 a7 a8]:=ai.au st;have N:ai w1 (w.heap.size+1) 28 #[Ez b1,Ex b2 b3 b4,Ez b5,Ex b6 b7 b8]:=ai.au st;have I:ai w1 (w.heap.size+1+1) 32 #[Ey Ew 0]:=ai.au st;replace M:=E7 (M.out.af kp);replace J:=E7 (J.out.af kp);clear kp;clear st;go_wp2_with fail
 refine(xN _).mono ?_;rintro e X ⟨rfl,st⟩;have sk:=bA w1 st;replace B:=bS B sk;replace T:=T.ae sk;replace N:=N.ae sk;replace I:=I.ae sk;replace M:=E7 (M.out.ae sk);replace J:=E7 (J.out.ae sk);clear st sk;have la:=T.lt;obtain⟨ah,b9,a9,be⟩:=N.r3;have lb:=N.lt;have le:=I.lt;go_wp2_with fail
 refine(xC _ (J.out.af zw)).mono ?_;rintro e w3 ⟨rfl,st⟩;have sk:=bA X st;replace B:=bS B sk;replace T:=T.ae sk;replace N:=N.ae sk;replace I:=I.ae sk;replace M:=E7 (M.out.ae sk);replace J:=E7 (J.out.ae sk);clear st sk la ah b9 a9 be lb le;go_wp2_with fail
 refine(xN _).mono ?_;rintro e w4 ⟨rfl,st⟩;have sk:=bA w3 st;replace B:=bS B sk;replace T:=T.ae sk;replace N:=N.ae sk;replace I:=I.ae sk;replace M:=E7 (M.out.ae sk);replace J:=E7 (J.out.ae sk);clear st sk;obtain⟨bg,bl,bi,bh⟩:=T.r3;have la:=T.lt;obtain⟨ah,b9,a9,be⟩:=N.r3;have lb:=N.lt;have le:=I.lt;have ze:w.heap.size+1+1<w4.heap.size:=I.lt;have ci:=B.size
 go_upto_region 4 with fail
 refine aj.c_ w w4 [.o w.heap.size 28 #[Ez a1,Ex a2 a3 a4,Ez a5,Ex a6 a7 a8],.o (w.heap.size+1) 28 #[Ez b1,Ex b2 b3 b4,Ez b5,Ex b6 b7 b8],.s (w.heap.size+1+1) 32 #[Ey Ew 0] 10 [] (aj.vx #[Ey Ew 0])] [2,5,6,10] [(2,vQ),(5,vQ),(6,fun z_=>z_ = Ev #[Ey Ew c,Ey Ew 0])] [(2,dD (r.num*s.den)),(5,dD (s.num*r.den))] [(6,[(2,some 14),(5,some 17)]),(10,[(6,some 18)]),(11,[(2,some 14),(5,some 17),(6,some 18)])] [] (by simp only[aV]; exact⟨zh,zw,zC,zC,zC,trivial⟩) (fun N0 bt bf Q' H hQ=> ?_);clear bg bl bi bh la ah b9 a9 be lb le;clear bt;refine aj.aS 12 (fun _ _ _ h=>h.e.1.r3) ?_;refine aj.aS 13 (fun _ _ _ h=>h.e.2.1.r3) ?_;refine aj.sC H (fun D v' W' h _=>ce W' _ _ (M.out.af h.k) (J.out.af h.k)) ?_;rintro _ ⟨x1,x2,x3,x4,rfl⟩;refine aj.aB (b:=⟨#[_,_,_,_,_,_,_,_,_,_,_,_,_,_,_,_,_,_,_,_,_],_⟩) rfl ?_;refine aj.aS 15 (fun _ _ _ h=>h.e.2.1.r3) ?_;refine aj.aS 16 (fun _ _ _ h=>h.e.1.r3) ?_;refine aj.sC H (fun D v' W' h _=>cg W' _ _ (J.out.af h.k) (M.out.af h.k)) ?_;rintro _ ⟨y1,y2,y3,y4,rfl⟩;refine aj.aB (b:=⟨#[_,_,_,_,_,_,_,_,_,_,_,_,_,_,_,_,_,_,_,_,_],_⟩) rfl ?_;refine aj.sV H (fun D v' W' _ hf=>cm W' _ _ (hf (2,some 14) (.head _) rfl).2.2 (hf (5,some 17) (.tail _ (.head _)) rfl).2.2) ?_;refine aj.aB (b:=⟨#[_,_,_,_,_,_,_,_,_,_,_,_,_,_,_,_,_,_,_,_,_],_⟩) rfl ?_
 repeat refine aj.aG _ ?_
 refine aj.sS H ?_;refine aj.sE (fun _ v' w5 B jk hl _ _ hf=> ?_);simp only[xZ,qk]at hl;obtain⟨T,N,I,-⟩:=hl;have I:ai w5 (w.heap.size+1+1) 32 #[Ey Ew 0]:=I;replace M:=E7 (M.out.af jk);replace J:=E7 (J.out.af jk);clear hf jk;refine hQ _ _ ?_;clear hQ H Q' bf;have la:=T.lt;have lb:=N.lt;have br:=I.q0;have le:=I.lt;go_wp2_with fail
 refine leaves_cons (f:=56) (args:=#[Ek (some ⟨w.heap.size+1+1,0,none⟩)]) D9 (by simp[go_sem]) ?_;refine(xV _ _).mono ?_;rintro e u' cn ⟨rfl,rfl,rfl⟩;refine⟨_,by simp[results,Tryz.results21,go_sem,la,lb,br,le]; rfl,?_⟩;exact⟨rfl,zh⟩
def UY (w:Ef) (b o:Nat) (l:List (Int×Int)):Prop:=∀t,t<l.length->w.cell? ⟨b,o+t*2,none⟩=some (Ey Ew (l.getD t (0,0)).1)/\w.cell? ⟨b,o+t*2+1,none⟩=some (Ey Ew (l.getD t (0,0)).2)
def bT (w:Ef) (v:Ei) (l:List (Int×Int)):Prop:=
 (∀k,-9223372036854775808<=(l.getD k (0,0)).1/\(l.getD k (0,0)).1<=9223372036854775807/\-9223372036854775808<=(l.getD k (0,0)).2/\(l.getD k (0,0)).2<=9223372036854775807)/\
 ∃ao cap,v = Ex ao l.length cap/\l.length<=cap/\(l≠ []->∃b o,ao=some ⟨b,o,none⟩/\b<w.heap.size/\UY w b o l)
theorem bT.ae {I:Ef} (h:bT w v l) (E:zf w I):bT I v l:=by
 obtain⟨h0,ao,cap,rfl,M,J⟩:=h;refine⟨h0,ao,cap,rfl,M,fun N=> ?_⟩;obtain⟨b,o,rfl,H,hc⟩:=J N;exact⟨b,o,rfl,Nat.lt_of_lt_of_le H E.size,fun t ht=>⟨(E.cell (p:=⟨b,o+t*2,none⟩) H).trans (hc t ht).1,(E.cell (p:=⟨b,o+t*2+1,none⟩) H).trans (hc t ht).2⟩⟩
theorem bT.ak (h:bT w v l):∃ao cap,v = Ex ao l.length cap:=by obtain⟨_,ao,cap,e,_⟩:=h; exact⟨ao,cap,e⟩
theorem bT.cells {ao:Option Addr} {n cap:Nat} (h:bT w (Ex ao n cap) l):n=l.length/\n<=cap/\(0<n->∃b o,ao=some ⟨b,o,none⟩/\b<w.heap.size/\UY w b o l):=by
 obtain⟨_,J,E,e,X,M⟩:=h
 injection e with N H T
 subst N H T;refine⟨rfl,X,fun I=>M ?_⟩;rintro rfl
 cases I
def qq (p:Int×Int):Prop:= -1048576<=p.1/\p.1<=1048576/\-1048576<=p.2/\p.2<=1048576
instance (p:Int×Int):Decidable (qq p):=by unfold qq; infer_instance
def zP (l:List (Int×Int)):Int:=if 200<l.length then 4 else if ∀p∈l,qq p then 0 else 8
theorem KY (h:∀k,k<l.length->qq (l.getD k (0,0))):∀p∈l,qq p:=by
 intro p H;obtain⟨k,E,e⟩:=List.getElem_of_mem H;have:=h k E;simp[List.getD,E,e]at this;exact this
theorem KZ {k:Nat} (E:k<l.length) (h:¬qq (l.getD k (0,0))):¬∀p∈l,qq p:=by
 intro H;apply h
 simp only[List.getD,List.getElem?_eq_getElem E,Option.getD_some];exact H _ (List.getElem_mem E)
theorem K5 (w:Ef) (hv:bT w v l) (hl:l.length<=1000) :
  Ee Ed 62 #[v] w fun e w'=>e = Eh (Ey Ew (zP l))/\zf w w':=by
 obtain⟨ao,cap,rfl⟩:=hv.ak;obtain⟨-,h1,Z⟩:=hv.cells;obtain⟨n,hn⟩:∃n,l.length=n:=⟨_,rfl⟩;have H:=E7 hn;rw[hn]at h1 Z hl|-;clear hv hn
 by_cases hg:200<n
 .
  have E:Hid (zP l=4):=E9 (by rw[H.out]; exact hg)
  go_enter Tryz.func62,Tryz.ntmps62
  go_wp2
  go_returns
  exact⟨yE E.out.symm,zh⟩
 .
  have E:Hid (zP l=if ∀p∈l,qq p then 0 else 8):=E_ (by rw[H.out]; exact hg)
  go_enter Tryz.func62,Tryz.ntmps62
  go_wp2
  go_loopw [3] (fun kk wr=>∃k:Nat,k<=n/\kk = Ey Ew k/\(∀t,t<k->qq (l.getD t (0,0)))/\Below w.heap.size w wr) (fun kk _=>(n-(intOf kk).toNat))
  case atStart=>exact⟨0,Nat.zero_le _,rfl,(fun _ h=>by cases h),Below.refl _ _⟩
  case round=>
   obtain⟨k,hk,rfl,J,X⟩:=hrel;have N:=E7 X;have HA:=E7 J
   rcases Er k n with h3 | h3
   .
    obtain⟨b,o,rfl,T,hc⟩:=Z D6;obtain⟨x,hx⟩:∃x,(l.getD k (0,0)).1=x:=⟨_,rfl⟩;obtain⟨y,hy⟩:∃x,(l.getD k (0,0)).2=x:=⟨_,rfl⟩;have c1:wr.cell? ⟨b,o+k*2,none⟩=some (Ey Ew x):=by rw[<- hx]; exact(X.cell (p:=⟨b,o+k*2,none⟩) T).trans (hc k (by rw[H.out]; omega)).1
    have c2:wr.cell? ⟨b,o+k*2+1,none⟩=some (Ey Ew y):=by rw[<- hy]; exact(X.cell (p:=⟨b,o+k*2+1,none⟩) T).trans (hc k (by rw[H.out]; omega)).2
    have Y:=E7 (E8 hx hy);clear hc Z J hx hy
    have I:¬qq (x,y)->Hid (zP l=8):=fun hq=>by
     show zP l=8
     rw[E.out,E_];refine KZ (k:=k) (by rw[H.out]; exact h3) ?_;have e:l.getD k (0,0)=(x,y):=Prod.ext Y.out.1 Y.out.2;rw[e]; exact hq
    by_cases a1:x < -1048576
    .
     have M:=I (by unfold qq; dsimp only; omega);clear I
     go_wp2
     go_returns
     exact⟨yE M.out.symm,N.out⟩
    by_cases a2:1048576<x
    .
     have M:=I (by unfold qq; dsimp only; omega);clear I
     go_wp2
     go_returns
     exact⟨yE M.out.symm,N.out⟩
    by_cases a3:y < -1048576
    .
     have M:=I (by unfold qq; dsimp only; omega);clear I
     go_wp2
     go_returns
     exact⟨yE M.out.symm,N.out⟩
    by_cases a4:1048576<y
    .
     have M:=I (by unfold qq; dsimp only; omega);clear I
     go_wp2
     go_returns
     exact⟨yE M.out.symm,N.out⟩
    clear I
    go_wp2
    go_roundw
    case rel=>
     refine⟨k+1,by omega,by go_num,fun t ht=> ?_,N.out⟩
     rcases Er t k with h4 | h4
     . exact HA.out t h4
     .
      obtain rfl:t=k:=D6
      have e:l.getD t (0,0)=(x,y):=Prod.ext Y.out.1 Y.out.2;rw[e]; unfold qq; dsimp only; omega
    case measure=>simp[intOf]; omega
   .
    have a9:k=n:=D6
    subst a9;clear Z X
    go_wp2
    go_returns
    refine⟨yE ?_,N.out⟩;rw[E.out,E9 (KY (fun t ht=>HA.out t (by rw[H.out]at ht; exact ht)))]
theorem v9 (m y:Int):(if m<y then y else m)=max m y:=by split<;>omega
theorem UZ {P:Program} (E:Array TypeId) (t:TypeId) (x y z u:Int) (w:Ef):(Builtin.max_ E t #[Ey Ew x,Ey Ew y,Ey Ew z,Ey Ew u]).run P w = .ok (Ey Ew (max (max (max x y) z) u)) w:=by
 rw[<- v9,<- v9,<- v9]
 by_cases h1:x<y<;>simp only[h1,if_true,if_false]<;>(first | (by_cases h2:y<z<;>simp[Builtin.max_,Builtin.max2,go_sem,h1,h2]<;>split<;>simp_all) | (by_cases h2:x<z<;>simp[Builtin.max_,Builtin.max2,go_sem,h1,h2]<;>split<;>simp_all))
theorem qX (w:Ef) (hv:bT w v l) (hl:l.length<=1000) :
  Ee Ed 37 #[v] w fun e Y=>e = Eh (Ey Ew (zP l))/\zf w Y:=by
 have a9:=hv.1;obtain⟨ao,cap,rfl⟩:=hv.ak;obtain⟨-,h1,h2⟩:=hv.cells;obtain⟨n,hn⟩:∃n,l.length=n:=⟨_,rfl⟩;have H:=E7 hn;have bf:=E7 a9;rw[hn]at h1 h2 hl|-;clear hv hn a9
 by_cases hg:200<n
 .
  have E:Hid (zP l=4):=E9 (by rw[H.out]; exact hg)
  go_enter Tryz.func37,Tryz.ntmps37
  go_wp2
  go_returns
  exact⟨yE E.out.symm,zh⟩
 .
  have E:Hid (zP l=if ∀p∈l,qq p then 0 else 8):=E_ (by rw[H.out]; exact hg)
  go_enter Tryz.func37,Tryz.ntmps37
  go_wp2
  go_loopw [4,10] (fun _ kk wr=>∃k:Nat,k<=n/\kk = Ey Ew k/\(∀t,t<k->qq (l.getD t (0,0)))/\Below w.heap.size w wr) (fun _ kk _=>(n-(intOf kk).toNat))
  case atStart=>exact⟨0,Nat.zero_le _,rfl,(fun _ h=>by cases h),Below.refl _ _⟩
  case round=>
   obtain⟨k,hk,rfl,J,X⟩:=hrel;have HB:=E7 X;have HA:=E7 J;have zb:=X.size
   rcases Er k n with h3 | h3
   .
    obtain⟨b,o,rfl,ah,hc⟩:=h2 D6;obtain⟨b9,be,bl,bh⟩:=bf.out k;obtain⟨x,hx⟩:∃x,(l.getD k (0,0)).1=x:=⟨_,rfl⟩;obtain⟨y,hy⟩:∃x,(l.getD k (0,0)).2=x:=⟨_,rfl⟩;rw[hx]at b9 be;rw[hy]at bl bh;have c1:wr.cell? ⟨b,o+k*2,none⟩=some (Ey Ew x):=by rw[<- hx]; exact(X.cell (p:=⟨b,o+k*2,none⟩) ah).trans (hc k (by rw[H.out]; omega)).1
    have c2:wr.cell? ⟨b,o+k*2+1,none⟩=some (Ey Ew y):=by rw[<- hy]; exact(X.cell (p:=⟨b,o+k*2+1,none⟩) ah).trans (hc k (by rw[H.out]; omega)).2
    have HX:=E7 (E8 hx hy);clear hc h2 J hx hy X;obtain⟨nx,T⟩:∃z,wrap64 (-x)=z:=⟨_,rfl⟩;obtain⟨ny,N⟩:∃z,wrap64 (-y)=z:=⟨_,rfl⟩;obtain⟨M,hM⟩:∃M,max (max (max x nx) y) ny=M:=⟨_,rfl⟩;obtain⟨mm,bg⟩:∃z,(if y<x then y else x)=z:=⟨_,rfl⟩;have bi:∀Y:Ef,(Builtin.max_ #[2,2,2,2] 2 #[Ey Ew x,Ey Ew nx,Ey Ew y,Ey Ew ny]).run Ed Y = .ok (Ey Ew M) Y:=fun Y=>by rw[<- hM]; exact UZ _ _ _ _ _ _ Y
    have F:Hid (qq (x,y)↔¬1048576<M/\¬mm < -1048576):=by
     show _↔_
     rw[<- hM,<- bg,<- T,<- N];unfold qq wrap64;dsimp only
     constructor
     . rintro ⟨q1,q2,q3,q4⟩; split<;>omega
     . rintro ⟨q1,q2⟩; split at q2<;>omega
    clear hM
    have I:¬qq (x,y)->Hid (zP l=8):=fun Z=>by
     show zP l=8
     rw[E.out,E_];refine KZ (k:=k) (by rw[H.out]; exact h3) ?_;have e:l.getD k (0,0)=(x,y):=Prod.ext HX.out.1 HX.out.2;rw[e]; exact Z
    by_cases a1:1048576<M
    .
     have BB:=I (fun h=>(F.out.1 h).1 a1);clear I
     go_wp2
     go_returns
     exact⟨yE BB.out.symm,HB.out.alloc zb _⟩
    by_cases a2:mm < -1048576
    .
     have BB:=I (fun h=>(F.out.1 h).2 a2);clear I
     go_wp2
     go_returns
     exact⟨yE BB.out.symm,HB.out.alloc zb _⟩
    have HQ:=E7 (F.out.2 ⟨a1,a2⟩);have Z:=HQ.out;unfold qq at Z;dsimp only at Z;have e1:nx = -x:=by rw[<- T]; unfold wrap64; omega
    have e2:ny = -y:=by rw[<- N]; unfold wrap64; omega
    rw[e1,e2]at bi;clear Z e1 e2 T N;clear I F
    go_wp2
    go_roundw
    case rel=>
     refine⟨k+1,by omega,by go_num,fun t ht=> ?_,HB.out.alloc zb _⟩
     rcases Er t k with h4 | h4
     . exact HA.out t h4
     .
      obtain rfl:t=k:=D6
      have e:l.getD t (0,0)=(x,y):=Prod.ext HX.out.1 HX.out.2;rw[e]; exact HQ.out
    case measure=>simp[intOf]; omega
   .
    have br:k=n:=D6
    subst br;clear h2 X
    go_wp2
    go_returns
    refine⟨yE ?_,HB.out⟩;rw[E.out,E9 (KY (fun t ht=>HA.out t (by rw[H.out]at ht; exact ht)))]
end
end Go.Proofs.YtffmbepfbienaaaGreat
