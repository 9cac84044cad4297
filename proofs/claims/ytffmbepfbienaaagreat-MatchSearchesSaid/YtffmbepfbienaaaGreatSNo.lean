import Derived.Test.YtffmbepfbienaaaGreatSTz
set_option linter.unusedVariables false
set_option linter.unusedSimpArgs false
set_option maxHeartbeats 6400000
set_option maxRecDepth 1000000
open Go.Value renaming slice->Ex,bool->Ez,int->Ey,tuple->Ev
open Go.IntKind renaming i64->Ew,u32->Eu
open Go.Ending renaming returned->Eh
open Go.Proofs.Tryz renaming prog->Ec
open Go renaming Calls->Ed,World->Ee,bodyPost_ret->En
open Nat renaming le_refl->Eo
open Go.World renaming cell?->Er
namespace Go.Proofs.YtffmbepfbienaaaGreat
section
open Go.RowKit
variable {A B:List Int} {a b:Value}
theorem Xm (n:Nat):yB (List.replicate n 0):=fun x E=>by obtain⟨-,rfl⟩:=List.mem_replicate.1 E; omega
theorem Xn {O xs:List Int} {i k:Nat} {E x:Int} (ht:(O.take i).length=i) (H:xs.length=k) (I:i<=O.length) (F:zo xs+bp k*E=zo (O.drop i)+x*zo B) (hv:zo O=zo (A.take i)*zo B) (J:A.getD i 0=x) :
  zo (O.take i++xs ++ [E])=zo (A.take (i+1))*zo B:=by
 rw[y9,List.length_append,ht,H,qh,ht,JE,yw,J,Int.add_mul,<- hv,yN O i I,Int.mul_assoc (bp i) (bp k),Int.add_assoc,<- Int.mul_add,F,Int.mul_add,Int.mul_assoc (bp i) x];omega
theorem GW (w:Ee) (ha:aA w a A) (hb:aA w b B) (nA:A.length<=zP) (nB:B.length<=zP) :
  Ed Ec 158 #[a,b] w fun e w'=>∃v l,e = Eh v/\aA w' v l/\zo l=zo A*zo B/\l.length=A.length+B.length/\zf w w':=by
 obtain⟨aa,ca,rfl⟩:=ha.ak;obtain⟨ab,cb,rfl⟩:=hb.ak;obtain⟨oA,-,lA,fA⟩:=ha.cells;obtain⟨oB,-,lB,fB⟩:=hb.cells;clear ha hb;unfold zP at nA nB;obtain⟨n,hU⟩:∃n,A.length=n:=⟨_,rfl⟩;obtain⟨m,hV⟩:∃n,B.length=n:=⟨_,rfl⟩;have H:Hid (A.length=n/\B.length=m):=⟨hU,hV⟩;rw[hU]at nA lA fA;rw[hV]at nB lB fB;rw[hU,hV];clear hU hV;have bg:=xT (n+m) D5;simp only[Int.natCast_add]at bg;have Z0:(w.alloc (.cells (madeCells #[Ey Eu 0] (n+m)) 172)).heap.size=w.heap.size+1:=World.size_alloc _ _;have B0:Below w.heap.size w (w.alloc (.cells (madeCells #[Ey Eu 0] (n+m)) 172)):=(Below.refl _ _).alloc (Eo _) _
 have K0:ai (w.alloc (.cells (madeCells #[Ey Eu 0] (n+m)) 172)) w.heap.size 172 (zI (List.replicate m 0)++List.replicate n (Value.int Eu 0)).toArray:=by
  have:=ai.new w 172 (madeCells #[Ey Eu 0] (n+m))
  have e:(zI (List.replicate m 0)++List.replicate n (Value.int Eu 0)).toArray=madeCells #[Ey Eu 0] (n+m):=by
   rw[yH]; simp[zI,List.replicate_append_replicate,Nat.add_comm]
  rw[e];exact this
 go_enter Tryz.func158,Tryz.ntmps158
 go_wp2
 go_loopw [6,7,8] (fun ii c0 k0 wr=>∃ (i:Nat) (O:List Int),i<=n/\ii = Ey Ew i/\O.length=i+m/\yB O/\zo O=zo (A.take i)*zo B/\
   ai wr w.heap.size 172 (zI O++List.replicate (n-i) (Value.int Eu 0)).toArray/\Below w.heap.size w wr) (fun ii _ _ _=>(n-(intOf ii).toNat))
 case atStart=>exact⟨0,List.replicate m 0,Nat.zero_le _,rfl,by simp,Xm m,by rw[Yl]; simp[zo],K0,B0⟩
 case round=>
  obtain⟨i,O,hi,rfl,hO,N,hv,J,aY⟩:=hrel;have HO:Hid (O.length=i+m/\yB O/\zo O=zo (A.take i)*zo B):=⟨hO,N,hv⟩;have HX:=E6 aY;have HK:=E6 J;have z1:=J.lt;clear bg Z0 B0 K0 N hv
  rcases Nat.lt_or_ge i n with h1 | h1
  .
   obtain⟨ba,Y,rfl,be,ah⟩:=fA D5;have HA:=E6 ah;obtain⟨x,hx⟩:∃x,A.getD i 0=x:=⟨_,rfl⟩;have x0:=zG oA i;rw[hx]at x0;have g1:wr.cell? ⟨ba,Y+i,none⟩=some (Ey Eu x):=by rw[<- hx]; exact(aY.cell (p:=⟨ba,Y+i,none⟩) be).trans (ah i (by rw[H.out.1]; omega))
   have br:=E6 hx;have bt:(O.drop i).length=m:=by rw[List.length_drop,hO]; omega
   have cg:yB (O.drop i):=xS HO.out.2.1 i;have a9:(zI (O.take i)).length=i:=by rw[yL,List.length_take,hO]; omega
   have KB:ai wr w.heap.size 172 (xP (zI (O.take i)) ([]++(O.drop i).drop 0) (List.replicate (n-i) (Value.int Eu 0))):=by
    have e:xP (zI (O.take i)) ([]++(O.drop i).drop 0) (List.replicate (n-i) (Value.int Eu 0))=(zI O++List.replicate (n-i) (Value.int Eu 0)).toArray:=by
     simp only[xP,List.nil_append,List.drop_zero];rw[<- List.append_assoc];simp only[zI,<- List.map_append,List.take_append_drop]
    rw[e]; exact J
   have Z:=E6 (E7 bt a9);clear ah fA hx hO bt a9 J
   go_wp2
   go_loopw [7,8] (fun cc kk wr=>∃ (k:Nat) (xs:List Int) (M:Int),k<=m/\kk = Ey Ew k/\cc = Ey .u64 M/\0<=M/\M<4294967296/\xs.length=k/\yB xs/\zo xs+bp k*M=zo ((O.drop i).take k)+x*zo (B.take k)/\
     ai wr w.heap.size 172 (xP (zI (O.take i)) (xs++(O.drop i).drop k) (List.replicate (n-i) (Value.int Eu 0)))/\Below w.heap.size w wr) (fun _ kk _=>(m-(intOf kk).toNat))
   case atStart=>exact⟨0,[],0,Nat.zero_le _,rfl,rfl,by omega,by omega,rfl,yg,by simp[zo],KB,HX.out⟩
   case round=>
    obtain⟨k,xs,M,hk,rfl,rfl,c0,c1,hl,N,hv,E,I⟩:=hrel;have HR:Hid (xs.length=k/\yB xs/\zo xs+bp k*M=zo ((O.drop i).take k)+x*zo (B.take k)):=⟨hl,N,hv⟩;have bh:=E6 I;have b9:=E6 E;clear KB g1
    rcases Nat.lt_or_ge k m with h2 | h2
    .
     obtain⟨bb,bi,rfl,ce,bl⟩:=fB D5;obtain⟨v,X⟩:∃v,B.getD k 0=v:=⟨_,rfl⟩;have v0:=zG oB k;rw[X]at v0;have g1:wr.cell? ⟨ba,Y+i,none⟩=some (Ey Eu x):=by rw[<- br.out]; exact(I.cell (p:=⟨ba,Y+i,none⟩) be).trans (HA.out i (by rw[H.out.1]; omega))
     have g2:wr.cell? ⟨bb,bi+k,none⟩=some (Ey Eu v):=by rw[<- X]; exact(I.cell (p:=⟨bb,bi+k,none⟩) ce).trans (bl k (by rw[H.out.2]; omega))
     obtain⟨o,ho⟩:∃o,(O.drop i).getD k 0=o:=⟨_,rfl⟩;have o0:=zG cg k;rw[ho]at o0
     have gU:(xs++(O.drop i).drop k).getD k 0=o:=by
      rw[<- ho];simp only[List.getD];rw[List.getElem?_append_right D5,hl,Nat.sub_self,List.getElem?_drop,Nat.add_zero]
     have g3:wr.cell? ⟨w.heap.size,i+k,none⟩=some (Ey Eu o):=by
      rw[<- gU];exact E.c _ (xu Z.out.2 (by rw[List.length_append,List.length_drop,hl]; have:=Z.out.1; omega))
     have g4:wr.frozen? ⟨w.heap.size,i+k,none⟩=false:=E.fr _;obtain⟨p,hp⟩:∃p,x*v=p:=⟨_,rfl⟩;have p0:0<=p:=by rw[<- hp]; exact Int.mul_nonneg x0.1 v0.1
     have p1:p<=18446744065119617025:=by
      rw[<- hp];have:=Int.mul_le_mul (show x<=4294967295 by omega) (show v<=4294967295 by omega) v0.1 D5;omega
     have hw:IntKind.u64.wrap (x*v)=p:=by rw[hp,wrap_u64 D5 D5]
     have HS:Hid (∀s,s=M+(p+o)->zo (xs ++ [s%4294967296])+bp (k+1)*(s / 4294967296)=zo ((O.drop i).take (k+1))+x*zo (B.take (k+1))):=
      fun s h=>Qq (s:=s) hl hv (by rw[X,ho,hp]; exact h)
     clear X ho gU hp hl N hv E I bl fB;go_wp2_with fail
     go_quiet (fail)
     go_wp2
     go_roundw
     case rel=>
      have R:=HR.out;refine⟨k+1,xs ++ [(M+(p+o))%4294967296],(M+(p+o)) / 4294967296,by omega,by go_num,by go_num,by omega,by omega,by rw[List.length_append,R.1]; rfl,zZ R.2.1 D5 D5,HS.out _ rfl,?_,(yX bh.out _).setCell (p:=⟨w.heap.size,i+k,none⟩) (Eo _) _⟩;refine(b9.out.drewN _).bF ?_;exact qJ Z.out.2 R.1 (by have:=Z.out.1; omega) _
     case measure=>simp[intOf]; omega
    .
     have aX:k=m:=D5
     subst aX;have z2:=E.lt
     have F:Hid (zo xs+bp k*M=zo (O.drop i)+x*zo B):=by
      rw[List.take_of_length_le (by have:=Z.out.1; omega),List.take_of_length_le (by have:=H.out.2; omega)]at hv;exact hv
     have e0:xP (zI (O.take i)) (xs++(O.drop i).drop k) (List.replicate (n-i) (Value.int Eu 0))=(zI (O.take i++xs)++List.replicate (n-(i+1)+1) (Value.int Eu 0)).toArray:=by
      rw[List.drop_of_length_le (by have:=Z.out.1; omega),List.append_nil,show n-(i+1)+1=n-i by omega];simp only[xP,zI,List.map_append,List.append_assoc]
     rw[e0]at E;have T:(O.take i++xs).length=i+k:=by rw[List.length_append,hl]; have:=Z.out.2; rw[yL]at this; omega
     have g3:wr.cell? ⟨w.heap.size,i+k,none⟩=some (Ey Eu 0):=E.c _ (kr T);have g4:wr.frozen? ⟨w.heap.size,i+k,none⟩=false:=E.fr _;have ci:=E6 E;have HL:=E6 T;clear e0 T hl N hv E I b9 fB
     go_wp2
     go_roundw
     case rel=>
      refine⟨i+1,O.take i++xs ++ [M],by omega,by go_num,by rw[List.length_append,HL.out,List.length_singleton]; omega,xt.2 ⟨xt.2 ⟨yh HO.out.2.1 i,HR.out.2.1⟩,ye.2 ⟨⟨c0,c1⟩,yg⟩⟩,?_,?_,bh.out.setCell (p:=⟨w.heap.size,i+k,none⟩) (Eo _) _⟩
      .
       have t:(O.take i).length=i:=by have:=Z.out.2; rwa[yL]at this
       exact Xn t HR.out.1 (by have:=HO.out.1; omega) F.out HO.out.2.2 br.out
      .
       have:=ci.out.bF (xn (O.take i++xs) (i+k) (n-(i+1)) M HL.out)
       first | exact this | (try rw[show M%4294967296=M by omega]; exact this)
     case measure=>simp[intOf]; omega
  .
   have aX:i=n:=D5
   subst aX;clear fA fB aY J
   go_wp2
   go_returns
   have kb:=HK.out;rw[Nat.sub_self,List.replicate_zero,List.append_nil]at kb;have L:=aA.a_ kb HO.out.2.1;rw[HO.out.1]at L;refine⟨_,O,rfl,L,?_,HO.out.1,HX.out⟩;have:=HO.out.2.2;rw[List.take_of_length_le (by have:=H.out.1; omega)]at this;exact this
theorem GX (w:Ee) (ha:aA w a A) (hb:aA w b B) (nA:A.length<=zP) (nB:B.length<=zP) :
  Ed Ec 95 #[a,b] w fun e w'=>∃v l,e = Eh v/\aA w' v l/\zo l=zo A*zo B/\l.length=A.length+B.length/\zf w w':=by
 obtain⟨aa,ca,rfl⟩:=ha.ak;obtain⟨ab,cb,rfl⟩:=hb.ak;obtain⟨oA,-,lA,fA⟩:=ha.cells;obtain⟨oB,-,lB,fB⟩:=hb.cells;clear ha hb;unfold zP at nA nB;obtain⟨n,hU⟩:∃n,A.length=n:=⟨_,rfl⟩;obtain⟨m,hV⟩:∃n,B.length=n:=⟨_,rfl⟩;have H:Hid (A.length=n/\B.length=m):=⟨hU,hV⟩;rw[hU]at nA lA fA;rw[hV]at nB lB fB;rw[hU,hV];clear hU hV;have bg:=xT (n+m) D5;simp only[Int.natCast_add]at bg;have Z0:(w.alloc (.cells (madeCells #[Ey Eu 0] (n+m)) 172)).heap.size=w.heap.size+1:=World.size_alloc _ _;have B0:Below w.heap.size w (w.alloc (.cells (madeCells #[Ey Eu 0] (n+m)) 172)):=(Below.refl _ _).alloc (Eo _) _
 have K0:ai (w.alloc (.cells (madeCells #[Ey Eu 0] (n+m)) 172)) w.heap.size 172 (zI (List.replicate m 0)++List.replicate n (Value.int Eu 0)).toArray:=by
  have:=ai.new w 172 (madeCells #[Ey Eu 0] (n+m))
  have e:(zI (List.replicate m 0)++List.replicate n (Value.int Eu 0)).toArray=madeCells #[Ey Eu 0] (n+m):=by
   rw[yH]; simp[zI,List.replicate_append_replicate,Nat.add_comm]
  rw[e];exact this
 go_enter Tryz.func95,Tryz.ntmps95
 go_wp2
 go_loopw [6,7,8,9,10,19] (fun _ _ _ _ _ ii wr=>∃ (i:Nat) (O:List Int),i<=n/\ii = Ey Ew i/\O.length=i+m/\yB O/\zo O=zo (A.take i)*zo B/\
   ai wr w.heap.size 172 (zI O++List.replicate (n-i) (Value.int Eu 0)).toArray/\Below w.heap.size w wr) (fun _ _ _ _ _ ii _=>(n-(intOf ii).toNat))
 case atStart=>exact⟨0,List.replicate m 0,Nat.zero_le _,rfl,by simp,Xm m,by rw[Yl]; simp[zo],K0,B0⟩
 case round=>
  obtain⟨i,O,hi,rfl,hO,N,hv,J,aY⟩:=hrel;have HO:Hid (O.length=i+m/\yB O/\zo O=zo (A.take i)*zo B):=⟨hO,N,hv⟩;have HX:=E6 aY;have HK:=E6 J;have z1:=J.lt;clear bg Z0 B0 K0 N hv
  rcases Nat.lt_or_ge i n with h1 | h1
  .
   obtain⟨ba,Y,rfl,be,ah⟩:=fA D5;have HA:=E6 ah;obtain⟨x,hx⟩:∃x,A.getD i 0=x:=⟨_,rfl⟩;have x0:=zG oA i;rw[hx]at x0;have g1:wr.cell? ⟨ba,Y+i,none⟩=some (Ey Eu x):=by rw[<- hx]; exact(aY.cell (p:=⟨ba,Y+i,none⟩) be).trans (ah i (by rw[H.out.1]; omega))
   have br:=E6 hx;have bt:(O.drop i).length=m:=by rw[List.length_drop,hO]; omega
   have cg:yB (O.drop i):=xS HO.out.2.1 i;have a9:(zI (O.take i)).length=i:=by rw[yL,List.length_take,hO]; omega
   have KB:ai wr w.heap.size 172 (xP (zI (O.take i)) ([]++(O.drop i).drop 0) (List.replicate (n-i) (Value.int Eu 0))):=by
    have e:xP (zI (O.take i)) ([]++(O.drop i).drop 0) (List.replicate (n-i) (Value.int Eu 0))=(zI O++List.replicate (n-i) (Value.int Eu 0)).toArray:=by
     simp only[xP,List.nil_append,List.drop_zero];rw[<- List.append_assoc];simp only[zI,<- List.map_append,List.take_append_drop]
    rw[e]; exact J
   have Z:=E6 (E7 bt a9);clear ah fA hx hO bt a9 J
   go_wp2
   go_loopw [8,9,10,26] (fun cc _ _ kk wr=>∃ (k:Nat) (xs:List Int) (M:Int),k<=m/\kk = Ey Ew k/\cc = Ey .u64 M/\0<=M/\M<4294967296/\xs.length=k/\yB xs/\zo xs+bp k*M=zo ((O.drop i).take k)+x*zo (B.take k)/\
     ai wr w.heap.size 172 (xP (zI (O.take i)) (xs++(O.drop i).drop k) (List.replicate (n-i) (Value.int Eu 0)))/\Below w.heap.size w wr) (fun _ _ _ kk _=>(m-(intOf kk).toNat))
   case atStart=>exact⟨0,[],0,Nat.zero_le _,rfl,rfl,by omega,by omega,rfl,yg,by simp[zo],KB,HX.out⟩
   case round=>
    obtain⟨k,xs,M,hk,rfl,rfl,c0,c1,hl,N,hv,E,I⟩:=hrel;have HR:Hid (xs.length=k/\yB xs/\zo xs+bp k*M=zo ((O.drop i).take k)+x*zo (B.take k)):=⟨hl,N,hv⟩;have bh:=E6 I;have b9:=E6 E;clear KB g1
    rcases Nat.lt_or_ge k m with h2 | h2
    .
     obtain⟨bb,bi,rfl,ce,bl⟩:=fB D5;obtain⟨v,X⟩:∃v,B.getD k 0=v:=⟨_,rfl⟩;have v0:=zG oB k;rw[X]at v0;have g1:wr.cell? ⟨ba,Y+i,none⟩=some (Ey Eu x):=by rw[<- br.out]; exact(I.cell (p:=⟨ba,Y+i,none⟩) be).trans (HA.out i (by rw[H.out.1]; omega))
     have g2:wr.cell? ⟨bb,bi+k,none⟩=some (Ey Eu v):=by rw[<- X]; exact(I.cell (p:=⟨bb,bi+k,none⟩) ce).trans (bl k (by rw[H.out.2]; omega))
     obtain⟨o,ho⟩:∃o,(O.drop i).getD k 0=o:=⟨_,rfl⟩;have o0:=zG cg k;rw[ho]at o0
     have gU:(xs++(O.drop i).drop k).getD k 0=o:=by
      rw[<- ho];simp only[List.getD];rw[List.getElem?_append_right D5,hl,Nat.sub_self,List.getElem?_drop,Nat.add_zero]
     have g3:wr.cell? ⟨w.heap.size,i+k,none⟩=some (Ey Eu o):=by
      rw[<- gU];exact E.c _ (xu Z.out.2 (by rw[List.length_append,List.length_drop,hl]; have:=Z.out.1; omega))
     have g4:wr.frozen? ⟨w.heap.size,i+k,none⟩=false:=E.fr _;obtain⟨p,hp⟩:∃p,x*v=p:=⟨_,rfl⟩;have p0:0<=p:=by rw[<- hp]; exact Int.mul_nonneg x0.1 v0.1
     have p1:p<=18446744065119617025:=by
      rw[<- hp];have:=Int.mul_le_mul (show x<=4294967295 by omega) (show v<=4294967295 by omega) v0.1 D5;omega
     have hw:IntKind.u64.wrap (x*v)=p:=by rw[hp,wrap_u64 D5 D5]
     have HS:Hid (∀s,s=M+(p+o)->zo (xs ++ [s%4294967296])+bp (k+1)*(s / 4294967296)=zo ((O.drop i).take (k+1))+x*zo (B.take (k+1))):=
      fun s h=>Qq (s:=s) hl hv (by rw[X,ho,hp]; exact h)
     clear X ho gU hp hl N hv E I bl fB
     go_wp2
     go_roundw
     case rel=>
      have R:=HR.out;refine⟨k+1,xs ++ [(M+(p+o))%4294967296],(M+(p+o)) / 4294967296,by omega,by go_num,by go_num,by omega,by omega,by rw[List.length_append,R.1]; rfl,zZ R.2.1 D5 D5,HS.out _ rfl,?_,bh.out.setCell (p:=⟨w.heap.size,i+k,none⟩) (Eo _) _⟩;refine b9.out.bF ?_;exact qJ Z.out.2 R.1 (by have:=Z.out.1; omega) _
     case measure=>simp[intOf]; omega
    .
     have aX:k=m:=D5
     subst aX;have z2:=E.lt
     have F:Hid (zo xs+bp k*M=zo (O.drop i)+x*zo B):=by
      rw[List.take_of_length_le (by have:=Z.out.1; omega),List.take_of_length_le (by have:=H.out.2; omega)]at hv;exact hv
     have e0:xP (zI (O.take i)) (xs++(O.drop i).drop k) (List.replicate (n-i) (Value.int Eu 0))=(zI (O.take i++xs)++List.replicate (n-(i+1)+1) (Value.int Eu 0)).toArray:=by
      rw[List.drop_of_length_le (by have:=Z.out.1; omega),List.append_nil,show n-(i+1)+1=n-i by omega];simp only[xP,zI,List.map_append,List.append_assoc]
     rw[e0]at E;have T:(O.take i++xs).length=i+k:=by rw[List.length_append,hl]; have:=Z.out.2; rw[yL]at this; omega
     have g3:wr.cell? ⟨w.heap.size,i+k,none⟩=some (Ey Eu 0):=E.c _ (kr T);have g4:wr.frozen? ⟨w.heap.size,i+k,none⟩=false:=E.fr _;have ci:=E6 E;have HL:=E6 T;clear e0 T hl N hv E I b9 fB
     go_wp2
     go_roundw
     case rel=>
      refine⟨i+1,O.take i++xs ++ [M],by omega,by go_num,by rw[List.length_append,HL.out,List.length_singleton]; omega,xt.2 ⟨xt.2 ⟨yh HO.out.2.1 i,HR.out.2.1⟩,ye.2 ⟨⟨c0,c1⟩,yg⟩⟩,?_,?_,bh.out.setCell (p:=⟨w.heap.size,i+k,none⟩) (Eo _) _⟩
      .
       have t:(O.take i).length=i:=by have:=Z.out.2; rwa[yL]at this
       exact Xn t HR.out.1 (by have:=HO.out.1; omega) F.out HO.out.2.2 br.out
      .
       have:=ci.out.bF (xn (O.take i++xs) (i+k) (n-(i+1)) M HL.out)
       first | exact this | (try rw[show M%4294967296=M by omega]; exact this)
     case measure=>simp[intOf]; omega
  .
   have aX:i=n:=D5
   subst aX;clear fA fB aY J
   go_wp2
   go_returns
   have kb:=HK.out;rw[Nat.sub_self,List.replicate_zero,List.append_nil]at kb;have L:=aA.a_ kb HO.out.2.1;rw[HO.out.1]at L;refine⟨_,O,rfl,L,?_,HO.out.1,HX.out⟩;have:=HO.out.2.2;rw[List.take_of_length_le (by have:=H.out.1; omega)]at this;exact this
end
section
open Go.RowKit
variable {p q x y:Int} {i j:Nat} {r s:Rat} {v va vb:Value} {w:Ee}
theorem UP (x y:Int):zv (decide (x<0) != decide (y<0)) (zi x*zi y)=x*y:=by
 by_cases h1:x<0
 .
  by_cases h2:y<0
  .
   have e:zi x*zi y=x*y:=by
    rw[show zi x = -x by unfold zi; omega,show zi y = -y by unfold zi; omega,Int.neg_mul_neg]
   simp[h1,h2,zv,e]
  .
   have e:zi x*zi y = -(x*y):=by
    rw[show zi x = -x by unfold zi; omega,show zi y=y by unfold zi; omega,Int.neg_mul]
   simp[h1,h2,zv,e]
 .
  by_cases h2:y<0
  .
   have e:zi x*zi y = -(x*y):=by
    rw[show zi x=x by unfold zi; omega,show zi y = -y by unfold zi; omega,Int.mul_neg]
   simp[h1,h2,zv,e]
  .
   have e:zi x*zi y=x*y:=by
    rw[show zi x=x by unfold zi; omega,show zi y=y by unfold zi; omega]
   simp[h1,h2,zv,e]
theorem Cz (w:Ee) (ha:az w va x) (hb:az w vb y) (fx:fits x) (fy:fits y) :
  Ed Ec 127 #[va,vb] w fun e E=>∃v,e = Eh (Ev #[v,Ey Ew (qX (x*y))])/\az E v (xp (x*y))/\zf w E:=by
 have bo:=fun(E:Ee) (h:zf w E)=>jM E (ha.ae h) (hb.ae h) fx fy;obtain⟨aa,ca,rfl,pa⟩:=ha.parts;obtain⟨ab,cb,rfl,pb⟩:=hb.parts;unfold fits at fx fy;have nx:(zp (zi x)).length<=zP:=by unfold zP; omega
 have ny:(zp (zi y)).length<=zP:=by unfold zP; omega
 have vx:=zD (zA x);have vy:=zD (zA y);obtain⟨g,hg⟩:∃g,(decide (x<0) != decide (y<0))=g:=⟨_,rfl⟩
 have tm:∀E,zf w E->Ed Ec 158 #[Ex aa (zp (zi x)).length ca,Ex ab (zp (zi y)).length cb] E fun e w2=>∃v l,e = Eh v/\aA w2 v l/\zo l=zi x*zi y/\l.length<=zP/\zf E w2:=fun E h=>by
  refine(GW E (pa.ae h) (pb.ae h) nx ny).mono ?_;rintro e w2 ⟨v,l,rfl,h1,h2,h3,h4⟩;exact⟨v,l,rfl,h1,by rw[h2,vx,vy],by unfold zP; omega,h4⟩
 have mk:∀E s l,aA E s l->zo l=zi x*zi y->l.length<=zP->Ed Ec 139 #[Ez g,s] E fun e w2=>∃v,e = Eh (Ev #[v,Ey Ew (qX (x*y))])/\az w2 v (xp (x*y))/\zf E w2:=fun E s l h h2 h3=>by
  have:=qY g E h h3;rw[h2,<- hg,UP]at this;rw[<- hg];exact this
 obtain⟨n,hn⟩:∃n,(zp (zi x)).length=n:=⟨_,rfl⟩;obtain⟨m,hm⟩:∃m,(zp (zi y)).length=m:=⟨_,rfl⟩;rw[hn]at bo tm|-;rw[hm]at bo tm|-;obtain⟨gx,aX⟩:∃b,decide (x<0)=b:=⟨_,rfl⟩;obtain⟨gy,b9⟩:∃b,decide (y<0)=b:=⟨_,rfl⟩;rw[aX,b9]at hg bo|-;have bl:(gx==gy) = !g:=by rw[<- hg]; cases gx<;>cases gy<;>rfl
 clear ha hb pa pb hn hm aX b9 hg fx fy nx ny vx vy
 go_enter Tryz.func127,Tryz.ntmps127
 go_wp2_with fail
 refine(bo _ zh).mono ?_;rintro e w1 ⟨rfl,st⟩;have Bn:=bA w st;have J:ai w1 w.heap.size 26 #[Ez gx,Ex aa n ca]:=ai.aw st;have I:ai w1 (w.heap.size+1) 26 #[Ez gy,Ex ab m cb]:=ai.aw st;have or:ai w1 (w.heap.size+1+1) 26 #[Ez false,Ex none 0 0]:=ai.aw st;clear st;have B:=Bn;clear Bn;obtain⟨Z,N,fa,la⟩:=J.s1;obtain⟨X,M,fb,lb⟩:=I.s1;obtain⟨Y,T,fr,lr⟩:=or.s1;clear bo;go_wp2_with fail
 go_region_held3 (fun E=>E.cell? ⟨w.heap.size,0,none⟩=some (Ez gx)/\E.cell? ⟨w.heap.size,1,none⟩=some (Ex aa n ca)/\E.cell? ⟨w.heap.size+1,0,none⟩=some (Ez gy)/\E.cell? ⟨w.heap.size+1,1,none⟩=some (Ex ab m cb))
  ((refine⟨ai.c (t:=26) (cs:=#[Ez gx,Ex aa n ca]) ?_ 0 rfl,ai.c (t:=26) (cs:=#[Ez gx,Ex aa n ca]) ?_ 1 rfl,ai.c (t:=26) (cs:=#[Ez gy,Ex ab m cb]) ?_ 0 rfl,ai.c (t:=26) (cs:=#[Ez gy,Ex ab m cb]) ?_ 1 rfl⟩<;>(repeat' first | with_reducible assumption | (with_reducible refine ai.bO ?_; first | with_reducible rfl | (simp only[World.size_alloc,World.size_setCell,World.size_drew]; done)) | with_reducible refine ai.alloc ?_ _ | with_reducible refine ai.drew ?_ | with_reducible refine ai.drewN ?_ _ | with_reducible apply ai.both | with_reducible refine ai.aH ?_ ?_ | (show _≠_; omega))))
  (first
   | ((go_at_call 158; refine(tm _ zh).mono ?_; rintro e H ⟨v1,l1,rfl,be,aY,bh,a9⟩; go_must (have bi:=E6 aY; clear aY; have st:zf _ H:=a9; have Bn:=bA w st; have na:ai H w.heap.size 26 #[Ez gx,Ex aa n ca]:=ai.aw st; have nb:ai H (w.heap.size+1) 26 #[Ez gy,Ex ab m cb]:=ai.aw st; have nr:ai H (w.heap.size+1+1) 26 #[Ez false,Ex none 0 0]:=ai.aw st; clear B J I or Z N fa la X M fb lb Y T fr lr; clear st; have B:=Bn; clear Bn; have J:=na; clear na; have Z:Er H ⟨w.heap.size,0,none⟩=some (Ez gx):=J.c 0 rfl; have N:Er H ⟨w.heap.size,1,none⟩=some (Ex aa n ca):=J.c 1 rfl; have fa:=J.fr; have la:=J.lt; have I:=nb; clear nb; have X:Er H ⟨w.heap.size+1,0,none⟩=some (Ez gy):=I.c 0 rfl; have M:Er H ⟨w.heap.size+1,1,none⟩=some (Ex ab m cb):=I.c 1 rfl; have fb:=I.fr; have lb:=I.lt; have or:=nr; clear nr; have Y:Er H ⟨w.heap.size+1+1,0,none⟩=some (Ez false):=or.c 0 rfl; have T:Er H ⟨w.heap.size+1+1,1,none⟩=some (Ex none 0 0):=or.c 1 rfl; have fr:=or.fr; have lr:=or.lt)))
   | ((go_at_call 139; refine(mk _ _ l1 be bi.out bh).mono ?_; rintro e H ⟨v2,rfl,ah,a9⟩; go_must (have st:zf _ H:=a9; have Bn:=bA w st; have na:ai H w.heap.size 26 #[Ez gx,Ex aa n ca]:=ai.aw st; have nb:ai H (w.heap.size+1) 26 #[Ez gy,Ex ab m cb]:=ai.aw st; have nr:ai H (w.heap.size+1+1) 26 #[Ez false,Ex none 0 0]:=ai.aw st; clear B J I or Z N fa la X M fb lb Y T fr lr; clear st; have B:=Bn; clear Bn; have J:=na; clear na; have Z:Er H ⟨w.heap.size,0,none⟩=some (Ez gx):=J.c 0 rfl; have N:Er H ⟨w.heap.size,1,none⟩=some (Ex aa n ca):=J.c 1 rfl; have fa:=J.fr; have la:=J.lt; have I:=nb; clear nb; have X:Er H ⟨w.heap.size+1,0,none⟩=some (Ez gy):=I.c 0 rfl; have M:Er H ⟨w.heap.size+1,1,none⟩=some (Ex ab m cb):=I.c 1 rfl; have fb:=I.fr; have lb:=I.lt; have or:=nr; clear nr; have Y:Er H ⟨w.heap.size+1+1,0,none⟩=some (Ez false):=or.c 0 rfl; have T:Er H ⟨w.heap.size+1+1,1,none⟩=some (Ex none 0 0):=or.c 1 rfl; have fr:=or.fr; have lr:=or.lt; obtain⟨bb,br,n2,c2,rfl⟩:=ah.ak))))
 have bg:=E6 ah;clear ah
 go_wp2
 refine En (by simp[results,Tryz.results127,go_sem,Z,N,fa,la,X,M,fb,lb,Y,T,fr,lr]; rfl) rfl ?_;exact⟨_,rfl,bg.out.aN or,zh⟩
theorem CD (w:Ee) (ha:az w va x) (hb:az w vb y) (fx:fits x) (fy:fits y) :
  Ed Ec 171 #[va,vb] w fun e E=>∃v,e = Eh (Ev #[v,Ey Ew (qX (x+y))])/\az E v (xp (x+y))/\zf w E:=by
 have Y:=fun(E:Ee) (h:zf w E)=>jM E (ha.ae h) (hb.ae h) fx fy;have sm:=fun(E:Ee) (h:zf w E)=>WM E (ha.ae h) (hb.ae h) fx fy;obtain⟨aa,ca,rfl,pa⟩:=ha.parts;obtain⟨ab,cb,rfl,pb⟩:=hb.parts;obtain⟨n,hn⟩:∃n,(zp (zi x)).length=n:=⟨_,rfl⟩;obtain⟨m,hm⟩:∃m,(zp (zi y)).length=m:=⟨_,rfl⟩;rw[hn]at Y sm|-;rw[hm]at Y sm|-;obtain⟨gx,Z⟩:∃b,decide (x<0)=b:=⟨_,rfl⟩;obtain⟨gy,a9⟩:∃b,decide (y<0)=b:=⟨_,rfl⟩;rw[Z]at Y sm|-;rw[a9]at Y sm|-;clear ha hb pa pb hn hm Z a9 fx fy
 go_enter Tryz.func171,Tryz.ntmps171
 go_wp2_with fail
 refine(Y _ zh).mono ?_;rintro e w1 ⟨rfl,st⟩;have Bn:=bA w st;have oa:ai w1 w.heap.size 26 #[Ez gx,Ex aa n ca]:=ai.aw st;have ob:ai w1 (w.heap.size+1) 26 #[Ez gy,Ex ab m cb]:=ai.aw st;have or:ai w1 (w.heap.size+1+1) 26 #[Ez false,Ex none 0 0]:=ai.aw st;clear st;have B:=Bn;clear Bn;obtain⟨X,I,fa,la⟩:=oa.s1;obtain⟨M,H,fb,lb⟩:=ob.s1;obtain⟨T,J,fr,lr⟩:=or.s1;clear Y;go_wp2_with fail
 refine(sm _ B).mono ?_;rintro e w2 ⟨v2,rfl,N,st⟩;have Bn:=bA w st;have na:=oa.aG st;have nb:=ob.aG st;have nr:=or.aG st;clear B oa ob or X I fa la M H fb lb T J fr lr;clear st;have B:=Bn;clear Bn;have oa:=na;clear na;obtain⟨X,I,fa,la⟩:=oa.s1;have ob:=nb;clear nb;obtain⟨M,H,fb,lb⟩:=ob.s1;have or:=nr;clear nr;obtain⟨T,J,fr,lr⟩:=or.s1;clear sm;obtain⟨bb,aX,n2,c2,rfl⟩:=N.ak;have ah:=E6 N;clear N
 go_wp2
 refine En (by simp[results,Tryz.results171,go_sem,X,I,fa,la,M,H,fb,lb,T,J,fr,lr]; rfl) rfl ?_;exact⟨_,rfl,ah.out.aN or,zh⟩
theorem az.eD {ab:Option Addr} {m cb:Nat} (h:aA w (Ex ab m cb) (zp (zi y))):az w (.agg #[Ez (decide (-y<0)),Ex ab m cb]) (-y):=
 ⟨_,rfl,by rw[jO]; exact h⟩
theorem CE (w:Ee) (ha:az w va x) (hb:az w vb y) (fx:fits x) (fy:fits y) :
  Ed Ec 172 #[va,vb] w fun e E=>∃v,e = Eh (Ev #[v,Ey Ew (qX (x-y))])/\az E v (xp (x-y))/\zf w E:=by
 have J:=fun(E:Ee) (h:zf w E)=>jM E (ha.ae h) (hb.ae h) fx fy;obtain⟨aa,ca,rfl,pa⟩:=ha.parts;obtain⟨ab,cb,rfl,pb⟩:=hb.parts
 have sm:∀E v,zf w E->az E v (-y)->Ed Ec 192 #[.agg #[Ez (decide (x<0)),Ex aa (zp (zi x)).length ca],v] E fun e w2=>∃v',e = Eh (Ev #[v',Ey Ew (qX (x-y))])/\az w2 v' (xp (x-y))/\zf E w2:=fun E v h hv=>by
  have:=WM E (ha.ae h) hv fx (jN fy);rw[<- Int.sub_eq_add_neg]at this;exact this
 have y0:(zp (zi y)).length=0↔y=0:=by
  rw[List.length_eq_zero_iff,zY (zA y)];unfold zi; omega
 have H:=fun(E:Ee) (h:zf w E)=>az.eD (pb.ae h);obtain⟨n,hn⟩:∃n,(zp (zi x)).length=n:=⟨_,rfl⟩;obtain⟨m,hm⟩:∃m,(zp (zi y)).length=m:=⟨_,rfl⟩;rw[hn]at J sm|-;rw[hm]at J H y0|-;obtain⟨gx,bi⟩:∃b,decide (x<0)=b:=⟨_,rfl⟩;rw[bi]at J sm|-;clear ha hb pa pb hn hm bi fx fy
 rcases(show y<0\/y=0\/0<y by omega)with h | h | h
 focus
  have M:decide (y<0)=true:=by simp; omega
  have N:decide (-y<0)=false:=by simp; omega
  rw[M]at J|-;rw[N]at H;clear M N y0 h
  go_enter Tryz.func172,Tryz.ntmps172
  go_wp2_with fail
  refine(J _ zh).mono ?_;rintro e I ⟨rfl,Y⟩;have st:zf _ I:=Y;have X:=bA w st;have Z:ai I w.heap.size 26 #[Ez gx,Ex aa n ca]:=ai.aw st;have T:ai I (w.heap.size+1) 26 #[Ez true,Ex ab m cb]:=ai.aw st
 rotate_left
 focus
  have M:decide (y<0)=false:=by simp; omega
  have N:decide (-y<0)=false:=by simp; omega
  rw[M]at J|-;rw[N]at H;have bg:m=0:=y0.2 h;subst bg;clear M N y0 h
  go_enter Tryz.func172,Tryz.ntmps172
  go_wp2_with fail
  refine(J _ zh).mono ?_;rintro e I ⟨rfl,Y⟩;have st:zf _ I:=Y;have X:=bA w st;have Z:ai I w.heap.size 26 #[Ez gx,Ex aa n ca]:=ai.aw st;have T:ai I (w.heap.size+1) 26 #[Ez false,Ex ab 0 cb]:=ai.aw st
 rotate_left
 focus
  have M:decide (y<0)=false:=by simp; omega
  have N:decide (-y<0)=true:=by simp; omega
  rw[M]at J|-;rw[N]at H;have bg:0<m:=by rcases Nat.eq_zero_or_pos m with g | g; (have:=y0.1 g; omega); exact g
  have br:decide (0<m)=true:=E_ bg;have bt:decide (0<(m:Int))=true:=E_ D5;clear M N y0 h
  go_enter Tryz.func172,Tryz.ntmps172
  go_wp2_with fail
  refine(J _ zh).mono ?_;rintro e I ⟨rfl,st⟩;have X:=bA w st;have Z:ai I w.heap.size 26 #[Ez gx,Ex aa n ca]:=ai.aw st;have T:ai I (w.heap.size+1) 26 #[Ez false,Ex ab m cb]:=ai.aw st
 rotate_left
 all_goals
  have or:ai I (w.heap.size+1+1) 26 #[Ez false,Ex none 0 0]:=ai.aw st;clear st;have B:=X;clear X;obtain⟨bh,ah,fa,la⟩:=Z.s1;obtain⟨aY,a9,fb,lb⟩:=T.s1;obtain⟨be,aX,fr,lr⟩:=or.s1;clear J;go_wp2_with fail
  refine(sm _ _ B (H _ B)).mono ?_;rintro e w2 ⟨v2,rfl,b9,st⟩;have X:=bA w st;have na:=Z.aG st;have nb:=T.aG st;have nr:=or.aG st;clear B Z T or bh ah fa la aY a9 fb lb be aX fr lr;clear st;have B:=X;clear X;have Z:=na;clear na;obtain⟨bh,ah,fa,la⟩:=Z.s1;have T:=nb;clear nb;obtain⟨aY,a9,fb,lb⟩:=T.s1;have or:=nr;clear nr;obtain⟨be,aX,fr,lr⟩:=or.s1;clear sm H;obtain⟨bb,ce,n2,c2,rfl⟩:=b9.ak;have bl:=E6 b9;clear b9
  go_wp2
  refine En (by simp[results,Tryz.results172,go_sem,bh,ah,fa,la,aY,a9,fb,lb,be,aX,fr,lr]; rfl) rfl ?_;exact⟨_,rfl,bl.out.aN or,zh⟩
theorem bU.fit (h:bU w v p q):fits p/\fits q/\0<q:=by
 obtain⟨_,_,_,_,_,q0,_,E,H⟩:=h;exact⟨E,H,q0⟩
theorem xy (w:Ee) (J:az w va x) (N:az w vb y) (M:fits x) (I:fits y) (E:fits (x*y)) :
  Ed Ec 127 #[va,vb] w fun e H=>∃v,e = Eh (Ev #[v,Ey Ew 0])/\az H v (x*y)/\zf w H:=by
 have:=Cz w J N M I;rw[zM E,zH E]at this;exact this
theorem XE (w:Ee) (J:az w va x) (N:az w vb y) (M:fits x) (I:fits y) (E:fits (x+y)) :
  Ed Ec 171 #[va,vb] w fun e H=>∃v,e = Eh (Ev #[v,Ey Ew 0])/\az H v (x+y)/\zf w H:=by
 have:=CD w J N M I;rw[zM E,zH E]at this;exact this
theorem VS (w:Ee) (J:az w va x) (N:az w vb y) (M:fits x) (I:fits y) (E:fits (x-y)) :
  Ed Ec 172 #[va,vb] w fun e H=>∃v,e = Eh (Ev #[v,Ey Ew 0])/\az H v (x-y)/\zf w H:=by
 have:=CE w J N M I;rw[zM E,zH E]at this;exact this
theorem QZ {vc vd:Value} {z u:Int} (w:Ee) (ha:az w va x) (hb:az w vb y) (hc:az w vc z) (hd:az w vd u) (fx:fits x) (fy:fits y) (fz:fits z) (fu:fits u) (f1:fits (x*y)) (f2:fits (z*u)) (h0:z*u≠0) :
  Ed Ec 153 #[va,vb,vc,vd] w fun e E=>∃v,e = Eh (Ev #[v,Ey Ew 0])/\bU E v (Yg (x*y) (z*u)) (ZH (x*y) (z*u))/\zf w E:=by
 have m1:=fun(E:Ee) (h:zf w E)=>xy E (ha.ae h) (hb.ae h) fx fy f1;have m2:=fun(E:Ee) (h:zf w E)=>xy E (hc.ae h) (hd.ae h) fz fu f2;have rd:∀E v1 v2,az E v1 (x*y)->az E v2 (z*u)->Ed Ec 138 #[v1,v2] E fun e w2=>∃v,e = Eh v/\bU w2 v (Yg (x*y) (z*u)) (ZH (x*y) (z*u))/\zf E w2:=fun E v1 v2 h1 h2=>Zg E h1 h2 f1 f2 h0;obtain⟨X,hX⟩:∃X,x*y=X:=⟨_,rfl⟩;obtain⟨Y,hY⟩:∃Y,z*u=Y:=⟨_,rfl⟩;rw[hX]at m1 rd|-;rw[hY]at m2 rd|-;obtain⟨ga,sa,ja,ea,rfl⟩:=ha.ak;obtain⟨gb,sb,jb,eb,rfl⟩:=hb.ak;obtain⟨gc,sc,jc,ec,rfl⟩:=hc.ak;obtain⟨gd,sd,jd,ed,rfl⟩:=hd.ak;clear ha hb hc hd fx fy fz fu f1 f2 h0 hX hY
 go_enter Tryz.func153,Tryz.ntmps153
 go_wp2_with fail
 refine(m1 _ zh).mono ?_;rintro e w1 ⟨v1,rfl,bg,st⟩;have Bn:=bA w st;have oa:ai w1 w.heap.size 26 #[Ez ga,Ex sa ja ea]:=ai.aw st;have ob:ai w1 (w.heap.size+1) 26 #[Ez gb,Ex sb jb eb]:=ai.aw st;have oc:ai w1 (w.heap.size+1+1) 26 #[Ez gc,Ex sc jc ec]:=ai.aw st;have od:ai w1 (w.heap.size+1+1+1) 26 #[Ez gd,Ex sd jd ed]:=ai.aw st;have or:ai w1 (w.heap.size+1+1+1+1) 28 jp:=ai.aw st;clear st;have B:=Bn;clear Bn;obtain⟨b9,J,fa,la⟩:=oa.s1;obtain⟨aY,a9,fb,lb⟩:=ob.s1;obtain⟨N,M,fc,lc⟩:=oc.s1;obtain⟨H,T,fd,ld⟩:=od.s1;obtain⟨ah,aX,Z,I,fr,lr⟩:=or.s3;clear m1;obtain⟨g1,s1,k1,c1,rfl⟩:=bg.ak;have N1:=E6 bg;clear bg;have z1:w.heap.size+1+1+1+1<w1.heap.size:=or.lt;go_wp2_with fail
 refine(m2 _ zh).mono ?_;rintro e w2 ⟨v2,rfl,bh,br⟩;have st:zf _ w2:=br;have Bn:=bA w st;have na:=oa.aG st;have nb:=ob.aG st;have nc:=oc.aG st;have nd:=od.aG st;have nr:=or.aG st;have ox:ai w2 w1.heap.size 26 #[Ez g1,Ex s1 k1 c1]:=ai.aw st;clear B oa ob oc od or b9 J fa la aY a9 fb lb N M fc lc H T fd ld ah aX Z I fr lr;clear st;have B:=Bn;clear Bn;have oa:=na;clear na;obtain⟨b9,J,fa,la⟩:=oa.s1;have ob:=nb;clear nb;obtain⟨aY,a9,fb,lb⟩:=ob.s1;have oc:=nc;clear nc;obtain⟨N,M,fc,lc⟩:=oc.s1;have od:=nd;clear nd;obtain⟨H,T,fd,ld⟩:=od.s1;have or:=nr;clear nr;obtain⟨ah,aX,Z,I,fr,lr⟩:=or.s3;obtain⟨bi,be,fx,lx⟩:=ox.s1;clear m2;obtain⟨g2,s2,k2,c2,rfl⟩:=bh.ak;have N2:=E6 bh;clear bh;have bl:=E6 ((N1.out.aK (.cells #[Ez g1,Ex s1 k1 c1] 26)).ae br);clear N1;have z2:w1.heap.size<w2.heap.size:=ox.lt;go_wp2_with fail
 refine(rd _ _ _ (bl.out.aK _) (N2.out.aK _)).mono ?_;rintro e w3 ⟨v3,rfl,hf,st⟩;have Bn:=bA w st;have na:=oa.aG st;have nb:=ob.aG st;have nc:=oc.aG st;have nd:=od.aG st;have nr:=or.aG st;have nx:=ox.aG st;have oy:ai w3 w2.heap.size 26 #[Ez g2,Ex s2 k2 c2]:=ai.aw st;clear B oa ob oc od or ox b9 J fa la aY a9 fb lb N M fc lc H T fd ld ah aX Z I fr lr bi be fx lx;clear st;have B:=Bn;clear Bn;have oa:=na;clear na;obtain⟨b9,J,fa,la⟩:=oa.s1;have ob:=nb;clear nb;obtain⟨aY,a9,fb,lb⟩:=ob.s1;have oc:=nc;clear nc;obtain⟨N,M,fc,lc⟩:=oc.s1;have od:=nd;clear nd;obtain⟨H,T,fd,ld⟩:=od.s1;have or:=nr;clear nr;obtain⟨ah,aX,Z,I,fr,lr⟩:=or.s3;have ox:=nx;clear nx;obtain⟨bi,be,fx,lx⟩:=ox.s1;obtain⟨ce,bt,fy,ly⟩:=oy.s1;clear rd bl N2;obtain⟨h1,h2,h3,h4,h5,h6,h7,h8,rfl⟩:=hf.ak;have HF:=E6 hf;clear hf;dsimp only; repeat' (first | go_values | go_skip | go_guarded | go_step | go_upon)
 refine En (by simp[results,Tryz.results153,go_sem,b9,J,fa,la,aY,a9,fb,lb,N,M,fc,lc,H,T,fd,ld,ah,aX,Z,I,fr,lr,bi,be,fx,lx,ce,bt,fy,ly]; rfl) rfl ?_;exact⟨_,rfl,HF.out.only or rfl ((bK.refl _ _).set.set.set.set),zh⟩
theorem Q7 (w:Ee) (ha:bU w va p q) (hb:bU w vb x y) (f1:fits (p*y)) (f2:fits (x*q)) (f3:fits (q*y)) (f4:fits (p*y+x*q)) (f5:fits (p*y-x*q)) :
  Ed Ec 140 #[va,vb,Ez false] w fun e E=>∃v,e = Eh (Ev #[v,Ey Ew 0])/\bU E v (Yg (p*y+x*q) (q*y)) (ZH (p*y+x*q) (q*y))/\zf w E:=by
 have fa:=ha.fit;have fb:=hb.fit;obtain⟨ap,np,cp,aq,nq,cq,rfl,hp,hq⟩:=ha.bW;obtain⟨dP,mp,dp,bq,mq,dq,rfl,kp,kq⟩:=hb.bW;have m1:=fun(E:Ee) (h:zf w E)=>xy E (hp.ae h) (kq.ae h) fa.1 fb.2.1 f1;have m2:=fun(E:Ee) (h:zf w E)=>xy E (kp.ae h) (hq.ae h) fb.1 fa.2.1 f2;have m3:=fun(E:Ee) (h:zf w E)=>xy E (hq.ae h) (kq.ae h) fa.2.1 fb.2.1 f3;have h0:q*y≠0:=by have:=Int.mul_pos fa.2.2 fb.2.2; omega
 obtain⟨dx,cN⟩:∃b,decide (p<0)=b:=⟨_,rfl⟩;obtain⟨ek,dl⟩:∃b,decide (x<0)=b:=⟨_,rfl⟩;rw[cN]at m1|-;rw[dl]at m2|-;obtain⟨X,hX⟩:∃X,p*y=X:=⟨_,rfl⟩;obtain⟨Y,hY⟩:∃Y,x*q=Y:=⟨_,rfl⟩;obtain⟨Z,hZ⟩:∃Z,q*y=Z:=⟨_,rfl⟩;rw[hX]at f1 f4 f5 m1|-;rw[hY]at f2 f4 f5 m2|-;rw[hZ]at f3 h0 m3|-;have ad:∀E v1 v2,az E v1 X->az E v2 Y->Ed Ec 171 #[v1,v2] E fun e w2=>∃v,e = Eh (Ev #[v,Ey Ew 0])/\az w2 v (X+Y)/\zf E w2:=fun E v1 v2 h1 h2=>XE E h1 h2 f1 f2 f4;have rd:∀E v1 v2,az E v1 (X+Y)->az E v2 Z->Ed Ec 138 #[v1,v2] E fun e w2=>∃v,e = Eh v/\bU w2 v (Yg (X+Y) Z) (ZH (X+Y) Z)/\zf E w2:=fun E v1 v2 h1 h2=>Zg E h1 h2 f4 f3 h0;clear hp hq kp kq fa fb ha hb f1 f2 f3 f4 f5 h0 hX hY hZ cN dl
 go_enter Tryz.func140,Tryz.ntmps140
 go_wp2_with fail
 refine(m1 _ zh).mono ?_;rintro e w1 ⟨v1,rfl,ce,st⟩;have Bn:=bA w st;have oa:ai w1 w.heap.size 28 #[Ez dx,Ex ap np cp,Ez false,Ex aq nq cq]:=ai.aw st;have ob:ai w1 (w.heap.size+1) 28 #[Ez ek,Ex dP mp dp,Ez false,Ex bq mq dq]:=ai.aw st;have or:ai w1 (w.heap.size+1+1) 28 jp:=ai.aw st;clear st;have B:=Bn;clear Bn;obtain⟨be,J,T,H,fa,la⟩:=oa.s3;obtain⟨b9,N,aX,a9,fb,lb⟩:=ob.s3;obtain⟨ah,aY,M,I,fr,lr⟩:=or.s3;clear m1;obtain⟨gx,sx,kx,ex,rfl⟩:=ce.ak;have Nx:=E6 ce;clear ce;have zx:w.heap.size+1+1<w1.heap.size:=or.lt;go_wp2_with fail
 refine(m2 _ zh).mono ?_;rintro e w2 ⟨v2,rfl,bt,dc⟩;have st:zf _ w2:=dc;have Bn:=bA w st;have na:=oa.aG st;have nb:=ob.aG st;have nr:=or.aG st;have ox:ai w2 w1.heap.size 26 #[Ez gx,Ex sx kx ex]:=ai.aw st;clear B oa ob or be J T H fa la b9 N aX a9 fb lb ah aY M I fr lr;clear st;have B:=Bn;clear Bn;have oa:=na;clear na;obtain⟨be,J,T,H,fa,la⟩:=oa.s3;have ob:=nb;clear nb;obtain⟨b9,N,aX,a9,fb,lb⟩:=ob.s3;have or:=nr;clear nr;obtain⟨ah,aY,M,I,fr,lr⟩:=or.s3;obtain⟨bh,bg,fx,lx⟩:=ox.s1;clear m2;have dk:=E6 ((Nx.out.aK (.cells #[Ez gx,Ex sx kx ex] 26)).ae dc);clear Nx;obtain⟨gy,sy,ky,ey,rfl⟩:=bt.ak;have Ny:=E6 bt;clear bt;have zy:w1.heap.size<w2.heap.size:=ox.lt;go_wp2_with fail
 refine(m3 _ zh).mono ?_;rintro e w3 ⟨v3,rfl,ci,co⟩;have st:zf _ w3:=co;have Bn:=bA w st;have na:=oa.aG st;have nb:=ob.aG st;have nr:=or.aG st;have nx:=ox.aG st;have oy:ai w3 w2.heap.size 26 #[Ez gy,Ex sy ky ey]:=ai.aw st;clear B oa ob or ox be J T H fa la b9 N aX a9 fb lb ah aY M I fr lr bh bg fx lx;clear st;have B:=Bn;clear Bn;have oa:=na;clear na;obtain⟨be,J,T,H,fa,la⟩:=oa.s3;have ob:=nb;clear nb;obtain⟨b9,N,aX,a9,fb,lb⟩:=ob.s3;have or:=nr;clear nr;obtain⟨ah,aY,M,I,fr,lr⟩:=or.s3;have ox:=nx;clear nx;obtain⟨bh,bg,fx,lx⟩:=ox.s1;obtain⟨bl,bi,fy,ly⟩:=oy.s1;clear m3;have d9:=E6 ((dk.out.aK (.cells #[Ez gy,Ex sy ky ey] 26)).ae co);have cy:=E6 ((Ny.out.aK (.cells #[Ez gy,Ex sy ky ey] 26)).ae co);clear dk Ny;obtain⟨gd,sd,kd,ed,rfl⟩:=ci.ak;have Nd:=E6 ci;clear ci;have zd:w2.heap.size<w3.heap.size:=oy.lt;go_wp2_with fail
 refine(ad _ _ _ (d9.out.aK _) (cy.out.aK _)).mono ?_;rintro e w4 ⟨v4,rfl,cn,cx⟩;have st:zf _ w4:=cx;have Bn:=bA w st;have na:=oa.aG st;have nb:=ob.aG st;have nr:=or.aG st;have nx:=ox.aG st;have ny:=oy.aG st;have od:ai w4 w3.heap.size 26 #[Ez gd,Ex sd kd ed]:=ai.aw st;clear B oa ob or ox oy be J T H fa la b9 N aX a9 fb lb ah aY M I fr lr bh bg fx lx bl bi fy ly;clear st;have B:=Bn;clear Bn;have oa:=na;clear na;obtain⟨be,J,T,H,fa,la⟩:=oa.s3;have ob:=nb;clear nb;obtain⟨b9,N,aX,a9,fb,lb⟩:=ob.s3;have or:=nr;clear nr;obtain⟨ah,aY,M,I,fr,lr⟩:=or.s3;have ox:=nx;clear nx;obtain⟨bh,bg,fx,lx⟩:=ox.s1;have oy:=ny;clear ny;obtain⟨bl,bi,fy,ly⟩:=oy.s1;obtain⟨br,cg,fd,ld⟩:=od.s1;clear ad;have cU:=E6 ((Nd.out.aK (.cells #[Ez gd,Ex sd kd ed] 26)).ae cx);clear Nd;clear d9 cy;obtain⟨gn,sn,kn,en,rfl⟩:=cn.ak;have Nn:=E6 cn;clear cn;have zn:w3.heap.size<w4.heap.size:=od.lt;go_wp2_with fail
 refine(rd _ _ _ (Nn.out.aK _) (cU.out.aK _)).mono ?_;rintro e w5 ⟨v6,rfl,hf,st⟩;have Bn:=bA w st;have na:=oa.aG st;have nb:=ob.aG st;have nr:=or.aG st;have nx:=ox.aG st;have ny:=oy.aG st;have nd:=od.aG st;have on:ai w5 w4.heap.size 26 #[Ez gn,Ex sn kn en]:=ai.aw st;clear B oa ob or ox oy od be J T H fa la b9 N aX a9 fb lb ah aY M I fr lr bh bg fx lx bl bi fy ly br cg fd ld;clear st;have B:=Bn;clear Bn;have oa:=na;clear na;obtain⟨be,J,T,H,fa,la⟩:=oa.s3;have ob:=nb;clear nb;obtain⟨b9,N,aX,a9,fb,lb⟩:=ob.s3;have or:=nr;clear nr;obtain⟨ah,aY,M,I,fr,lr⟩:=or.s3;have ox:=nx;clear nx;obtain⟨bh,bg,fx,lx⟩:=ox.s1;have oy:=ny;clear ny;obtain⟨bl,bi,fy,ly⟩:=oy.s1;have od:=nd;clear nd;obtain⟨br,cg,fd,ld⟩:=od.s1;obtain⟨dy,dz,fn,ln⟩:=on.s1;clear rd Nn cU;obtain⟨h1,h2,h3,h4,h5,h6,h7,h8,rfl⟩:=hf.ak;have HF:=E6 hf;clear hf;dsimp only; repeat' (first | go_values | go_skip | go_guarded | go_step | go_upon)
 refine En (by simp[results,Tryz.results140,go_sem,be,J,T,H,fa,la,b9,N,aX,a9,fb,lb,ah,aY,M,I,fr,lr,bh,bg,fx,lx,bl,bi,fy,ly,br,cg,fd,ld,dy,dz,fn,ln]; rfl) rfl ?_;exact⟨_,rfl,HF.out.only or rfl ((bK.refl _ _).set.set.set.set),zh⟩
theorem Q8 (w:Ee) (ha:bU w va p q) (hb:bU w vb x y) (f1:fits (p*y)) (f2:fits (x*q)) (f3:fits (q*y)) (f4:fits (p*y+x*q)) (f5:fits (p*y-x*q)) :
  Ed Ec 140 #[va,vb,Ez true] w fun e E=>∃v,e = Eh (Ev #[v,Ey Ew 0])/\bU E v (Yg (p*y-x*q) (q*y)) (ZH (p*y-x*q) (q*y))/\zf w E:=by
 have fa:=ha.fit;have fb:=hb.fit;obtain⟨ap,np,cp,aq,nq,cq,rfl,hp,hq⟩:=ha.bW;obtain⟨f7,mp,dp,bq,mq,dq,rfl,kp,kq⟩:=hb.bW;have m1:=fun(E:Ee) (h:zf w E)=>xy E (hp.ae h) (kq.ae h) fa.1 fb.2.1 f1;have m2:=fun(E:Ee) (h:zf w E)=>xy E (kp.ae h) (hq.ae h) fb.1 fa.2.1 f2;have m3:=fun(E:Ee) (h:zf w E)=>xy E (hq.ae h) (kq.ae h) fa.2.1 fb.2.1 f3;have h0:q*y≠0:=by have:=Int.mul_pos fa.2.2 fb.2.2; omega
 obtain⟨eW,dx⟩:∃b,decide (p<0)=b:=⟨_,rfl⟩;obtain⟨f9,er⟩:∃b,decide (x<0)=b:=⟨_,rfl⟩;rw[dx]at m1|-;rw[er]at m2|-;obtain⟨X,hX⟩:∃X,p*y=X:=⟨_,rfl⟩;obtain⟨Y,hY⟩:∃Y,x*q=Y:=⟨_,rfl⟩;obtain⟨Z,hZ⟩:∃Z,q*y=Z:=⟨_,rfl⟩;rw[hX]at f1 f4 f5 m1|-;rw[hY]at f2 f4 f5 m2|-;rw[hZ]at f3 h0 m3|-;have ad:∀E v1 v2,az E v1 X->az E v2 Y->Ed Ec 171 #[v1,v2] E fun e w2=>∃v,e = Eh (Ev #[v,Ey Ew 0])/\az w2 v (X+Y)/\zf E w2:=fun E v1 v2 h1 h2=>XE E h1 h2 f1 f2 f4;have sb:∀E v1 v2,az E v1 X->az E v2 Y->Ed Ec 172 #[v1,v2] E fun e w2=>∃v,e = Eh (Ev #[v,Ey Ew 0])/\az w2 v (X-Y)/\zf E w2:=fun E v1 v2 h1 h2=>VS E h1 h2 f1 f2 f5;have rd:∀E v1 v2,az E v1 (X-Y)->az E v2 Z->Ed Ec 138 #[v1,v2] E fun e w2=>∃v,e = Eh v/\bU w2 v (Yg (X-Y) Z) (ZH (X-Y) Z)/\zf E w2:=fun E v1 v2 h1 h2=>Zg E h1 h2 f5 f3 h0;clear hp hq kp kq fa fb ha hb f1 f2 f3 f4 f5 h0 hX hY hZ dx er
 go_enter Tryz.func140,Tryz.ntmps140
 go_wp2_with fail
 refine(m1 _ zh).mono ?_;rintro e w1 ⟨v1,rfl,co,st⟩;have Bn:=bA w st;have oa:ai w1 w.heap.size 28 #[Ez eW,Ex ap np cp,Ez false,Ex aq nq cq]:=ai.aw st;have ob:ai w1 (w.heap.size+1) 28 #[Ez f9,Ex f7 mp dp,Ez false,Ex bq mq dq]:=ai.aw st;have or:ai w1 (w.heap.size+1+1) 28 jp:=ai.aw st;clear st;have B:=Bn;clear Bn;obtain⟨be,J,T,H,fa,la⟩:=oa.s3;obtain⟨b9,N,aX,a9,fb,lb⟩:=ob.s3;obtain⟨ah,aY,M,I,fr,lr⟩:=or.s3;clear m1;obtain⟨gx,sx,kx,ex,rfl⟩:=co.ak;have Nx:=E6 co;clear co;have zx:w.heap.size+1+1<w1.heap.size:=or.lt;go_wp2_with fail
 refine(m2 _ zh).mono ?_;rintro e w2 ⟨v2,rfl,cn,dz⟩;have st:zf _ w2:=dz;have Bn:=bA w st;have na:=oa.aG st;have nb:=ob.aG st;have nr:=or.aG st;have ox:ai w2 w1.heap.size 26 #[Ez gx,Ex sx kx ex]:=ai.aw st;clear B oa ob or be J T H fa la b9 N aX a9 fb lb ah aY M I fr lr;clear st;have B:=Bn;clear Bn;have oa:=na;clear na;obtain⟨be,J,T,H,fa,la⟩:=oa.s3;have ob:=nb;clear nb;obtain⟨b9,N,aX,a9,fb,lb⟩:=ob.s3;have or:=nr;clear nr;obtain⟨ah,aY,M,I,fr,lr⟩:=or.s3;obtain⟨bh,bg,fx,lx⟩:=ox.s1;clear m2;have ek:=E6 ((Nx.out.aK (.cells #[Ez gx,Ex sx kx ex] 26)).ae dz);clear Nx;obtain⟨gy,sy,ky,ey,rfl⟩:=cn.ak;have Ny:=E6 cn;clear cn;have zy:w1.heap.size<w2.heap.size:=ox.lt;go_wp2_with fail
 refine(m3 _ zh).mono ?_;rintro e w3 ⟨v3,rfl,cy,d9⟩;have st:zf _ w3:=d9;have Bn:=bA w st;have na:=oa.aG st;have nb:=ob.aG st;have nr:=or.aG st;have nx:=ox.aG st;have oy:ai w3 w2.heap.size 26 #[Ez gy,Ex sy ky ey]:=ai.aw st;clear B oa ob or ox be J T H fa la b9 N aX a9 fb lb ah aY M I fr lr bh bg fx lx;clear st;have B:=Bn;clear Bn;have oa:=na;clear na;obtain⟨be,J,T,H,fa,la⟩:=oa.s3;have ob:=nb;clear nb;obtain⟨b9,N,aX,a9,fb,lb⟩:=ob.s3;have or:=nr;clear nr;obtain⟨ah,aY,M,I,fr,lr⟩:=or.s3;have ox:=nx;clear nx;obtain⟨bh,bg,fx,lx⟩:=ox.s1;obtain⟨bl,bi,fy,ly⟩:=oy.s1;clear m3;have cU:=E6 ((ek.out.aK (.cells #[Ez gy,Ex sy ky ey] 26)).ae d9);have cx:=E6 ((Ny.out.aK (.cells #[Ez gy,Ex sy ky ey] 26)).ae d9);clear ek Ny;obtain⟨gd,sd,kd,ed,rfl⟩:=cy.ak;have Nd:=E6 cy;clear cy;have zd:w2.heap.size<w3.heap.size:=oy.lt;go_wp2_with fail
 refine(ad _ _ _ (cU.out.aK _) (cx.out.aK _)).mono ?_;rintro e w4 ⟨v4,rfl,cN,ce⟩;have st:zf _ w4:=ce;have Bn:=bA w st;have na:=oa.aG st;have nb:=ob.aG st;have nr:=or.aG st;have nx:=ox.aG st;have ny:=oy.aG st;have od:ai w4 w3.heap.size 26 #[Ez gd,Ex sd kd ed]:=ai.aw st;clear B oa ob or ox oy be J T H fa la b9 N aX a9 fb lb ah aY M I fr lr bh bg fx lx bl bi fy ly;clear st;have B:=Bn;clear Bn;have oa:=na;clear na;obtain⟨be,J,T,H,fa,la⟩:=oa.s3;have ob:=nb;clear nb;obtain⟨b9,N,aX,a9,fb,lb⟩:=ob.s3;have or:=nr;clear nr;obtain⟨ah,aY,M,I,fr,lr⟩:=or.s3;have ox:=nx;clear nx;obtain⟨bh,bg,fx,lx⟩:=ox.s1;have oy:=ny;clear ny;obtain⟨bl,bi,fy,ly⟩:=oy.s1;obtain⟨br,bt,fd,ld⟩:=od.s1;clear ad;have dy:=E6 ((Nd.out.aK (.cells #[Ez gd,Ex sd kd ed] 26)).ae ce);clear Nd;have dl:=E6 ((cU.out.aK (.cells #[Ez gd,Ex sd kd ed] 26)).ae ce);have dP:=E6 ((cx.out.aK (.cells #[Ez gd,Ex sd kd ed] 26)).ae ce);clear cU cx;obtain⟨gn,sn,kn,en,rfl⟩:=cN.ak;have Nn:=E6 cN;clear cN;have zn:w3.heap.size<w4.heap.size:=od.lt;go_wp2_with fail
 refine(sb _ _ _ (dl.out.aK _) (dP.out.aK _)).mono ?_;rintro e w5 ⟨v5,rfl,dc,eM⟩;have st:zf _ w5:=eM;have Bn:=bA w st;have na:=oa.aG st;have nb:=ob.aG st;have nr:=or.aG st;have nx:=ox.aG st;have ny:=oy.aG st;have nd:=od.aG st;have on:ai w5 w4.heap.size 26 #[Ez gn,Ex sn kn en]:=ai.aw st;clear B oa ob or ox oy od be J T H fa la b9 N aX a9 fb lb ah aY M I fr lr bh bg fx lx bl bi fy ly br bt fd ld;clear st;have B:=Bn;clear Bn;have oa:=na;clear na;obtain⟨be,J,T,H,fa,la⟩:=oa.s3;have ob:=nb;clear nb;obtain⟨b9,N,aX,a9,fb,lb⟩:=ob.s3;have or:=nr;clear nr;obtain⟨ah,aY,M,I,fr,lr⟩:=or.s3;have ox:=nx;clear nx;obtain⟨bh,bg,fx,lx⟩:=ox.s1;have oy:=ny;clear ny;obtain⟨bl,bi,fy,ly⟩:=oy.s1;have od:=nd;clear nd;obtain⟨br,bt,fd,ld⟩:=od.s1;obtain⟨cg,ci,fn,ln⟩:=on.s1;clear sb dl dP;obtain⟨gm,sm,km,em,rfl⟩:=dc.ak;have Nm:=E6 dc;clear dc;have dk:=on;have f8:=E6 ((dy.out.aK (.cells #[Ez gn,Ex sn kn en] 26)).ae eM);clear dy Nn;go_wp2_with fail
 refine(rd _ _ _ (Nm.out.aN dk) (f8.out.aN dk)).mono ?_;rintro e w6 ⟨v6,rfl,hf,st⟩;have Bn:=bA w st;have na:=oa.aG st;have nb:=ob.aG st;have nr:=or.aG st;have nx:=ox.aG st;have ny:=oy.aG st;have nd:=od.aG st;replace on:ai w6 w4.heap.size 26 #[Ez gm,Ex sm km em]:=ai.aw st;clear B oa ob or ox oy od be J T H fa la b9 N aX a9 fb lb ah aY M I fr lr bh bg fx lx bl bi fy ly br bt fd ld cg ci fn ln;clear st;have B:=Bn;clear Bn;have oa:=na;clear na;obtain⟨be,J,T,H,fa,la⟩:=oa.s3;have ob:=nb;clear nb;obtain⟨b9,N,aX,a9,fb,lb⟩:=ob.s3;have or:=nr;clear nr;obtain⟨ah,aY,M,I,fr,lr⟩:=or.s3;have ox:=nx;clear nx;obtain⟨bh,bg,fx,lx⟩:=ox.s1;have oy:=ny;clear ny;obtain⟨bl,bi,fy,ly⟩:=oy.s1;have od:=nd;clear nd;obtain⟨br,bt,fd,ld⟩:=od.s1;obtain⟨cg,ci,fn,ln⟩:=on.s1;clear rd;obtain⟨h1,h2,h3,h4,h5,h6,h7,h8,rfl⟩:=hf.ak;have HF:=E6 hf;clear hf;dsimp only; repeat' (first | go_values | go_skip | go_guarded | go_step | go_upon)
 refine En (by simp[results,Tryz.results140,go_sem,be,J,T,H,fa,la,b9,N,aX,a9,fb,lb,ah,aY,M,I,fr,lr,bh,bg,fx,lx,bl,bi,fy,ly,br,bt,fd,ld,cg,ci,fn,ln]; rfl) rfl ?_;exact⟨_,rfl,HF.out.only or rfl ((bK.refl _ _).set.set.set.set),zh⟩
def eJ (w:Ee) (v:Value):Prop:=∃gx H gy E la lb,v = .agg #[Ez gx,H,Ez gy,E]/\aA w H la/\aA w E lb/\¬xH gx la gy lb
theorem eJ.af {E:Ee} (h:eJ w v) (k:av w E):eJ E v:=by
 obtain⟨gx,I,gy,H,la,lb,e,M,J,hv⟩:=h;exact⟨gx,I,gy,H,la,lb,e,k _ _ M,k _ _ J,hv⟩
theorem eJ.ak (h:eJ w v):∃a s n c b t m d,v = .agg #[Ez a,Ex s n c,Ez b,Ex t m d]:=by
 obtain⟨gx,J,gy,I,la,lb,e,H,E,hv⟩:=h;obtain⟨s,c,rfl⟩:=H.ak;obtain⟨t,d,rfl⟩:=E.ak;exact⟨_,_,_,_,_,_,_,_,e⟩
theorem VT {gx gy:Bool} {I H:Value} {la lb:List Int} (E:aA w I la) (J:aA w H lb):(∃r,FR w (.agg #[Ez gx,I,Ez gy,H]) r/\zi r.num<=bp la.length/\(r.den:Int)<=bp lb.length)\/eJ w (.agg #[Ez gx,I,Ez gy,H]):=by
 by_cases h:xH gx la gy lb
 .
  left
  obtain⟨r,T,M,N⟩:=(bU.eG E J h).fr;have Y:=yS E.ok;have X:=yS J.ok;refine⟨r,N,?_,by rw[M]; omega⟩;rw[T,xV gx (zE E.ok)]; omega
 . right; exact⟨gx,I,gy,H,la,lb,rfl,E,J,h⟩
theorem ZK (w:Ee) (h:FR w v r):Ed Ec 86 #[v] w fun e E=>e = Eh (Ey Ew 0)/\zf w E:=JV w h
theorem Q9 (w:Ee) (h:eJ w v):Ed Ec 86 #[v] w fun e I=>e = Eh (Ey Ew 8)/\zf w I:=by
 obtain⟨gx,M,gy,J,la,lb,rfl,H,E,hv⟩:=h;have:=KJ gx gy w H E;rw[Ze,E9 hv]at this;exact this
theorem kI (w:Ee) (ha:FR w va r) (hb:FR w vb s) :
  Ed Ec 126 #[va,vb] w fun e w'=>e = Eh (Ey Ew 0)/\zf w w':=by
 obtain⟨a1,a2,a3,a4,a5,a6,a7,a8,rfl⟩:=ha.ak;obtain⟨b1,b2,b3,b4,b5,b6,b7,b8,rfl⟩:=hb.ak;have M:=E6 ha;clear ha;have X:=E6 hb;clear hb
 go_enter Tryz.func126,Tryz.ntmps126
 go_wp2_with fail
 refine(ZK _ (M.out.af zj)).mono ?_;rintro e w1 ⟨rfl,st⟩;have J:=bA w st;have E:=kB w st;have Y:ai w1 w.heap.size 28 #[Ez a1,Ex a2 a3 a4,Ez a5,Ex a6 a7 a8]:=ai.au st;have I:ai w1 (w.heap.size+1) 28 #[Ez b1,Ex b2 b3 b4,Ez b5,Ex b6 b7 b8]:=ai.au st;clear st;have B:=J;clear J;replace M:=E6 (M.out.af E);replace X:=E6 (X.out.af E);clear E;obtain⟨aY,ah,a9,N,fa,la⟩:=Y.s3;obtain⟨aX,Z,H,T,fb,lb⟩:=I.s3;go_wp2_with fail
 refine(ZK _ (X.out.af zj)).mono ?_;rintro e w2 ⟨rfl,st⟩;have J:=bA w st;have E:=kB w1 st;have na:=Y.dm st;have nb:=I.dm st;clear B Y I aY ah a9 N fa la aX Z H T fb lb;clear st;have B:=J;clear J;replace M:=E6 (M.out.af E);replace X:=E6 (X.out.af E);clear E;have Y:=na;clear na;obtain⟨aY,ah,a9,N,fa,la⟩:=Y.s3;have I:=nb;clear nb;obtain⟨aX,Z,H,T,fb,lb⟩:=I.s3
 go_wp2
 go_returns
 exact⟨rfl,zh⟩
theorem Bz (w:Ee) (ha:FR w va r) (hb:FR w vb s) (hr:sz r i) (hs:sz s j) (hk:i+j<=4095) :
  Ed Ec 121 #[va,vb] w fun e E=>∃v,e = Eh (Ev #[v,Ey Ew 0])/\FR E v (r*s)/\zf w E:=by
 have T:=ha.fit;have fb:=hb.fit;have bo:=fun(E:Ee) (h:zf w E)=>kI E (ha.ae h) (hb.ae h);obtain⟨a2,a3,a4,a6,a7,a8,rfl,na,da,-⟩:=ha.bW;obtain⟨b2,b3,b4,b6,b7,b8,rfl,bg,db,-⟩:=hb.bW;have d1:zi (r.den:Int)<=bp i:=by rw[xv]; exact hr.2
 have d2:zi (s.den:Int)<=bp j:=by rw[xv]; exact hs.2
 have g1:=z9 (yj hr.1 hs.1) hk;have g2:=z9 (yj d1 d2) hk
 have pr:∀E,zf w E->Ed Ec 153 #[.agg #[Ez (decide (r<0)),Ex a2 a3 a4],.agg #[Ez (decide (s<0)),Ex b2 b3 b4],.agg #[Ez false,Ex a6 a7 a8],.agg #[Ez false,Ex b6 b7 b8]] E fun e w2=>∃v,e = Eh (Ev #[v,Ey Ew 0])/\FR w2 v (r*s)/\zf E w2:=fun E h=>by
  refine(QZ E (na.ae h) (bg.ae h) (da.ae h) (db.ae h) T.1 fb.1 T.2 fb.2 g1 g2 (qM r s)).mono ?_;rintro e w2 ⟨v,rfl,h1,h2⟩;have h3:=FR.dK (qM r s) h1;rw[YE]at h3;exact⟨v,rfl,h3,h2⟩
 obtain⟨ga,bh⟩:∃g,decide (r<0)=g:=⟨_,rfl⟩;obtain⟨gb,be⟩:∃g,decide (s<0)=g:=⟨_,rfl⟩;rw[bh,be]at pr bo|-;clear bh be na da bg db d1 d2 g1 g2 T fb ha hb hr hs hk
 go_enter Tryz.func121,Tryz.ntmps121
 go_wp2_with fail
 refine(bo _ zh).mono ?_;rintro e w1 ⟨rfl,st⟩;have Bn:=bA w st;have oa:ai w1 w.heap.size 28 #[Ez ga,Ex a2 a3 a4,Ez false,Ex a6 a7 a8]:=ai.au st;have ob:ai w1 (w.heap.size+1) 28 #[Ez gb,Ex b2 b3 b4,Ez false,Ex b6 b7 b8]:=ai.au st;have or:ai w1 (w.heap.size+1+1) 28 jp:=ai.au st;clear st;have B:=Bn;clear Bn;obtain⟨b9,a9,Y,I,T,la⟩:=oa.s3;obtain⟨aX,X,H,J,fb,lb⟩:=ob.s3;obtain⟨aY,ah,M,N,fr,lr⟩:=or.s3;clear bo;go_wp2_with fail
 refine(pr _ B).mono ?_;rintro e w2 ⟨vq,rfl,Z,st⟩;have Bn:=bA w st;have na:=oa.dm st;have nb:=ob.dm st;have nr:=or.dm st;clear B oa ob or b9 a9 Y I T la aX X H J fb lb aY ah M N fr lr;clear st;have B:=Bn;clear Bn;have oa:=na;clear na;obtain⟨b9,a9,Y,I,T,la⟩:=oa.s3;have ob:=nb;clear nb;obtain⟨aX,X,H,J,fb,lb⟩:=ob.s3;have or:=nr;clear nr;obtain⟨aY,ah,M,N,fr,lr⟩:=or.s3;obtain⟨q1,q2,q3,q4,q5,q6,q7,q8,rfl⟩:=Z.ak;have Fq:=E6 Z;clear Z;clear pr;dsimp only; repeat' (first | go_values | go_skip | go_guarded | go_step | go_upon)
 refine En (by simp[results,Tryz.results121,go_sem,b9,a9,Y,I,T,la,aX,X,H,J,fb,lb,aY,ah,M,N,fr,lr]; rfl) rfl ?_;exact⟨_,rfl,Fq.out.af zj,zh⟩
theorem Gy (w:Ee) (ha:FR w va r) (hb:FR w vb s) (hr:sz r i) (hs:sz s j) (hk:i+j<=4094) :
  Ed Ec 120 #[va,vb] w fun e E=>∃v,e = Eh (Ev #[v,Ey Ew 0])/\FR E v (r+s)/\zf w E:=by
 have fa:=ha.fit;have fb:=hb.fit;have bo:=fun(E:Ee) (h:zf w E)=>kI E (ha.ae h) (hb.ae h);obtain⟨h1,h2,h3⟩:=qS hr hs;have g1:=z9 h1 D5;have g2:=z9 h2 D5;have g3:=z9 h3 D5;have g4:=z9 (xr h1 h2) D5;have g5:fits (r.num*s.den-s.num*r.den):=by rw[Int.sub_eq_add_neg]; exact z9 (xr h1 (by rw[jO]; exact h2)) D5
 have pr:∀E,zf w E->Ed Ec 140 #[va,vb,Ez false] E fun e w2=>∃v,e = Eh (Ev #[v,Ey Ew 0])/\FR w2 v (r+s)/\zf E w2:=fun E h=>by
  refine(Q7 E (ha.ae h) (hb.ae h) g1 g2 g3 g4 g5).mono ?_;rintro e w2 ⟨v,rfl,h1,h2⟩;have h3:=FR.dK (qM r s) h1;rw[YF]at h3;exact⟨v,rfl,h3,h2⟩
 obtain⟨a1,a2,a3,a4,a5,a6,a7,a8,rfl⟩:=ha.ak;obtain⟨b1,b2,b3,b4,b5,b6,b7,b8,rfl⟩:=hb.ak;clear g1 g2 g3 g4 g5 h1 h2 h3 fa fb ha hb hr hs hk
 go_enter Tryz.func120,Tryz.ntmps120
 go_wp2_with fail
 refine(bo _ zh).mono ?_;rintro e w1 ⟨rfl,st⟩;have Bn:=bA w st;have oa:ai w1 w.heap.size 28 #[Ez a1,Ex a2 a3 a4,Ez a5,Ex a6 a7 a8]:=ai.au st;have ob:ai w1 (w.heap.size+1) 28 #[Ez b1,Ex b2 b3 b4,Ez b5,Ex b6 b7 b8]:=ai.au st;have or:ai w1 (w.heap.size+1+1) 28 jp:=ai.au st;clear st;have B:=Bn;clear Bn;obtain⟨aY,Z,X,I,fa,la⟩:=oa.s3;obtain⟨ah,T,H,J,fb,lb⟩:=ob.s3;obtain⟨aX,a9,M,N,fr,lr⟩:=or.s3;clear bo;go_wp2_with fail
 refine(pr _ B).mono ?_;rintro e w2 ⟨vq,rfl,Y,st⟩;have Bn:=bA w st;have na:=oa.dm st;have nb:=ob.dm st;have nr:=or.dm st;clear B oa ob or aY Z X I fa la ah T H J fb lb aX a9 M N fr lr;clear st;have B:=Bn;clear Bn;have oa:=na;clear na;obtain⟨aY,Z,X,I,fa,la⟩:=oa.s3;have ob:=nb;clear nb;obtain⟨ah,T,H,J,fb,lb⟩:=ob.s3;have or:=nr;clear nr;obtain⟨aX,a9,M,N,fr,lr⟩:=or.s3;obtain⟨q1,q2,q3,q4,q5,q6,q7,q8,rfl⟩:=Y.ak;have Fq:=E6 Y;clear Y;clear pr;dsimp only; repeat' (first | go_values | go_skip | go_guarded | go_step | go_upon)
 refine En (by simp[results,Tryz.results120,go_sem,aY,Z,X,I,fa,la,ah,T,H,J,fb,lb,aX,a9,M,N,fr,lr]; rfl) rfl ?_;exact⟨_,rfl,Fq.out.af zj,zh⟩
theorem Gz (w:Ee) (ha:FR w va r) (hb:FR w vb s) (hr:sz r i) (hs:sz s j) (hk:i+j<=4094) :
  Ed Ec 105 #[va,vb] w fun e E=>∃v,e = Eh (Ev #[v,Ey Ew 0])/\FR E v (r-s)/\zf w E:=by
 have fa:=ha.fit;have fb:=hb.fit;have bo:=fun(E:Ee) (h:zf w E)=>kI E (ha.ae h) (hb.ae h);obtain⟨h1,h2,h3⟩:=qS hr hs;have g1:=z9 h1 D5;have g2:=z9 h2 D5;have g3:=z9 h3 D5;have g4:=z9 (xr h1 h2) D5;have g5:fits (r.num*s.den-s.num*r.den):=by rw[Int.sub_eq_add_neg]; exact z9 (xr h1 (by rw[jO]; exact h2)) D5
 have pr:∀E,zf w E->Ed Ec 140 #[va,vb,Ez true] E fun e w2=>∃v,e = Eh (Ev #[v,Ey Ew 0])/\FR w2 v (r-s)/\zf E w2:=fun E h=>by
  refine(Q8 E (ha.ae h) (hb.ae h) g1 g2 g3 g4 g5).mono ?_;rintro e w2 ⟨v,rfl,h1,h2⟩;have h3:=FR.dK (qM r s) h1;rw[YG]at h3;exact⟨v,rfl,h3,h2⟩
 obtain⟨a1,a2,a3,a4,a5,a6,a7,a8,rfl⟩:=ha.ak;obtain⟨b1,b2,b3,b4,b5,b6,b7,b8,rfl⟩:=hb.ak;clear g1 g2 g3 g4 g5 h1 h2 h3 fa fb ha hb hr hs hk
 go_enter Tryz.func105,Tryz.ntmps105
 go_wp2_with fail
 refine(bo _ zh).mono ?_;rintro e w1 ⟨rfl,st⟩;have Bn:=bA w st;have oa:ai w1 w.heap.size 28 #[Ez a1,Ex a2 a3 a4,Ez a5,Ex a6 a7 a8]:=ai.au st;have ob:ai w1 (w.heap.size+1) 28 #[Ez b1,Ex b2 b3 b4,Ez b5,Ex b6 b7 b8]:=ai.au st;have or:ai w1 (w.heap.size+1+1) 28 jp:=ai.au st;clear st;have B:=Bn;clear Bn;obtain⟨aY,Z,X,I,fa,la⟩:=oa.s3;obtain⟨ah,T,H,J,fb,lb⟩:=ob.s3;obtain⟨aX,a9,M,N,fr,lr⟩:=or.s3;clear bo;go_wp2_with fail
 refine(pr _ B).mono ?_;rintro e w2 ⟨vq,rfl,Y,st⟩;have Bn:=bA w st;have na:=oa.dm st;have nb:=ob.dm st;have nr:=or.dm st;clear B oa ob or aY Z X I fa la ah T H J fb lb aX a9 M N fr lr;clear st;have B:=Bn;clear Bn;have oa:=na;clear na;obtain⟨aY,Z,X,I,fa,la⟩:=oa.s3;have ob:=nb;clear nb;obtain⟨ah,T,H,J,fb,lb⟩:=ob.s3;have or:=nr;clear nr;obtain⟨aX,a9,M,N,fr,lr⟩:=or.s3;obtain⟨q1,q2,q3,q4,q5,q6,q7,q8,rfl⟩:=Y.ak;have Fq:=E6 Y;clear Y;clear pr;dsimp only; repeat' (first | go_values | go_skip | go_guarded | go_step | go_upon)
 refine En (by simp[results,Tryz.results105,go_sem,aY,Z,X,I,fa,la,ah,T,H,J,fb,lb,aX,a9,M,N,fr,lr]; rfl) rfl ?_;exact⟨_,rfl,Fq.out.af zj,zh⟩
theorem K6 (w:Ee) (ha:FR w va r) (hb:FR w vb s) (hr:sz r i) (hs:sz s j) (hk:i+j<=4095) :
  Ed Ec 87 #[va,vb] w fun e E=>e = Eh (Ev #[Ey Ew (z8 r s),Ey Ew 0])/\zf w E:=by
 have fa:=ha.fit;have fb:=hb.fit;have bo:=fun(E:Ee) (h:zf w E)=>kI E (ha.ae h) (hb.ae h);obtain⟨h1,h2,h3⟩:=qS hr hs;have g1:=z9 h1 hk;have g2:=z9 h2 hk;obtain⟨a2,a3,a4,a6,a7,a8,rfl,na,da,-⟩:=ha.bW;obtain⟨b2,b3,b4,b6,b7,b8,rfl,bh,db,-⟩:=hb.bW;have m1:=fun(E:Ee) (h:zf w E)=>xy E (na.ae h) (db.ae h) fa.1 fb.2 g1;have m2:=fun(E:Ee) (h:zf w E)=>xy E (bh.ae h) (da.ae h) fb.1 fa.2 g2
 have cm:∀E v u,az E v (r.num*s.den)->az E u (s.num*r.den)->Ed Ec 128 #[v,u] E fun e w2=>e = Eh (Ey Ew (z8 r s))/\zf E w2:=fun E v u h1 h2=>by
  have:=VF E h1 h2 g1 g2;rw[Zh]at this;exact this
 obtain⟨ga,bi⟩:∃g,decide (r<0)=g:=⟨_,rfl⟩;obtain⟨gb,bg⟩:∃g,decide (s<0)=g:=⟨_,rfl⟩;obtain⟨c,hc⟩:∃c,z8 r s=c:=⟨_,rfl⟩;rw[bi]at m1 bo|-;rw[bg]at m2 bo|-;rw[hc]at cm|-;obtain⟨X,hX⟩:∃X:Int,r.num*s.den=X:=⟨_,rfl⟩;obtain⟨Y,hY⟩:∃X:Int,s.num*r.den=X:=⟨_,rfl⟩;rw[hX]at m1 cm;rw[hY]at m2 cm;clear bi bg hc hX hY na da bh db g1 g2 h1 h2 h3 fa fb ha hb hr hs hk
 go_enter Tryz.func87,Tryz.ntmps87
 go_wp2_with fail
 refine(bo _ zh).mono ?_;rintro e w1 ⟨rfl,st⟩;have Bn:=bA w st;have N:ai w1 w.heap.size 28 #[Ez ga,Ex a2 a3 a4,Ez false,Ex a6 a7 a8]:=ai.au st;have H:ai w1 (w.heap.size+1) 28 #[Ez gb,Ex b2 b3 b4,Ez false,Ex b6 b7 b8]:=ai.au st;clear st;have B:=Bn;clear Bn;obtain⟨aX,a9,Z,J,fa,la⟩:=N.s3;obtain⟨ah,T,I,M,fb,lb⟩:=H.s3;clear bo;go_wp2_with fail
 refine(m1 _ B).mono ?_;rintro e w2 ⟨vx,rfl,b9,st⟩;have Bn:=bA w st;have na:=N.dm st;have nb:=H.dm st;clear B N H aX a9 Z J fa la ah T I M fb lb;clear st;have B:=Bn;clear Bn;have N:=na;clear na;obtain⟨aX,a9,Z,J,fa,la⟩:=N.s3;have H:=nb;clear nb;obtain⟨ah,T,I,M,fb,lb⟩:=H.s3;obtain⟨x1,x2,x3,x4,rfl⟩:=b9.ak;have Fx:=E6 b9;clear b9;clear m1;have zx:w.heap.size+1<w2.heap.size:=H.lt;go_wp2_with fail
 refine(m2 _ zh).mono ?_;rintro e w3 ⟨vy,rfl,aY,st⟩;have Bn:=bA w st;have kp:=kB w2 st;have na:=N.dm st;have nb:=H.dm st;have ox:ai w3 w2.heap.size 26 #[Ez x1,Ex x2 x3 x4]:=ai.au st;clear B N H aX a9 Z J fa la ah T I M fb lb;clear st;have B:=Bn;clear Bn;replace Fx:=E6 (Fx.out.af kp);clear kp;have N:=na;clear na;obtain⟨aX,a9,Z,J,fa,la⟩:=N.s3;have H:=nb;clear nb;obtain⟨ah,T,I,M,fb,lb⟩:=H.s3;obtain⟨bl,be,fx,lx⟩:=ox.s1;obtain⟨y1,y2,y3,y4,rfl⟩:=aY.ak;have Fy:=E6 aY;clear aY;clear m2;have zy:w2.heap.size<w3.heap.size:=ox.lt;go_wp2_with fail
 refine(cm _ _ _ (Fx.out.af zj) (Fy.out.af zj)).mono ?_;rintro e w4 ⟨rfl,st⟩;have Bn:=bA w st;have kp:=kB w3 st;have na:=N.dm st;have nb:=H.dm st;have nx:=ox.dm st;have oy:ai w4 w3.heap.size 26 #[Ez y1,Ex y2 y3 y4]:=ai.au st;clear B N H ox aX a9 Z J fa la ah T I M fb lb bl be fx lx;clear st;have B:=Bn;clear Bn;replace Fx:=E6 (Fx.out.af kp);replace Fy:=E6 (Fy.out.af kp);clear kp;have N:=na;clear na;obtain⟨aX,a9,Z,J,fa,la⟩:=N.s3;have H:=nb;clear nb;obtain⟨ah,T,I,M,fb,lb⟩:=H.s3;have ox:=nx;clear nx;obtain⟨bl,be,fx,lx⟩:=ox.s1;obtain⟨bt,br,fy,ly⟩:=oy.s1
 go_wp2
 go_returns
 exact⟨rfl,zh⟩
end
end Go.Proofs.YtffmbepfbienaaaGreat
