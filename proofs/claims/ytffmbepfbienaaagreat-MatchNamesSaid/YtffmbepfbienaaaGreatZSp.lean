import Derived.Test.YtffmbepfbienaaaGreatZSef
set_option linter.unusedVariables false
set_option linter.unusedSimpArgs false
open Go.Value renaming slice->Cq,bool->Cx,int->Cz,agg->Cy,tuple->Ck
open Go.IntKind renaming i64->Cv
open Go.Ending renaming returned->Cg
open Go.Proofs.Tryz renaming prog->Ch
open Go renaming Calls->Cb,World->Cc,Value->Cd
open Nat renaming le_refl->Cl
open Go.RowKit.Below renaming refl->Cp
namespace Go.Proofs.YtffmbepfbienaaaGreat
open Go.RowKit
variable {a1 a5 ua1 ua5 ub1 ub5 uc1 uc5:Bool} {a4 a8 g k n ua3 ua4 ua7 ua8 ub3 ub4 ub7 ub8 uc3 uc4 uc7 uc8:Nat} {a2 a6 ua2 ua6 ub2 ub6 uc2 uc6:Option Addr} {l m:PL} {t:TypeId} {vl vm vp:Cd} {w:Cc}
theorem yS (w:Cc):FB w (Cy qE) none:=⟨_,_,_,_,[],[],rfl,aA.nil w,aA.nil w,fun h=>h.2.2.2.1 rfl⟩
theorem YE (I:k<n):(madeCells #[Cz Cv 0,Cz Cv 0] n)[k]? = some (Cz Cv 0):=by
 have H:(madeCells #[Value.int Cv 0,Cz Cv 0] n).size=n:=size_madeCells _ _;rw[Array.getElem?_eq_getElem B_];have E:=Array.getElem_mem (xs:=madeCells #[Value.int Cv 0,Cz Cv 0] n) (i:=k) B_;generalize (madeCells #[Value.int Cv 0,Cz Cv 0] n)[k]=z at *;unfold madeCells at E;rw[Array.mem_map]at E;obtain⟨a,-,e⟩:=E;rw[<- e,show (#[Value.int Cv 0,Cz Cv 0]:Array Cd).size=2 from rfl]
 rcases(show a%2=0\/a%2=1 by omega)with h | h<;>rw[h]<;>rfl
theorem Kf (I:k<n):(madeCells #[Cz Cv 0] n)[k]? = some (Cz Cv 0):=by
 have H:(madeCells #[Value.int Cv 0] n).size=n:=size_madeCells _ _;rw[Array.getElem?_eq_getElem B_];have E:=Array.getElem_mem (xs:=madeCells #[Value.int Cv 0] n) (i:=k) B_;generalize (madeCells #[Value.int Cv 0] n)[k]=z at *;unfold madeCells at E;rw[Array.mem_map]at E;obtain⟨a,-,e⟩:=E;rw[<- e,show (#[Value.int Cv 0]:Array Cd).size=1 from rfl,Nat.mod_one];rfl
theorem Kg (E:ai w g t (madeCells #[Cz Cv 0,Cz Cv 0] (n*2))):bJ w (Cq (some ⟨g,0,none⟩) n n) (List.replicate n (0,0)):=by
 refine⟨fun k=> ?_,some ⟨g,0,none⟩,n,by rw[List.length_replicate],by rw[List.length_replicate]; exact Cl _,fun _=>⟨g,0,rfl,E.lt,fun t ht=> ?_⟩⟩
 .
  have:(List.replicate n ((0:Int),(0:Int))).getD k (0,0)=(0,0):=by
   rw[List.getD_eq_getElem?_getD,List.getElem?_replicate]; split<;>rfl
  rw[this]; decide
 .
  rw[List.length_replicate]at ht
  have:(List.replicate n ((0:Int),(0:Int))).getD t (0,0)=(0,0):=by
   rw[List.getD_eq_getElem?_getD,List.getElem?_replicate]; split<;>rfl
  rw[this];exact⟨(E.cell _).trans (YE B_),(E.cell _).trans (YE B_)⟩
theorem Jc (E:ai w g t (madeCells #[Cz Cv 0] n)):aC w (Cq (some ⟨g,0,none⟩) n n) (List.replicate n 0):=by
 refine⟨some ⟨g,0,none⟩,n,by rw[List.length_replicate],by rw[List.length_replicate]; exact Cl _,fun _=>⟨g,0,rfl,E.lt,fun t ht=> ?_⟩⟩;rw[List.length_replicate]at ht
 have:(List.replicate n (0:Int)).getD t 0=0:=by
  rw[List.getD_eq_getElem?_getD,List.getElem?_replicate]; split<;>rfl
 rw[this,Nat.zero_add,E.cell];exact Kf ht
theorem UQ (n:Nat) (h:n<=1000) (w:Cc):(Instr.makeSlice 55 (Cz Cv (n:Int)) (Cz Cv (n:Int))).run Ch w = .ok (Cq (some ⟨w.heap.size,0,none⟩) n n) (w.alloc (.cells (madeCells #[Cz Cv 0,Cz Cv 0] (n*2)) 23)):=by
 obtain⟨I,E⟩:∃I,Tryz.prog.info? 23=some I:=Option.isSome_iff_exists.1 B';have H:(Tryz.prog.info? 23).map (fun i=>(i.zero,i.size,i.bytes))=some (some (Cy #[Cz Cv 0,Cz Cv 0]),2,16):=by kernel_rfl
 rw[E]at H;simp only[Option.map_some,Option.some.injEq,Prod.mk.injEq]at H;obtain⟨J,N,M⟩:=H;have:=run_make (P:=Ch) w 55 23 I _ Tryz.underlying55 E J Cv Cv n n B_ B_ (by rw[M]; omega) B_;rw[N]at this;exact this
theorem Hr (E:ai w g t #[Cz Cv 0,Cz Cv 0,Cz Cv 10,Cz Cv 0,Cz Cv 20,Cz Cv 0]):bJ w (Cq (some ⟨g,0,none⟩) 3 3) [(0,0),(10,0),(20,0)]:=by
 refine⟨fun k=> ?_,some ⟨g,0,none⟩,3,rfl,by decide,fun _=>⟨g,0,rfl,E.lt,fun t ht=> ?_⟩⟩
 .
  rcases(show k=0\/k=1\/k=2\/3<=k by omega)with rfl | rfl | rfl | h
  . decide
  . decide
  . decide
  . rw[show ([(0,0),(10,0),(20,0)]:PL).getD k (0,0)=(0,0) by simp[List.getD,List.getElem?_eq_none,h]]; decide
 .
  have H:t<3:=ht
  rcases(show t=0\/t=1\/t=2 by omega)with rfl | rfl | rfl
  . exact⟨E.c 0 rfl,E.c 1 rfl⟩
  . exact⟨E.c 2 rfl,E.c 3 rfl⟩
  . exact⟨E.c 4 rfl,E.c 5 rfl⟩
theorem Hs (E:ai w g t #[Cz Cv 1,Cz Cv 0,Cz Cv 0,Cz Cv 0,Cz Cv 12,Cz Cv 0,Cz Cv 20,Cz Cv 1]):bJ w (Cq (some ⟨g,0,none⟩) 4 4) [(1,0),(0,0),(12,0),(20,1)]:=by
 refine⟨fun k=> ?_,some ⟨g,0,none⟩,4,rfl,by decide,fun _=>⟨g,0,rfl,E.lt,fun t ht=> ?_⟩⟩
 .
  rcases(show k=0\/k=1\/k=2\/k=3\/4<=k by omega)with rfl | rfl | rfl | rfl | h
  . decide
  . decide
  . decide
  . decide
  . rw[show ([(1,0),(0,0),(12,0),(20,1)]:PL).getD k (0,0)=(0,0) by simp[List.getD,List.getElem?_eq_none,h]]; decide
 .
  have H:t<4:=ht
  rcases(show t=0\/t=1\/t=2\/t=3 by omega)with rfl | rfl | rfl | rfl
  . exact⟨E.c 0 rfl,E.c 1 rfl⟩
  . exact⟨E.c 2 rfl,E.c 3 rfl⟩
  . exact⟨E.c 4 rfl,E.c 5 rfl⟩
  . exact⟨E.c 6 rfl,E.c 7 rfl⟩
theorem Ht (E:ai w g t #[Cz Cv 0,Cz Cv 0,Cz Cv 4,Cz Cv 0,Cz Cv 1,Cz Cv 1,Cz Cv 3,Cz Cv 2,Cz Cv 9,Cz Cv 9]):bJ w (Cq (some ⟨g,0,none⟩) 5 5) [(0,0),(4,0),(1,1),(3,2),(9,9)]:=by
 refine⟨fun k=> ?_,some ⟨g,0,none⟩,5,rfl,by decide,fun _=>⟨g,0,rfl,E.lt,fun t ht=> ?_⟩⟩
 .
  rcases(show k=0\/k=1\/k=2\/k=3\/k=4\/5<=k by omega)with rfl | rfl | rfl | rfl | rfl | h
  . decide
  . decide
  . decide
  . decide
  . decide
  . rw[show ([(0,0),(4,0),(1,1),(3,2),(9,9)]:PL).getD k (0,0)=(0,0) by simp[List.getD,List.getElem?_eq_none,h]]; decide
 .
  have H:t<5:=ht
  rcases(show t=0\/t=1\/t=2\/t=3\/t=4 by omega)with rfl | rfl | rfl | rfl | rfl
  . exact⟨E.c 0 rfl,E.c 1 rfl⟩
  . exact⟨E.c 2 rfl,E.c 3 rfl⟩
  . exact⟨E.c 4 rfl,E.c 5 rfl⟩
  . exact⟨E.c 6 rfl,E.c 7 rfl⟩
  . exact⟨E.c 8 rfl,E.c 9 rfl⟩
theorem G6 (h:ai w g t #[Cz Cv 10]):aC w (Cq (some ⟨g,0,none⟩) 1 1) [10]:=by
 refine⟨_,_,rfl,Cl _,fun _=>⟨g,0,rfl,h.lt,fun k H=> ?_⟩⟩;have E:k<1:=H;rcases(show k=0 by omega)with rfl
 . exact h.c 0 rfl
theorem G7 (h:ai w g t #[Cz Cv 0,Cz Cv (-1),Cz Cv 3]):aC w (Cq (some ⟨g,0,none⟩) 3 3) [0,-1,3]:=by
 refine⟨_,_,rfl,Cl _,fun _=>⟨g,0,rfl,h.lt,fun k H=> ?_⟩⟩;have E:k<3:=H
 rcases(show k=0\/k=1\/k=2 by omega)with rfl | rfl | rfl
 . exact h.c 0 rfl
 . exact h.c 1 rfl
 . exact h.c 2 rfl
theorem G8 (h:ai w g t #[Cz Cv 0,Cz Cv 1,Cz Cv 2,Cz Cv 3,Cz Cv 4]):aC w (Cq (some ⟨g,0,none⟩) 5 5) [0,1,2,3,4]:=by
 refine⟨_,_,rfl,Cl _,fun _=>⟨g,0,rfl,h.lt,fun k H=> ?_⟩⟩;have E:k<5:=H
 rcases(show k=0\/k=1\/k=2\/k=3\/k=4 by omega)with rfl | rfl | rfl | rfl | rfl
 . exact h.c 0 rfl
 . exact h.c 1 rfl
 . exact h.c 2 rfl
 . exact h.c 3 rfl
 . exact h.c 4 rfl
theorem bJ.nil (w:Cc):bJ w (Cq none 0 0) []:=⟨fun k=>by rw[show (([]:PL).getD k (0,0))=(0,0) from rfl]; decide,none,0,rfl,Cl _,fun h=>absurd rfl h⟩
def Bz (e:Int) (x:Cd):Prop:=∃u,x = Ck #[u,Cz Cv e]
def qR (i:Nat):Rat:=match i with | 0=>1 | 1=>0 | 2=>1 / 2 | _=>0
def YF (i:Nat):Option Rat:=match i with | 0=>some 0 | 1=>some (1 / 10) | _=>some 1
def Kh (q:Rat) (i:Nat):Option Rat:=match i with | 0=>some 0 | 1=>some (1 / 2) | _=>some q
theorem Kj (x y:Int) (r:Rat) (w:Cc) (N : -9223372036854775808<=x) (H:x<=9223372036854775807) (I : -9223372036854775808<=y) (J:y<=9223372036854775807) (M:y≠0) (h:(x:Rat) / (y:Rat)=r) :
  Cb Ch 29 #[Cz Cv x,Cz Cv y] w fun e E=>∃a s n c b t m d,e = Cg (Cy #[Cx a,Cq s n c,Cx b,Cq t m d])/\FR E (Cy #[Cx a,Cq s n c,Cx b,Cq t m d]) r/\zf w E:=by
 refine(X1 x y w N H I J M).mono ?_;rintro e E ⟨v,rfl,hv,T⟩;rw[h]at hv;obtain⟨a,s,n,c,b,t,m,d,rfl⟩:=hv.au;exact⟨_,_,_,_,_,_,_,_,rfl,hv,T⟩
theorem Jd {bg ce dk be cN bi cY ah:Bool} {dd Z bt ci bh bq a9 cg:Option Addr} {M d9 X br H cy T dc I bl N bf J b9 E cx:Nat} (Y e:Int) (p:List Int) (w:Cc) (h0:FR w (Cy #[Cx bg,Cq dd M d9,Cx ce,Cq Z X br]) (qR 0)) (h1:FR w (Cy #[Cx dk,Cq bt H cy,Cx be,Cq ci T dc]) (qR 1)) (h2:FR w (Cy #[Cx cN,Cq bh I bl,Cx bi,Cq bq N bf]) (qR 2)) (h3:FR w (Cy #[Cx cY,Cq a9 J b9,Cx ah,Cq cg E cx]) (qR 3)) (hl:bJ w vl l) (hm:bJ w vm m) (ll:l.length<=1000) (lm:m.length<=1000) (he:xT (zQ l) (zQ m) true Y=e) (hp:Z6 e (yC qR (Y:Rat) l m l.length)=p) :
  Cb Ch 23 #[Cy #[Cx bg,Cq dd M d9,Cx ce,Cq Z X br,Cx dk,Cq bt H cy,Cx be,Cq ci T dc,Cx cN,Cq bh I bl,Cx bi,Cq bq N bf,Cx cY,Cq a9 J b9,Cx ah,Cq cg E cx],vl,vm,Cz Cv Y] w fun e' w'=>∃u,e' = Cg (Ck #[u,Cz Cv e])/\aC w' u p/\zf w w':=by
 have L:xb 16 (fun i=>some (qR i)) (ya M H I J) (ya X T N E) 4=true:=by
  show ((((true&&_)&&_)&&_)&&_)=true
  rw[show aS 16 (some (qR 0)) (ya M H I J 0) (ya X T N E 0)=true from h0.aS 16 (by decide +kernel) (by decide +kernel),show aS 16 (some (qR 1)) (ya M H I J 1) (ya X T N E 1)=true from h1.aS 16 (by decide +kernel) (by decide +kernel),show aS 16 (some (qR 2)) (ya M H I J 2) (ya X T N E 2)=true from h2.aS 16 (by decide +kernel) (by decide +kernel),show aS 16 (some (qR 3)) (ya M H I J 3) (ya X T N E 3)=true from h3.aS 16 (by decide +kernel) (by decide +kernel)];rfl
 have FW:ve (fun i=>some (qR i)) (ya M H I J) (ya X T N E) 4:=fun i hi=>by
  rcases(show i=0\/i=1\/i=2\/i=3 by omega)with rfl | rfl | rfl | rfl
  . exact h0.aE
  . exact h1.aE
  . exact h2.aE
  . exact h3.aE
 have:=VO (O:=fun i=>some (qR i)) Y w h0 h1 h2 h3 FW hl hm ll lm;rw[L,he]at this;rw[<- hp];exact this
theorem WZ {H E:Nat->Nat} : ve (fun _=>none) H E n:=fun _ _ _ h=>by cases h
theorem UR (w:Cc):Cb Ch 23 #[Cy #[Cx false,Cq none 0 0,Cx false,Cq none 0 0,Cx false,Cq none 0 0,Cx false,Cq none 0 0,Cx false,Cq none 0 0,Cx false,Cq none 0 0,Cx false,Cq none 0 0,Cx false,Cq none 0 0],Cq none 0 0,Cq none 0 0,Cz Cv 1] w fun H E=>∃u,H = Cg (Ck #[u,Cz Cv 8])/\aC E u []/\zf w E:=by
 have:=VO (O:=fun _=>none) 1 w (yS w) (yS w) (yS w) (yS w) WZ (bJ.nil w) (bJ.nil w) C0 C0;exact this
theorem US (w:Cc):Cb Ch 13 #[Cy #[Cx false,Cq none 0 0,Cx false,Cq none 0 0,Cx false,Cq none 0 0,Cx false,Cq none 0 0,Cx false,Cq none 0 0,Cx false,Cq none 0 0,Cx false,Cq none 0 0,Cx false,Cq none 0 0],Cy #[Cz Cv 0,Cz Cv 0]] w fun E J=>E = Cg (Ck #[Cy #[Cx false,Cq none 0 0,Cx false,Cq none 0 0],Cy #[Cx false,Cq none 0 0,Cx false,Cq none 0 0],Cz Cv 8])/\zf w J:=by
 have:=WO (O:=fun _=>none) 0 0 w (yS w) (yS w) (yS w) (yS w) WZ C0 C0;refine this.mono ?_;rintro e N ⟨u,v,rfl,H,I,M⟩;obtain rfl:u=_:=H;obtain rfl:v=_:=I;exact⟨rfl,M⟩
theorem H_ (J I H E e:Int) (w:Cc) (X:(-9223372036854775808<=J/\J<=9223372036854775807)/\(-9223372036854775808<=I/\I<=9223372036854775807)) (Z:(-9223372036854775808<=H/\H<=9223372036854775807)/\(-9223372036854775808<=E/\E<=9223372036854775807)) (N:U9 (J,I) (H,E) (0,0) (0,0)=(e,none)) :
  Cb Ch 11 #[Cy #[Cz Cv J,Cz Cv I],Cy #[Cz Cv H,Cz Cv E],Cy #[Cz Cv 0,Cz Cv 0],Cy #[Cz Cv 0,Cz Cv 0]] w fun M Y=>M = Cg (Ck #[Cy #[Cx false,Cq none 0 0,Cx false,Cq none 0 0,Cx false,Cq none 0 0,Cx false,Cq none 0 0,Cx false,Cq none 0 0,Cx false,Cq none 0 0,Cx false,Cq none 0 0,Cx false,Cq none 0 0],Cz Cv e])/\zf w Y:=by
 have:=H8 J I H E 0 0 0 0 w X Z C0 C0;rw[N]at this;refine this.mono ?_;rintro e w2 ⟨v,rfl,T,hs⟩;obtain rfl:v=_:=T;exact⟨rfl,hs⟩
theorem V4 {p q:Nat} (h0:FR w (Cy #[Cx a1,Cq a2 p a4,Cx a5,Cq a6 q a8]) 0):a1=false:=by
 obtain⟨x2,x3,H,E,I,J,e,-,-,-⟩:=h0.cj;simp only[Value.agg.injEq,Array.mk.injEq,List.cons.injEq,and_true,Value.slice.injEq,Value.bool.injEq]at e;rw[e.1]; decide
theorem Wg {l:List Int} (n e:Int) (w:Cc) (h0:FR w (Cy #[Cx ua1,Cq ua2 ua3 ua4,Cx ua5,Cq ua6 ua7 ua8]) 0) (E:FR w (Cy #[Cx ub1,Cq ub2 ub3 ub4,Cx ub5,Cq ub6 ub7 ub8]) (1 / 10)) (H:FR w (Cy #[Cx uc1,Cq uc2 uc3 uc4,Cx uc5,Cq uc6 uc7 uc8]) 1) (J:aC w vp l) (N:xI true l.length (Xe l n l.length) n (decide (zC 1 400 n<1))=e) :
  Cb Ch 19 #[Cy #[Cx ua1,Cq ua2 ua3 ua4,Cx ua5,Cq ua6 ua7 ua8,Cz Cv 1,Cz Cv 400,Cx ub1,Cq ub2 ub3 ub4,Cx ub5,Cq ub6 ub7 ub8,Cx uc1,Cq uc2 uc3 uc4,Cx uc5,Cq uc6 uc7 uc8],vp,Cz Cv n] w fun M I=>∃v,M = Cg (Ck #[v,Cz Cv e])/\FO I v (VG e (xB (yU (1 / 10) (zC 1 400 n)) (1 / 10) l XM l.length))/\zf w I:=by
 have a1:=V4 h0;subst a1
 have fw:ve YF (ya ua3 ub3 uc3 uc3) (ya ua7 ub7 uc7 uc7) 3:=fun i T=>by
  rcases(show i=0\/i=1\/i=2 by omega)with rfl | rfl | rfl
  . exact h0.aE
  . exact E.aE
  . exact H.aE
 have rk:yx YF (ya ua3 ub3 uc3 uc3) (ya ua7 ub7 uc7 uc7) 1 400 false=true:=by
  rw[zX];refine⟨?_,by decide,rfl,by decide +kernel,by decide +kernel,by decide +kernel⟩;rw[VD,show aS 2 (YF 0) (ya ua3 ub3 uc3 uc3 0) (ya ua7 ub7 uc7 uc7 0)=true from h0.aS 2 (by decide +kernel) (by decide +kernel),show aS 2 (YF 1) (ya ua3 ub3 uc3 uc3 1) (ya ua7 ub7 uc7 uc7 1)=true from E.aS 2 (by decide +kernel) (by decide +kernel),show aS 2 (YF 2) (ya ua3 ub3 uc3 uc3 2) (ya ua7 ub7 uc7 uc7 2)=true from H.aS 2 (by decide +kernel) (by decide +kernel)];rfl
 have:=VH (R:=1) (A:=400) (n:=n) (O:=YF) w h0 E H fw J;rw[rk,N]at this;exact this
theorem W9 (w:Cc):Cb Ch 19 #[Cy #[Cx false,Cq none 0 0,Cx false,Cq none 0 0,Cz Cv 0,Cz Cv 0,Cx false,Cq none 0 0,Cx false,Cq none 0 0,Cx false,Cq none 0 0,Cx false,Cq none 0 0],Cq none 0 0,Cz Cv 1] w fun E I=>E = Cg (Ck #[Cy #[Cx false,Cq none 0 0,Cx false,Cq none 0 0],Cz Cv 8])/\zf w I:=by
 have:=VH (R:=0) (A:=0) (n:=1) (O:=fun _=>none) w (yS w) (yS w) (yS w) WZ (aC.nil w);refine this.mono ?_;rintro e M ⟨v,rfl,H,J⟩;obtain rfl:v=_:=H;exact⟨rfl,J⟩
theorem JB (most A:Int) (q:Rat) (w:Cc) (h0:FR w (Cy #[Cx ua1,Cq ua2 ua3 ua4,Cx ua5,Cq ua6 ua7 ua8]) 0) (E:FR w (Cy #[Cx ub1,Cq ub2 ub3 ub4,Cx ub5,Cq ub6 ub7 ub8]) (1 / 2)) (H:FR w (Cy #[Cx uc1,Cq uc2 uc3 uc4,Cx uc5,Cq uc6 uc7 uc8]) q) (X:1<=A/\A<=17592186044416) (M:0<q) (q1:zh q.num<bp 2) (q2:zh (q.den:Int)<bp 2) (N:bJ w vl l) (Z:bJ w vm m) (Y:l.length<=6) (J:m.length<=6) :
  Cb Ch 31 #[vl,vm,Cz Cv most,Cy #[Cx ua1,Cq ua2 ua3 ua4,Cx ua5,Cq ua6 ua7 ua8,Cz Cv 1,Cz Cv A,Cx ub1,Cq ub2 ub3 ub4,Cx ub5,Cq ub6 ub7 ub8,Cx uc1,Cq uc2 uc3 uc4,Cx uc5,Cq uc6 uc7 uc8]] w fun T I=>∃v,T = Cg (Ck #[v,Cz Cv (yP true l m most 1 A 0 (1 / 2) q).1])/\WW I v l m (yp l most).2 (yp m most).2 1 (yU (1 / 2) (zC 1 A m.length)) (1 / 2) (yP true l m most 1 A 0 (1 / 2) q).2/\zf w I:=by
 have a1:=V4 h0;subst a1
 have fw:ve (Kh q) (ya ua3 ub3 uc3 uc3) (ya ua7 ub7 uc7 uc7) 3:=fun i hi=>by
  rcases(show i=0\/i=1\/i=2 by omega)with rfl | rfl | rfl
  . exact h0.aE
  . exact E.aE
  . exact H.aE
 have rk:yx (Kh q) (ya ua3 ub3 uc3 uc3) (ya ua7 ub7 uc7 uc7) 1 A false=true:=by
  rw[zX];refine⟨?_,⟨by decide,by decide,X⟩,rfl,by show (0:Rat)<1 / 2; decide +kernel,by show (1 / 2:Rat)<1; decide +kernel,M⟩;rw[VD,show aS 2 (Kh q 0) (ya ua3 ub3 uc3 uc3 0) (ya ua7 ub7 uc7 uc7 0)=true from h0.aS 2 (by decide +kernel) (by decide +kernel),show aS 2 (Kh q 1) (ya ua3 ub3 uc3 uc3 1) (ya ua7 ub7 uc7 uc7 1)=true from E.aS 2 (by decide +kernel) (by decide +kernel),show aS 2 (Kh q 2) (ya ua3 ub3 uc3 uc3 2) (ya ua7 ub7 uc7 uc7 2)=true from H.aS 2 q1 q2];rfl
 have:=UP (R:=1) (A:=A) (O:=Kh q) most w h0 E H fw N Z (.inl Y) (.inl J);rw[rk]at this;exact this
def L5:PL:= [(0,0),(4,0),(1,1),(3,2),(9,9)]
theorem BA:yP true L5 L5 5 1 1000 0 (1 / 2) 20=(0,some (0,0)):=by decide +kernel
theorem BC:yP true L5 L5 5 1 1000 0 (1 / 2) 26=(6,none):=by decide +kernel
theorem BD:yP true L5 [] 5 1 1000 0 (1 / 2) 26=(6,none):=by decide +kernel
theorem BE:yP true L5 L5 13 1 1000 0 (1 / 2) 26=(2,none):=by decide +kernel
theorem BF:yP true L5 L5 5 1 20 0 (1 / 2) 26=(2,none):=by decide +kernel
theorem BG:pX L5 L5 (yp L5 5).2 (yp L5 5).2 1 (0,0) = [0,1,2,3,4]:=by decide +kernel
theorem BH:oX L5 L5 (yp L5 5).2 (yp L5 5).2 1 (yU (1 / 2) (zC 1 1000 (L5.length:Int))) (1 / 2) (0,0)=51 / 2:=by decide +kernel
theorem BI:tX L5 L5 (yp L5 5).2 (yp L5 5).2 (0,0) 0=1:=by decide +kernel
theorem BJ:Z6 0 (yC qR ((1:Int):Rat) [(0,0),(10,0),(20,0)] [(1,0),(0,0),(12,0),(20,1)] 3) = [0,-1,3]:=by decide +kernel
theorem Xa {l:List Int} (n e:Int) (w:Cc) (h0:FR w (Cy #[Cx ua1,Cq ua2 ua3 ua4,Cx ua5,Cq ua6 ua7 ua8]) 0) (J:FR w (Cy #[Cx ub1,Cq ub2 ub3 ub4,Cx ub5,Cq ub6 ub7 ub8]) (1 / 10)) (N:FR w (Cy #[Cx uc1,Cq uc2 uc3 uc4,Cx uc5,Cq uc6 uc7 uc8]) 1) (E:aC w vp l) (I:xI true l.length (Xe l n l.length) n (decide (zC 1 400 n<1))=e) (M:e≠0) :
  Cb Ch 19 #[Cy #[Cx ua1,Cq ua2 ua3 ua4,Cx ua5,Cq ua6 ua7 ua8,Cz Cv 1,Cz Cv 400,Cx ub1,Cq ub2 ub3 ub4,Cx ub5,Cq ub6 ub7 ub8,Cx uc1,Cq uc2 uc3 uc4,Cx uc5,Cq uc6 uc7 uc8],vp,Cz Cv n] w fun H T=>H = Cg (Ck #[Cy #[Cx false,Cq none 0 0,Cx false,Cq none 0 0],Cz Cv e])/\zf w T:=by
 refine(Wg n e w h0 J N E I).mono ?_;rintro Z Y ⟨v,rfl,h,X⟩;unfold VG at h;rw[C8 M]at h;obtain rfl:v=_:=h;exact⟨rfl,X⟩
theorem W_ (w:Cc) (h0:FR w (Cy #[Cx ua1,Cq ua2 ua3 ua4,Cx ua5,Cq ua6 ua7 ua8]) 0) (M:FR w (Cy #[Cx ub1,Cq ub2 ub3 ub4,Cx ub5,Cq ub6 ub7 ub8]) (1 / 10)) (N:FR w (Cy #[Cx uc1,Cq uc2 uc3 uc4,Cx uc5,Cq uc6 uc7 uc8]) 1) :
  Cb Ch 19 #[Cy #[Cx ua1,Cq ua2 ua3 ua4,Cx ua5,Cq ua6 ua7 ua8,Cz Cv 1,Cz Cv 400,Cx ub1,Cq ub2 ub3 ub4,Cx ub5,Cq ub6 ub7 ub8,Cx uc1,Cq uc2 uc3 uc4,Cx uc5,Cq uc6 uc7 uc8],Cq none 0 0,Cz Cv 99] w fun J H=>∃a s n c b t m d,J = Cg (Ck #[Cy #[Cx a,Cq s n c,Cx b,Cq t m d],Cz Cv 0])/\FR H (Cy #[Cx a,Cq s n c,Cx b,Cq t m d]) 1/\zf w H:=by
 refine(Wg 99 0 w h0 M N (aC.nil w) (by decide +kernel)).mono ?_;rintro X I ⟨v,rfl,h,T⟩;have E:FR I v 1:=h;obtain⟨a,s,n,c,b,t,m,d,rfl⟩:=E.au;exact⟨_,_,_,_,_,_,_,_,rfl,E,T⟩
theorem kM (most A e:Int) (q:Rat) (w:Cc) (h0:FR w (Cy #[Cx ua1,Cq ua2 ua3 ua4,Cx ua5,Cq ua6 ua7 ua8]) 0) (X:FR w (Cy #[Cx ub1,Cq ub2 ub3 ub4,Cx ub5,Cq ub6 ub7 ub8]) (1 / 2)) (Y:FR w (Cy #[Cx uc1,Cq uc2 uc3 uc4,Cx uc5,Cq uc6 uc7 uc8]) q) (I:1<=A/\A<=17592186044416) (H:0<q) (q1:zh q.num<bp 2) (q2:zh (q.den:Int)<bp 2) (Z:bJ w vl l) (hm:bJ w vm m) (T:l.length<=6) (E:m.length<=6) (N:yP true l m most 1 A 0 (1 / 2) q=(e,none)) :
  Cb Ch 31 #[vl,vm,Cz Cv most,Cy #[Cx ua1,Cq ua2 ua3 ua4,Cx ua5,Cq ua6 ua7 ua8,Cz Cv 1,Cz Cv A,Cx ub1,Cq ub2 ub3 ub4,Cx ub5,Cq ub6 ub7 ub8,Cx uc1,Cq uc2 uc3 uc4,Cx uc5,Cq uc6 uc7 uc8]] w fun J M=>J = Cg (Ck #[Cy yZ,Cz Cv e])/\zf w M:=by
 have:=JB most A q w h0 X Y I H q1 q2 Z hm T E;rw[N]at this;refine this.mono ?_;rintro e2 w2 ⟨v,rfl,h,hs⟩;obtain rfl:v = Cy yZ:=h;exact⟨rfl,hs⟩
theorem V5 (w:Cc) (h0:FR w (Cy #[Cx ua1,Cq ua2 ua3 ua4,Cx ua5,Cq ua6 ua7 ua8]) 0) (N:FR w (Cy #[Cx ub1,Cq ub2 ub3 ub4,Cx ub5,Cq ub6 ub7 ub8]) (1 / 2)) (T:FR w (Cy #[Cx uc1,Cq uc2 uc3 uc4,Cx uc5,Cq uc6 uc7 uc8]) 20) (I:bJ w vl L5) (X:bJ w vm L5) :
  Cb Ch 31 #[vl,vm,Cz Cv 5,Cy #[Cx ua1,Cq ua2 ua3 ua4,Cx ua5,Cq ua6 ua7 ua8,Cz Cv 1,Cz Cv 1000,Cx ub1,Cq ub2 ub3 ub4,Cx ub5,Cq ub6 ub7 ub8,Cx uc1,Cq uc2 uc3 uc4,Cx uc5,Cq uc6 uc7 uc8]] w fun M H=>∃v t,M = Cg (Ck #[v,Cz Cv 0])/\cD H v t [0,1,2,3,4] (51 / 2)/\t 0=1/\zf w H:=by
 have:=JB 5 1000 20 w h0 N T C0 (by decide +kernel) (by decide +kernel) (by decide +kernel) I X C0 C0;rw[BA]at this;refine this.mono ?_;rintro Z J ⟨v,rfl,h,Y⟩;have E:cD J v (tX L5 L5 (yp L5 5).2 (yp L5 5).2 (0,0)) (pX L5 L5 (yp L5 5).2 (yp L5 5).2 1 (0,0)) (oX L5 L5 (yp L5 5).2 (yp L5 5).2 1 (yU (1 / 2) (zC 1 1000 (L5.length:Int))) (1 / 2) (0,0)):=h;rw[BG,BH]at E;exact⟨v,_,rfl,E,BI,Y⟩
theorem aC.eu {M:Cc} {v:Cd} {l:List Int} {cs:Array Cd} (h:aC w v l) (h3:3<=l.length) (hb:ai w g t cs) (hc:∀o,∀Z z1 z2:Int,cs[o]? = some (Cz Cv Z)->cs[o+1]? = some (Cz Cv z1)->cs[o+2]? = some (Cz Cv z2)->False) (o:bC g w M):aC M v l:=by
 obtain⟨ao,cap,e,E,h2⟩:=h;refine⟨ao,cap,e,E,fun Y=> ?_⟩;obtain⟨b,o',e2,I,H⟩:=h2 Y
 have X:b≠g:=by
  rintro rfl;have J:=H 0 B_;have N:=H 1 B_;have T:=H 2 B_;rw[hb.cell]at J N T;exact hc _ _ _ _ J N T
 refine⟨b,o',e2,by rw[o.1]; exact I,fun t ht=> ?_⟩;have:=H t ht;unfold World.cell? at this|-;rw[o.2 b X]; exact this
theorem X7 {b1 b5 J Y:Bool} {b2 b6 Z I:Option Addr} {N T b3 b4 b7 b8 E M H X:Nat} {R A:Int} : ∀o,∀z0 z1 z2:Int,(#[Cx a1,Cq a2 N a4,Cx a5,Cq a6 T a8,Cz Cv R,Cz Cv A,Cx b1,Cq b2 b3 b4,Cx b5,Cq b6 b7 b8,Cx J,Cq Z E M,Cx Y,Cq I H X]:Array Cd)[o]? = some (Cz Cv z0)->(#[Cx a1,Cq a2 N a4,Cx a5,Cq a6 T a8,Cz Cv R,Cz Cv A,Cx b1,Cq b2 b3 b4,Cx b5,Cq b6 b7 b8,Cx J,Cq Z E M,Cx Y,Cq I H X]:Array Cd)[o+1]? = some (Cz Cv z1)->(#[Cx a1,Cq a2 N a4,Cx a5,Cq a6 T a8,Cz Cv R,Cz Cv A,Cx b1,Cq b2 b3 b4,Cx b5,Cq b6 b7 b8,Cx J,Cq Z E M,Cx Y,Cq I H X]:Array Cd)[o+2]? = some (Cz Cv z2)->False:=by
 intro o z0 z1 z2 h0 h1 h2
 rcases(show o=0\/o=1\/o=2\/o=3\/o=4\/o=5\/o=6\/o=7\/o=8\/o=9\/o=10\/o=11\/o=12\/o=13\/14<=o by omega)with rfl | rfl | rfl | rfl | rfl | rfl | rfl | rfl | rfl | rfl | rfl | rfl | rfl | rfl | h
 all_goals first | (cases h0; done) | (cases h1; done) | (cases h2; done) | skip
 rw[Array.getElem?_eq_none (by simpa using h)]at h0
 cases h0
set_option maxHeartbeats 6400000 in
set_option maxRecDepth 1000000 in
theorem Je (w:Cc):Cb Ch 9 #[] w fun e w'=>e = Cg (Cx true)/\zf w w':=by
 go_enter Tryz.func9,Tryz.ntmps9
 go_upto_region 1 with fail
 refine wp_region_lit ?_
 repeat' (first | go_values | go_skip | go_guarded | go_step | go_upon)
 refine(Kj 1 1 (qR 0) _ C0 C0 C0 C0 C0 (by decide +kernel)).mono ?_;rintro e w1 ⟨gB,gO,gz,ig,gL,gP,gM,gW,rfl,hf,E⟩;have a9:=C5 (show FR w1 (Cy #[Cx gB,Cq gO gz ig,Cx gL,Cq gP gM gW]) (qR 0) from hf);have bf:=C5 (show ai w1 w.heap.size 23 #[Cz Cv 0,Cz Cv 0] from ai.aw E);have sk:=bA w E;have B:=bA w E;clear E sk;clear hf;dsimp only
 repeat' (first | go_values | go_skip | go_guarded | go_step | go_upon)
 refine(Kj 0 1 (qR 1) _ C0 C0 C0 C0 C0 (by decide +kernel)).mono ?_;rintro e w2 ⟨ij,gn,gQ,gF,gA,h9,gY,gN,rfl,hf,E⟩;have ah:=C5 (show FR w2 (Cy #[Cx ij,Cq gn gQ gF,Cx gA,Cq h9 gY gN]) (qR 1) from hf);have sk:=bA w1 E;replace B:Below w.heap.size w w2:=bS B sk;replace a9:=C5 (a9.out.ae sk);replace bf:=C5 (bf.out.ae sk);clear E sk;clear hf;dsimp only
 repeat' (first | go_values | go_skip | go_guarded | go_step | go_upon)
 refine(Kj 1 2 (qR 2) _ C0 C0 C0 C0 C0 (by decide +kernel)).mono ?_;rintro e w3 ⟨gt,gT,gi,gV,gC,gX,gD,gj,rfl,hf,E⟩;have b9:=C5 (show FR w3 (Cy #[Cx gt,Cq gT gi gV,Cx gC,Cq gX gD gj]) (qR 2) from hf);have sk:=bA w2 E;replace B:Below w.heap.size w w3:=bS B sk;replace a9:=C5 (a9.out.ae sk);replace bf:=C5 (bf.out.ae sk);replace ah:=C5 (ah.out.ae sk);clear E sk;clear hf;dsimp only
 repeat' (first | go_values | go_skip | go_guarded | go_step | go_upon)
 refine(Kj 0 1 (qR 3) _ C0 C0 C0 C0 C0 (by decide +kernel)).mono ?_;rintro e w4 ⟨gG,gI,gk,gR,gh,gZ,gJ,gp,rfl,hf,E⟩;have be:=C5 (show FR w4 (Cy #[Cx gG,Cq gI gk gR,Cx gh,Cq gZ gJ gp]) (qR 3) from hf);have sk:=bA w3 E;replace B:Below w.heap.size w w4:=bS B sk;replace a9:=C5 (a9.out.ae sk);replace bf:=C5 (bf.out.ae sk);replace ah:=C5 (ah.out.ae sk);replace b9:=C5 (b9.out.ae sk);clear E sk;clear hf;dsimp only
 repeat' (first | ((with_reducible show wpList _ _ _ (⟨some 50,_,_,_,_,_⟩::_) _ _); refine yi rfl 30 #[(0,.tmp 46),(1,.tmp 47),(2,.tmp 48),(3,.tmp 49)] rfl #[Cx gB,Cq gO gz ig,Cx gL,Cq gP gM gW,Cx ij,Cq gn gQ gF,Cx gA,Cq h9 gY gN,Cx gt,Cq gT gi gV,Cx gC,Cq gX gD gj,Cx gG,Cq gI gk gR,Cx gh,Cq gZ gJ gp] B' ?_) | ((with_reducible show wpList _ _ _ (⟨none,.store _ _ _,_,_,_,_⟩::_) _ _); refine zE rfl 30 (.tmp 2) (.tmp 50) rfl w4.heap.size #[Cx gB,Cq gO gz ig,Cx gL,Cq gP gM gW,Cx ij,Cq gn gQ gF,Cx gA,Cq h9 gY gN,Cx gt,Cq gT gi gV,Cx gC,Cq gX gD gj,Cx gG,Cq gI gk gR,Cx gh,Cq gZ gJ gp] rfl rfl 30 #[Cx false,Cq none 0 0,Cx false,Cq none 0 0,Cx false,Cq none 0 0,Cx false,Cq none 0 0,Cx false,Cq none 0 0,Cx false,Cq none 0 0,Cx false,Cq none 0 0,Cx false,Cq none 0 0] zw B' rfl (by simp[yZ,Value.oneCell']) (fun w5 rz=> ?_)) | go_values | go_skip | go_guarded | go_step | go_upon)
 have sk:zf w4 w5:=rz.below ((Cp _ _).alloc (Cl _) _) (Cl _);replace B:=bS B sk;replace a9:=C5 (a9.out.ae sk);replace bf:=C5 (bf.out.ae sk);replace ah:=C5 (ah.out.ae sk);replace b9:=C5 (b9.out.ae sk);replace be:=C5 (be.out.ae sk);have bt:=C5 rz.bP;clear rz sk
 repeat' (first | go_values | go_skip | go_guarded | go_step | go_upon)
 refine(Kj 1 1 (1) _ C0 C0 C0 C0 C0 (by decide +kernel)).mono ?_;rintro e w6 ⟨uc1,uc2,uc3,uc4,uc5,uc6,uc7,uc8,rfl,hf,E⟩;have H:=C5 (show FR w6 (Cy #[Cx uc1,Cq uc2 uc3 uc4,Cx uc5,Cq uc6 uc7 uc8]) (1) from hf);have sk:=bA w5 E;replace B:Below w.heap.size w w6:=bS B sk;replace a9:=C5 (a9.out.ae sk);replace bf:=C5 (bf.out.ae sk);replace ah:=C5 (ah.out.ae sk);replace b9:=C5 (b9.out.ae sk);replace be:=C5 (be.out.ae sk);replace bt:=C5 (bt.out.ae sk);clear E sk;clear hf;dsimp only
 repeat' (first | go_values | go_skip | go_guarded | go_step | go_upon)
 refine(Wc _).mono ?_;rintro e w7 ⟨ua1,ua2,ua3,ua4,ua5,ua6,ua7,ua8,ub1,ub2,ub3,ub4,ub5,ub6,ub7,ub8,rfl,ha,hb,E⟩;have M:=C5 (show FR w7 (Cy #[Cx ua1,Cq ua2 ua3 ua4,Cx ua5,Cq ua6 ua7 ua8]) 0 from ha);have I:=C5 (show FR w7 (Cy #[Cx ub1,Cq ub2 ub3 ub4,Cx ub5,Cq ub6 ub7 ub8]) (1 / 10) from(by rw[Wd]at hb; exact hb));have sk:=bA w6 E;replace B:Below w.heap.size w w7:=bS B sk;replace a9:=C5 (a9.out.ae sk);replace bf:=C5 (bf.out.ae sk);replace ah:=C5 (ah.out.ae sk);replace b9:=C5 (b9.out.ae sk);replace be:=C5 (be.out.ae sk);replace bt:=C5 (bt.out.ae sk);replace H:=C5 (H.out.ae sk);clear E sk;clear ha hb;dsimp only
 repeat' (first | ((with_reducible show wpList _ _ _ (⟨none,.store _ _ _,_,_,_,_⟩::_) _ _); refine zE rfl 45 (.tmp 3) (.tmp 52) rfl w7.heap.size #[Cx ua1,Cq ua2 ua3 ua4,Cx ua5,Cq ua6 ua7 ua8,Cz Cv 1,Cz Cv 400,Cx ub1,Cq ub2 ub3 ub4,Cx ub5,Cq ub6 ub7 ub8,Cx uc1,Cq uc2 uc3 uc4,Cx uc5,Cq uc6 uc7 uc8] rfl rfl 45 #[Cx false,Cq none 0 0,Cx false,Cq none 0 0,Cz Cv 0,Cz Cv 0,Cx false,Cq none 0 0,Cx false,Cq none 0 0,Cx false,Cq none 0 0,Cx false,Cq none 0 0] zw B' rfl (by simp[yZ,Value.oneCell']) (fun w8 rz=> ?_); have dP:=rz.a_ (bf.out.alloc _) (Nat.ne_of_lt bf.out.lt); have d0:=dP.c 0 rfl; have d1:=dP.c 1 rfl; have dl:=dP.lt) | go_values | go_skip | go_guarded | go_step | go_upon)
 have sk:zf w7 w8:=rz.below ((Cp _ _).alloc (Cl _) _) (Cl _);replace B:=bS B sk;replace a9:=C5 (a9.out.ae sk);replace bf:=C5 (bf.out.ae sk);replace ah:=C5 (ah.out.ae sk);replace b9:=C5 (b9.out.ae sk);replace be:=C5 (be.out.ae sk);replace bt:=C5 (bt.out.ae sk);replace H:=C5 (H.out.ae sk);replace M:=C5 (M.out.ae sk);replace I:=C5 (I.out.ae sk);have bl:=C5 rz.bP;clear rz sk;clear dP
 repeat' (first | go_values | go_skip | go_guarded | go_step | go_upon)
 refine(H_ 0 0 0 0 18 _ C0 C0 (by unfold U9; rw[C7 C0,C7 rfl])).mono ?_;rintro e w9 ⟨rfl,E⟩;have sk:=bA w8 E;replace B:Below w.heap.size w w9:=bS B sk;replace a9:=C5 (a9.out.ae sk);replace bf:=C5 (bf.out.ae sk);replace ah:=C5 (ah.out.ae sk);replace b9:=C5 (b9.out.ae sk);replace be:=C5 (be.out.ae sk);replace bt:=C5 (bt.out.ae sk);replace H:=C5 (H.out.ae sk);replace M:=C5 (M.out.ae sk);replace I:=C5 (I.out.ae sk);replace bl:=C5 (bl.out.ae sk);clear E sk;clear d0 d1 dl;dsimp only
 repeat' (first | ((with_reducible show wpList _ _ _ (⟨none,.store _ _ _,_,_,_,_⟩::_) _ _); refine zE rfl 30 (.tmp 4) (.tmp 59) rfl w9.heap.size #[Cx false,Cq none 0 0,Cx false,Cq none 0 0,Cx false,Cq none 0 0,Cx false,Cq none 0 0,Cx false,Cq none 0 0,Cx false,Cq none 0 0,Cx false,Cq none 0 0,Cx false,Cq none 0 0] rfl rfl 30 #[Cx false,Cq none 0 0,Cx false,Cq none 0 0,Cx false,Cq none 0 0,Cx false,Cq none 0 0,Cx false,Cq none 0 0,Cx false,Cq none 0 0,Cx false,Cq none 0 0,Cx false,Cq none 0 0] zw B' rfl (by simp[yZ,Value.oneCell']) (fun lj rz=> ?_); have dP:=rz.a_ (bf.out.alloc _) (Nat.ne_of_lt bf.out.lt); have d0:=dP.c 0 rfl; have d1:=dP.c 1 rfl; have dl:=dP.lt) | go_values | go_skip | go_guarded | go_step | go_upon)
 have sk:zf w9 lj:=rz.below ((Cp _ _).alloc (Cl _) _) (Cl _);replace B:=bS B sk;replace a9:=C5 (a9.out.ae sk);replace bf:=C5 (bf.out.ae sk);replace ah:=C5 (ah.out.ae sk);replace b9:=C5 (b9.out.ae sk);replace be:=C5 (be.out.ae sk);replace bt:=C5 (bt.out.ae sk);replace H:=C5 (H.out.ae sk);replace M:=C5 (M.out.ae sk);replace I:=C5 (I.out.ae sk);replace bl:=C5 (bl.out.ae sk);clear rz sk;clear dP
 repeat' (first | go_values | go_skip | go_guarded | go_step | go_upon)
 refine(H_ 0 0 1048577 0 8 _ C0 C0 (by unfold U9; rw[C8 C0])).mono ?_;rintro e iH ⟨rfl,E⟩;have sk:=bA lj E;replace B:Below w.heap.size w iH:=bS B sk;replace a9:=C5 (a9.out.ae sk);replace bf:=C5 (bf.out.ae sk);replace ah:=C5 (ah.out.ae sk);replace b9:=C5 (b9.out.ae sk);replace be:=C5 (be.out.ae sk);replace bt:=C5 (bt.out.ae sk);replace H:=C5 (H.out.ae sk);replace M:=C5 (M.out.ae sk);replace I:=C5 (I.out.ae sk);replace bl:=C5 (bl.out.ae sk);clear E sk;clear d0 d1 dl;dsimp only
 repeat' (first | ((with_reducible show wpList _ _ _ (⟨none,.store _ _ _,_,_,_,_⟩::_) _ _); refine zE rfl 30 (.tmp 6) (.tmp 67) rfl iH.heap.size #[Cx false,Cq none 0 0,Cx false,Cq none 0 0,Cx false,Cq none 0 0,Cx false,Cq none 0 0,Cx false,Cq none 0 0,Cx false,Cq none 0 0,Cx false,Cq none 0 0,Cx false,Cq none 0 0] rfl rfl 30 #[Cx false,Cq none 0 0,Cx false,Cq none 0 0,Cx false,Cq none 0 0,Cx false,Cq none 0 0,Cx false,Cq none 0 0,Cx false,Cq none 0 0,Cx false,Cq none 0 0,Cx false,Cq none 0 0] zw B' rfl (by simp[yZ,Value.oneCell']) (fun lJ rz=> ?_); have dP:=rz.a_ (bf.out.alloc _) (Nat.ne_of_lt bf.out.lt); have d0:=dP.c 0 rfl; have d1:=dP.c 1 rfl; have dl:=dP.lt) | ((with_reducible show wpList _ _ _ (⟨some 70,_,_,_,_,_⟩::_) _ _); refine yi rfl 30 #[] rfl #[Cx false,Cq none 0 0,Cx false,Cq none 0 0,Cx false,Cq none 0 0,Cx false,Cq none 0 0,Cx false,Cq none 0 0,Cx false,Cq none 0 0,Cx false,Cq none 0 0,Cx false,Cq none 0 0] B' ?_) | go_values | go_skip | go_guarded | go_step | go_upon)
 have sk:zf iH lJ:=rz.below ((Cp _ _).alloc (Cl _) _) (Cl _);replace B:=bS B sk;replace a9:=C5 (a9.out.ae sk);replace bf:=C5 (bf.out.ae sk);replace ah:=C5 (ah.out.ae sk);replace b9:=C5 (b9.out.ae sk);replace be:=C5 (be.out.ae sk);replace bt:=C5 (bt.out.ae sk);replace H:=C5 (H.out.ae sk);replace M:=C5 (M.out.ae sk);replace I:=C5 (I.out.ae sk);replace bl:=C5 (bl.out.ae sk);clear rz sk;clear dP
 repeat' (first | ((with_reducible show wpList _ _ _ (⟨some 70,_,_,_,_,_⟩::_) _ _); refine yi rfl 30 #[] rfl #[Cx false,Cq none 0 0,Cx false,Cq none 0 0,Cx false,Cq none 0 0,Cx false,Cq none 0 0,Cx false,Cq none 0 0,Cx false,Cq none 0 0,Cx false,Cq none 0 0,Cx false,Cq none 0 0] B' ?_) | go_values | go_skip | go_guarded | go_step | go_upon)
 refine(US _).mono ?_;rintro e ko ⟨rfl,E⟩;have sk:=bA lJ E;replace B:Below w.heap.size w ko:=bS B sk;replace a9:=C5 (a9.out.ae sk);replace bf:=C5 (bf.out.ae sk);replace ah:=C5 (ah.out.ae sk);replace b9:=C5 (b9.out.ae sk);replace be:=C5 (be.out.ae sk);replace bt:=C5 (bt.out.ae sk);replace H:=C5 (H.out.ae sk);replace M:=C5 (M.out.ae sk);replace I:=C5 (I.out.ae sk);replace bl:=C5 (bl.out.ae sk);clear E sk;clear d0 d1 dl;dsimp only;have d0:=bf.out.c 0 rfl;have d1:=bf.out.c 1 rfl;have dl:=bf.out.lt;have gd:=bt.out;have iL:=gd.lt
 repeat' (first | ((with_reducible show wpList _ _ _ (⟨some 77,_,_,_,_,_⟩::_) _ _); refine zP rfl 30 (.tmp 2) rfl w4.heap.size rfl 30 #[Cx gB,Cq gO gz ig,Cx gL,Cq gP gM gW,Cx ij,Cq gn gQ gF,Cx gA,Cq h9 gY gN,Cx gt,Cq gT gi gV,Cx gC,Cq gX gD gj,Cx gG,Cq gI gk gR,Cx gh,Cq gZ gJ gp] _ zw Tryz.underlying30 rfl B' ?_) | go_values | go_skip | go_guarded | go_step | go_upon)
 refine(Jd 1 0 [0,-1,3] _ (a9.out.af zo) (ah.out.af zo) (b9.out.af zo) (be.out.af zo) (Hr (t:=23) zw) (Hs (t:=23) zw) C0 C0 C0 BJ).mono ?_;rintro e iJ ⟨up,rfl,hp,E⟩;have br:=C5 (show aC iJ up [0,-1,3] from hp);have sk:=bA ko E;replace B:Below w.heap.size w iJ:=bS B sk;replace a9:=C5 (a9.out.ae sk);replace bf:=C5 (bf.out.ae sk);replace ah:=C5 (ah.out.ae sk);replace b9:=C5 (b9.out.ae sk);replace be:=C5 (be.out.ae sk);replace bt:=C5 (bt.out.ae sk);replace H:=C5 (H.out.ae sk);replace M:=C5 (M.out.ae sk);replace I:=C5 (I.out.ae sk);replace bl:=C5 (bl.out.ae sk);clear E sk;clear hp d0 d1 dl gd iL;dsimp only;have gd:=bt.out;have iL:=gd.lt
 repeat' (first | ((with_reducible show wpList _ _ _ (⟨some 91,_,_,_,_,_⟩::_) _ _); refine zP rfl 30 (.tmp 2) rfl w4.heap.size rfl 30 #[Cx gB,Cq gO gz ig,Cx gL,Cq gP gM gW,Cx ij,Cq gn gQ gF,Cx gA,Cq h9 gY gN,Cx gt,Cq gT gi gV,Cx gC,Cq gX gD gj,Cx gG,Cq gI gk gR,Cx gh,Cq gZ gJ gp] _ zw Tryz.underlying30 rfl B' ?_) | go_values | go_skip | go_guarded | go_step | go_upon)
 refine(Jd 0 2 [] _ (a9.out.af zo) (ah.out.af zo) (b9.out.af zo) (be.out.af zo) (bJ.nil _) (bJ.nil _) C0 C0 C0 rfl).mono ?_;rintro e iC ⟨u2,rfl,-,E⟩;have sk:=bA iJ E;replace B:Below w.heap.size w iC:=bS B sk;replace a9:=C5 (a9.out.ae sk);replace bf:=C5 (bf.out.ae sk);replace ah:=C5 (ah.out.ae sk);replace b9:=C5 (b9.out.ae sk);replace be:=C5 (be.out.ae sk);replace bt:=C5 (bt.out.ae sk);replace H:=C5 (H.out.ae sk);replace M:=C5 (M.out.ae sk);replace I:=C5 (I.out.ae sk);replace bl:=C5 (bl.out.ae sk);replace br:=C5 (br.out.ae sk);clear E sk;clear gd iL;dsimp only;have gd:=bt.out;have fX:∀w,(Instr.makeSlice 55 (Cz Cv 201) (Cz Cv 201)).run Ch w = .ok (Cq (some ⟨w.heap.size,0,none⟩) 201 201) (w.alloc (.cells (madeCells #[Cz Cv 0,Cz Cv 0] (201*2)) 23)):=fun w=>UQ 201 B_ w;have PC:∀W' g,zf iC W'->ai W' g 23 (madeCells #[Cz Cv 0,Cz Cv 0] (201*2))->Cb Ch 23 #[Cy #[Cx gB,Cq gO gz ig,Cx gL,Cq gP gM gW,Cx ij,Cq gn gQ gF,Cx gA,Cq h9 gY gN,Cx gt,Cq gT gi gV,Cx gC,Cq gX gD gj,Cx gG,Cq gI gk gR,Cx gh,Cq gZ gJ gp],Cq (some ⟨g,0,none⟩) 201 201,Cq none 0 0,Cz Cv 1] W' fun e w2=>∃u,e = Cg (Ck #[u,Cz Cv 4])/\aC w2 u []/\zf W' w2:=fun W' g s hb=>Jd 1 4 [] W' (a9.out.af (av.ae s)) (ah.out.af (av.ae s)) (b9.out.af (av.ae s)) (be.out.af (av.ae s)) (Kg (n:=201) hb) (bJ.nil _) (by rw[List.length_replicate]; omega) C0 (by decide +kernel) rfl;generalize (madeCells #[Cz Cv 0,Cz Cv 0] (201*2))=MC at fX PC
 go_upto_region 9 with fail
 refine aj.bz (fun N0 D v W=>Below iC.heap.size iC W/\(D 1=true->∃g:Nat,v 1 = Cq (some ⟨g,0,none⟩) 201 201/\ai W g 23 MC))
  (aj.inl [1,2]) (aj.gv [(1,JT),(2,Bz 4)]) (gw []) (fun _=>av) (fun _ _=>False) (aj.pl [(2,[(1,some 97)])]) (aj.pl [])
  B' B' B' (aj.bk _ (by intro p hp; simp only[List.mem_cons,List.not_mem_nil,or_false]at hp; rcases hp with rfl | rfl; exact⟨_,none,0,0,rfl⟩; exact⟨_,Cx false,rfl⟩)) (fun N0 ir=>⟨fun v=> ?_,fun D v v' W hv hj=> ?_,fun D v k j W W' x _ _ _ _ hk hg=>Hv hk hg,fun _ _ _ _ h=>h.elim,fun g9 Q' X hQ=> ?_⟩)
 . exact⟨zi,fun h=>Bool.noConfusion h⟩
 .
  obtain⟨j0,j1⟩:=hj;exact⟨j0,fun h=>by obtain⟨g,e1,e2⟩:=j1 h; exact⟨g,(hv 1 h)▸e1,e2⟩⟩
 clear ir;refine aj.cC X 96 (fun _ _ _ _ hj=>gd.ae hj.1) ?_ (h:=fun W' hf K hK=>by refine wp_load_row 30 (.tmp 2) rfl w4.heap.size rfl 30 #[Cx gB,Cq gO gz ig,Cx gL,Cq gP gM gW,Cx ij,Cq gn gQ gF,Cx gA,Cq h9 gY gN,Cx gt,Cq gT gi gV,Cx gC,Cq gX gD gj,Cx gG,Cq gI gk gR,Cx gh,Cq gZ gJ gp] (0,0) _ hf Tryz.underlying30 rfl B' ?_; exact hK.out);refine aj.bL rfl ?_;refine aj.aB rfl (j9 rfl) (by rw[X]; rfl) (fun D v' W' hc hj hf K hK=> ?_) ?_
 .
  obtain⟨j0,j1⟩:=hj;have mk:=fX W';have E:∀o:Obj,zf W' (W'.alloc o):=fun o=>(Cp _ _).alloc (Cl _) o;go_step;exact hK.out _ _ (av.ae (E _)) ⟨Zc j0 (E _),fun _=>⟨W'.heap.size,rfl,ai.new _ _ _⟩⟩ trivial ⟨_,_,_,rfl⟩
 rintro _ ⟨s1,s2,s3,rfl⟩;refine aj.bL rfl ?_;refine aj.aB rfl (j9 rfl) (by rw[X]; rfl) (fun D v' W' hc hj hf K hK=> ?_) ?_
 .
  obtain⟨j0,j1⟩:=hj;have f:=hf (1,some 97) (.head _) rfl;obtain⟨g,e1,hb⟩:=j1 f.1;have e3:Value.slice s1 s2 s3 = Cq (some ⟨g,0,none⟩) 201 201:=f.2.1.symm.trans e1;simp only[Value.slice.injEq]at e3;obtain⟨rfl,rfl,rfl⟩:=e3;clear fX hf f;go_step;refine(PC W' g j0 hb).mono ?_;rintro e W2 ⟨u,rfl,-,E⟩;exact hK.out _ W2 (av.ae E) ⟨Zc j0 E,fun h=>by obtain⟨g,e1,hb⟩:=j1 h; exact⟨g,e1,hb.ae E⟩⟩ trivial ⟨_,rfl⟩
 rintro _ ⟨u4,rfl⟩;refine aj.bL rfl ?_
 iterate 5 refine aj.RQ X _ ?_
 refine aj.aH (fun Dn v' mr hd hj hf=> ?_);have sk:=hj.1;refine hQ _ _ ?_;clear hQ X Q' g9 hd hj hf;replace B:=bS B sk;replace a9:=C5 (a9.out.ae sk);replace bf:=C5 (bf.out.ae sk);replace ah:=C5 (ah.out.ae sk);replace b9:=C5 (b9.out.ae sk);replace be:=C5 (be.out.ae sk);replace bt:=C5 (bt.out.ae sk);replace H:=C5 (H.out.ae sk);replace M:=C5 (M.out.ae sk);replace I:=C5 (I.out.ae sk);replace bl:=C5 (bl.out.ae sk);replace br:=C5 (br.out.ae sk);clear sk;clear gd fX PC MC;clear bf;clear bt;clear a9;clear ah;clear b9;clear be
 go_upto_region 10 with fail
 refine wp_region_lit ?_
 repeat' (first | ((with_reducible show wpList _ _ _ (⟨some 102,_,_,_,_,_⟩::_) _ _); refine yi rfl 30 #[] rfl #[Cx false,Cq none 0 0,Cx false,Cq none 0 0,Cx false,Cq none 0 0,Cx false,Cq none 0 0,Cx false,Cq none 0 0,Cx false,Cq none 0 0,Cx false,Cq none 0 0,Cx false,Cq none 0 0] B' ?_) | go_values | go_skip | go_guarded | go_step | go_upon)
 refine(UR _).mono ?_;rintro e lF ⟨u5,rfl,-,E⟩;have sk:=bA mr E;replace B:Below w.heap.size w lF:=bS B sk;replace H:=C5 (H.out.ae sk);replace M:=C5 (M.out.ae sk);replace I:=C5 (I.out.ae sk);replace bl:=C5 (bl.out.ae sk);replace br:=C5 (br.out.ae sk);clear E sk;dsimp only;have fm:=bl.out;have gE:=fm.lt
 repeat' (first | ((with_reducible show wpList _ _ _ (⟨some 107,_,_,_,_,_⟩::_) _ _); refine zP rfl 45 (.tmp 3) rfl w7.heap.size rfl 45 #[Cx ua1,Cq ua2 ua3 ua4,Cx ua5,Cq ua6 ua7 ua8,Cz Cv 1,Cz Cv 400,Cx ub1,Cq ub2 ub3 ub4,Cx ub5,Cq ub6 ub7 ub8,Cx uc1,Cq uc2 uc3 uc4,Cx uc5,Cq uc6 uc7 uc8] _ zw Tryz.underlying45 rfl B' ?_) | go_values | go_skip | go_guarded | go_step | go_upon)
 refine(Xa 0 2 _ (M.out.af zo) (I.out.af zo) (H.out.af zo) (aC.nil _) (by decide +kernel) C0).mono ?_;rintro e iN ⟨rfl,E⟩;have sk:=bA lF E;replace B:Below w.heap.size w iN:=bS B sk;replace H:=C5 (H.out.ae sk);replace M:=C5 (M.out.ae sk);replace I:=C5 (I.out.ae sk);replace bl:=C5 (bl.out.ae sk);replace br:=C5 (br.out.ae sk);clear E sk;clear fm gE;dsimp only;have fm:=bl.out;have gE:=fm.lt
 repeat' (first | ((with_reducible show wpList _ _ _ (⟨some 112,_,_,_,_,_⟩::_) _ _); refine zP rfl 45 (.tmp 3) rfl w7.heap.size rfl 45 #[Cx ua1,Cq ua2 ua3 ua4,Cx ua5,Cq ua6 ua7 ua8,Cz Cv 1,Cz Cv 400,Cx ub1,Cq ub2 ub3 ub4,Cx ub5,Cq ub6 ub7 ub8,Cx uc1,Cq uc2 uc3 uc4,Cx uc5,Cq uc6 uc7 uc8] _ zw Tryz.underlying45 rfl B' ?_) | go_values | go_skip | go_guarded | go_step | go_upon)
 refine(Xa 10 2 _ (M.out.af zo) (I.out.af zo) (H.out.af zo) (G6 (t:=3) zw) (by decide +kernel) C0).mono ?_;rintro e lk ⟨rfl,E⟩;have sk:=bA iN E;replace B:Below w.heap.size w lk:=bS B sk;replace H:=C5 (H.out.ae sk);replace M:=C5 (M.out.ae sk);replace I:=C5 (I.out.ae sk);replace bl:=C5 (bl.out.ae sk);replace br:=C5 (br.out.ae sk);clear E sk;clear fm gE;dsimp only;have fm:=bl.out;have gE:=fm.lt
 repeat' (first | ((with_reducible show wpList _ _ _ (⟨some 118,_,_,_,_,_⟩::_) _ _); refine zP rfl 45 (.tmp 3) rfl w7.heap.size rfl 45 #[Cx ua1,Cq ua2 ua3 ua4,Cx ua5,Cq ua6 ua7 ua8,Cz Cv 1,Cz Cv 400,Cx ub1,Cq ub2 ub3 ub4,Cx ub5,Cq ub6 ub7 ub8,Cx uc1,Cq uc2 uc3 uc4,Cx uc5,Cq uc6 uc7 uc8] _ zw Tryz.underlying45 rfl B' ?_) | go_values | go_skip | go_guarded | go_step | go_upon)
 refine(Xa 100 2 _ (M.out.af zo) (I.out.af zo) (H.out.af zo) (aC.nil _) (by decide +kernel) C0).mono ?_;rintro e iu ⟨rfl,E⟩;have sk:=bA lk E;replace B:Below w.heap.size w iu:=bS B sk;replace H:=C5 (H.out.ae sk);replace M:=C5 (M.out.ae sk);replace I:=C5 (I.out.ae sk);replace bl:=C5 (bl.out.ae sk);replace br:=C5 (br.out.ae sk);clear E sk;clear fm gE;dsimp only;have fm:=bl.out;have fX:∀w,(Instr.makeSlice 46 (Cz Cv 201) (Cz Cv 201)).run Ch w = .ok (Cq (some ⟨w.heap.size,0,none⟩) 201 201) (w.alloc (.cells (madeCells #[Cz Cv 0] 201) 3)):=fun w=>YD 201 B_ w;have PC:∀W' g,zf iu W'->ai W' g 3 (madeCells #[Cz Cv 0] 201)->Cb Ch 19 #[Cy #[Cx ua1,Cq ua2 ua3 ua4,Cx ua5,Cq ua6 ua7 ua8,Cz Cv 1,Cz Cv 400,Cx ub1,Cq ub2 ub3 ub4,Cx ub5,Cq ub6 ub7 ub8,Cx uc1,Cq uc2 uc3 uc4,Cx uc5,Cq uc6 uc7 uc8],Cq (some ⟨g,0,none⟩) 201 201,Cz Cv 10] W' fun e w2=>e = Cg (Ck #[Cy #[Cx false,Cq none 0 0,Cx false,Cq none 0 0],Cz Cv 4])/\zf W' w2:=fun W' g s hb=>Xa 10 4 W' (M.out.af (av.ae s)) (I.out.af (av.ae s)) (H.out.af (av.ae s)) (Jc (n:=201) hb) (by decide +kernel) C0;generalize (madeCells #[Cz Cv 0] 201)=MC at fX PC
 go_upto_region 14 with fail
 refine aj.bz (fun N0 D v W=>Below iu.heap.size iu W/\(D 1=true->D 2=false->∃g:Nat,v 1 = Cq (some ⟨g,0,none⟩) 201 201/\ai W g 3 MC)/\(D 6=true->∃g:Nat,v 6 = .pointer (some ⟨g,0,none⟩)/\iu.heap.size<=g/\ai W g 28 qE))
  (aj.inl [1,2,6,7]) (aj.gv [(1,JT),(2,fun x=>x = Ck #[Cy qE,Cz Cv 4]),(6,jH)]) (gw []) (fun _=>av) (fun _ _=>False) (aj.pl [(2,[(1,some 124)]),(7,[(2,some 125),(6,some 25)])]) (aj.pl [])
  B' B' B' (aj.bk _ (by intro p hp; simp only[List.mem_cons,List.not_mem_nil,or_false]at hp; rcases hp with rfl | rfl | rfl; exact⟨_,none,0,0,rfl⟩; exact⟨_,rfl⟩; exact⟨_,0,rfl⟩)) (fun N0 ir=>⟨fun v=> ?_,fun D v v' W hv hj=> ?_,fun D v k j W W' x _ _ _ _ hk hg=>Hv hk hg,fun _ _ _ _ h=>h.elim,fun g9 Q' X hQ=> ?_⟩)
 . exact⟨zi,fun h=>Bool.noConfusion h,fun h=>Bool.noConfusion h⟩
 .
  obtain⟨j0,j1,ja⟩:=hj;exact⟨j0,fun h1 h2=>by obtain⟨g,e1,e2⟩:=j1 h1 h2; exact⟨g,(hv 1 h1)▸e1,e2⟩,fun h=>by obtain⟨g,e1,e2,e3⟩:=ja h; exact⟨g,(hv 6 h)▸e1,e2,e3⟩⟩
 clear ir;refine aj.cC X 123 (fun _ _ _ _ hj=>fm.ae hj.1) ?_ (h:=fun W' hf K hK=>by refine wp_load_row 45 (.tmp 3) rfl w7.heap.size rfl 45 #[Cx ua1,Cq ua2 ua3 ua4,Cx ua5,Cq ua6 ua7 ua8,Cz Cv 1,Cz Cv 400,Cx ub1,Cq ub2 ub3 ub4,Cx ub5,Cq ub6 ub7 ub8,Cx uc1,Cq uc2 uc3 uc4,Cx uc5,Cq uc6 uc7 uc8] (0,0) _ hf Tryz.underlying45 rfl B' ?_; exact hK.out);refine aj.bL rfl ?_;refine aj.aB rfl (j9 rfl) (by rw[X]; rfl) (fun D v' W' hc hj hf K hK=> ?_) ?_
 .
  obtain⟨j0,j1,ja⟩:=hj;have mk:=fX W';have E:∀o:Obj,zf W' (W'.alloc o):=fun o=>(Cp _ _).alloc (Cl _) o;go_step;exact hK.out _ _ (av.ae (E _)) ⟨Zc j0 (E _),fun _ _=>⟨W'.heap.size,rfl,ai.new _ _ _⟩,fun h=>by obtain⟨g,e1,e2,e3⟩:=ja h; exact⟨g,e1,e2,e3.ae (E _)⟩⟩ trivial ⟨_,_,_,rfl⟩
 rintro _ ⟨s1,s2,s3,rfl⟩;refine aj.bL rfl ?_;refine aj.aB rfl (j9 rfl) (by rw[X]; rfl) (fun D v' W' hc hj hf K hK=> ?_) ?_
 .
  obtain⟨j0,j1,ja⟩:=hj;have f:=hf (1,some 124) (.head _) rfl;obtain⟨g,e1,hb⟩:=j1 f.1 hc.1;have e3:Value.slice s1 s2 s3 = Cq (some ⟨g,0,none⟩) 201 201:=f.2.1.symm.trans e1;simp only[Value.slice.injEq]at e3;obtain⟨rfl,rfl,rfl⟩:=e3;clear fX hf f;go_step;refine(PC W' g j0 hb).mono ?_;rintro e W2 ⟨rfl,E⟩;exact hK.out _ W2 (av.ae E) ⟨Zc j0 E,fun _ h=>Bool.noConfusion h,fun h=>by obtain⟨g,e1,e2,e3⟩:=ja h; exact⟨g,e1,e2,e3.ae E⟩⟩ trivial rfl
 rintro _ rfl;refine aj.bL rfl ?_
 iterate 3 refine aj.RQ X _ ?_
 refine aj.aB rfl (j9 rfl) (by rw[X]; rfl) (fun D v' W' hc hj hf K hK=> ?_) ?_
 .
  obtain⟨j0,j1,ja⟩:=hj;clear fX;go_step;have E:∀o:Obj,zf W' (W'.alloc o):=fun o=>(Cp _ _).alloc (Cl _) o;exact hK.out _ _ (av.ae (E _)) ⟨Zc j0 (E _),fun h1 h2=>by obtain⟨g,e1,e2⟩:=j1 h1 h2; exact⟨g,e1,e2.ae (E _)⟩,fun _=>⟨W'.heap.size,rfl,j0.size,ai.new _ _ _⟩⟩ trivial ⟨_,rfl⟩
 rintro _ ⟨p25,rfl⟩;refine aj.bL rfl ?_;refine aj.aB rfl (by intro t ht; cases ht) (by rw[X]; rfl) (fun D v' W' hc hj hf K hK=> ?_) (fun _ _=>aj.aD (b:=⟨_,_⟩) rfl ?_)
 .
  obtain⟨j0,j1,ja⟩:=hj;have fp:=hf (6,some 25) (.tail _ (.head _)) rfl;have fc:=hf (2,some 125) (.head _) rfl;obtain⟨g,e1,e2,hb⟩:=ja fp.1;obtain rfl:p25=g:=aj.cL ((show v' 6 = .pointer (some ⟨p25,0,none⟩) from fp.2.1).symm.trans e1);have ff:=hb.fr;obtain⟨mX,mW,mT,mV⟩:=hb.r3;clear fX;go_step;exact hK.out undef _ (Vf hb rfl) ⟨QE j0 e2,fun _ h=>Bool.noConfusion (fc.1.symm.trans h),fun _=>⟨p25,e1,e2,ai.aR (cs':=qE) (ai.aR (cs':=qE) (ai.aR (cs':=qE) (ai.aR (cs':=qE) hb (i:=0) rfl) (i:=1) rfl) (i:=2) rfl) (i:=3) rfl⟩⟩ trivial trivial
 refine aj.RQ X _ ?_;refine aj.aH (fun Dn v' mC hd hj hf=> ?_);have sk:=hj.1;refine hQ _ _ ?_;clear hQ X Q' g9 hd hj hf;replace B:=bS B sk;replace H:=C5 (H.out.ae sk);replace M:=C5 (M.out.ae sk);replace I:=C5 (I.out.ae sk);replace bl:=C5 (bl.out.ae sk);replace br:=C5 (br.out.ae sk);clear sk;clear fm fX PC MC
 go_upto_region 15 with fail
 refine wp_region_lit ?_
 repeat' (first | ((with_reducible show wpList _ _ _ (⟨some 129,_,_,_,_,_⟩::_) _ _); refine yi rfl 45 #[] rfl #[Cx false,Cq none 0 0,Cx false,Cq none 0 0,Cz Cv 0,Cz Cv 0,Cx false,Cq none 0 0,Cx false,Cq none 0 0,Cx false,Cq none 0 0,Cx false,Cq none 0 0] B' ?_) | go_values | go_skip | go_guarded | go_step | go_upon)
 refine(W9 _).mono ?_;rintro e iT ⟨rfl,E⟩;have sk:=bA mC E;replace B:Below w.heap.size w iT:=bS B sk;replace H:=C5 (H.out.ae sk);replace M:=C5 (M.out.ae sk);replace I:=C5 (I.out.ae sk);replace bl:=C5 (bl.out.ae sk);replace br:=C5 (br.out.ae sk);clear E sk;dsimp only;have fm:=bl.out;have gE:=fm.lt
 repeat' (first | ((with_reducible show wpList _ _ _ (⟨some 134,_,_,_,_,_⟩::_) _ _); refine zP rfl 45 (.tmp 3) rfl w7.heap.size rfl 45 #[Cx ua1,Cq ua2 ua3 ua4,Cx ua5,Cq ua6 ua7 ua8,Cz Cv 1,Cz Cv 400,Cx ub1,Cq ub2 ub3 ub4,Cx ub5,Cq ub6 ub7 ub8,Cx uc1,Cq uc2 uc3 uc4,Cx uc5,Cq uc6 uc7 uc8] _ zw Tryz.underlying45 rfl B' ?_) | go_values | go_skip | go_guarded | go_step | go_upon)
 refine(W_ _ (M.out.af zo) (I.out.af zo) (H.out.af zo)).mono ?_;rintro e it ⟨lY,kc,l6,iS,mb,mh,lC,k8,rfl,hf,E⟩;have ec:=C5 (show FR it (Cy #[Cx lY,Cq kc l6 iS,Cx mb,Cq mh lC k8]) 1 from hf);have sk:=bA iT E;replace B:Below w.heap.size w it:=bS B sk;replace H:=C5 (H.out.ae sk);replace M:=C5 (M.out.ae sk);replace I:=C5 (I.out.ae sk);replace bl:=C5 (bl.out.ae sk);replace br:=C5 (br.out.ae sk);clear E sk;clear hf fm gE;dsimp only;clear bl;clear M;clear I;clear H
 repeat' (first | go_values | go_skip | go_guarded | go_step | go_upon)
 refine(Kj 0 1 0 _ C0 C0 C0 C0 C0 (by decide +kernel)).mono ?_;rintro e iv ⟨f9,fd,eF,em,fW,dx,ft,f7,rfl,hf,E⟩;have J:=C5 (show FR iv (Cy #[Cx f9,Cq fd eF em,Cx fW,Cq dx ft f7]) 0 from hf);have fY:=C5 (show ai iv it.heap.size 28 #[Cx lY,Cq kc l6 iS,Cx mb,Cq mh lC k8] from ai.ak E);have fl:=C5 (show bJ iv (Cq (some ⟨it.heap.size+1,0,none⟩) 5 5) L5 from Ht (t:=23) (ai.ak E));have sk:=bA it E;replace B:Below w.heap.size w iv:=bS B sk;replace br:=C5 (br.out.ae sk);replace ec:=C5 (ec.out.ae sk);clear E sk;clear hf;dsimp only
 repeat' (first | go_values | go_skip | go_guarded | go_step | go_upon)
 refine(Kj 1 2 (1 / 2) _ C0 C0 C0 C0 C0 (by decide +kernel)).mono ?_;rintro e iM ⟨ek,fV,er,dy,eW,eM,fe,f8,rfl,hf,E⟩;have N:=C5 (show FR iM (Cy #[Cx ek,Cq fV er dy,Cx eW,Cq eM fe f8]) (1 / 2) from hf);have sk:=bA iv E;replace B:Below w.heap.size w iM:=bS B sk;replace br:=C5 (br.out.ae sk);replace ec:=C5 (ec.out.ae sk);replace J:=C5 (J.out.ae sk);replace fY:=C5 (fY.out.ae sk);replace fl:=C5 (fl.out.ae sk);clear E sk;clear hf;dsimp only
 repeat' (first | go_values | go_skip | go_guarded | go_step | go_upon)
 refine(Kj 20 1 (20) _ C0 C0 C0 C0 C0 (by decide +kernel)).mono ?_;rintro e Y ⟨iD,iB,iz,iy,ik,gr,gK,gH,rfl,hf,E⟩;have cg:=C5 (show FR Y (Cy #[Cx iD,Cq iB iz iy,Cx ik,Cq gr gK gH]) (20) from hf);have sk:=bA iM E;replace B:Below w.heap.size w Y:=bS B sk;replace br:=C5 (br.out.ae sk);replace ec:=C5 (ec.out.ae sk);replace J:=C5 (J.out.ae sk);replace fY:=C5 (fY.out.ae sk);replace fl:=C5 (fl.out.ae sk);replace N:=C5 (N.out.ae sk);clear E sk;clear hf;dsimp only;have iF:=C5 B
 repeat' (first | ((with_reducible show wpList _ _ _ (⟨some 147,_,_,_,_,_⟩::_) _ _); refine yi rfl 45 _ rfl #[Cx f9,Cq fd eF em,Cx fW,Cq dx ft f7,Cz Cv 1,Cz Cv 1000,Cx ek,Cq fV er dy,Cx eW,Cq eM fe f8,Cx iD,Cq iB iz iy,Cx ik,Cq gr gK gH] B' ?_) | ((with_reducible show wpList _ _ _ (⟨none,.store _ _ _,_,_,_,_⟩::_) _ _); refine zE rfl 45 (.tmp 32) (.tmp 147) rfl Y.heap.size #[Cx f9,Cq fd eF em,Cx fW,Cq dx ft f7,Cz Cv 1,Cz Cv 1000,Cx ek,Cq fV er dy,Cx eW,Cq eM fe f8,Cx iD,Cq iB iz iy,Cx ik,Cq gr gK gH] rfl rfl 45 #[Cx false,Cq none 0 0,Cx false,Cq none 0 0,Cz Cv 0,Cz Cv 0,Cx false,Cq none 0 0,Cx false,Cq none 0 0,Cx false,Cq none 0 0,Cx false,Cq none 0 0] zw B' rfl (by simp[yZ,Value.oneCell']) (fun mx rz=> ?_)) | ((with_reducible show wpList _ _ _ (⟨some 151,_,_,_,_,_⟩::_) _ _); refine zP rfl 45 (.tmp 32) rfl Y.heap.size rfl 45 #[Cx f9,Cq fd eF em,Cx fW,Cq dx ft f7,Cz Cv 1,Cz Cv 1000,Cx ek,Cq fV er dy,Cx eW,Cq eM fe f8,Cx iD,Cq iB iz iy,Cx ik,Cq gr gK gH] _ rz.bP Tryz.underlying45 rfl B' ?_) | go_values | go_skip | go_guarded | go_step | go_upon)
 have Bv:zf Y _:=rz.below ((Cp _ _).alloc (Cl _) _) (Cl _);have sk:zf Y mx:=rz.below ((Cp _ _).alloc (Cl _) _) (Cl _);replace B:=bS B sk;replace J:=C5 (J.out.ae sk);replace N:=C5 (N.out.ae sk);replace cg:=C5 (cg.out.ae sk);have T:=C5 rz.bP;clear rz sk;refine(V5 _ J.out N.out cg.out (fl.out.ae Bv) (fl.out.ae Bv)).mono ?_;rintro e ip ⟨v_,t_,rfl,hM,lK,sk⟩;obtain⟨me,lI,kw,lM,k7,iZ,iR,jb,mP,mI,mq,mF,mB,mD,mR,mN,mw,mS,mu,ms,mK,mH,mp,mJ,mn,mA,mE,mG,mO,mz,mM,mQ,xo,xc,iO,k6,jd,m9,lE,lQ,l3,lX,rfl,S4,I4,F4⟩:=hM.u;have iI:=(G5 S4).1;rw[lK]at iI;have lH:([0,1,2,3,4]:List Int).length=5:=rfl;rw[lH]at I4|-;replace B:=bS B sk;replace Bv:=zp Bv (Cl _) sk;replace J:=C5 (J.out.ae sk);replace N:=C5 (N.out.ae sk);replace cg:=C5 (cg.out.ae sk);replace T:=C5 (T.out.ae sk);have bg:=C5 (show FR ip (Cy #[Cx me,Cq lI kw lM,Cx k7,Cq iZ iR jb]) 1 from iI);have ce:=C5 (show aC ip (Cq xo 5 xc) [0,1,2,3,4] from I4);have bh:=C5 (show FR ip (Cy #[Cx iO,Cq k6 jd m9,Cx lE,Cq lQ l3 lX]) (51 / 2) from F4);clear hM S4 I4 F4 iI lK sk lH;dsimp only
 repeat' (first | ((with_reducible show wpList _ _ _ (⟨none,.store _ _ _,_,_,_,_⟩::_) _ _); refine zE rfl 70 (.tmp 33) (.tmp 153) rfl ip.heap.size #[Cx me,Cq lI kw lM,Cx k7,Cq iZ iR jb,Cx mP,Cq mI mq mF,Cx mB,Cq mD mR mN,Cx mw,Cq mS mu ms,Cx mK,Cq mH mp mJ,Cx mn,Cq mA mE mG,Cx mO,Cq mz mM mQ,Cq xo 5 xc,Cx iO,Cq k6 jd m9,Cx lE,Cq lQ l3 lX] rfl rfl 70 yZ zw B' rfl (by simp[yZ,Value.oneCell']) (fun mL rz=> ?_)) | go_values | go_skip | go_guarded | go_step | go_upon)
 have iA:Hid (Y.heap.size<ip.heap.size):=C5 T.out.lt;have sk:zf ip mL:=rz.below ((Cp _ _).alloc (Cl _) _) (Cl _);replace B:=bS B sk;replace Bv:=zp Bv (Cl _) sk;replace J:=C5 (J.out.ae sk);replace N:=C5 (N.out.ae sk);replace cg:=C5 (cg.out.ae sk);replace T:=C5 (T.out.ae sk);replace bg:=C5 (bg.out.ae sk);replace ce:=C5 (ce.out.ae sk);replace bh:=C5 (bh.out.ae sk);have bq:=C5 rz.bP;clear rz sk
 repeat' (first | go_values | go_skip | go_guarded | go_step | go_upon)
 refine(Kj 26 1 26 _ C0 C0 C0 C0 C0 (by decide +kernel)).mono ?_;rintro e fZ ⟨ci,cN,cx,cy,cY,dc,dk,dd,rfl,hf,sk⟩;replace B:=bS B sk;replace Bv:=zp Bv (Cl _) sk;replace J:=C5 (J.out.ae sk);replace N:=C5 (N.out.ae sk);replace cg:=C5 (cg.out.ae sk);replace T:=C5 (T.out.ae sk);replace bg:=C5 (bg.out.ae sk);replace ce:=C5 (ce.out.ae sk);replace bh:=C5 (bh.out.ae sk);replace bq:=C5 (bq.out.ae sk);have bi:=C5 (show FR fZ (Cy #[Cx ci,Cq cN cx cy,Cx cY,Cq dc dk dd]) 26 from hf);clear sk;dsimp only;clear hf;have q_:=T.out;have ff:=q_.fr;have lq:=q_.lt;have eL:=q_.c 10 rfl;have eO:=q_.c 11 rfl;have eH:=q_.c 12 rfl;have dz:=q_.c 13 rfl
 repeat' (first | ((with_reducible show wpList _ _ _ (⟨some 158,_,_,_,_,_⟩::_) _ _); generalize hZ : @wpList=Z) | go_values | go_skip | go_guarded | go_step | go_upon)
 subst hZ;have oE:ai ((((fZ.setCell ⟨Y.heap.size,10,none⟩ (Cx ci)).setCell ⟨Y.heap.size,11,none⟩ (Cq cN cx cy)).setCell ⟨Y.heap.size,12,none⟩ (Cx cY)).setCell ⟨Y.heap.size,13,none⟩ (Cq dc dk dd)) Y.heap.size 45 #[Cx f9,Cq fd eF em,Cx fW,Cq dx ft f7,Cz Cv 1,Cz Cv 1000,Cx ek,Cq fV er dy,Cx eW,Cq eM fe f8,Cx ci,Cq cN cx cy,Cx cY,Cq dc dk dd]:=ai.aR (cs':=#[Cx f9,Cq fd eF em,Cx fW,Cq dx ft f7,Cz Cv 1,Cz Cv 1000,Cx ek,Cq fV er dy,Cx eW,Cq eM fe f8,Cx ci,Cq cN cx cy,Cx cY,Cq dc dk dd]) (ai.aR (cs':=#[Cx f9,Cq fd eF em,Cx fW,Cq dx ft f7,Cz Cv 1,Cz Cv 1000,Cx ek,Cq fV er dy,Cx eW,Cq eM fe f8,Cx ci,Cq cN cx cy,Cx cY,Cq gr gK gH]) (ai.aR (cs':=#[Cx f9,Cq fd eF em,Cx fW,Cq dx ft f7,Cz Cv 1,Cz Cv 1000,Cx ek,Cq fV er dy,Cx eW,Cq eM fe f8,Cx ci,Cq cN cx cy,Cx ik,Cq gr gK gH]) (ai.aR (cs':=#[Cx f9,Cq fd eF em,Cx fW,Cq dx ft f7,Cz Cv 1,Cz Cv 1000,Cx ek,Cq fV er dy,Cx eW,Cq eM fe f8,Cx ci,Cq iB iz iy,Cx ik,Cq gr gK gH]) q_ (i:=10) rfl) (i:=11) rfl) (i:=12) rfl) (i:=13) rfl;have kE:av fZ ((((fZ.setCell ⟨Y.heap.size,10,none⟩ (Cx ci)).setCell ⟨Y.heap.size,11,none⟩ (Cq cN cx cy)).setCell ⟨Y.heap.size,12,none⟩ (Cx cY)).setCell ⟨Y.heap.size,13,none⟩ (Cq dc dk dd)):=Vf q_ rfl;have iq:bC Y.heap.size fZ ((((fZ.setCell ⟨Y.heap.size,10,none⟩ (Cx ci)).setCell ⟨Y.heap.size,11,none⟩ (Cq cN cx cy)).setCell ⟨Y.heap.size,12,none⟩ (Cx cY)).setCell ⟨Y.heap.size,13,none⟩ (Cq dc dk dd)):=(bC.refl _ _).set.set.set.set;have g0:w.heap.size<=Y.heap.size:=iF.out.size;replace B:Below w.heap.size w ((((fZ.setCell ⟨Y.heap.size,10,none⟩ (Cx ci)).setCell ⟨Y.heap.size,11,none⟩ (Cq cN cx cy)).setCell ⟨Y.heap.size,12,none⟩ (Cx cY)).setCell ⟨Y.heap.size,13,none⟩ (Cq dc dk dd)):=QE B g0;replace Bv:Below Y.heap.size Y ((((fZ.setCell ⟨Y.heap.size,10,none⟩ (Cx ci)).setCell ⟨Y.heap.size,11,none⟩ (Cq cN cx cy)).setCell ⟨Y.heap.size,12,none⟩ (Cx cY)).setCell ⟨Y.heap.size,13,none⟩ (Cq dc dk dd)):=QE Bv (Cl _);have iG:=bq.out.eY (b:=Y.heap.size) (i:=10) (j:=11) (k:=12) (l:=13) (x:=(Cx ci)) (y:=(Cq cN cx cy)) (z:=(Cx cY)) (u:=(Cq dc dk dd)) (by have h:=iA.out; omega);replace bq:=C5 iG;replace T:=C5 oE;replace ce:=C5 (ce.out.eu C0 q_ X7 iq);replace J:=C5 (J.out.af kE);replace N:=C5 (N.out.af kE);replace cg:=C5 (cg.out.af kE);replace bg:=C5 (bg.out.af kE);replace bh:=C5 (bh.out.af kE);replace bi:=C5 (bi.out.af kE);clear q_ ff lq eL eO eH dz oE kE iq iG;clear cg;generalize ((((fZ.setCell ⟨Y.heap.size,10,none⟩ (Cx ci)).setCell ⟨Y.heap.size,11,none⟩ (Cq cN cx cy)).setCell ⟨Y.heap.size,12,none⟩ (Cx cY)).setCell ⟨Y.heap.size,13,none⟩ (Cq dc dk dd))=w31 at *
 repeat' (first | ((with_reducible show wpList _ _ _ (⟨some 160,_,_,_,_,_⟩::_) _ _); refine zP rfl 45 (.tmp 32) rfl Y.heap.size rfl 45 #[Cx f9,Cq fd eF em,Cx fW,Cq dx ft f7,Cz Cv 1,Cz Cv 1000,Cx ek,Cq fV er dy,Cx eW,Cq eM fe f8,Cx ci,Cq cN cx cy,Cx cY,Cq dc dk dd] _ T.out Tryz.underlying45 rfl B' ?_) | go_values | go_skip | go_guarded | go_step | go_upon)
 refine(kM 5 1000 6 26 _ J.out N.out bi.out C0 (by decide +kernel) (by decide +kernel) (by decide +kernel) (fl.out.ae Bv) (fl.out.ae Bv) C0 C0 BC).mono ?_;rintro e iQ ⟨rfl,sk⟩;replace B:=bS B sk;replace Bv:=zp Bv (Cl _) sk;replace J:=C5 (J.out.ae sk);replace N:=C5 (N.out.ae sk);replace T:=C5 (T.out.ae sk);replace bg:=C5 (bg.out.ae sk);replace ce:=C5 (ce.out.ae sk);replace bh:=C5 (bh.out.ae sk);replace bq:=C5 (bq.out.ae sk);replace bi:=C5 (bi.out.ae sk);clear sk;dsimp only
 repeat' (first | ((with_reducible show wpList _ _ _ (⟨none,.store _ _ _,_,_,_,_⟩::_) _ _); refine zE rfl 70 (.tmp 35) (.tmp 162) rfl iQ.heap.size yZ rfl rfl 70 yZ zw B' rfl (by simp[yZ,Value.oneCell']) (fun my rz=> ?_)) | ((with_reducible show wpList _ _ _ (⟨some 166,_,_,_,_,_⟩::_) _ _); refine zP rfl 45 (.tmp 32) rfl Y.heap.size rfl 45 #[Cx f9,Cq fd eF em,Cx fW,Cq dx ft f7,Cz Cv 1,Cz Cv 1000,Cx ek,Cq fV er dy,Cx eW,Cq eM fe f8,Cx ci,Cq cN cx cy,Cx cY,Cq dc dk dd] _ (rz.a_ (T.out.alloc _) (by have h:=T.out.lt; omega)) Tryz.underlying45 rfl B' ?_) | go_values | go_skip | go_guarded | go_step | go_upon)
 have sk:zf iQ my:=rz.below ((Cp _ _).alloc (Cl _) _) (Cl _);replace B:=bS B sk;replace Bv:=zp Bv (Cl _) sk;replace J:=C5 (J.out.ae sk);replace N:=C5 (N.out.ae sk);replace T:=C5 (T.out.ae sk);replace bg:=C5 (bg.out.ae sk);replace ce:=C5 (ce.out.ae sk);replace bh:=C5 (bh.out.ae sk);replace bq:=C5 (bq.out.ae sk);replace bi:=C5 (bi.out.ae sk);clear rz sk
 repeat' (first | go_values | go_skip | go_guarded | go_step | go_upon)
 refine(kM 5 1000 6 26 _ J.out N.out bi.out C0 (by decide +kernel) (by decide +kernel) (by decide +kernel) (fl.out.ae Bv) (bJ.nil _) C0 C0 BD).mono ?_;rintro e lN ⟨rfl,sk⟩;replace B:=bS B sk;replace Bv:=zp Bv (Cl _) sk;replace J:=C5 (J.out.ae sk);replace N:=C5 (N.out.ae sk);replace T:=C5 (T.out.ae sk);replace bg:=C5 (bg.out.ae sk);replace ce:=C5 (ce.out.ae sk);replace bh:=C5 (bh.out.ae sk);replace bq:=C5 (bq.out.ae sk);replace bi:=C5 (bi.out.ae sk);clear sk;dsimp only
 repeat' (first | ((with_reducible show wpList _ _ _ (⟨none,.store _ _ _,_,_,_,_⟩::_) _ _); refine zE rfl 70 (.tmp 37) (.tmp 168) rfl lN.heap.size yZ rfl rfl 70 yZ zw B' rfl (by simp[yZ,Value.oneCell']) (fun mt rz=> ?_)) | ((with_reducible show wpList _ _ _ (⟨some 173,_,_,_,_,_⟩::_) _ _); refine zP rfl 45 (.tmp 32) rfl Y.heap.size rfl 45 #[Cx f9,Cq fd eF em,Cx fW,Cq dx ft f7,Cz Cv 1,Cz Cv 1000,Cx ek,Cq fV er dy,Cx eW,Cq eM fe f8,Cx ci,Cq cN cx cy,Cx cY,Cq dc dk dd] _ (rz.a_ (T.out.alloc _) (by have h:=T.out.lt; omega)) Tryz.underlying45 rfl B' ?_) | go_values | go_skip | go_guarded | go_step | go_upon)
 have sk:zf lN mt:=rz.below ((Cp _ _).alloc (Cl _) _) (Cl _);replace B:=bS B sk;replace Bv:=zp Bv (Cl _) sk;replace J:=C5 (J.out.ae sk);replace N:=C5 (N.out.ae sk);replace T:=C5 (T.out.ae sk);replace bg:=C5 (bg.out.ae sk);replace ce:=C5 (ce.out.ae sk);replace bh:=C5 (bh.out.ae sk);replace bq:=C5 (bq.out.ae sk);replace bi:=C5 (bi.out.ae sk);clear rz sk
 repeat' (first | go_values | go_skip | go_guarded | go_step | go_upon)
 refine(kM 13 1000 2 26 _ J.out N.out bi.out C0 (by decide +kernel) (by decide +kernel) (by decide +kernel) (fl.out.ae Bv) (fl.out.ae Bv) C0 C0 BE).mono ?_;rintro e lh ⟨rfl,sk⟩;replace B:=bS B sk;replace Bv:=zp Bv (Cl _) sk;replace J:=C5 (J.out.ae sk);replace N:=C5 (N.out.ae sk);replace T:=C5 (T.out.ae sk);replace bg:=C5 (bg.out.ae sk);replace ce:=C5 (ce.out.ae sk);replace bh:=C5 (bh.out.ae sk);replace bq:=C5 (bq.out.ae sk);replace bi:=C5 (bi.out.ae sk);clear sk;dsimp only
 repeat' (first | ((with_reducible show wpList _ _ _ (⟨none,.store _ _ _,_,_,_,_⟩::_) _ _); refine zE rfl 70 (.tmp 39) (.tmp 175) rfl lh.heap.size yZ rfl rfl 70 yZ zw B' rfl (by simp[yZ,Value.oneCell']) (fun g8 rz=> ?_); have q_:=rz.a_ (T.out.alloc _) (by have h:=T.out.lt; omega); have ff:=q_.fr; have lq:=q_.lt; have r5:=q_.c 5 rfl) | ((with_reducible show wpList _ _ _ (⟨some 179,_,_,_,_,_⟩::_) _ _); generalize hZ : @wpList=Z) | go_values | go_skip | go_guarded | go_step | go_upon)
 subst hZ;have sk:zf lh g8:=rz.below ((Cp _ _).alloc (Cl _) _) (Cl _);replace B:=bS B sk;replace Bv:=zp Bv (Cl _) sk;replace J:=C5 (J.out.ae sk);replace N:=C5 (N.out.ae sk);replace T:=C5 (T.out.ae sk);replace bg:=C5 (bg.out.ae sk);replace ce:=C5 (ce.out.ae sk);replace bh:=C5 (bh.out.ae sk);replace bq:=C5 (bq.out.ae sk);replace bi:=C5 (bi.out.ae sk);clear rz sk;clear q_;have q_:=T.out;have oE:ai (g8.setCell ⟨Y.heap.size,5,none⟩ (Cz Cv 20)) Y.heap.size 45 #[Cx f9,Cq fd eF em,Cx fW,Cq dx ft f7,Cz Cv 1,Cz Cv 20,Cx ek,Cq fV er dy,Cx eW,Cq eM fe f8,Cx ci,Cq cN cx cy,Cx cY,Cq dc dk dd]:=ai.aR q_ (i:=5) rfl;have iq:bC Y.heap.size g8 (g8.setCell ⟨Y.heap.size,5,none⟩ (Cz Cv 20)):=(bC.refl _ _).set;have kE:av g8 (g8.setCell ⟨Y.heap.size,5,none⟩ (Cz Cv 20)):=av.only q_ rfl iq;replace B:Below w.heap.size w (g8.setCell ⟨Y.heap.size,5,none⟩ (Cz Cv 20)):=Below.setCell B g0 _;replace Bv:Below Y.heap.size Y (g8.setCell ⟨Y.heap.size,5,none⟩ (Cz Cv 20)):=Below.setCell Bv (Cl _) _;replace bq:=C5 (bq.out.aG (b:=Y.heap.size) (i:=5) (u:= Cz Cv 20) (by have h:=iA.out; omega));replace T:=C5 oE;replace ce:=C5 (ce.out.eu C0 q_ X7 iq);replace J:=C5 (J.out.af kE);replace N:=C5 (N.out.af kE);replace bg:=C5 (bg.out.af kE);replace bh:=C5 (bh.out.af kE);replace bi:=C5 (bi.out.af kE);clear q_ ff lq r5 oE kE iq;generalize (g8.setCell ⟨Y.heap.size,5,none⟩ (Cz Cv 20))=w38 at *
 repeat' (first | ((with_reducible show wpList _ _ _ (⟨some 181,_,_,_,_,_⟩::_) _ _); refine zP rfl 45 (.tmp 32) rfl Y.heap.size rfl 45 #[Cx f9,Cq fd eF em,Cx fW,Cq dx ft f7,Cz Cv 1,Cz Cv 20,Cx ek,Cq fV er dy,Cx eW,Cq eM fe f8,Cx ci,Cq cN cx cy,Cx cY,Cq dc dk dd] _ T.out Tryz.underlying45 rfl B' ?_) | go_values | go_skip | go_guarded | go_step | go_upon)
 refine(kM 5 20 2 26 _ J.out N.out bi.out C0 (by decide +kernel) (by decide +kernel) (by decide +kernel) (fl.out.ae Bv) (fl.out.ae Bv) C0 C0 BF).mono ?_;rintro e ma ⟨rfl,sk⟩;replace B:=bS B sk;replace Bv:=zp Bv (Cl _) sk;replace J:=C5 (J.out.ae sk);replace N:=C5 (N.out.ae sk);replace T:=C5 (T.out.ae sk);replace bg:=C5 (bg.out.ae sk);replace ce:=C5 (ce.out.ae sk);replace bh:=C5 (bh.out.ae sk);replace bq:=C5 (bq.out.ae sk);replace bi:=C5 (bi.out.ae sk);clear sk;dsimp only
 repeat' (first | ((with_reducible show wpList _ _ _ (⟨none,.store _ _ _,_,_,_,_⟩::_) _ _); refine zE rfl 70 (.tmp 41) (.tmp 183) rfl ma.heap.size yZ rfl rfl 70 yZ zw B' rfl (by simp[yZ,Value.oneCell']) (fun iK rz=> ?_)) | go_values | go_skip | go_guarded | go_step | go_upon)
 have sk:zf ma iK:=rz.below ((Cp _ _).alloc (Cl _) _) (Cl _);replace B:=bS B sk;replace Bv:=zp Bv (Cl _) sk;replace J:=C5 (J.out.ae sk);replace N:=C5 (N.out.ae sk);replace T:=C5 (T.out.ae sk);replace bg:=C5 (bg.out.ae sk);replace ce:=C5 (ce.out.ae sk);replace bh:=C5 (bh.out.ae sk);replace bq:=C5 (bq.out.ae sk);replace bi:=C5 (bi.out.ae sk);clear rz sk;clear T;clear J;clear N;clear bi;have gg:=fY.out.ae Bv;have d9:=bq.out;have iE:=ec.out.af (av.ae Bv);replace ec:=C5 iE;clear iE;have l9:=br.out.ae Bv;replace br:=C5 l9;clear l9 Bv g0 iF iA fl fY
 go_upto_region 26 with fail
 refine aj.bz (fun N0 D v W=>Below iK.heap.size iK W/\(D 4=true->∃g:Nat,v 4 = Cq (some ⟨g,0,none⟩) 3 3/\ai W g 3 #[Cz Cv 0,Cz Cv (-1),Cz Cv 3])/\(D 23=true->∃g:Nat,v 23 = Cq (some ⟨g,0,none⟩) 5 5/\ai W g 3 #[Cz Cv 0,Cz Cv 1,Cz Cv 2,Cz Cv 3,Cz Cv 4]))
  (aj.inl [4,5,13,14,23,24,29,30,36,37]) (aj.gv [(4,JT),(5,fun x=>x = Cx true),(13,y_),(14,fun x=>x = Cx true),(23,JT),(24,fun x=>x = Cx true),(29,y_),(30,fun x=>x = Cx true),(36,y_),(37,fun x=>x = Cx true)]) (gw [(13,bU 1),(29,bU (51 / 2)),(36,bU 1)]) (fun _=>av) (fun _ _=>False) (aj.pl [(5,[(4,some 189)]),(14,[(13,some 198)]),(24,[(23,some 208)]),(30,[(29,some 214)]),(37,[(36,some 221)])]) (aj.pl [])
  B' B' B' (aj.dK _) (fun N0 ir=>⟨fun v=> ?_,fun D v v' W hv hj=> ?_,fun D v k j W W' x _ _ _ _ hk hg=>qW _ (by intro p hp; simp only[List.mem_cons,List.not_mem_nil,or_false]at hp; rcases hp with rfl | rfl | rfl<;>exact bU.af) hk hg,fun _ _ _ _ h=>h.elim,fun g9 Q' X hQ=> ?_⟩)
 . exact⟨zi,fun h=>Bool.noConfusion h,fun h=>Bool.noConfusion h⟩
 .
  obtain⟨j0,j1,j2⟩:=hj;exact⟨j0,fun h=>by obtain⟨g,e1,e2⟩:=j1 h; exact⟨g,(hv 4 h)▸e1,e2⟩,fun h=>by obtain⟨g,e1,e2⟩:=j2 h; exact⟨g,(hv 23 h)▸e1,e2⟩⟩
 clear ir
 iterate 4 refine aj.RQ X _ ?_
 refine aj.aB rfl (j9 rfl) (by rw[X]; rfl) (fun D v' W' hc hj hf K hK=> ?_) ?_
 .
  obtain⟨j0,j1,j2⟩:=hj;have E:∀o:Obj,zf W' (W'.alloc o):=fun o=>(Cp _ _).alloc (Cl _) o;go_step;exact hK.out _ _ (av.ae (E _)) ⟨Zc j0 (E _),fun _=>⟨W'.heap.size,rfl,ai.new _ _ _⟩,fun h=>by obtain⟨g,e1,e2⟩:=j2 h; exact⟨g,e1,e2.ae (E _)⟩⟩ trivial ⟨_,_,_,rfl⟩
 rintro _ ⟨s1,m1,n1,rfl⟩;refine aj.bL rfl ?_;refine aj.aB rfl (j9 rfl) (by rw[X]; rfl) (fun D v' W' hc hj hf K hK=> ?_) ?_
 .
  obtain⟨j0,j1,j2⟩:=hj;have f:=hf (4,some 189) (.head _) rfl;obtain⟨g,e1,hb⟩:=j1 f.1;have e3:Value.slice s1 m1 n1 = Cq (some ⟨g,0,none⟩) 3 3:=f.2.1.symm.trans e1;simp only[Value.slice.injEq]at e3;obtain⟨rfl,rfl,rfl⟩:=e3;clear hf f;go_step;refine(YB W' (br.out.ae j0) (G7 hb) C0).mono ?_;rintro e W2 ⟨rfl,E⟩;exact hK.out _ W2 (av.ae E) ⟨Zc j0 E,fun h=>by obtain⟨g,e1,e2⟩:=j1 h; exact⟨g,e1,e2.ae E⟩,fun h=>by obtain⟨g,e1,e2⟩:=j2 h; exact⟨g,e1,e2.ae E⟩⟩ trivial rfl
 rintro _ rfl;refine aj.bL rfl ?_
 iterate 6 refine aj.RQ X _ ?_
 refine aj.cC X 197 (fun _ _ _ _ hj=>C6 ((gg.ae hj.1).c 0 rfl) (C6 ((gg.ae hj.1).c 1 rfl) (C6 ((gg.ae hj.1).c 2 rfl) ((gg.ae hj.1).c 3 rfl)))) ?_;refine aj.aB rfl (j9 rfl) (by rw[X]; rfl) (fun D v' W' hc hj hf K hK=> ?_) ?_
 .
  obtain⟨j0,j1,j2⟩:=hj;go_step;refine(Kj 1 1 (1) W' C0 C0 C0 C0 C0 (by decide +kernel)).mono ?_;rintro e W2 ⟨lZ,iP,ka,mg,mj,lP,lW,iY,rfl,hu,E⟩;exact hK.out _ W2 (av.ae E) ⟨Zc j0 E,fun h=>by obtain⟨g,e1,e2⟩:=j1 h; exact⟨g,e1,e2.ae E⟩,fun h=>by obtain⟨g,e1,e2⟩:=j2 h; exact⟨g,e1,e2.ae E⟩⟩ hu ⟨_,_,_,_,_,_,_,_,rfl⟩
 rintro _ ⟨lZ,iP,ka,mg,mj,lP,lW,iY,rfl⟩;refine aj.bL rfl ?_;refine aj.aB rfl (j9 rfl) (by rw[X]; rfl) (fun D v' W' hc hj hf K hK=> ?_) ?_
 .
  obtain⟨j0,j1,j2⟩:=hj;have g_:FR W' (Cy #[Cx lZ,Cq iP ka mg,Cx mj,Cq lP lW iY]) (1):=(hf (13,some 198) (.head _) rfl).2.2;clear hf;go_step;refine(qP (o:=some (1)) W' (ec.out.af (av.ae j0)) g_).mono ?_;rintro e W2 ⟨rfl,E⟩;exact hK.out _ W2 (av.ae E) ⟨Zc j0 E,fun h=>by obtain⟨g,e1,e2⟩:=j1 h; exact⟨g,e1,e2.ae E⟩,fun h=>by obtain⟨g,e1,e2⟩:=j2 h; exact⟨g,e1,e2.ae E⟩⟩ trivial rfl
 rintro _ rfl;refine aj.bL rfl ?_
 iterate 7 refine aj.RQ X _ ?_
 refine aj.cC X 207 (fun _ _ _ _ hj=>(d9.ae hj.1).c 16 rfl) ?_;refine aj.aB rfl (j9 rfl) (by rw[X]; rfl) (fun D v' W' hc hj hf K hK=> ?_) ?_
 .
  obtain⟨j0,j1,j2⟩:=hj;have E:∀o:Obj,zf W' (W'.alloc o):=fun o=>(Cp _ _).alloc (Cl _) o;go_step;exact hK.out _ _ (av.ae (E _)) ⟨Zc j0 (E _),fun h=>by obtain⟨g,e1,e2⟩:=j1 h; exact⟨g,e1,e2.ae (E _)⟩,fun _=>⟨W'.heap.size,rfl,ai.new _ _ _⟩⟩ trivial ⟨_,_,_,rfl⟩
 rintro _ ⟨s2,m2,n2,rfl⟩;refine aj.bL rfl ?_;refine aj.aB rfl (j9 rfl) (by rw[X]; rfl) (fun D v' W' hc hj hf K hK=> ?_) ?_
 .
  obtain⟨j0,j1,j2⟩:=hj;have f:=hf (23,some 208) (.head _) rfl;obtain⟨g,e1,hb⟩:=j2 f.1;have e3:Value.slice s2 m2 n2 = Cq (some ⟨g,0,none⟩) 5 5:=f.2.1.symm.trans e1;simp only[Value.slice.injEq]at e3;obtain⟨rfl,rfl,rfl⟩:=e3;clear hf f;go_step;refine(YB W' (ce.out.ae j0) (G8 hb) C0).mono ?_;rintro e W2 ⟨rfl,E⟩;exact hK.out _ W2 (av.ae E) ⟨Zc j0 E,fun h=>by obtain⟨g,e1,e2⟩:=j1 h; exact⟨g,e1,e2.ae E⟩,fun h=>by obtain⟨g,e1,e2⟩:=j2 h; exact⟨g,e1,e2.ae E⟩⟩ trivial rfl
 rintro _ rfl;refine aj.bL rfl ?_
 iterate 3 refine aj.RQ X _ ?_
 refine aj.cC X 213 (fun _ _ _ _ hj=>C6 ((d9.ae hj.1).c 17 rfl) (C6 ((d9.ae hj.1).c 18 rfl) (C6 ((d9.ae hj.1).c 19 rfl) ((d9.ae hj.1).c 20 rfl)))) ?_;refine aj.aB rfl (j9 rfl) (by rw[X]; rfl) (fun D v' W' hc hj hf K hK=> ?_) ?_
 .
  obtain⟨j0,j1,j2⟩:=hj;go_step;refine(Kj 51 2 (51 / 2) W' C0 C0 C0 C0 C0 (by decide +kernel)).mono ?_;rintro e W2 ⟨lO,iV,mf,lG,iU,lw,iX,m8,rfl,hu,E⟩;exact hK.out _ W2 (av.ae E) ⟨Zc j0 E,fun h=>by obtain⟨g,e1,e2⟩:=j1 h; exact⟨g,e1,e2.ae E⟩,fun h=>by obtain⟨g,e1,e2⟩:=j2 h; exact⟨g,e1,e2.ae E⟩⟩ hu ⟨_,_,_,_,_,_,_,_,rfl⟩
 rintro _ ⟨lO,iV,mf,lG,iU,lw,iX,m8,rfl⟩;refine aj.bL rfl ?_;refine aj.aB rfl (j9 rfl) (by rw[X]; rfl) (fun D v' W' hc hj hf K hK=> ?_) ?_
 .
  obtain⟨j0,j1,j2⟩:=hj;have g_:FR W' (Cy #[Cx lO,Cq iV mf lG,Cx iU,Cq lw iX m8]) (51 / 2):=(hf (29,some 214) (.head _) rfl).2.2;clear hf;go_step;refine(qP (o:=some (51 / 2)) W' (bh.out.af (av.ae j0)) g_).mono ?_;rintro e W2 ⟨rfl,E⟩;exact hK.out _ W2 (av.ae E) ⟨Zc j0 E,fun h=>by obtain⟨g,e1,e2⟩:=j1 h; exact⟨g,e1,e2.ae E⟩,fun h=>by obtain⟨g,e1,e2⟩:=j2 h; exact⟨g,e1,e2.ae E⟩⟩ trivial rfl
 rintro _ rfl;refine aj.bL rfl ?_
 iterate 4 refine aj.RQ X _ ?_
 refine aj.cC X 220 (fun _ _ _ _ hj=>C6 ((d9.ae hj.1).c 0 rfl) (C6 ((d9.ae hj.1).c 1 rfl) (C6 ((d9.ae hj.1).c 2 rfl) ((d9.ae hj.1).c 3 rfl)))) ?_;refine aj.aB rfl (j9 rfl) (by rw[X]; rfl) (fun D v' W' hc hj hf K hK=> ?_) ?_
 .
  obtain⟨j0,j1,j2⟩:=hj;go_step;refine(Kj 1 1 (1) W' C0 C0 C0 C0 C0 (by decide +kernel)).mono ?_;rintro e W2 ⟨m7,l8,ml,ks,iW,lg,lf,ln,rfl,hu,E⟩;exact hK.out _ W2 (av.ae E) ⟨Zc j0 E,fun h=>by obtain⟨g,e1,e2⟩:=j1 h; exact⟨g,e1,e2.ae E⟩,fun h=>by obtain⟨g,e1,e2⟩:=j2 h; exact⟨g,e1,e2.ae E⟩⟩ hu ⟨_,_,_,_,_,_,_,_,rfl⟩
 rintro _ ⟨m7,l8,ml,ks,iW,lg,lf,ln,rfl⟩;refine aj.bL rfl ?_;refine aj.aB rfl (j9 rfl) (by rw[X]; rfl) (fun D v' W' hc hj hf K hK=> ?_) ?_
 .
  obtain⟨j0,j1,j2⟩:=hj;have g_:FR W' (Cy #[Cx m7,Cq l8 ml ks,Cx iW,Cq lg lf ln]) (1):=(hf (36,some 221) (.head _) rfl).2.2;clear hf;go_step;refine(qP (o:=some (1)) W' (bg.out.af (av.ae j0)) g_).mono ?_;rintro e W2 ⟨rfl,E⟩;exact hK.out _ W2 (av.ae E) ⟨Zc j0 E,fun h=>by obtain⟨g,e1,e2⟩:=j1 h; exact⟨g,e1,e2.ae E⟩,fun h=>by obtain⟨g,e1,e2⟩:=j2 h; exact⟨g,e1,e2.ae E⟩⟩ trivial rfl
 rintro _ rfl;refine aj.bL rfl ?_
 iterate 2 refine aj.RQ X _ ?_
 refine aj.aH (fun Dn v' mU hd hj hf=> ?_);have sk:=hj.1;refine hQ _ _ ?_;clear hQ X Q' g9 hd hj hf gg d9;replace B:=bS B sk;clear sk
 go_upto_region 27 with fail
 refine wp_region_lit ?_
 repeat' (first | go_values | go_skip | go_guarded | go_step | go_upon)
 refine(VK _).mono ?_;rintro e we ⟨rfl,E⟩;replace B:=zp B (Cl _) E;dsimp only
 repeat' (first | go_values | go_skip | go_guarded | go_step | go_upon)
 go_returns
 exact⟨rfl,B⟩
end Go.Proofs.YtffmbepfbienaaaGreat
