import Derived.Test.YtffmbepfbienaaaGreatONa
import Derived.Laws.Cover3
import Derived.RangeFuncNested
import Derived.OwnWalkIn
import Derived.TacticsInMore
import Derived.LoopNIn
import Derived.LoopIn
set_option linter.unusedVariables false
set_option linter.unusedSimpArgs false
set_option maxHeartbeats 6400000
set_option maxRecDepth 1000000
open Go.Value renaming slice->Ex,int->Ey,pointer->Ek
open Go.IntKind renaming i64->Ew,u32->Eu
open Go.Ending renaming returned->Eh
open Go.Proofs.Tryz renaming prog->Ed
open Go renaming Calls->Ee,World->Ef,Value->Ei,undef->En
open Nat renaming le_refl->Ep,lt_or_ge->Er
open Go.World renaming size_alloc->Et
open Go.RowKit.Below renaming refl->Fz
namespace Go.Proofs.YtffmbepfbienaaaGreat
open Go.RowKit
variable {s:Nat} {a:Ei}
theorem jq {P:Program} (w:Ef) (t e:TypeId) (a:Option Addr) (l c:Nat) (h:P.underlying t=some (.slice e)):(binOp .eql t (Ex a l c) (Ex none 0 0)).run P w = .ok (.bool a.isNone) w:=by
 simp only[binOp];simp[run_equal_slice_nil w t e a l c h]
theorem j7 {a b:Int} (M:0<=a) (I:0<=b) (H:b<((2^s:Nat):Int)) (E:a*((2^s:Nat):Int)+b<18446744073709551616):bits .or .u64 (a*((2^s:Nat):Int)) b=a*((2^s:Nat):Int)+b:=by
 obtain⟨n,rfl⟩:=Int.eq_ofNat_of_zero_le M;obtain⟨m,rfl⟩:=Int.eq_ofNat_of_zero_le I;rw[<- Int.natCast_mul]at E|-;rw[bits_or_u64_nat _ _ D6 D6];have h:=Nat.shiftLeft_add_eq_or_of_lt (i:=s) (b:=m) D6 n;rw[Nat.shiftLeft_eq]at h;rw[<- h];omega
theorem Yi (a b:Int):bits .or .u64 a b=bits .or .u64 b a:=by
 show IntKind.u64.wrap (((BitVec.ofInt 64 a ||| BitVec.ofInt 64 b).toNat:Nat):Int)=IntKind.u64.wrap (((BitVec.ofInt 64 b ||| BitVec.ofInt 64 a).toNat:Nat):Int)
 rw[BitVec.or_comm]
theorem Bx (h l y:Int) (w:Ef) (h0:0<=h) (h1:h<y) (I:0<=l/\l<4294967296) (Z:y<4294967296) :
  Ee Ed 186 #[Ey Eu h,Ey Eu l,Ey Eu y] w fun e T=>e = Eh (.tuple #[Ey Eu ((h*4294967296+l) / y),Ey Eu ((h*4294967296+l)%y)])/\∃n,T=w.drewN n:=by
 have E:bits .or .u64 (h*4294967296) l=h*4294967296+l:=j7 (s:=32) h0 I.1 (by simpa using I.2) (by simp; omega);obtain⟨t,ht⟩:∃t,h*4294967296+l=t:=⟨_,rfl⟩;have H:0<=t/\t<y*4294967296:=D6
 have q0:0<=t / y:=Int.ediv_nonneg H.1 D6;have q1:t / y<4294967296:=Int.ediv_lt_of_lt_mul D6 (by rw[Int.mul_comm]; exact H.2);have Y:=Int.emod_nonneg t (show y≠0 by omega);have m1:=Int.emod_lt_of_pos t (show 0<y by omega);have X:t / y%4294967296=t / y:=Int.emod_eq_of_lt q0 q1;have M:t%y%4294967296=t%y:=Int.emod_eq_of_lt Y D6;have yz:(y==0)=false:=by simp; omega
 rw[ht]at E|-;clear ht;have t1:t<18446744073709551616:=D6
 go_enter Tryz.func186,Tryz.ntmps186
 go_wp2
 go_quiet (fail)
 go_wp2
 go_returns
 exact⟨by first | rfl | (rw[X,M]),_,rfl⟩
theorem Yj {l:List Int} (w:Ef) (M:aA w a l) (nl:l.length<=aD) :
  Ee Ed 134 #[a] w fun e E=>∃v,e = Eh v/\E.ownsRow w.heap.size 172 1 v l.length (zK l)/\aA E v l/\zf w E:=by
 obtain⟨i0,hi,bh,X,T⟩:=info_parts ZA;have ok:=M.ok;obtain⟨ao,ca,rfl⟩:=M.ak;unfold aD at nl;obtain⟨h0,bl,bi,e,h1,Z,h2⟩:=id M
 injection e with e1 e2 e3
 subst e1 e3;clear h2 e2
 rcases Option.eq_none_or_eq_some ao with I | ⟨ad,rfl⟩
 .
  have hc:ca=0:=Z I;have hl:l = []:=List.eq_nil_of_length_eq_zero D6;subst hl;obtain⟨b,Y⟩:∃b,ao.isNone=b:=⟨_,rfl⟩;have bg:b=true:=by rw[<- Y,I]; rfl
  subst bg;have be:∀E,(binOp .eql 24 (Ex ao 0 ca) (Ex none 0 0)).run Ed E = .ok (.bool true) E:=fun E=>by rw[jq E _ _ _ _ _ Tryz.underlying24,Y]
  clear M I Z Y h1 hc;simp only[List.length_nil]
  go_enter Tryz.func134,Tryz.ntmps134
  go_wp2
  go_returns
  exact⟨_,rfl,World.ownsRow_nil _ _ _ _,aA.nil _,Fz _ _⟩
 .
  clear h0 h1 Z;have HA:=E7 (M.ae ((Fz _ _).alloc (Ep _) (.cells #[] 172)));obtain⟨n,hn⟩:∃n,l.length=n:=⟨_,rfl⟩;have HN:=E7 hn;rw[hn]at nl HA|-;clear M hn;have be:∀E,(binOp .eql 24 (Ex (some ad) n ca) (Ex none 0 0)).run Ed E = .ok (.bool false) E:=fun E=>jq E _ _ _ _ _ Tryz.underlying24
  go_enter Tryz.func134,Tryz.ntmps134
  go_wp2_with (at_builtin; refine ym rfl (.tmp 5) (.tmp 6) 24 rfl w.heap.size 172 i0 Tryz.underlying24 hi bh X T _ 0 [] rfl (World.ownsRow_made w #[] 0 (Ep _) (Nat.zero_le _) rfl) _ l rfl HA.out (by have:=HN.out; omega) E6 ?_)
  intro v' w1 H hg bf
  try simp only[HN.out,Nat.zero_add,List.nil_append]at H
  have hL:=aA.own H ok
  go_wp2
  go_returns
  exact⟨_,rfl,H,hL,((Fz _ _).alloc (Ep _) _).grown hg E6 bf⟩
theorem By (x:Int) (w:Ef) (H:0<=x) (I:x<4294967296) :
  Ee Ed 187 #[Ey Eu x] w fun e E=>e = Eh (Ey Ew (bitLen x.toNat))/\w=E:=by
 go_enter Tryz.func187,Tryz.ntmps187
 go_wp2
 all_goals go_ret
 all_goals refine⟨yE ?_,rfl⟩
 all_goals simp only[Array.getD_eq_getD_getElem?,List.getElem?_toArray,List.getElem?_cons_succ,List.getElem?_cons_zero,Option.getD_some,len8tab_get]
 all_goals first
  | exact Zi x _ 24 D6 D6 D6 D6
  | exact Zi x _ 16 D6 D6 D6 D6
  | exact Zi x _ 8 D6 D6 D6 D6
  | exact Jr x D6
theorem VF (n:Nat) (h:0<n):2^(bitLen n-1)<=n/\n<2^bitLen n:=by
 unfold bitLen;rw[E_ D6]
 constructor
 . rw[Nat.add_sub_cancel]; exact Nat.log2_self_le D6
 . exact Nat.lt_log2_self
theorem C3 (x:Int) (w:Ef) (T:0<x) (hx:x<4294967296) :
  Ee Ed 162 #[Ey Eu x] w fun e Y=>∃s:Nat,e = Eh (Ey Ew s)/\s<=31/\2147483648<=x*((2^s:Nat):Int)/\x*((2^s:Nat):Int)<4294967296/\w=Y:=by
 obtain⟨n,rfl⟩:=Int.eq_ofNat_of_zero_le (Int.le_of_lt T);have H:=VF n D6
 have M:bitLen n<=32:=by
  rcases Er 32 (bitLen n)with h | h
  .
   have:=Nat.pow_le_pow_right (show 0<2 by omega) (show 32<=bitLen n-1 by omega);omega
  . exact h
 have l1:1<=bitLen n:=by
  rcases Nat.eq_zero_or_pos (bitLen n)with h | h
  . rw[h]at H; omega
  . exact h
 obtain⟨b,E⟩:∃b,bitLen n=b:=⟨_,rfl⟩;have L:=By n w D6 hx;rw[Int.toNat_natCast,E]at L;rw[E]at H M l1
 have Z:n*2^(32-b)<4294967296:=by
  have I:=Nat.mul_lt_mul_of_pos_right H.2 (show 0<2^(32-b) from Nat.two_pow_pos _);rw[<- Nat.pow_add,show b+(32-b)=32 by omega]at I;exact I
 have X:2147483648<=n*2^(32-b):=by
  have I:=Nat.mul_le_mul_right (2^(32-b)) H.1;rw[<- Nat.pow_add,show b-1+(32-b)=31 by omega]at I;exact I
 have HE:=E7 (E8 Z X);clear H E Z X
 go_enter Tryz.func162,Tryz.ntmps162
 go_wp2_with (go_at_call 187; refine L.mono ?_; rintro e Y ⟨rfl,rfl⟩)
 go_ret
 refine⟨32-b,yE ?_,by omega,?_,?_,rfl⟩
 . omega
 . rw[<- Int.natCast_mul]; have:=HE.out.2; omega
 . rw[<- Int.natCast_mul]; have:=HE.out.1; omega
theorem GN {A:List Int} (w:Ef) (ha:aA w a A) (nA:A.length<=aD) (hs:s<=31) :
  Ee Ed 163 #[a,Ey Ew s] w fun e w'=>∃v l,e = Eh v/\aA w' v l/\zj l=zj A*(2^s:Nat)/\l.length=A.length+1/\w'.ownsRow w.heap.size 172 1 v (A.length+1) (zK l)/\zf w w':=by
 obtain⟨i0,hi,bh,bf,be⟩:=info_parts ZA;obtain⟨aa,ca,rfl⟩:=ha.ak;obtain⟨oa,-,la,fa⟩:=ha.cells;clear ha;unfold aD at nA;obtain⟨n,hn⟩:∃n,A.length=n:=⟨_,rfl⟩;have H:Hid (A.length=n):=hn;rw[hn]at fa la nA;rw[hn];clear hn;obtain⟨P,hP⟩:∃P,((2^s:Nat):Int)=P:=⟨_,rfl⟩;have P0:1<=P:=by have:=Nat.one_le_two_pow (n:=s); omega
 have P1:P<=2147483648:=by have:=Nat.pow_le_pow_right (show 0<2 by omega) hs; simp at this; omega
 have HP:Hid (((2^s:Nat):Int)=P):=hP;clear hP;have hq:(s:Int).tdiv 32=0:=Int.tdiv_eq_zero_of_lt D6 D6;have hr:(s:Int).tmod 32=s:=Int.tmod_eq_of_lt D6 D6;have ci:(s:Int) / 32=0:=D6
 have cn:(s:Int)%32=s:=D6
 go_enter Tryz.func163,Tryz.ntmps163
 go_wp2_with (at_make; refine wpList_make_own _ rfl _ _ 24 rfl w.heap.size 172 i0 (Ey Eu 0) 1 Tryz.underlying24 hi bh bf _ _ _ (n+1) rfl rfl D6 ?b2 ?b3 (Ep _) ?_)
 case b2=>rw[be]; omega
 case b3=>unfold maxLen; omega
 intro w0 T I;have B0:Below w.heap.size w w0:=(Fz _ _).grown I (Ep _) (fun k h=>by cases h)
 go_wp2
 go_loopw [5,6,8,20] (fun o c x i wr=>∃ (k:Nat) (xs:List Int) (M:Int),k<=n/\i = Ey Ew k/\c = Ey .u64 M/\0<=M/\M<P/\xs.length=k/\yv xs/\zj xs+bp k*M=zj (A.take k)*P/\
   wr.ownsRow w.heap.size 172 1 o k (zK xs)/\Below w.heap.size w wr) (fun _ _ _ i _=>(n-(intOf i).toNat))
 case atStart=>exact⟨0,[],0,Nat.zero_le _,rfl,rfl,by omega,by omega,rfl,z6,by simp[zj],T,B0⟩
 case round=>
  obtain⟨k,xs,M,hk,rfl,rfl,c0,c1,hl,bl,hv,Y,X⟩:=hrel;have Z:=X.size;have HV:Hid (xs.length=k/\yv xs/\zj xs+bp k*M=zj (A.take k)*P):=⟨hl,bl,hv⟩;clear hl bl hv T I B0
  rcases Er k n with h1 | h1
  .
   obtain⟨u,hu⟩:∃u,A.getD k 0=u:=⟨_,rfl⟩;have u0:=zI oa k;rw[hu]at u0;have HU:Hid (A.getD k 0=u):=hu;obtain⟨ba,br,rfl,bt,bi⟩:=fa D6;have g1:=(X.cell (p:=⟨ba,br+k,none⟩) bt).trans (bi k (by rw[H.out]; omega));rw[hu]at g1;obtain⟨t,ht⟩:∃t,u*P=t:=⟨_,rfl⟩
   have t0:0<=t/\t<=4294967295*P:=by
    rw[<- ht];exact⟨Int.mul_nonneg u0.1 D6,Int.mul_le_mul_of_nonneg_right D6 D6⟩
   have hw:IntKind.u64.wrap (u*2^s)=t:=by
    have e:u*2^s=t:=by rw[<- ht,<- HP.out]; simp
    rw[e,wrap_u64 D6 D6]
   have cg:bits BinOp.or IntKind.u64 M t=M+t:=by
    rw[Yi,<- ht,<- HP.out,j7 u0.1 c0 (by rw[HP.out]; exact c1) (by rw[HP.out,ht]; omega)];omega
   have HT:Hid (u*P=t):=ht;clear bi fa hu ht
   go_wp2_with (at_builtin; refine ym rfl (.tmp 31) (.tmp 34) 24 rfl w.heap.size 172 i0 Tryz.underlying24 hi bh bf be _ k xs rfl (Y.alloc _) _ [_] rfl (aA.one D6 D6) (by simp; omega) E6 ?_)
   intro v' w1 E hg bg
   go_wp2
   go_roundw
   case rel=>
    have S:=Y8 (s:=M+t) HV.out.1 HV.out.2.2 (by rw[HU.out,HT.out]);exact⟨k+1,xs ++ [(M+t)%4294967296],(M+t) / 4294967296,by omega,by go_num,by go_num,by omega,by omega,by rw[List.length_append,HV.out.1]; rfl,zX HV.out.2.1 D6 D6,S,E,(X.alloc Z _).grown hg E6 bg⟩
   case measure=>simp[intOf]; omega
  .
   clear fa
   go_wp2_with (at_builtin; refine ym rfl (.tmp 39) (.tmp 42) 24 rfl w.heap.size 172 i0 Tryz.underlying24 hi bh bf be _ k xs rfl (Y.alloc _) _ [_] rfl (aA.one D6 D6) (by simp; omega) E6 ?_)
   intro v' w1 E hg bg
   go_wp2
   go_returns
   have ce:k=n:=D6
   subst ce;have hB:Below w.heap.size w w1:=(X.alloc Z _).grown hg E6 bg;refine⟨_,xs ++ [M],rfl,aA.own E (zX HV.out.2.1 D6 D6),?_,?_,E,hB⟩
   .
    have:=HV.out.2.2;rw[List.take_of_length_le (by have:=H.out; omega)]at this;rw[yV,HV.out.1,HP.out];exact this
   . rw[List.length_append,HV.out.1]; rfl
end Go.Proofs.YtffmbepfbienaaaGreat
/- 'for i, x := range down(l)': zp from the highest one to the lowest one. -/
namespace Go.Proofs.YtffmbepfbienaaaGreat
section
open Go.RowKit Go.Shelf
attribute [local go_sem] Oper.semAt_some
def yQ (n:Nat):(k:Nat)->k<=n->List (Fin n)
 | 0,_=> []
 | k+1,h=>yQ n k (Nat.le_of_succ_le h) ++ [⟨n-1-k,by omega⟩]
theorem vG (n k:Nat) (h:k<=n):(yQ n k h).length=k:=by
 induction k with
 | zero=>rfl
 | succ k ih=>simp[yQ,ih]
theorem Uv (F:Fence) (n:Nat) (h8:F.fn 191) (bf:F.round=none) (hn:1<=n) (l Bs n₀ b off len cap:Nat) (Z:List Int) (bi:Z.length=len) (E:len<=aD) (hb:b<n₀) (J Jx:List (Fin len)->Ef->Prop)
  (hY:∀pre (x:Fin len) W,J pre W->pre.length<len->YieldAt F (n-1) Ed l #[Ey Ew ((x:Nat):Int),Ey Eu (Z.getD x 0)] W fun e M=>
   (e = Eh (.bool true)/\J (pre ++ [x]) M/\Below n₀ W M)\/(e = Eh (.bool false)/\Jx (pre ++ [x]) M))
  (W:Ef) (bh:W.cell? ⟨Bs,0,none⟩=some (Ex (some ⟨b,off,none⟩) len cap)) (be:Bs<n₀) (hc:Cells W b off Z) (h0:J [] W) :
  CallsIn F n Ed 191 #[.func (.yield l) #[] #[],Ek (some ⟨Bs,0,none⟩)] W fun e M=>(∃v,e = Eh v)/\
   ((∃ys,ys=yQ len len (Ep _)/\J ys M)\/(∃pre,(∃k,∃X:k<=len,pre=yQ len k X)/\Jx pre M)):=by
 unfold aD at E;refine callsIn_of_wp Tryz.func191 rfl h8 ?_ bf;simp only[Tryz.ntmps191,List.size_toArray,List.length_cons,List.length_nil,Nat.reduceAdd,Nat.reduceSub,Array.replicate_succ,Array.replicate_zero,List.push_toArray,List.append_toArray,List.nil_append,List.cons_append]
 gi_wp2
 gi_loopw [3] (fun i wr=>∃ (k:Nat) (X:k<=len),i = Ey Ew ((len:Int)-1-k)/\J (yQ len k X) wr/\Below n₀ W wr)
  (fun i _=>(intOf i+1).toNat)
 case atStart=>exact⟨0,Nat.zero_le _,by go_num,h0,Fz _ _⟩
 case round=>
  obtain⟨k,X,rfl,T,I⟩:=hrel;have bl:=(I.cell (p:=⟨Bs,0,none⟩) be).trans bh
  rcases Er k len with H | br
  .
   obtain⟨j,hj⟩:∃j,len-1-k=j:=⟨_,rfl⟩;have Y:j<len:=D6
   have bg:=(I.cell (p:=⟨b,off+j,none⟩) hb).trans (hc j D6);obtain⟨fn,tmps,assign,body,hy,hR⟩:=hY _ ⟨j,Y⟩ wr T (by rw[vG]; exact H);dsimp only at hy;obtain⟨v,hv⟩:∃v,Z.getD j 0=v:=⟨_,rfl⟩;rw[hv]at bg hy;clear hv;have hi:(len:Int)-1-k=(j:Int):=D6
   rw[hi];have HD:Hid (yQ len (k+1) H=yQ len k X ++ [⟨j,Y⟩]):=by subst hj; rfl
   have hm:Hid (len-1-k=j/\k<len):=⟨hj,H⟩;clear hj
   gi_wp2
   refine hR.mono ?_;rintro e W3 (⟨rfl,hJ3,hk3⟩ | ⟨rfl,hJx3⟩)
   .
    gi_wp2
    go_roundw
    case rel=>exact⟨k+1,hm.out.2,by go_num,by rw[HD.out]; exact hJ3,I.trans hk3⟩
    case measure=>simp[intOf]
   .
    gi_wp2
    refine bodyPost_ret (results_none rfl _ _ _) rfl ?_;exact⟨⟨_,rfl⟩,.inr ⟨_,⟨k+1,hm.out.2,HD.out.symm⟩,hJx3⟩⟩
  .
   obtain rfl:k=len:=D6
   gi_wp2
   go_end0
   exact⟨⟨_,rfl⟩,.inl ⟨_,rfl,T⟩⟩
theorem Qh (F:Fence) (n:Nat) (M:F.fn 191) (E:F.round=none) (l Bs:Nat) (ao:Option Addr) (cap:Nat) (J:List (Fin 0)->Ef->Prop) (W:Ef) (T:W.cell? ⟨Bs,0,none⟩=some (Ex ao 0 cap)) (h0:J [] W) :
  CallsIn F n Ed 191 #[.func (.yield l) #[] #[],Ek (some ⟨Bs,0,none⟩)] W fun e I=>(∃v,e = Eh v)/\J [] I:=by
 refine callsIn_of_wp Tryz.func191 rfl M ?_ E;simp only[Tryz.ntmps191,List.size_toArray,List.length_cons,List.length_nil,Nat.reduceAdd,Nat.reduceSub,Array.replicate_succ,Array.replicate_zero,List.push_toArray,List.append_toArray,List.nil_append,List.cons_append]
 gi_wp2
 gi_loopw [3] (fun i wr=>i = Ey Ew (-1)/\J [] wr) (fun _ _=>0)
 case atStart=>exact⟨rfl,h0⟩
 case round=>
  obtain⟨rfl,H⟩:=hrel
  gi_wp2
  go_end0
  exact⟨⟨_,rfl⟩,H⟩
theorem XF (F:Fence) (n:Nat) (I:F.fn 166) (E:F.round=none) (a:Option Addr) (len cap:Nat) (w:Ef) :
  CallsIn F n Ed 166 #[Ex a len cap] w fun e H=>e = Eh (.func (.func 191) #[] #[Ek (some ⟨w.heap.size,0,none⟩)])/\H=w.alloc (.cells #[Ex a len cap] 24):=by
 refine callsIn_of_wp Tryz.func166 rfl I ?_ E;simp only[Tryz.ntmps166,List.size_toArray,List.length_cons,List.length_nil,Nat.reduceAdd,Nat.reduceSub,Array.replicate_succ,Array.replicate_zero,List.push_toArray,List.append_toArray,List.nil_append,List.cons_append]
 gi_wp2
 go_ret
 exact⟨rfl,rfl⟩
def Qi (E:List Int) (len:Nat) (x:Fin len):Array Ei:=#[Ey Ew ((x:Nat):Int),Ey Eu (E.getD x 0)]
theorem Jz (F:Fence) (n:Nat) (h8:F.fn 191) (I:F.round=none) (hn:1<=n) (Bs n₀:Nat) (ao:Option Addr) (cap len:Nat) (T:List Int) (M:T.length=len) (E:len<=aD) (w:Ef) (be:Bs<w.heap.size) (Z:Bs<n₀) (X:n₀<=w.heap.size)
  (hc:w.cell? ⟨Bs,0,none⟩=some (Ex ao len cap)) (hI:0<len->∃b o,ao=some ⟨b,o,none⟩/\b<n₀/\Cells w b o T) :
  SeqStopsK F n Ed 191 #[Ek (some ⟨Bs,0,none⟩)] (Qi T len) (Below n₀) (fun ys=>ys=yQ len len (Ep _))
   (fun pre=>∃k,∃hk:k<=len,pre=yQ len k hk) len w:=fun l J Jx W hW _ _ hY h0=>by
 have H:=(hW.cell (p:=⟨Bs,0,none⟩) be).trans hc
 rcases Nat.eq_zero_or_pos len with h | h
 .
  subst h;exact(Qh F n h8 I l Bs ao cap J W H h0).mono fun e W' ⟨he,hj⟩=>⟨he,.inl ⟨_,rfl,hj⟩⟩
 .
  obtain⟨b,o,rfl,hb,Y⟩:=hI h;exact Uv F n h8 I hn l Bs n₀ b o len cap T M E hb J Jx hY W H Z (Y.below hW (Nat.lt_of_lt_of_le hb X)) h0
theorem Qj {n:Nat} {A B:List Int} (X:A.length=n) (T:B.length=n):∀ (k:Nat) (E:k<=n),(∀p∈yQ n k E,A.getD p 0=B.getD p 0)->zj (A.drop (n-k))=zj (B.drop (n-k)):=by
 intro k
 induction k with
 | zero=>intro E _; rw[List.drop_of_length_le D6,List.drop_of_length_le D6]
 | succ k ih=>
  intro E h;have M:=ih D6 (fun p I=>h p (by rw[yQ]; exact List.mem_append_left _ I));have H:=h ⟨n-1-k,by omega⟩ (by rw[yQ]; exact List.mem_append_right _ (List.mem_singleton.2 rfl));rw[yG A,yG B,show n-(k+1)+1=n-k by omega,M,show n-(k+1)=n-1-k by omega];dsimp only at H;rw[H]
end
section
open Go.RowKit Go.Shelf
attribute [local go_sem] Oper.semAt_some
theorem Qk {aa ab:Option Addr} {ca cb len:Nat} {A B:List Int} (w:Ef) (lA:A.length=len) (lB:B.length=len) (oA:yv A) (oB:yv B) (Y:len<=aD)
  (fA:0<len->∃b o,aa=some ⟨b,o,none⟩/\b<w.heap.size/\Cells w b o A) (fB:0<len->∃b o,ab=some ⟨b,o,none⟩/\b<w.heap.size/\Cells w b o B) :
  Ee Ed 136 #[Ex aa len ca,Ex ab len cb] w fun e W'=>e = Eh (Ey Ew (zM (zj A) (zj B)))/\zf w W':=by
 have X:Fence.wide.round=none:=rfl;refine(callsIn_wide (n:=3)).1 ?_;refine callsIn_of_wp_marks Tryz.func136 rfl trivial ?_ X;simp only[Tryz.ntmps136,List.size_toArray,List.length_cons,List.length_nil,Nat.reduceAdd,Nat.reduceSub,Array.replicate_succ,Array.replicate_zero,List.push_toArray,List.append_toArray,List.nil_append,List.cons_append]
 gi_wp2_with (refine⟨trivial,?_⟩; gi_at_call 166; refine(XF Fence.wide 2 trivial X _ _ _ _).mono ?_; rintro e w' ⟨rfl,rfl⟩)
 have bB:=Boxed.new w 24 (Ex ab len cb);have bR:=Boxed.new (w.alloc (.cells #[Ex ab len cb] 24)) 3 (Ey Ew 0);have bN:=Boxed.new ((w.alloc (.cells #[Ex ab len cb] 24)).alloc (.cells #[Ey Ew 0] 3)) 24 (Ex aa len ca);simp only[Et]at bR bN;have br:Below w.heap.size w (((w.alloc (.cells #[Ex ab len cb] 24)).alloc (.cells #[Ey Ew 0] 3)).alloc (.cells #[Ex aa len ca] 24)):=(((Fz _ w).alloc (Ep _) _).alloc D9 _).alloc (by simp; omega) _
 have bi:0<len->∃b o,aa=some ⟨b,o,none⟩/\b<w.heap.size+1+1+1/\Cells (((w.alloc (.cells #[Ex ab len cb] 24)).alloc (.cells #[Ey Ew 0] 3)).alloc (.cells #[Ex aa len ca] 24)) b o A:=fun h=>by
  obtain⟨b,o,e,hb,hc⟩:=fA h;exact⟨b,o,e,by omega,hc.below br hb⟩
 refine wpIn_rangeFunc_ownG X (show 1<=3 by omega) (gf:=191) (lb:=#[Ek (some ⟨w.heap.size+1+1,0,none⟩)]) rfl trivial (enters_of Tryz.func191 D7 rfl)
  (Jz Fence.wide 2 trivial X D6 (w.heap.size+1+1) (w.heap.size+1+1+1) aa ca len A lA Y _ D9 D6 D9 bN.cell bi) belowK_t (belowK_b D9) (Fz _ _) (fun _=>rfl)
  (fun(pre:List (Fin len)) W=>((∀p:Fin len,p∈pre->A.getD (p:Nat) 0=B.getD (p:Nat) 0)/\W.cell? ⟨w.heap.size,0,none⟩=some (Ex ab len cb)/\W.cell? ⟨w.heap.size+1,0,none⟩=some (Ey Ew 0)/\W.frozen? ⟨w.heap.size+1,0,none⟩=false)/\Below w.heap.size w W)
  (fun c (pre:List (Fin len)) W=>(c = .ret/\∃ (M:List (Fin len)) (E:Fin len),pre=M ++ [E]/\(∀p:Fin len,p∈M->A.getD (p:Nat) 0=B.getD (p:Nat) 0)/\((A.getD E 0<B.getD E 0/\W.cell? ⟨w.heap.size+1,0,none⟩=some (Ey Ew (-1)))\/(B.getD E 0<A.getD E 0/\W.cell? ⟨w.heap.size+1,0,none⟩=some (Ey Ew 1))))/\Below w.heap.size w W)
  (OwnFrom.and (Own.from (fun s A B row hs hg Z=>⟨hs.1,cell_kept hs.2.1 hg Z,cell_kept hs.2.2.1 hg Z,(frozen_kept hs.2.2.1 hg Z).trans hs.2.2.2⟩) _) (ownFrom_below (Ep _) (by simp; omega)))
  (fun c=>OwnFrom.and (Own.from (fun s A B row hs hg Z=>by
   obtain⟨hc,M,E,e1,e2,e3⟩:=hs
   exact⟨hc,M,E,e1,e2,e3.imp (fun h=>⟨h.1,cell_kept h.2 hg Z⟩) (fun h=>⟨h.1,cell_kept h.2 hg Z⟩)⟩) _) (ownFrom_below (Ep _) (by simp; omega)))
  ⟨⟨by simp,((bB.alloc _).alloc _).cell,(bR.alloc _).cell,(bR.alloc _).frozen⟩,br⟩
  (fun x=>{ tmps:=#[Ex aa len ca,Ex ab len cb,En,Ek (some ⟨w.heap.size,0,none⟩),Ek (some ⟨w.heap.size+1,0,none⟩),Ey Ew ((x:Nat):Int),Ey Eu (A.getD x 0),Ex aa len ca,Ey Ew len,Ex ab len cb,Ey Ew len,.bool false,En,En,En,En,En,Ex aa len ca,.func (.func 191) #[] #[Ek (some ⟨w.heap.size+1+1,0,none⟩)],Ey Ew ((x:Nat):Int),Ey Eu (A.getD x 0),En,En,En,En,En,En,En,En,En,En,En,En],defers:= [] }) ?assign ?body ?done ?stop
 case assign=>
  intro l x W K hK;dsimp only[Qi];obtain⟨u,hu⟩:∃u,A.getD (x:Nat) 0=u:=⟨_,rfl⟩;simp only[hu]at hK|-;clear hu
  gi_wp2
  exact hK
 case body=>
  rintro l pre x W ⟨⟨hp,bg,I,bh⟩,hB⟩ _;obtain⟨i,hi⟩:=x;obtain⟨bb,ob,rfl,ce,bl⟩:=fB D6;have g1:=(hB.cell (p:=⟨bb,ob+i,none⟩) ce).trans (bl i D6);obtain⟨u,hu⟩:∃u,A.getD i 0=u:=⟨_,rfl⟩;obtain⟨v,hv⟩:∃v,B.getD i 0=v:=⟨_,rfl⟩;rw[hv]at g1;have HU:=E7 (E8 hu hv);have HP:=E7 hp;dsimp only;rw[hu]
  have z1:w.heap.size+1<W.heap.size:=by
   rcases Er (w.heap.size+1) W.heap.size with h | h
   . exact h
   . simp[World.cell?,Array.getElem?_eq_none h]at I
  clear fA fB bi bl hu hv hp
  gi_wp2
  .
   have hl:u<v:=by assumption
   exact⟨(KeepsOthers.setCell _ _ _).from _,⟨rfl,pre,⟨i,hi⟩,rfl,HP.out,Or.inl ⟨by dsimp only; rw[HU.out.1,HU.out.2]; exact hl,World.cell?_setCell_same' _ _ _ (by rw[I]; rfl)⟩⟩,hB.setCell (p:=⟨w.heap.size+1,0,none⟩) (Nat.le_succ _) _⟩
  .
   have hl:v<u:=by assumption
   exact⟨(KeepsOthers.setCell _ _ _).from _,⟨rfl,pre,⟨i,hi⟩,rfl,HP.out,Or.inr ⟨by dsimp only; rw[HU.out.1,HU.out.2]; exact hl,World.cell?_setCell_same' _ _ _ (by rw[I]; rfl)⟩⟩,hB.setCell (p:=⟨w.heap.size+1,0,none⟩) (Nat.le_succ _) _⟩
  .
   have he:u=v:=D6
   exact⟨KeepsFrom.refl _ _,Fz _ _,⟨fun p bt=>(List.mem_append.1 bt).elim (HP.out p) (fun e=>by
    rw[List.mem_singleton]at e; subst e; dsimp only; rw[HU.out.1,HU.out.2,he]),bg,I,bh⟩,hB⟩
 case done=>
  rintro D ys W hD rfl ⟨⟨hne,bg,I,bh⟩,hB⟩ hK;have he:=Qj lA lB len (Ep _) hne;rw[Nat.sub_self,List.drop_zero,List.drop_zero]at he;have H:Hid (zM (zj A) (zj B)=0):=by show zM _ _=0; unfold zM; rw[E9 he]
  clear he hne
  gi_wp2
  have be:=(KeepsOthers.setCell W ⟨w.heap.size+1,0,none⟩ (Ey Ew 0)).same D _ hK rfl;refine⟨by simp,.inl ⟨_,_,rfl,run_takeDeferred be,?_⟩⟩;have bf:=cell_kept (World.cell?_setCell_same' W ⟨w.heap.size+1,0,none⟩ (Ey Ew 0) (by rw[I]; rfl)) (grownBy_putObj' _ D (.deferred none)) (fun r e=>by cases e; exact⟨_,be,rfl⟩);refine⟨Ey Ew 0,?_,yE H.out.symm,(hB.setCell (p:=⟨w.heap.size+1,0,none⟩) (Nat.le_succ _) _).trans (belowK_b (w:=w) (Ep _) _ D _ _ (by simp at hD; omega) be rfl rfl)⟩;simp[results,Tryz.f136,go_sem,bf]
 case stop=>
  rintro D c pre W hD ⟨k,hk,rfl⟩ ⟨⟨rfl,M,E,e1,e2,e3⟩,hB⟩ hK
  obtain⟨T,rfl⟩:∃T,k=T+1:=by
   cases k with
   | zero=>simp[yQ]at e1
   | succ T=>exact⟨T,rfl⟩
  rw[yQ]at e1;obtain⟨rfl,e5⟩:=List.append_inj' e1 rfl;have e6:E=⟨len-1-T,by omega⟩:=by simpa using e5.symm
  subst e6;have hd:=Qj lA lB T D6 e2;rw[show len-T=len-1-T+1 by omega]at hd;dsimp only at e3
  obtain⟨r,Z,hH⟩:∃r:Int,W.cell? ⟨w.heap.size+1,0,none⟩=some (Ey Ew r)/\Hid (zM (zj A) (zj B)=r):=by
   rcases e3 with⟨h,hc⟩ | ⟨h,hc⟩
   .
    have:=XC oA oB (i:=len-1-T) D6 D6 hd h;exact⟨-1,hc,by show zM _ _ = -1; unfold zM; rw[E_ D6,E9 this]⟩
   .
    have:=XC oB oA (i:=len-1-T) D6 D6 hd.symm h;exact⟨1,hc,by show zM _ _=1; unfold zM; rw[E_ D6,E_ D6]⟩
  clear e1 e2 e3 e5 hd
  gi_wp2
  refine⟨by simp,.inl ⟨_,_,rfl,run_takeDeferred hK,?_⟩⟩;have bf:=cell_kept Z (grownBy_putObj' _ D (.deferred none)) (fun r e=>by cases e; exact⟨_,hK,rfl⟩);refine⟨Ey Ew r,?_,yE hH.out.symm,hB.trans (belowK_b (w:=w) (Ep _) W D _ _ (by simp at hD; omega) hK rfl rfl)⟩;simp[results,Tryz.f136,go_sem,bf]
end
section
open Go.RowKit Go.Shelf
attribute [local go_sem] Oper.semAt_some
theorem Ql {aa ab:Option Addr} {ca cb n m:Nat} (w:Ef) (h:n≠m) :
  Ee Ed 136 #[Ex aa n ca,Ex ab m cb] w fun e Z=>e = Eh (Ey Ew (if n<m then -1 else 1))/\zf w Z:=by
 have T:Fence.wide.round=none:=rfl;have hB:Below w.heap.size w ((w.alloc (.cells #[Ex ab m cb] 24)).alloc (.cells #[Ey Ew 0] 3)):=((Fz _ w).alloc (Ep _) _).alloc D9 _;have bR:=Boxed.new (w.alloc (.cells #[Ex ab m cb] 24)) 3 (Ey Ew 0);simp only[Et]at bR;refine(callsIn_wide (n:=3)).1 ?_;refine callsIn_of_wp_marks Tryz.func136 rfl trivial ?_ T;simp only[Tryz.ntmps136,List.size_toArray,List.length_cons,List.length_nil,Nat.reduceAdd,Nat.reduceSub,Array.replicate_succ,Array.replicate_zero,List.push_toArray,List.append_toArray,List.nil_append,List.cons_append]
 rcases Er n m with Y | Y
 .
  have H:Hid ((if n<m then -1 else 1:Int) = -1):=E9 Y;have M:((n:Int) != (m:Int))=true:=by simp; omega
  have X:decide ((n:Int)<(m:Int))=true:=E' D6
  gi_wp2
  have I:=Boxed.new (w.alloc (.cells #[Ex ab m cb] 24)) 3 (Ey Ew (-1));simp only[Et]at I;have E:=I.cell;refine⟨Ey Ew (-1),?_,by first | rfl | exact yE H.out.symm,((Fz _ w).alloc (Ep _) _).alloc D9 _⟩;simp[results,Tryz.f136,go_sem,E]
 .
  have H:Hid ((if n<m then -1 else 1:Int)=1):=E_ D6;have M:((n:Int) != (m:Int))=true:=by simp; omega
  have X:decide ((n:Int)<(m:Int))=false:=Ea D6
  gi_wp2
  have I:=Boxed.new (w.alloc (.cells #[Ex ab m cb] 24)) 3 (Ey Ew 1);simp only[Et]at I;have E:=I.cell;refine⟨Ey Ew 1,?_,by first | rfl | exact yE H.out.symm,((Fz _ w).alloc (Ep _) _).alloc D9 _⟩;simp[results,Tryz.f136,go_sem,E]
theorem qK {a b:Ei} {x y:Int} (w:Ef) (M:aA w a (zp x)) (I:aA w b (zp y)) (H:0<=x) (E:0<=y) (X:(zp x).length<=aD) (Y:(zp y).length<=aD) :
  Ee Ed 136 #[a,b] w fun e T=>e = Eh (Ey Ew (zM x y))/\zf w T:=by
 obtain⟨aa,ca,rfl⟩:=M.ak;obtain⟨ab,cb,rfl⟩:=I.ak
 by_cases h:(zp x).length=(zp y).length
 .
  have C:=Qk (ca:=ca) (cb:=cb) (len:=(zp x).length) w rfl h.symm (xr x) (xr y) X M.cells.2.2.2 (by have:=I.cells.2.2.2; rw[h]; exact this);rw[zE H,zE E]at C;rw[<- h];exact C
 .
  have C:=Ql (aa:=aa) (ab:=ab) (ca:=ca) (cb:=cb) w h
  have e:(if(zp x).length<(zp y).length then -1 else 1:Int)=zM x y:=by
   rcases Er (zp x).length (zp y).length with g | g
   .
    rw[E9 g];have:=ye H E g;unfold zM; rw[E_ D6,E9 this]
   .
    rw[E_ D6];have:=ye E H D6;unfold zM; rw[E_ D6,E_ D6]
  rw[e]at C;exact C
end
end Go.Proofs.YtffmbepfbienaaaGreat
/- A region that draws its order in a round of a range X7 a function: by XReg's chain. -/
namespace Go.Proofs.YtffmbepfbienaaaGreat
open Go.RowKit
variable {a:Act} {K K':Act->Ef->Prop} {l n:Nat} {w:Ef}
def y_ (Q:Exit->Act->Ef->Prop):Exit->Act->Ef->Prop
 | .outgrown,_,_=>False
 | e,a,w=>Q e a w
theorem kV (Q:Exit->Act->Ef->Prop):¬LetsOut (y_ Q):=fun⟨_,_,h⟩=>h
theorem Yl {P:Program} {o:Oper} {Q:Exit->Act->Ef->Prop} (hd:∀c,o.op≠ .defer c) (h:o.wp P a w K (y_ Q))
  (E:∀a w,K a w->K' a w):o.wpIn (Fence.wide.inRound l) n P a w K' Q:=by
 refine⟨fun _ _=>trivial,?_⟩;rw[Fence.inRound_round,Oper.semAt_some l _ o hd];unfold Oper.wp at h;generalize (execOp a.eval o).run P w=r at h
 cases r with
 | ok nx H=>
  cases nx with
  | value v=>exact E _ _ h
  | skip=>exact E _ _ h
  | defer d=>exact E _ _ h
  | enter f args=>
   refine⟨fun h=>(by cases h),CallsIn.inRound l (callsIn_wide.2 (Calls.mono h ?_))⟩;intro e M I
   cases e with
   | returned v=>exact E _ _ I
   | panicked c=>exact I
   | outgrown=>exact(kV Q I).elim
  | row r args=>
   refine⟨fun h=>(by cases h),fun c cs _=> ?_⟩;obtain⟨v,H,r,s⟩:=h c cs;exact⟨v,H,E _ _ r,stepsIn_wide.2 s⟩
  | _=>exact h.elim
 | halt x H=>
  cases x with
  | panic v=>exact h
  | _=>exact h.elim
def jQ (ops:Array Oper):Bool:=ops.toList.all fun o=>match o.op with | .defer _=>false | _=>true
theorem vJ {ops:Array Oper} (h:jQ ops=true) {i:Nat} {o:Oper} (H:ops[i]? = some o):∀c,o.op≠ .defer c:=by
 intro c e;have E:o∈ops.toList:=by rw[Array.mem_toList_iff]; exact Array.mem_of_getElem? H
 have:=List.all_eq_true.1 h o E;rw[e]at this
 cases this
theorem Ux {P:Program} {ops:Array Oper} {Q:Exit->Act->Ef->Prop} {i:Nat} (hd:jQ ops=true) (E:∀a w,K a w->K' a w)
  (h:wpOp P ops (y_ Q) i K a w):wpOpIn (Fence.wide.inRound l) n P ops Q i K' a w:=by
 unfold wpOp at h;unfold wpOpIn
 cases ho:ops[i]? with
 | none=>rw[ho]at h; exact E _ _ h
 | some o=>
  rw[ho]at h;dsimp only at h|-
  by_cases hw:Region.wanted o (yielded ops a.tmps)=true
  .
   rw[E9 hw]at h|-
   rcases h with h | ⟨_,h⟩
   . exact Yl (vJ hd ho) h E
   . exact(kV Q h).elim
  .
   rw[E_ hw]at h|-;exact⟨fun _ _=>trivial,E _ _ h⟩
theorem VG {P:Program} {ops:Array Oper} {Q:Exit->Act->Ef->Prop} {md:Region.Mode} (hd:jQ ops=true):∀ (H:Nat) (E:Array Bool) (a:Act) (w:Ef),
  wpAny P md ops (y_ Q) H E a w->wpAnyIn (Fence.wide.inRound l) n P md ops Q H E a w:=by
 intro H
 induction H with
 | zero=>intro E a w h; exact⟨h.1,h.2⟩
 | succ H ih=>intro E a w h; exact⟨fun I=>h.1 I,fun i M=>Ux hd (fun a w=>ih _ a w) (h.2 i M)⟩
section
open aj
variable {P:Program} {ops:Array Oper} {Q:Exit->Act->Ef->Prop}
theorem jg {id:Nat} {ah:Act} (J:(Nat->Bool)->(Nat->Ei)->Ef->Prop) (a9:Nat->Bool) (V:Nat->Ei->Prop) (G:Nat->Ei->Ef->Prop) (Sx:Nat->Ef->Ef->Prop) (b9:List PanicEntry->Ef->Prop) (pre:Nat->List (Nat×Option Tmp)) (post:Nat->List Nat)
  (hd:jQ ops=true) (hm:P.follows .mixedOrders=true) (ht:tidy ops ah.tmps.size=true) (H:cX ops a9 pre post=true)
  (Y:∀k,∃x,V k x) (T:∀v,J (fun _=>false) v w.drew) (I:∀D v v' W,(∀j,D j=true->v j=v' j)->J D v W->J D v' W)
  (hG:∀D v k j W Z x,j≠k->a9 j=true->a9 k=true->J D v W->Sx k W Z->G j x W->G j x Z)
  (hP:∀a W c,a.defers=ah.defers->b9 c W->Q (.panic c) a W)
  (h:∀E Q',E=ops->(∀a W,Q .normal a W->Q' .normal a W)->RC P E Q' J a9 V G Sx b9 pre post 0 ops.toList ah):(Code.region id ops true).wpIn (Fence.wide.inRound l) n P Q ah w:=by
 have hc:=h ops (y_ Q) rfl (fun _ _ h=>h);refine wpIn_region_any hm (VG hd _ _ _ _ ?_)
 exact Xd (Inv P ops J a9 V G pre post ah) (cz (Q:=y_ Q) ht H Y I hG (fun a W c X M=>hP a W c X M) hc) (cB (Q:=y_ Q) ht H Y I hG (fun a W c X M=>hP a W c X M) hc) _ _ _ _ (j8 T) (by
  unfold xL;have:=List.length_filter_le (fun i=> !(Array.replicate ops.size false).getD i true) (List.range ops.size)
  rwa[List.length_range]at this)
end
end Go.Proofs.YtffmbepfbienaaaGreat
/- The chain of XReg where an operation of the region calls 'yield': for an iterator's own text. -/
namespace Go.Proofs.YtffmbepfbienaaaGreat
section
open Go.RowKit
variable {a b ah:Act} {L:Array Oper} {rest:List Oper} {k n:Nat} {o:Oper} {N:Ei->Ef->Prop} {W w:Ef}
def Ym (P:Program) (o:Oper) (ρ : Operand->Ei) (W:Ef) (b9:List PanicEntry->Ef->Prop) (N:Ei->Ef->Prop):Prop:=
 match (execOp ρ o).run P W with
 | .ok (.value v) W'=>N v W'
 | .ok .skip W'=>N En W'
 | .ok (.enter f args) W'=>Ee P f args W' fun
   | Eh v,W''=>N v W''
   | .panicked c,W''=>b9 c W''
   | .outgrown,_=>False
 | .ok (.row row args) W'=>Rows P row args W' N
 | .ok (.round l f tmps assign body) W'=>RoundIn Fence.wide 0 P l f tmps assign body W' fun
   | Eh v,W''=>N v W''
   | .panicked c,W''=>b9 c W''
   | .outgrown,_=>False
 | .halt (.panic v) W'=>b9 [{ v,recovered:=false }] W'
 | _=>False
theorem ju {m:Nat} {P:Program} {l:Nat} {f:FuncId} {tmps:Array Ei} {assign body:Code} {R:Ending->Ef->Prop}
  (h:RoundIn Fence.wide n P l f tmps assign body w R):RoundIn Fence.wide m P l f tmps assign body w R:=⟨h.1,fun c cs _=>h.2 c cs (room_wide _)⟩
namespace aR
open aj
section
variable (P:Program) (ops:Array Oper) (Q:Exit->Act->Ef->Prop) (J:(Nat->Bool)->(Nat->Ei)->Ef->Prop) (a9:Nat->Bool) (V:Nat->Ei->Prop) (G:Nat->Ei->Ef->Prop) (Sx:Nat->Ef->Ef->Prop) (b9:List PanicEntry->Ef->Prop) (pre:Nat->List (Nat×Option Tmp)) (post:Nat->List Nat)
def bm (k:Nat) (o:Oper) (a:Act) (D:Nat->Bool) (v:Nat->Ei) (W:Ef):Prop:=
 if Region.wanted o (yielded ops a.tmps)=true then Ym P o a.eval W b9 (fun x E=>Sx k W E/\J (upd D k) (aT v k (dv o x)) E/\G k (dv o x) E/\V k (dv o x))else J (upd D k) (aT v k En) W/\G k En W/\V k En
def RC:Nat->List Oper->Act->Prop
 | k,[],a=>∀D v W,(∀j,j<k->D j=a9 j)->J D v W->aL a9 G pre k a D v W->Q .normal a W
 | k,o::rest,a=>
  if a9 k=true then(∀D v W,bC post k D->J D v W->aL a9 G pre k a D v W->bm P ops J V G Sx b9 k o a D v W)/\∀x,V k x->RC (k+1) rest (a.put o.dst x)
  else ∃x,(∀D v W,bC post k D->J D v W->aL a9 G pre k a D v W->yJ P ops o a x W)/\RC (k+1) rest (a.put o.dst x)
end
section
variable {P:Program} {ops:Array Oper} {Q:Exit->Act->Ef->Prop} {J:(Nat->Bool)->(Nat->Ei)->Ef->Prop} {a9:Nat->Bool} {V:Nat->Ei->Prop} {G:Nat->Ei->Ef->Prop} {Sx:Nat->Ef->Ef->Prop} {b9:List PanicEntry->Ef->Prop} {pre:Nat->List (Nat×Option Tmp)} {post:Nat->List Nat}
theorem cJ (xs:Nat->Ei) (hx:∀k,V k (xs k)):∀ (l:List Oper) (k:Nat) (a:Act),RC P ops Q J a9 V G Sx b9 pre post k l a->
  ∃ (E:Nat->Act) (y:Nat->Ei),E k=a/\(∀i o,l[i]? = some o->E (k+i+1)=(E (k+i)).put o.dst (y (k+i))/\
   (a9 (k+i)=true->y (k+i)=xs (k+i)/\∀D v W,bC post (k+i) D->J D v W->aL a9 G pre (k+i) (E (k+i)) D v W->bm P ops J V G Sx b9 (k+i) o (E (k+i)) D v W)/\
   (a9 (k+i)=false->∀D v W,bC post (k+i) D->J D v W->aL a9 G pre (k+i) (E (k+i)) D v W->yJ P ops o (E (k+i)) (y (k+i)) W))/\
   (∀D v W,(∀j,j<k+l.length->D j=a9 j)->J D v W->aL a9 G pre (k+l.length) (E (k+l.length)) D v W->Q .normal (E (k+l.length)) W):=by
 intro l
 induction l with
 | nil=>
  intro k a h;refine⟨fun _=>a,xs,rfl,fun i o H=>by simp at H,?_⟩;exact h
 | cons o rest ih=>
  intro k a h
  have key:∃x,RC P ops Q J a9 V G Sx b9 pre post (k+1) rest (a.put o.dst x)/\
    (a9 k=true->x=xs k/\∀D v W,bC post k D->J D v W->aL a9 G pre k a D v W->bm P ops J V G Sx b9 k o a D v W)/\
    (a9 k=false->∀D v W,bC post k D->J D v W->aL a9 G pre k a D v W->yJ P ops o a x W):=by
   unfold RC at h
   split at h
   .
    rename_i hc
    exact⟨xs k,h.2 _ (hx k),fun _=>⟨rfl,h.1⟩,fun I=>by rw[hc]at I; cases I⟩
   .
    rename_i hc
    obtain⟨x,h1,h2⟩:=h;exact⟨x,h2,fun I=>absurd I hc,fun _=>h1⟩
  obtain⟨x,Y,T,M⟩:=key;obtain⟨E,y,ht,Z,X⟩:=ih (k+1) _ Y;refine⟨fun i=>if i<=k then a else E i,fun i=>if i<=k then x else y i,by simp,?_,?_⟩
  .
   intro i o' H
   cases i with
   | zero=>
    simp only[List.getElem?_cons_zero,Option.some.injEq]at H;subst H;simp only[Nat.add_zero,Ep,if_true,E_ (show ¬(k+1<=k) by omega),ht];exact⟨trivial,T,M⟩
   | succ i=>
    rw[List.getElem?_cons_succ]at H;have:=Z i o' H;have e:k+1+i=k+(i+1):=D6
    rw[e]at this;simp only[E_ (show ¬(k+(i+1)<=k) by omega),E_ (show ¬(k+(i+1)+1<=k) by omega)];exact this
  .
   have e:k+1+rest.length=k+(o::rest).length:=by simp; omega
   rw[e]at X;simp only[E_ (show ¬(k+(o::rest).length<=k) by simp)];exact X
theorem dE {K:Act->Ef->Prop} (h:Ym P o a.eval W b9 N) (I:∀x H,N x H->K (a.put o.dst x) H)
  (M:∀c H,b9 c H->Q (.panic c) a H):o.wpIn Fence.wide n P a W K Q:=by
 unfold Ym at h;unfold Oper.wpIn;refine⟨fun _ _=>trivial,?_⟩;rw[show o.semAt Fence.wide.round a.eval=execOp a.eval o from rfl]
 split at h
 . rename_i heq; rw[heq,Oper.uponIn_value]; exact I _ _ h
 . rename_i heq; rw[heq,Oper.uponIn_skip]; exact I _ _ h
 .
  rename_i heq
  rw[heq,Oper.uponIn_enter];refine⟨fun h=>(by cases h),callsIn_wide.2 (Calls.mono h fun e T E=> ?_)⟩
  cases e with
  | returned v=>exact I _ _ E
  | panicked c=>exact M _ _ E
  | outgrown=>exact E.elim
 .
  rename_i heq
  rw[heq,Oper.uponIn_row];refine⟨fun h=>(by cases h),fun c cs _=> ?_⟩;obtain⟨v,X,r,s⟩:=h c cs;exact⟨v,X,I _ _ r,stepsIn_wide.2 s⟩
 .
  rename_i heq
  rw[heq,Oper.uponIn_round];refine⟨fun h=>(by cases h),ju (RoundIn.mono h fun e T E=> ?_)⟩
  cases e with
  | returned v=>exact I _ _ E
  | panicked c=>exact M _ _ E
  | outgrown=>exact E.elim
 . rename_i heq; rw[heq,Oper.uponIn_panic]; exact M _ _ h
 . exact h.elim
theorem cO {ρ E:Operand->Ei} (e:execOp ρ o=execOp E o) (h:Ym P o ρ W b9 N):Ym P o E W b9 N:=by
 unfold Ym at *
 rwa[<- e]
theorem cS {D:Nat->Bool} {v:Nat->Ei} (H:∀cs c,o.op≠ .select cs c) (h:∀t,t∈o.looksAt ops->a.tmps[t]? = b.tmps[t]?) (E:bm P ops J V G Sx b9 k o a D v W):bm P ops J V G Sx b9 k o b D v W:=by
 unfold bm at *;rw[<- jP h]
 split
 . rename_i hw; rw[E9 hw]at E; exact cO (kS H h) E
 . rename_i hw; rwa[E_ hw]at E
theorem cz (ht:tidy ops ah.tmps.size=true) (cZ:cX ops a9 pre post=true)
  (hV:∀k,∃x,V k x) (dl:∀D v v' W,(∀j,D j=true->v j=v' j)->J D v W->J D v' W)
  (hG:∀D v k j W Z x,j≠k->a9 j=true->a9 k=true->J D v W->Sx k W Z->G j x W->G j x Z)
  (hP:∀a W c,a.defers=ah.defers->b9 c W->Q (.panic c) a W)
  (h:RC P ops Q J a9 V G Sx b9 pre post 0 ops.toList ah) :
  ∀E a W i,Inv P ops J a9 V G pre post ah E a W->i∈Region.ready .any ops E->wpOpIn Fence.wide n P ops Q i (fun a' Z=>Inv P ops J a9 V G pre post ah (E.setIfInBounds i true) a' Z) a W:=by
 have T:=kF ht;have S:=kG cZ;intro E a W i I hi;obtain⟨dk,o,ho,dt⟩:=mem_ready.1 hi;have br:i<ops.size:=jD ho;have hd:yw ops i=o.dst:=by unfold yw; rw[ho]; rfl
 have bg:∀j∈jr ops i,E.getD j false=true:=fun j M=>by
  obtain⟨e,he,hb,rfl⟩:=(kH ho).1 M;exact dt e he hb
 have hl:∀j,cU ops j i->E.getD j false=true:=fun j M=>by
  cases M with
  | one h=>exact bg j h
  | more h1 h2=>exact I.ei h1 (bg _ h2)
 have bh:¬E.getD i false=true:=fun hc=>by
  have ey:i<E.size:=I.n▸br;simp[ey]at dk hc;rw[dk]at hc; cases hc
 obtain⟨xs,hx,f8⟩:∃xs:Nat->Ei,(∀k,V k (xs k))/\∀k,V k (yX ops a k)->xs k=yX ops a k:=by
  classical
  refine⟨fun k=>if V k (yX ops a k)then yX ops a k else(hV k).choose,fun k=> ?_,fun k H=>by simp only[E9 H]⟩
  by_cases H:V k (yX ops a k)
  . simp only[E9 H]; exact H
  . simp only[E_ H]; exact(hV k).choose_spec
 obtain⟨tr,y,h0,hs,hf⟩:=cJ xs hx ops.toList 0 ah h
 have ek:∀i o,ops[i]? = some o->tr (i+1)=(tr i).put o.dst (y i):=fun i o ho=>by
  have:=(hs i o (by simpa using ho)).1;simpa using this
 have ed:∀i,i<ops.size->E.getD i false=true->a9 i=true->y i=yX ops a i:=fun i hi em X=>by
  have:=(hs i ops[i] (by simp[hi])).2.1;simp only[Nat.zero_add]at this;exact(this X).1.trans (f8 i (I.call i em X).2)
 have cN:∀i o,ops[i]? = some o->a9 i=false->∀D v W,bC post i D->J D v W->aL a9 G pre i (tr i) D v W->yJ P ops o (tr i) (y i) W:=fun i o ho X=>by
  have:=(hs i o (by simpa using ho)).2.2;simp only[Nat.zero_add]at this;exact this X
 obtain⟨A1,A2,-⟩:=Kw S T I h0 ek ed cN i br hl
 have A1:∀t,t∈o.looksAt ops->(tr i).tmps[t]? = a.tmps[t]? :=fun t ht=>by
  by_cases hw:∃j,cU ops j i/\yw ops j=some t
  .
   obtain⟨j,M,bl⟩:=hw;exact(A1 o ho t ht).1 j M bl
  .
   rw[(A1 o ho t ht).2 fun j M bl=>hw ⟨j,M,bl⟩,I.old t fun j M bl=> ?_]
   rcases T.look i o t j ho ht bl with h | h
   . exact hw ⟨j,h,bl⟩
   . exact bh (I.ei h M)
 have F:aL a9 G pre i a (done a9 E) (yX ops a) W:=fun p hp dc=>by
  obtain⟨h1,h2⟩:=S.fore i p br hp;refine⟨by unfold done; rw[dc,hl p.1 h1]; rfl,by unfold yX; rw[h2],?_⟩;rw[<- h2];exact(I.call p.1 (hl p.1 h1) dc).1
 have F':aL a9 G pre i (tr i) (done a9 E) (yX ops a) W:=yx (fun p hp=>(A2 p hp).symm) F;have eG:=fun cs c=>T.eG i o cs c ho
 have ce:bC post i (done a9 E):=by
  refine⟨?_,fun j M=> ?_⟩
  .
   unfold done; cases h:E.getD i false with
   | true=>exact absurd h bh
   | false=>simp
  .
   unfold done; cases h:E.getD j false with
   | true=>exact absurd (I.ei (S.aft i j br M) h) bh
   | false=>simp
 have dC:a9 i=true->done a9 (E.setIfInBounds i true)=upd (done a9 E) i:=fun hc=>funext fun j=>by
  unfold done upd
  by_cases e:j=i
  . subst e; simp only[qG (show j<E.size from I.n▸br),hc]; simp
  . rw[getD_set_ne false (Ne.symm e)]; simp[e]
 have dP:a9 i=false->done a9 (E.setIfInBounds i true)=done a9 E:=fun hc=>funext fun j=>by
  unfold done
  by_cases e:j=i
  . subst e; rw[hc]; simp
  . rw[getD_set_ne false (Ne.symm e)]
 -- what stands, whatever i yields, of the frame behind it
 have bO:∀x k,E.getD k false=true->∀t,yw ops k=some t->(a.put o.dst x).tmps[t]? = a.tmps[t]? :=fun x k H t be=>
  Zm fun e=>bh (T.once i k t (hd.trans e) be▸H)
 have next:∀x Z,J (done a9 (E.setIfInBounds i true)) (yX ops (a.put o.dst x)) Z->(∀k,E.getD k false=true->a9 k=true->G k (yX ops a k) Z/\V k (yX ops a k))->(a9 i=true->G i (dv o x) Z/\V i (dv o x))->
   (a9 i=false->∀D v W,bC post i D->J D v W->aL a9 G pre i a D v W->yJ P ops o a x W)->Inv P ops J a9 V G pre post ah (E.setIfInBounds i true) (a.put o.dst x) Z:=by
  intro x Z M hg f7 ec;have vk:∀k,E.getD k false=true->yX ops (a.put o.dst x) k=yX ops a k:=fun k H=>jf fun t be=>bO x k H t be
  have vi:∀t,o.dst=some t->(a.put o.dst x).tmps[t]? = some x:=fun t dx=>by
   rw[dx]; exact qB (by rw[I.size]; exact T.inb i t (hd.trans dx))
  refine⟨M,by simp[I.n],?_,(je _ _ _).trans I.defs,(Yk _ _ _).trans I.size,?_,?_,?_⟩
  .
   intro k H j dy
   rcases qL H with rfl | H
   . exact getD_set_true (bg j dy)
   . exact getD_set_true (I.closed k H j dy)
  .
   intro t d9;rw[Zm fun e=>d9 i (qG (I.n▸br)) (hd.trans e)];exact I.old t fun k H=>d9 k (getD_set_true H)
  .
   intro k H Y
   rcases qL H with rfl | H
   .
    have:yX ops (a.put o.dst x) k=dv o x:=by
     unfold yX; rw[hd]
     cases hdo:o.dst with
     | none=>simp[at_,dv,hdo]
     | some t=>have:=vi t hdo; rw[hdo]at this; simp[at_,dv,hdo,this]
    rw[this]; exact f7 Y
   . rw[vk k H]; exact hg k H Y
  .
   intro k o' t H Y bt be
   have ag:∀p∈pre k,at_ (a.put o.dst x) p.2=at_ a p.2:=fun p hp=>by
    have eM:k<ops.size:=jD bt;obtain⟨h1,h2⟩:=S.fore k p eM hp
    have eW:E.getD p.1 false=true:=by
     rcases qL H with rfl | H
     . exact hl _ h1
     . exact I.ei h1 H
    exact jf fun t eS=>bO x p.1 eW t (h2.trans eS)
   rcases qL H with rfl | H
   .
    rw[ho]at bt
    injection bt with bt
    subst bt
    have e:yX ops (a.put o.dst x) k=x:=by
     unfold yX; rw[hd];rw[hd]at be;have:=vi t be; rw[be]at this; simp[at_,be,this]
    refine⟨a,fun u j M bi=>(bO x j (hl j M) u bi).symm,fun u hu hn=>I.old u fun j M bi=> ?_,fun cy cx cg cw ci cn=> ?_,?_⟩
    .
     rcases T.look k o u j ho hu bi with h | h
     . exact hn j h bi
     . exact bh (I.ei h M)
    . rw[e]; exact ec Y cy cx cg cw ci (yx ag cn)
    . exact⟨_,_,W,ce,I.j,yx (fun p hp=>(ag p hp).symm) F⟩
   .
    obtain⟨b,b1,b2,P1,D1,v1,W1,c1,j1,f1⟩:=I.pur k o' t H Y bt be;refine⟨b,fun u j M bi=>(b1 u j M bi).trans (bO x j (I.ei M H) u bi).symm,b2,fun cy cx cg cw ci cn=> ?_,D1,v1,W1,c1,j1,yx (fun p hp=>(ag p hp).symm) f1⟩;rw[vk k H];exact P1 cy cx cg cw ci (yx ag cn)
 have vx:∀x j,done a9 E j=true->aT (yX ops a) i (dv o x) j=yX ops (a.put o.dst x) j:=fun x j M=>by
  unfold done at M;simp only[Bool.and_eq_true]at M;unfold aT;rw[E_ (show ¬j=i from fun e=>bh (e▸M.2))];exact(jf fun t be=>bO x j M.2 t be).symm
 have er:∀x,yX ops (a.put o.dst x) i=dv o x:=fun x=>by
  unfold yX; rw[hd]
  cases hdo:o.dst with
  | none=>simp[at_,dv,hdo]
  | some t=>
   have:=qB (a:=a) (v:=x) (t:=t) (by rw[I.size]; exact T.inb i t (hd.trans hdo));simp[at_,dv,hdo,this]
 have vC:∀x Z,a9 i=true->J (upd (done a9 E) i) (aT (yX ops a) i (dv o x)) Z->J (done a9 (E.setIfInBounds i true)) (yX ops (a.put o.dst x)) Z:=fun x Z hc h=>by
  rw[dC hc];refine dl _ _ _ _ (fun j M=> ?_) h
  by_cases e:j=i
  . subst e; unfold aT; rw[E9 rfl,er]
  .
   unfold upd at M;simp only[Bool.or_eq_true,beq_iff_eq,e,false_or]at M;exact vx x j M
 have vP:∀x Z,a9 i=false->J (done a9 E) (yX ops a) Z->J (done a9 (E.setIfInBounds i true)) (yX ops (a.put o.dst x)) Z:=fun x Z hc h=>by
  rw[dP hc];refine dl _ _ _ _ (fun j M=> ?_) h;rw[<- vx x j M];unfold aT;rw[E_];intro e;subst e;unfold done at M;rw[hc]at M; cases M
 unfold wpOpIn;rw[ho]
 cases X:a9 i with
 | true=>
  have hC:=(hs i o (by simpa using ho)).2.1;simp only[Nat.zero_add]at hC;have hC:=cS eG A1 ((hC X).2 _ _ W ce I.j F');unfold bm at hC;simp only
  split
  .
   rename_i hw
   rw[E9 hw]at hC;refine(dE hC (fun x Z hx=>next x Z (vC x Z X hx.2.1) (fun k H Y=> ?_) (fun _=>hx.2.2) (fun h=>by rw[X]at h; cases h)) (fun c Z hc=>hP a Z c I.defs hc));exact⟨hG _ _ i k W Z _ (fun e=>bh (e▸H)) Y X I.j hx.1 (I.call k H Y).1,(I.call k H Y).2⟩
  .
   rename_i hw
   rw[E_ hw]at hC;have e:dv o En=En:=by unfold dv; split<;>rfl
   refine⟨fun _ _=>trivial,next En W (vC En W X (e.symm▸hC.1)) (fun k H Y=>I.call k H Y) (fun _=> ?_) (fun h=>by rw[X]at h; cases h)⟩;rw[e]; exact hC.2
 | false=>
  have hp:=fun D v W cw M hf=>kU eG A1 (cN i o ho X D v W cw M (yx (fun p hp=>(A2 p hp).symm) hf));have bf:=hp _ _ W ce I.j F;unfold yJ at bf;simp only;have nx:=next (y i) W (vP _ W X I.j) (fun k H Y=>I.call k H Y) (fun h=>by rw[X]at h; cases h) (fun _=>hp)
  split
  .
   rename_i hw
   rw[E9 hw]at bf;unfold Oper.wpIn;refine⟨fun _ _=>trivial,?_⟩;rw[show o.semAt Fence.wide.round a.eval=execOp a.eval o from rfl]
   rcases bf with bf | ⟨bf,hy⟩
   . rw[bf,Oper.uponIn_value]; exact nx
   . rw[bf,Oper.uponIn_skip,<- hy]; exact nx
  .
   rename_i hw
   rw[E_ hw]at bf;rw[<- bf]; exact⟨fun _ _=>trivial,nx⟩
theorem cB (ht:tidy ops ah.tmps.size=true) (bi:cX ops a9 pre post=true)
  (hV:∀k,∃x,V k x) (cn:∀D v v' W,(∀j,D j=true->v j=v' j)->J D v W->J D v' W)
  (hG:∀D v k j W W' x,j≠k->a9 j=true->a9 k=true->J D v W->Sx k W W'->G j x W->G j x W')
  (hP:∀a W c,a.defers=ah.defers->b9 c W->Q (.panic c) a W)
  (h:RC P ops Q J a9 V G Sx b9 pre post 0 ops.toList ah) :
  ∀H a W,Inv P ops J a9 V G pre post ah H a W->Region.ready .any ops H = []->Q .normal a W:=by
 have T:=kF ht;have S:=kG bi;intro H a W I hr
 -- nothing is left: all are H
 have all:∀k,k<ops.size->H.getD k false=true:=by
  intro k
  induction k using Nat.strongRecOn with
  | _ k ih=>
   intro X
   cases hl:H.getD k false with
   | true=>rfl
   | false=>
    have:k∈Region.ready .any ops H:=by
     refine mem_ready.2 ⟨?_,ops[k],by simp[X],fun e he hb=> ?_⟩
     .
      have ce:k<H.size:=I.n▸X;simpa[ce]using hl
     .
      have hm:=(kH (ops:=ops) (k:=k) (j:=e.on) (by simp[X])).2 ⟨e,he,hb,rfl⟩;have:=T.back _ _ hm;exact ih e.on this D6
    rw[hr]at this; cases this
 obtain⟨xs,hx,cg⟩:∃xs:Nat->Ei,(∀k,V k (xs k))/\∀k,V k (yX ops a k)->xs k=yX ops a k:=by
  classical
  refine⟨fun k=>if V k (yX ops a k)then yX ops a k else(hV k).choose,fun k=> ?_,fun k X=>by simp only[E9 X]⟩
  by_cases X:V k (yX ops a k)
  . simp only[E9 X]; exact X
  . simp only[E_ X]; exact(hV k).choose_spec
 obtain⟨tr,y,h0,hs,hf⟩:=cJ xs hx ops.toList 0 ah h
 have bf:∀i o,ops[i]? = some o->tr (i+1)=(tr i).put o.dst (y i):=fun i o ho=>by
  have:=(hs i o (by simpa using ho)).1;simpa using this
 have bl:∀i,i<ops.size->H.getD i false=true->a9 i=true->y i=yX ops a i:=fun i hi br be=>by
  have:=(hs i ops[i] (by simp[hi])).2.1;simp only[Nat.zero_add]at this;exact(this be).1.trans (cg i (I.call i br be).2)
 have ci:∀i o,ops[i]? = some o->a9 i=false->∀D v W,bC post i D->J D v W->aL a9 G pre i (tr i) D v W->yJ P ops o (tr i) (y i) W:=fun i o ho be=>by
  have:=(hs i o (by simpa using ho)).2.2;simp only[Nat.zero_add]at this;exact this be
 have Y:∀k,k<ops.size->y k=yX ops a k:=fun k X=>(Kw S T I h0 bf bl ci k X fun j Z=>all j (by have:=Z.lt T; omega)).2.2 (all k X)
 have E:tr ops.size=a:=by
  have hz:=XG h0 bf ops.size (Ep _)
  have bt:∀t,(tr ops.size).tmps[t]? = a.tmps[t]? :=fun t=>by
   obtain⟨s1,s2⟩:=ZR T rfl h0 bf ops.size (Ep _)
   by_cases hw:∃j,j<ops.size/\yw ops j=some t
   .
    obtain⟨j,Z,M⟩:=hw;rw[s1 j t Z M,Y j Z];unfold yX at_;simp only[M];have hb:t<a.tmps.size:=by rw[I.size]; exact T.inb j t M
    rw[Array.getElem?_eq_getElem hb]; rfl
   . rw[s2 t fun j Z M=>hw ⟨j,Z,M⟩,I.old t fun j Z M=>hw ⟨j,qY M,M⟩]
  have:(tr ops.size).tmps=a.tmps:=Array.ext_getElem? bt;have bg:(tr ops.size).defers=a.defers:=hz.2.trans I.defs.symm
  cases htr:tr ops.size with
  | mk t1 d1=>
   rw[htr]at this bg;simp only at this bg;subst this bg;rfl
 simp only[Nat.zero_add,Array.length_toList]at hf;rw[E]at hf
 exact hf _ _ W (fun j Z=>by unfold done; rw[all j Z]; simp) I.j fun p hp bh=>by
  obtain⟨h1,h2⟩:=S.fin p hp;refine⟨by unfold done; rw[bh,all p.1 h1]; rfl,by unfold yX; rw[h2],?_⟩;rw[<- h2];exact(I.call p.1 (all p.1 h1) bh).1
theorem bD (M:Act) (x:Ei) (hc:a9 k=false) (hst:j9 o.op=true) (hw:Region.wanted o (yielded ops a.tmps)=true)
  (h:∀D v W,bC post k D->J D v W->aL a9 G pre k a D v W->∀K:Act->Ef->Prop,Hid (K M W)->o.wp P a W K (fun _ _ _=>False)) (t:Tmp) (hd:o.dst=some t) (ht:t<a.tmps.size) (Y:M=a.put o.dst x)
  (H:RC P ops Q J a9 V G Sx b9 pre post (k+1) rest M):RC P ops Q J a9 V G Sx b9 pre post k (o::rest) a:=by
 unfold RC;rw[E_ (by rw[hc]; simp)];refine⟨x,fun D v W Z hj hf=> ?_,Y▸H⟩;have h:=h D v W Z hj hf (fun X T=>X=M/\T=W) ⟨rfl,rfl⟩;unfold yJ;rw[E9 hw]
 have I:∀v,a.put o.dst v=M->v=x:=fun v hv=>by
  rw[Y,hd]at hv;have E:=qB (v:=v) ht;rw[hv,qB ht]at E
  injection E with E
  exact E.symm
 unfold Oper.wp at h
 cases H:(execOp a.eval o).run P W with
 | ok r T=>
  rw[H]at h
  rcases Xe hst H with⟨v,rfl⟩ | rfl
  .
   rw[Oper.upon_value]at h;obtain⟨E,rfl⟩:=h;exact .inl (by rw[I v E])
  .
   rw[Oper.upon_skip]at h;obtain⟨E,rfl⟩:=h;exact .inr ⟨rfl,(I _ E).symm⟩
 | halt r T=>
  rw[H]at h
  cases r<;>exact h.elim
theorem cV (hc:a9 k=false) (hw:Region.wanted o (yielded ops a.tmps)=false)
  (E:RC P ops Q J a9 V G Sx b9 pre post (k+1) rest (a.put o.dst En)):RC P ops Q J a9 V G Sx b9 pre post k (o::rest) a:=by
 unfold RC;rw[E_ (by rw[hc]; simp)];refine⟨En,fun D v W _ _ _=> ?_,E⟩;unfold yJ;rw[E_ (by rw[hw]; simp)]
theorem RY {o:Oper} {a:Act} {E:Act} {x:Ei} (T:ops=L) (t:Tmp) (I:RC P ops Q J a9 V G Sx b9 pre post (k+1) rest E) (hc:a9 k=false:=by exact rfl) (hst:j9 o.op=true:=by exact rfl) (hw:Region.wanted o (yielded L a.tmps)=true:=by exact rfl) (hd:o.dst=some t:=by exact rfl) (ht:Nat.ble (t+1) a.tmps.size=true:=by exact rfl)
  (h:∀W,∀K:Act->World->Prop,Hid (K E W)->o.wp P a W K (fun _ _ _=>False):=by (intro X K H; go_step; exact H.out)) (M:E=a.put o.dst x:=by exact rfl):RC P ops Q J a9 V G Sx b9 pre post k (o::rest) a:=
 bD E x hc hst (by rw[T]; exact hw) (fun _ _ W _ _ _ K H=>h W K H) t hd (Ec ht) M I
theorem sk (H:ops=L) (E:RC P ops Q J a9 V G Sx b9 pre post (k+1) rest (a.put o.dst En)) (hc:a9 k=false:=by exact rfl) (hw:Region.wanted o (yielded L a.tmps)=false:=by exact rfl):RC P ops Q J a9 V G Sx b9 pre post k (o::rest) a:=cV hc (by rw[H]; exact hw) E
theorem aC {n k:Nat} {o:Oper} {rest:List Oper} {a:Act} (hc:a9 k=true) (hb:∀t,o.dst=some t->t<a.tmps.size) (hw:Region.wanted o (yielded ops a.tmps)=true)
  (h:∀D v W,bC post k D->J D v W->aL a9 G pre k a D v W->∀K:Act->Ef->Prop,Hid (∀x E,Sx k W E->J (upd D k) (aT v k (dv o x)) E->G k (dv o x) E->V k (dv o x)->K (a.put o.dst x) E)->o.wpIn Fence.wide n P a W K (fun e _ E=>match e with | .panic c=>b9 c E | _=>False))
  (X:∀x,V k x->RC P ops Q J a9 V G Sx b9 pre post (k+1) rest (a.put o.dst x)):RC P ops Q J a9 V G Sx b9 pre post k (o::rest) a:=by
 unfold RC;rw[E9 hc];refine⟨fun D v W cw hj hf=> ?_,X⟩;have h:=h D v W cw hj hf (fun be E=>∃x,be=a.put o.dst x/\Sx k W E/\J (upd D k) (aT v k (dv o x)) E/\G k (dv o x) E/\V k (dv o x)) (fun x E I Y Z h4=>⟨x,rfl,I,Y,Z,h4⟩);unfold bm;rw[E9 hw]
 have H:∀u E,(∃x,a.put o.dst u=a.put o.dst x/\Sx k W E/\J (upd D k) (aT v k (dv o x)) E/\G k (dv o x) E/\V k (dv o x))->Sx k W E/\J (upd D k) (aT v k (dv o u)) E/\G k (dv o u) E/\V k (dv o u):=fun u E ⟨x,hv,I,Z,Y⟩=>by
  have:dv o u=dv o x:=by
   unfold dv
   cases hd:o.dst with
   | none=>rfl
   | some t=>
    rw[hd]at hv;have I:=qB (v:=u) (hb t hd);rw[hv,qB (hb t hd)]at I
    injection I with I
    exact I.symm
  rw[this];exact⟨I,Z,Y⟩
 unfold Oper.wpIn at h;replace h:=h.2;rw[show o.semAt Fence.wide.round a.eval=execOp a.eval o from rfl]at h;unfold Ym
 cases X:(execOp a.eval o).run P W with
 | ok r E=>
  rw[X]at h
  cases r
  case value v=>exact H v E h
  case skip=>exact H En E h
  case enter f args=>
   rw[Oper.uponIn_enter]at h;refine Calls.mono (callsIn_wide.1 h.2) fun e T M=> ?_
   cases e with
   | returned v=>exact H v T M
   | panicked c=>exact M
   | outgrown=>obtain⟨_,_,M⟩:=M; exact M.elim
  case defer d=>
   rw[Oper.uponIn_defer]at h;obtain⟨x,h,-⟩:=h;have I:=congrArg Act.defers h;rw[je,je]at I;exact absurd (congrArg List.length I) D9
  case row row args=>
   rw[Oper.uponIn_row]at h
   exact fun c cs=>by
    obtain⟨v,w',r,s⟩:=h.2 c cs (room_wide _);exact⟨v,w',H v w' r,stepsIn_wide.1 s⟩
  case round l f tmps assign body=>
   rw[Oper.uponIn_round]at h;refine ju (RoundIn.mono h.2 fun e T M=> ?_)
   cases e with
   | returned v=>exact H v T M
   | panicked c=>exact M
   | outgrown=>obtain⟨_,_,M⟩:=M; exact M.elim
  all_goals exact h.elim
 | halt r E=>
  rw[X]at h
  cases r<;>exact h
theorem aB {l:List Oper} (h:a=b) (E:RC P ops Q J a9 V G Sx b9 pre post k l b):RC P ops Q J a9 V G Sx b9 pre post k l a:=h▸E
theorem aE (h:∀D v W,(∀j,j<k->D j=a9 j)->J D v W->aL a9 G pre k a D v W->Q .normal a W):RC P ops Q J a9 V G Sx b9 pre post k [] a:=h
theorem Qn {F:Fence} {md:Region.Mode} (I:Array Bool->Act->Ef->Prop)
  (step:∀E a w i,I E a w->i∈Region.ready md ops E->wpOpIn F n P ops Q i (fun Y X=>I (E.setIfInBounds i true) Y X) a w)
  (done:∀E a w,I E a w->Region.ready md ops E = []->Q .normal a w) :
  ∀H E a w,I E a w->xL ops E<=H->wpAnyIn F n P md ops Q H E a w:=by
 intro H
 induction H with
 | zero=>
  intro E a w T Z;have M:=vI (md:=md) (Nat.le_zero.1 Z);exact⟨M,done _ _ _ T M⟩
 | succ H ih=>
  intro E a w T Z;refine⟨fun M=>done _ _ _ T M,fun i hi=>wpOpIn_mono (fun Y X h=>ih _ Y X h ?_) (step _ _ _ i T hi)⟩;obtain⟨h1,h2⟩:=Zk hi;have:=vH (ops:=ops) h1 h2;omega
theorem bL {id:Nat} (J:(Nat->Bool)->(Nat->Ei)->Ef->Prop) (a9:Nat->Bool) (V:Nat->Ei->Prop) (G:Nat->Ei->Ef->Prop) (Sx:Nat->Ef->Ef->Prop) (b9:List PanicEntry->Ef->Prop) (pre:Nat->List (Nat×Option Tmp)) (post:Nat->List Nat)
  (hm:P.follows .mixedOrders=true) (ht:tidy ops ah.tmps.size=true) (H:cX ops a9 pre post=true)
  (T:∀k,∃x,V k x) (M:∀v,J (fun _=>false) v w.drew) (I:∀D v Y W,(∀j,D j=true->v j=Y j)->J D v W->J D Y W)
  (Z:∀D v k j W X x,j≠k->a9 j=true->a9 k=true->J D v W->Sx k W X->G j x W->G j x X)
  (hP:∀a W c,a.defers=ah.defers->b9 c W->Q (.panic c) a W)
  (h:∀E Q',E=ops->(∀a W,Q .normal a W->Q' .normal a W)->RC P E Q' J a9 V G Sx b9 pre post 0 ops.toList ah):(Code.region id ops true).wpIn Fence.wide n P Q ah w:=by
 have hc:=h ops Q rfl (fun _ _ h=>h);refine wpIn_region_any hm ?_
 exact Qn (Inv P ops J a9 V G pre post ah) (cz ht H T I Z hP hc) (cB ht H T I Z hP hc) _ _ _ _ (j8 M) (by
  unfold xL;have:=List.length_filter_le (fun i=> !(Array.replicate ops.size false).getD i true) (List.range ops.size)
  rwa[List.length_range]at this)
end
end aR
end
section
open Go.RowKit Go.Shelf
variable {p q z:Addr} {b:Bool} {d:Int} {Bs n n₀:Nat} {row:Option Nat} {x y:Ei} {A B W:Ef}
attribute [local go_sem] Oper.semAt_some
def KD (n₀ Bs:Nat) (W E:Ef):Prop:=Below n₀ W E/\E.heap[Bs]? = W.heap[Bs]?
theorem KD.refl (n₀ Bs:Nat) (W:Ef):KD n₀ Bs W W:=⟨Fz _ _,rfl⟩
theorem KD.trans {C:Ef} (h:KD n₀ Bs A B) (k:KD n₀ Bs B C):KD n₀ Bs A C:=⟨h.1.trans k.1,k.2.trans h.2⟩
theorem He {w:Ef} (T:n₀<=w.heap.size) (X:Bs<w.heap.size) (W:Ef) (l:Nat) (o E:Obj) (H:w.heap.size<=l) (h:W.heap[l]? = some o) (M:o.isCells=false) (I:o.isWalk=false):KD n₀ Bs W (W.putObj l E):=
 ⟨belowK_b T W l o E H h M I,(grownBy_putObj' W l E).block Bs (by have:=(Array.getElem?_eq_some_iff.1 h).1; omega) (fun e=>by cases e; omega)⟩
theorem VH (F:Fence) (n:Nat) (h8:F.fn 191) (be:F.round=none) (hn:1<=n) (l Bs n₀ b off len cap:Nat) (Z:List Int) (bh:Z.length=len) (E:len<=aD) (hb:b<n₀) (J Jx:List (Fin len)->Ef->Prop)
  (hY:∀pre (x:Fin len) W,J pre W->pre.length<len->YieldAt F (n-1) Ed l #[Ey Ew ((x:Nat):Int),Ey Eu (Z.getD x 0)] W fun e M=>
   (e = Eh (.bool true)/\J (pre ++ [x]) M/\KD n₀ Bs W M)\/(e = Eh (.bool false)/\Jx (pre ++ [x]) M))
  (W:Ef) (bg:W.cell? ⟨Bs,0,none⟩=some (Ex (some ⟨b,off,none⟩) len cap)) (hc:Cells W b off Z) (h0:J [] W) :
  CallsIn F n Ed 191 #[.func (.yield l) #[] #[],Ek (some ⟨Bs,0,none⟩)] W fun e M=>(∃v,e = Eh v)/\
   ((∃ys,ys=yQ len len (Ep _)/\J ys M)\/(∃pre,(∃k,∃X:k<=len,pre=yQ len k X)/\Jx pre M)):=by
 unfold aD at E;refine callsIn_of_wp Tryz.func191 rfl h8 ?_ be;simp only[Tryz.ntmps191,List.size_toArray,List.length_cons,List.length_nil,Nat.reduceAdd,Nat.reduceSub,Array.replicate_succ,Array.replicate_zero,List.push_toArray,List.append_toArray,List.nil_append,List.cons_append]
 gi_wp2
 gi_loopw [3] (fun i wr=>∃ (k:Nat) (X:k<=len),i = Ey Ew ((len:Int)-1-k)/\J (yQ len k X) wr/\KD n₀ Bs W wr)
  (fun i _=>(intOf i+1).toNat)
 case atStart=>exact⟨0,Nat.zero_le _,by go_num,h0,KD.refl _ _ _⟩
 case round=>
  obtain⟨k,X,rfl,T,I⟩:=hrel;have bi:=(World.cell?_of_block (a:=⟨Bs,0,none⟩) I.2).trans bg
  rcases Er k len with H | bl
  .
   obtain⟨j,hj⟩:∃j,len-1-k=j:=⟨_,rfl⟩;have Y:j<len:=D6
   have bf:=(I.1.cell (p:=⟨b,off+j,none⟩) hb).trans (hc j D6);obtain⟨fn,tmps,assign,body,hy,hR⟩:=hY _ ⟨j,Y⟩ wr T (by rw[vG]; exact H);dsimp only at hy;obtain⟨v,hv⟩:∃v,Z.getD j 0=v:=⟨_,rfl⟩;rw[hv]at bf hy;clear hv;have hi:(len:Int)-1-k=(j:Int):=D6
   rw[hi];have HD:Hid (yQ len (k+1) H=yQ len k X ++ [⟨j,Y⟩]):=by subst hj; rfl
   have hm:Hid (len-1-k=j/\k<len):=⟨hj,H⟩;clear hj
   gi_wp2
   refine hR.mono ?_;rintro e W3 (⟨rfl,hJ3,hk3⟩ | ⟨rfl,hJx3⟩)
   .
    gi_wp2
    go_roundw
    case rel=>exact⟨k+1,hm.out.2,by go_num,by rw[HD.out]; exact hJ3,I.trans hk3⟩
    case measure=>simp[intOf]
   .
    gi_wp2
    refine bodyPost_ret (results_none rfl _ _ _) rfl ?_;exact⟨⟨_,rfl⟩,.inr ⟨_,⟨k+1,hm.out.2,HD.out.symm⟩,hJx3⟩⟩
  .
   obtain rfl:k=len:=D6
   gi_wp2
   go_end0
   exact⟨⟨_,rfl⟩,.inl ⟨_,rfl,T⟩⟩
theorem ZB (F:Fence) (n:Nat) (h8:F.fn 191) (I:F.round=none) (hn:1<=n) (Bs n₀:Nat) (ao:Option Addr) (cap len:Nat) (T:List Int) (M:T.length=len) (E:len<=aD) (w:Ef) (Z:Bs<w.heap.size) (X:n₀<=w.heap.size)
  (hc:w.cell? ⟨Bs,0,none⟩=some (Ex ao len cap)) (hI:0<len->∃b o,ao=some ⟨b,o,none⟩/\b<n₀/\Cells w b o T) :
  SeqStopsK F n Ed 191 #[Ek (some ⟨Bs,0,none⟩)] (Qi T len) (KD n₀ Bs) (fun ys=>ys=yQ len len (Ep _))
   (fun pre=>∃k,∃hk:k<=len,pre=yQ len k hk) len w:=fun l J Jx W hW _ _ hY h0=>by
 have H:=(hW.cell (p:=⟨Bs,0,none⟩) Z).trans hc
 rcases Nat.eq_zero_or_pos len with h | h
 .
  subst h;exact(Qh F n h8 I l Bs ao cap J W H h0).mono fun e W' ⟨he,hj⟩=>⟨he,.inl ⟨_,rfl,hj⟩⟩
 .
  obtain⟨b,o,rfl,hb,Y⟩:=hI h;exact VH F n h8 I hn l Bs n₀ b o len cap T M E hb J Jx hY W H (Y.below hW (Nat.lt_of_lt_of_le hb X)) h0
def j4 (d:Int) (A:List Int) {n:Nat} (s:List Int×Int) (i:Fin n):List Int×Int:=
 (s.1.set (i:Nat) ((s.2*4294967296+A.getD (i:Nat) 0) / d),(s.2*4294967296+A.getD (i:Nat) 0)%d)
def kW (d:Int) (A:List Int) (n:Nat) (pre:List (Fin n)):List Int×Int:=pre.foldl (j4 d A) (List.replicate n 0,0)
theorem Yn (d:Int) (A:List Int) (n:Nat) (pre:List (Fin n)) (i:Fin n):kW d A n (pre ++ [i])=j4 d A (kW d A n pre) i:=by
 simp[kW,List.foldl_append]
theorem Uy {A:List Int} (T:1<=d) (Y:d<4294967296) (H:yv A) (pre:List (Fin n)):(kW d A n pre).1.length=n/\yv (kW d A n pre).1/\0<=(kW d A n pre).2/\(kW d A n pre).2<d:=by
 suffices h:∀ (pre:List (Fin n)) (s:List Int×Int),(s.1.length=n/\yv s.1/\0<=s.2/\s.2<d)->
   ((pre.foldl (j4 d A) s).1.length=n/\yv (pre.foldl (j4 d A) s).1/\0<=(pre.foldl (j4 d A) s).2/\(pre.foldl (j4 d A) s).2<d) from
  h pre (List.replicate n 0,0) ⟨by simp,fun x E=>by obtain rfl:=List.eq_of_mem_replicate E; omega,by simp,by simp; omega⟩
 intro pre
 induction pre with
 | nil=>intro s h; exact h
 | cons i pre ih=>
  intro s h;obtain⟨M,I,Z,X⟩:=h;refine ih _ ?_;have u0:=zI H (i:Nat);have q0:0<=(s.2*4294967296+A.getD (i:Nat) 0) / d:=Int.ediv_nonneg D6 D6;have q1:(s.2*4294967296+A.getD (i:Nat) 0) / d<4294967296:=Int.ediv_lt_of_lt_mul D6 D6;exact⟨by simpa[j4]using M,WZ I _ q0 q1,Int.emod_nonneg _ D6,Int.emod_lt_of_pos _ D6⟩
theorem kX (j:Nat) (x:Int) (qs:List Int):(List.replicate (j+1) (0:Int)++qs).set j x=List.replicate j 0++x::qs:=by
 rw[List.replicate_succ',List.append_assoc,List.set_append_right _ _ D9];simp
theorem Xf {A:List Int} (X:A.length=n) (T:1<=d):∀ (k:Nat) (E:k<=n),∃qs,(kW d A n (yQ n k E)).1=List.replicate (n-k) 0++qs/\qs.length=k/\zj (A.drop (n-k))=d*zj qs+(kW d A n (yQ n k E)).2:=by
 intro k
 induction k with
 | zero=>intro E; exact⟨[],by simp[kW,yQ],rfl,by rw[List.drop_of_length_le D6]; simp[kW,yQ,zj]⟩
 | succ k ih=>
  intro E;obtain⟨qs,I,H,M⟩:=ih D6;rw[yQ,Yn];dsimp only[j4];refine⟨((kW d A n (yQ n k (Nat.le_of_succ_le E))).2*4294967296+A.getD (n-1-k) 0) / d::qs,?_,by simp[H],?_⟩
  . rw[I,show n-k=(n-1-k)+1 by omega,kX,show n-(k+1)=n-1-k by omega]
  .
   have S:=Yc (x:=A.getD (n-1-k) 0) M;rw[yG A (n-(k+1)),show n-(k+1)+1=n-k by omega,show n-(k+1)=n-1-k by omega,S];simp only[zj]
theorem z' {g:Nat} {t:TypeId} {cs:Array Ei} (h:ai A g t cs) (hg:A.grownBy B row) (H:∀r,row=some r->∃o:Obj,A.heap[r]? = some o/\o.isCells=false):ai B g t cs:=by
 refine(hg.block g h.lt (fun e=> ?_)).trans h;obtain⟨o,E,hc⟩:=H g e.symm;unfold ai at h;rw[h]at E
 cases E
 cases hc
theorem j_ {v:Ei} {l:List Int} (h:aA A v l) (hg:A.grownBy B row) (E:∀r,row=some r->∃o:Obj,A.heap[r]? = some o/\o.isCells=false):aA B v l:=by
 obtain⟨h0,ao,cap,e,T,X,I⟩:=h;refine⟨h0,ao,cap,e,T,X,fun Y=> ?_⟩;obtain⟨b,o,H,M,hc⟩:=I Y;exact⟨b,o,H,Nat.lt_of_lt_of_le M hg.size,fun t ht=>cell_kept (hc t ht) hg E⟩
def Uz (p q:Addr) (x y:Ei) (b c:Bool) (W:Ef):Ef:=
 let V:=match b with | true=>W.setCell p x | false=>W
 match c with | true=>V.setCell q y | false=>V
theorem Kx {c:Bool} (E:z.block≠p.block) (H:z.block≠q.block):(Uz p q x y b c W).cell? z=W.cell? z:=by
 cases b<;>cases c<;>simp only[Uz]
 . exact World.cell?_of_block (Below.heap_setCell _ _ _ _ H)
 . exact World.cell?_of_block (Below.heap_setCell _ _ _ _ E)
 . exact(World.cell?_of_block (Below.heap_setCell _ _ _ _ H)).trans (World.cell?_of_block (Below.heap_setCell _ _ _ _ E))
theorem Xg (E:z.block≠p.block):(Uz p q x y b false W).cell? z=W.cell? z/\(Uz p q x y b false W).frozen? z=W.frozen? z:=by
 cases b
 . exact⟨rfl,rfl⟩
 . exact⟨World.cell?_of_block (Below.heap_setCell _ _ _ _ E),World.frozen?_of_block (Below.heap_setCell _ _ _ _ E)⟩
theorem Hf {a:Ei} {A:List Int} (w:Ef) (ha:aA w a A) (nA:A.length<=aD) (d0:1<=d) (d1:d<4294967296) :
  Ee Ed 161 #[a,Ey Eu d] w fun e w'=>∃q,e = Eh (.tuple #[q,Ey Eu (zj A%d)])/\aA w' q (zp (zj A / d))/\zf w w':=by
 obtain⟨aa,ca,rfl⟩:=ha.ak;obtain⟨oa,-,la,fa⟩:=ha.cells;obtain⟨len,be⟩:∃n,A.length=n:=⟨_,rfl⟩;have HA:=E7 ha;rw[be]at la fa nA|-;have ci:=xK len (by unfold aD at nA; omega);have bg:Fence.wide.round=none:=rfl;refine(callsIn_wide (n:=3)).1 ?_;refine callsIn_of_wp_marks Tryz.func161 rfl trivial ?_ bg;simp only[Tryz.ntmps161,List.size_toArray,List.length_cons,List.length_nil,Nat.reduceAdd,Nat.reduceSub,Array.replicate_succ,Array.replicate_zero,List.push_toArray,List.append_toArray,List.nil_append,List.cons_append]
 gi_wp2_with (refine⟨trivial,?_⟩; gi_at_call 166; refine(XF Fence.wide 2 trivial bg _ _ _ _).mono ?_; rintro e w' ⟨rfl,rfl⟩)
 have b1:=Boxed.new w 172 (Ey Eu d)
 have b2:ai ((w.alloc (.cells #[Ey Eu d] 172)).alloc (.cells (madeCells #[Ey Eu 0] len) 172)) (w.heap.size+1) 172 (zK (List.replicate len 0)).toArray:=by
  have:=ai.eh w (.cells #[Ey Eu d] 172) 172 (madeCells #[Ey Eu 0] len);rw[yC]at this|-;exact this
 have b3:=Boxed.new ((w.alloc (.cells #[Ey Eu d] 172)).alloc (.cells (madeCells #[Ey Eu 0] len) 172)) 24 (Ex (some ⟨w.heap.size+1,0,none⟩) len len);have b4:=Boxed.new (((w.alloc (.cells #[Ey Eu d] 172)).alloc (.cells (madeCells #[Ey Eu 0] len) 172)).alloc (.cells #[Ex (some ⟨w.heap.size+1,0,none⟩) len len] 24)) 172 (Ey Eu 0);have b5:=Boxed.new ((((w.alloc (.cells #[Ey Eu d] 172)).alloc (.cells (madeCells #[Ey Eu 0] len) 172)).alloc (.cells #[Ex (some ⟨w.heap.size+1,0,none⟩) len len] 24)).alloc (.cells #[Ey Eu 0] 172)) 24 (Ex aa len ca);simp only[Et]at b3 b4 b5;have bh:Below w.heap.size w (((((w.alloc (.cells #[Ey Eu d] 172)).alloc (.cells (madeCells #[Ey Eu 0] len) 172)).alloc (.cells #[Ex (some ⟨w.heap.size+1,0,none⟩) len len] 24)).alloc (.cells #[Ey Eu 0] 172)).alloc (.cells #[Ex aa len ca] 24)):=(((((Fz _ w).alloc (Ep _) _).alloc D9 _).alloc (by simp; omega) _).alloc (by simp; omega) _).alloc (by simp; omega) _
 have bl:0<len->∃b o,aa=some ⟨b,o,none⟩/\b<w.heap.size/\Cells (((((w.alloc (.cells #[Ey Eu d] 172)).alloc (.cells (madeCells #[Ey Eu 0] len) 172)).alloc (.cells #[Ex (some ⟨w.heap.size+1,0,none⟩) len len] 24)).alloc (.cells #[Ey Eu 0] 172)).alloc (.cells #[Ex aa len ca] 24)) b o A:=fun h=>by
  obtain⟨b,o,e,hb,hc⟩:=fa h;exact⟨b,o,e,hb,hc.below bh hb⟩
 have SO:=fun pre=>Uy (n:=len) d0 d1 oa pre
 refine wpIn_rangeFunc_ownG bg (show 1<=3 by omega) (gf:=191) (lb:=#[Ek (some ⟨w.heap.size+1+1+1+1,0,none⟩)]) rfl trivial (enters_of Tryz.func191 D7 rfl)
  (ZB Fence.wide 2 trivial bg D6 (w.heap.size+1+1+1+1) w.heap.size aa ca len A be nA _ D9 (by simp; omega) b5.cell bl) KD.trans (He (by simp; omega) D9) (Fz _ _) (fun _=>rfl)
  (fun(pre:List (Fin len)) W=>(ai W (w.heap.size+1) 172 (zK (kW d A len pre).1).toArray/\W.cell? ⟨w.heap.size,0,none⟩=some (Ey Eu d)/\W.cell? ⟨w.heap.size+1+1,0,none⟩=some (Ex (some ⟨w.heap.size+1,0,none⟩) len len)/\W.cell? ⟨w.heap.size+1+1+1,0,none⟩=some (Ey Eu (kW d A len pre).2)/\W.frozen? ⟨w.heap.size+1+1+1,0,none⟩=false)/\Below w.heap.size w W)
  (fun _ _ _=>False)
  (OwnFrom.and (Own.from (fun s A B row H hg X=>⟨z' H.1 hg X,cell_kept H.2.1 hg X,cell_kept H.2.2.1 hg X,cell_kept H.2.2.2.1 hg X,(frozen_kept H.2.2.2.1 hg X).trans H.2.2.2.2⟩) _) (ownFrom_below (Ep _) (by simp; omega)))
  (fun _ _ _ _ _ H _ _=>H)
  ⟨⟨((b2.alloc _).alloc _).alloc _,(((((b1.alloc _).alloc _).alloc _).alloc _)).cell,((b3.alloc _).alloc _).cell,(b4.alloc _).cell,(b4.alloc _).frozen⟩,bh⟩
  (fun x=>{ tmps:=#[Ex aa len ca,Ey Eu d,En,Ek (some ⟨w.heap.size,0,none⟩),Ex none 0 0,Ey Eu 0,Ek (some ⟨w.heap.size+1+1,0,none⟩),Ek (some ⟨w.heap.size+1+1+1,0,none⟩),Ey Ew ((x:Nat):Int),Ey Eu (A.getD x 0),Ex aa len ca,Ey Ew len,Ex (some ⟨w.heap.size+1,0,none⟩) len len,Ex aa len ca,.func (.func 191) #[] #[Ek (some ⟨w.heap.size+1+1+1+1,0,none⟩)],Ey Ew ((x:Nat):Int),Ey Eu (A.getD x 0),En,En,En,En,En,En,En,En,En,En,En,En,En],defers:= [] }) ?assign ?body ?done ?stop
 case assign=>
  intro l x W K M;dsimp only[Qi];obtain⟨u,hu⟩:∃u,A.getD (x:Nat) 0=u:=⟨_,rfl⟩;simp only[hu]at M|-;clear hu
  gi_wp2
  exact M
 case body=>
  rintro l pre x W ⟨⟨hb,ce,bf,E,bi⟩,hB⟩ _;obtain⟨i,hi⟩:=x;have Y:=SO pre;obtain⟨u,hu⟩:∃u,A.getD i 0=u:=⟨_,rfl⟩;obtain⟨r,X⟩:∃r,(kW d A len pre).2=r:=⟨_,rfl⟩;have u0:=zI oa i;rw[hu]at u0;rw[X]at E Y;have r0:=Y.2.2.1;have r1:=Y.2.2.2;have cZ:W.cell? ⟨w.heap.size+1,i,none⟩=some (Ey Eu ((kW d A len pre).1.getD i 0)):=hb.c _ (by simpa using xS (kW d A len pre).1 i D6);obtain⟨v,hv⟩:∃v,(kW d A len pre).1.getD i 0=v:=⟨_,rfl⟩;rw[hv]at cZ;have dc:W.frozen? ⟨w.heap.size+1,i,none⟩=false:=hb.fr _
  have z1:w.heap.size+1+1+1<W.heap.size:=by
   rcases Er (w.heap.size+1+1+1) W.heap.size with h | h
   . exact h
   . simp[World.cell?,Array.getElem?_eq_none h]at E
  have HH:=E7 (E8 hb (E8 hu X));dsimp only;rw[hu];clear hb hu X hv bl fa b1 b2 b3 b4 b5 bh ci Y
  gi_wp2_with fail
  refine jg (fun D _ Z=>∃m,Z=(Uz ⟨w.heap.size+1,i,none⟩ ⟨w.heap.size+1+1+1,0,none⟩ (Ey Eu ((r*4294967296+u) / d)) (Ey Eu ((r*4294967296+u)%d)) (D 10) (D 11) W).drewN m)
   (aj.inl [5,10,11]) (aj.ge [(5,.tuple #[Ey Eu ((r*4294967296+u) / d),Ey Eu ((r*4294967296+u)%d)])]) aj.aQ (fun _=>aj.Any) (fun _ _=>False) (aj.pl []) (aj.pl [(2,[11]),(10,[11])])
   D7 D7 D7 D7 (aj.cC _) (fun v=> ?_) (fun _ _ _ _ _ h=>h) (fun _ _ _ _ _ _ _ _ _ _ _ _ _=>aj.none_) (fun _ _ _ _ h=>h.elim) (fun cx Q' cy hQ=> ?_)
  . exact⟨1,rfl⟩
  apply aj.RP rfl rfl rfl 18 rfl rfl
  .
   intro D v' Z hc T hf K M;obtain⟨m,rfl⟩:=T;have c1:=(Kx (p:=⟨w.heap.size+1,i,none⟩) (q:=⟨w.heap.size+1+1+1,0,none⟩) (x:= Ey Eu ((r*4294967296+u) / d)) (y:= Ey Eu ((r*4294967296+u)%d)) (b:=D 10) (c:=D 11) (W:=W) (z:=⟨w.heap.size+1+1,0,none⟩) (by dsimp only; omega) (by dsimp only; omega));rw[bf]at c1;go_step;exact M.out
  . rfl
  refine aj.aG 19 ?_;apply aj.RP rfl rfl rfl 20 rfl rfl
  .
   intro D v' Z hc T hf K M;obtain⟨m,rfl⟩:=T;have H:D 11=false:=hc.2 11 D8;have c1:(Uz ⟨w.heap.size+1,i,none⟩ ⟨w.heap.size+1+1+1,0,none⟩ (Ey Eu ((r*4294967296+u) / d)) (Ey Eu ((r*4294967296+u)%d)) (D 10) (D 11) W).cell? ⟨w.heap.size+1+1+1,0,none⟩=some (Ey Eu r):=by rw[H]; exact(Xg (by dsimp only; omega)).1.trans E
   clear H;go_step;exact M.out
  . rfl
  refine aj.aG 21 ?_;apply aj.RP rfl rfl rfl 22 rfl rfl
  .
   intro D v' Z hc T hf K M;obtain⟨m,rfl⟩:=T;have c1:=(Kx (p:=⟨w.heap.size+1,i,none⟩) (q:=⟨w.heap.size+1+1+1,0,none⟩) (x:= Ey Eu ((r*4294967296+u) / d)) (y:= Ey Eu ((r*4294967296+u)%d)) (b:=D 10) (c:=D 11) (W:=W) (z:=⟨w.heap.size,0,none⟩) (by dsimp only; omega) (by dsimp only; omega));rw[ce]at c1;go_step;exact M.out
  . rfl
  refine aj.et _ (fun _ h=>h) rfl (by intro t ht; cases ht; exact Ec rfl) rfl (fun D v' Z hc T hf K M=> ?_) (aj.aB (b:=⟨#[_,_,_,_,_,_,_,_,_,_,_,_,_,_,_,_,_,_,_,_,_,_,_,_,_,_,_,_,_,_],[]⟩) rfl ?_)
  .
   obtain⟨m,rfl⟩:=T;go_step;refine(Bx r u d _ r0 r1 u0 d1).mono ?_;rintro e W2 ⟨rfl,n2,rfl⟩;exact M.out _ _ aj.any ⟨m+n2,by rw[World.drewN_drewN]; rfl⟩ aj.none_ rfl
  repeat refine aj.aG _ ?_
  refine aj.dF (fun D v' Z hc T hf K M=> ?_) (fun _ _=>aj.aB (b:=⟨_,[]⟩) rfl ?_)
  .
   obtain⟨m,rfl⟩:=T;have H:D 10=false:=hc.1;have cg:D 11=false:=hc.2 11 D8;rw[H,cg];have c1:((Uz ⟨w.heap.size+1,i,none⟩ ⟨w.heap.size+1+1+1,0,none⟩ (Ey Eu ((r*4294967296+u) / d)) (Ey Eu ((r*4294967296+u)%d)) false false W).drewN m).cell? ⟨w.heap.size+1,i,none⟩=_:=cZ;have c2:((Uz ⟨w.heap.size+1,i,none⟩ ⟨w.heap.size+1+1+1,0,none⟩ (Ey Eu ((r*4294967296+u) / d)) (Ey Eu ((r*4294967296+u)%d)) false false W).drewN m).frozen? ⟨w.heap.size+1,i,none⟩=_:=dc;go_step;exact M.out En _ aj.any ⟨m,by show _=(Uz ⟨w.heap.size+1,i,none⟩ ⟨w.heap.size+1+1+1,0,none⟩ (Ey Eu ((r*4294967296+u) / d)) (Ey Eu ((r*4294967296+u)%d)) true (D 11) W).drewN m; rw[cg]; rfl⟩ aj.none_ trivial
  refine aj.dF (fun D v' Z hc T hf K M=> ?_) (fun _ _=>aj.aB (b:=⟨_,[]⟩) rfl ?_)
  .
   obtain⟨m,rfl⟩:=T;have H:D 11=false:=hc.1;rw[H];have c0:=Xg (p:=⟨w.heap.size+1,i,none⟩) (q:=⟨w.heap.size+1+1+1,0,none⟩) (x:= Ey Eu ((r*4294967296+u) / d)) (y:= Ey Eu ((r*4294967296+u)%d)) (b:=D 10) (W:=W) (z:=⟨w.heap.size+1+1+1,0,none⟩) (by dsimp only; omega);have c1:((Uz ⟨w.heap.size+1,i,none⟩ ⟨w.heap.size+1+1+1,0,none⟩ (Ey Eu ((r*4294967296+u) / d)) (Ey Eu ((r*4294967296+u)%d)) (D 10) false W).drewN m).cell? ⟨w.heap.size+1+1+1,0,none⟩=_:=c0.1.trans E;have c2:((Uz ⟨w.heap.size+1,i,none⟩ ⟨w.heap.size+1+1+1,0,none⟩ (Ey Eu ((r*4294967296+u) / d)) (Ey Eu ((r*4294967296+u)%d)) (D 10) false W).drewN m).frozen? ⟨w.heap.size+1+1+1,0,none⟩=_:=c0.2.trans bi;go_step;exact M.out En _ aj.any ⟨m,rfl⟩ aj.none_ trivial
  refine aj.aE (fun D v' Z hd T hf=> ?_);obtain⟨m,I⟩:=T;rw[hd 10 D8,hd 11 D8]at I;replace I:Z=((W.setCell ⟨w.heap.size+1,i,none⟩ (Ey Eu ((r*4294967296+u) / d))).setCell ⟨w.heap.size+1+1+1,0,none⟩ (Ey Eu ((r*4294967296+u)%d))).drewN m:=I;clear hd hf;refine hQ _ _ ?_;clear hQ cy Q' cx
  gi_wp2
  have dt:=(SO pre).1;have SN:=Yn d A len pre ⟨i,hi⟩;have dl:=HH.out.1
  have k1:KeepsOthers W Z:=by
   rw[I];have k0:KeepsOthers W ((W.setCell ⟨w.heap.size+1,i,none⟩ (Ey Eu ((r*4294967296+u) / d))).setCell ⟨w.heap.size+1+1+1,0,none⟩ (Ey Eu ((r*4294967296+u)%d))):=(KeepsOthers.setCell W ⟨w.heap.size+1,i,none⟩ (Ey Eu ((r*4294967296+u) / d))).trans (KeepsOthers.setCell _ ⟨w.heap.size+1+1+1,0,none⟩ (Ey Eu ((r*4294967296+u)%d)));exact⟨k0.size,k0.same⟩
  have k3:∀k,k≠w.heap.size+1->k≠w.heap.size+1+1+1->Z.heap[k]? = W.heap[k]? :=fun k h1 h2=>by
   rw[I];exact(Below.heap_setCell _ _ _ _ h2).trans (Below.heap_setCell _ _ _ _ h1)
  have k2:KD w.heap.size (w.heap.size+1+1+1+1) W Z:=by
   refine⟨?_,k3 _ D6 D6⟩;rw[I];exact yS (((Fz w.heap.size W).setCell (p:=⟨w.heap.size+1,i,none⟩) (Nat.le_succ _) _).setCell (p:=⟨w.heap.size+1+1+1,0,none⟩) (show w.heap.size<=w.heap.size+1+1+1 by omega) _) m
  refine⟨k1.from _,k2,⟨?_,?_,?_,?_,?_⟩,hB.trans k2.1⟩
  .
   rw[SN];have dk:=dl.bH i (Ey Eu ((r*4294967296+u) / d));have br:=(dk.aK (b:=w.heap.size+1+1+1) (i:=0) (u:= Ey Eu ((r*4294967296+u)%d)) D6).drewN m;rw[<- I]at br;dsimp only[j4];rw[HH.out.2.1,HH.out.2.2];rw[show (zK (kW d A len pre).1).toArray.setIfInBounds i (Ey Eu ((r*4294967296+u) / d))=(zK ((kW d A len pre).1.set i ((r*4294967296+u) / d))).toArray by simp[zK,List.map_set]]at br;exact br
  . exact(World.cell?_of_block (a:=⟨w.heap.size,0,none⟩) (k3 w.heap.size D6 D6)).trans ce
  . exact(World.cell?_of_block (a:=⟨w.heap.size+1+1,0,none⟩) (k3 (w.heap.size+1+1) D6 D6)).trans bf
  .
   rw[SN,I];dsimp only[j4];rw[HH.out.2.1,HH.out.2.2];exact World.cell?_setCell_same' _ _ _ (by rw[show (W.setCell ⟨w.heap.size+1,i,none⟩ (Ey Eu ((r*4294967296+u) / d))).cell? ⟨w.heap.size+1+1+1,0,none⟩=W.cell? ⟨w.heap.size+1+1+1,0,none⟩ from World.cell?_of_block (Below.heap_setCell _ _ _ _ (by dsimp only; omega)),E]; rfl)
  .
   rw[I]
   show ((W.setCell ⟨w.heap.size+1,i,none⟩ (Ey Eu ((r*4294967296+u) / d))).setCell ⟨w.heap.size+1+1+1,0,none⟩ (Ey Eu ((r*4294967296+u)%d))).frozen? ⟨w.heap.size+1+1+1,0,none⟩=false
   rw[World.frozen?_setCell,World.frozen?_setCell];exact bi
 case done=>
  rintro D ys W hD rfl ⟨⟨hb,ce,bf,E,bi⟩,hB⟩ M;have d9:D<W.heap.size:=(Array.getElem?_eq_some_iff.1 M).1;obtain⟨qs,f1,f2,f3⟩:=Xf (d:=d) be d0 len (Ep _);rw[Nat.sub_self,List.replicate_zero,List.nil_append]at f1;rw[Nat.sub_self,List.drop_zero]at f3;have Y:=SO (yQ len len (Ep _));obtain⟨r,X⟩:∃r,(kW d A len (yQ len len (Ep _))).2=r:=⟨_,rfl⟩;rw[X]at E f3 Y;rw[f1]at hb Y;have QR:=jM f3 Y.2.2.1 Y.2.2.2
  have LQ:aA W (Ex (some ⟨w.heap.size+1,0,none⟩) len len) qs:=by
   have:=aA.a_ hb Y.2.1;rw[f2]at this;exact this
  have HQ:=E7 (E8 QR (E8 Y.2.1 f2));have HB:=E7 hB;have HK:=E7 M;have lq:qs.length<=aD:=D6
  have z1:w.heap.size+1+1+1<W.heap.size:=by
   rcases Er (w.heap.size+1+1+1) W.heap.size with h | h
   . exact h
   . simp[World.cell?,Array.getElem?_eq_none h]at E
  clear hb X f1 f3 Y QR hB M bl fa b1 b2 b3 b4 b5 bh ci SO
  gi_wp2_with fail
  refine wpIn_wide.2 ?_;go_wp2_with fail
  go_region_held3 (fun w'=>w'.cell? ⟨w.heap.size+1+1,0,none⟩=some (Ex (some ⟨w.heap.size+1,0,none⟩) len len)/\w'.cell? ⟨w.heap.size+1+1+1,0,none⟩=some (Ey Eu r))
   (first | exact⟨bf,E⟩ | exact⟨cn,cN⟩)
   (first
    | ((go_at_call 133; refine(Y' _ (show aA W.drew _ _ from LQ) lq).mono ?_; rintro e wv ⟨v,rfl,hv,H⟩; go_must (have cn:=(H.cell (p:=⟨w.heap.size+1+1,0,none⟩) (show w.heap.size+1+1<W.heap.size by omega)).trans bf; have cN:=(H.cell (p:=⟨w.heap.size+1+1+1,0,none⟩) (show w.heap.size+1+1+1<W.heap.size by omega)).trans E))))
  go_wp2
  gi_wp2
  have bt:wv.heap[D]? = some (.deferred (some [])):=(H.block D d9).trans HK.out;refine⟨by simp,.inl ⟨_,_,rfl,run_takeDeferred bt,?_⟩⟩;refine⟨.tuple #[v,Ey Eu r],?_,v,?_,?_,?_⟩
  . simp[results,Tryz.f161,go_sem]
  . rw[HQ.out.1.2]
  .
   rw[HQ.out.1.1,yj HQ.out.2.1];exact j_ hv (grownBy_putObj' _ D (.deferred none)) (fun r e=>by cases e; exact⟨_,bt,rfl⟩)
  . exact(zA (W:=W.drew) HB.out.drew (Ep _) H).trans (belowK_b (w:=w) (Ep _) _ D _ _ (by simp at hD; omega) bt rfl rfl)
 case stop=>
  rintro D c pre W _ _ h _;exact h.elim
end
end Go.Proofs.YtffmbepfbienaaaGreat
