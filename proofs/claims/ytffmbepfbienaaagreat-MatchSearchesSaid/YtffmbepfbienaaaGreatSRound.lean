import Derived.Test.YtffmbepfbienaaaGreatSNa
import Derived.Laws.Cover3
import Derived.RangeFuncNested
import Derived.OwnWalkIn
import Derived.TacticsInMore
import Derived.LoopNIn
import Derived.LoopIn
set_option linter.unusedVariables false
set_option linter.unusedSimpArgs false
set_option maxHeartbeats 6400000
set_option maxRecDepth 1000000
open Go.Value renaming slice->Ex,int->Ey,pointer->Ek
open Go.IntKind renaming i64->Ew,u32->Eu
open Go.Ending renaming returned->Eh
open Go.Proofs.Tryz renaming prog->Ec
open Go renaming Calls->Ed,World->Ee,Value->Ef,undef->Em
open Nat renaming le_refl->Eo,lt_or_ge->Ep
open Go.World renaming size_alloc->Es
open Go.RowKit.Below renaming refl->Et
namespace Go.Proofs.YtffmbepfbienaaaGreat
open Go.RowKit
variable {s:Nat} {a:Ef}
theorem jC {P:Program} (w:Ee) (t e:TypeId) (a:Option Addr) (l c:Nat) (h:P.underlying t=some (.slice e)):(binOp .eql t (Ex a l c) (Ex none 0 0)).run P w = .ok (.bool a.isNone) w:=by
 simp only[binOp];simp[run_equal_slice_nil w t e a l c h]
theorem kt {a b:Int} (M:0<=a) (I:0<=b) (H:b<((2^s:Nat):Int)) (E:a*((2^s:Nat):Int)+b<18446744073709551616):bits .or .u64 (a*((2^s:Nat):Int)) b=a*((2^s:Nat):Int)+b:=by
 obtain⟨n,rfl⟩:=Int.eq_ofNat_of_zero_le M;obtain⟨m,rfl⟩:=Int.eq_ofNat_of_zero_le I;rw[<- Int.natCast_mul]at E|-;rw[bits_or_u64_nat _ _ D5 D5];have h:=Nat.shiftLeft_add_eq_or_of_lt (i:=s) (b:=m) D5 n;rw[Nat.shiftLeft_eq]at h;rw[<- h];omega
theorem Yu (a b:Int):bits .or .u64 a b=bits .or .u64 b a:=by
 show IntKind.u64.wrap (((BitVec.ofInt 64 a ||| BitVec.ofInt 64 b).toNat:Nat):Int)=IntKind.u64.wrap (((BitVec.ofInt 64 b ||| BitVec.ofInt 64 a).toNat:Nat):Int)
 rw[BitVec.or_comm]
theorem H_ (h l y:Int) (w:Ee) (h0:0<=h) (Z:h<y) (I:0<=l/\l<4294967296) (y0:y<4294967296) :
  Ed Ec 186 #[Ey Eu h,Ey Eu l,Ey Eu y] w fun e T=>e = Eh (.tuple #[Ey Eu ((h*4294967296+l) / y),Ey Eu ((h*4294967296+l)%y)])/\∃n,T=w.drewN n:=by
 have E:bits .or .u64 (h*4294967296) l=h*4294967296+l:=kt (s:=32) h0 I.1 (by simpa using I.2) (by simp; omega);obtain⟨t,ht⟩:∃t,h*4294967296+l=t:=⟨_,rfl⟩;have H:0<=t/\t<y*4294967296:=D5
 have q0:0<=t / y:=Int.ediv_nonneg H.1 D5;have q1:t / y<4294967296:=Int.ediv_lt_of_lt_mul D5 (by rw[Int.mul_comm]; exact H.2);have X:=Int.emod_nonneg t (show y≠0 by omega);have m1:=Int.emod_lt_of_pos t (show 0<y by omega);have Y:t / y%4294967296=t / y:=Int.emod_eq_of_lt q0 q1;have M:t%y%4294967296=t%y:=Int.emod_eq_of_lt X D5;have yz:(y==0)=false:=by simp; omega
 rw[ht]at E|-;clear ht;have t1:t<18446744073709551616:=D5
 go_enter Tryz.func186,Tryz.ntmps186
 go_wp2
 go_quiet (fail)
 go_wp2
 go_returns
 exact⟨by first | rfl | (rw[Y,M]),_,rfl⟩
theorem Yv {l:List Int} (w:Ee) (M:aA w a l) (nl:l.length<=zP) :
  Ed Ec 134 #[a] w fun e E=>∃v,e = Eh v/\E.ownsRow w.heap.size 172 1 v l.length (zI l)/\aA E v l/\zf w E:=by
 obtain⟨i0,hi,X,aY,b9⟩:=info_parts ZU;have ok:=M.ok;obtain⟨ao,ca,rfl⟩:=M.ak;unfold zP at nl;obtain⟨h0,bh,bg,e,h1,T,h2⟩:=id M
 injection e with e1 e2 e3
 subst e1 e3;clear h2 e2
 rcases Option.eq_none_or_eq_some ao with I | ⟨ad,rfl⟩
 .
  have hc:ca=0:=T I;have hl:l = []:=List.eq_nil_of_length_eq_zero D5;subst hl;obtain⟨b,hb⟩:∃b,ao.isNone=b:=⟨_,rfl⟩;have be:b=true:=by rw[<- hb,I]; rfl
  subst be;have Y:∀E,(binOp .eql 24 (Ex ao 0 ca) (Ex none 0 0)).run Ec E = .ok (.bool true) E:=fun E=>by rw[jC E _ _ _ _ _ Tryz.underlying24,hb]
  clear M I T hb h1 hc;simp only[List.length_nil]
  go_enter Tryz.func134,Tryz.ntmps134
  go_wp2
  go_returns
  exact⟨_,rfl,World.ownsRow_nil _ _ _ _,aA.nil _,Et _ _⟩
 .
  clear h0 h1 T;have HA:=E6 (M.ae ((Et _ _).alloc (Eo _) (.cells #[] 172)));obtain⟨n,hn⟩:∃n,l.length=n:=⟨_,rfl⟩;have HN:=E6 hn;rw[hn]at nl HA|-;clear M hn;have Y:∀E,(binOp .eql 24 (Ex (some ad) n ca) (Ex none 0 0)).run Ec E = .ok (.bool false) E:=fun E=>jC E _ _ _ _ _ Tryz.underlying24
  go_enter Tryz.func134,Tryz.ntmps134
  go_wp2_with (at_builtin; refine yu rfl (.tmp 5) (.tmp 6) 24 rfl w.heap.size 172 i0 Tryz.underlying24 hi X aY b9 _ 0 [] rfl (World.ownsRow_made w #[] 0 (Eo _) (Nat.zero_le _) rfl) _ l rfl HA.out (by have:=HN.out; omega) D9 ?_)
  intro v' w1 H hg Z
  try simp only[HN.out,Nat.zero_add,List.nil_append]at H
  have hL:=aA.own H ok
  go_wp2
  go_returns
  exact⟨_,rfl,H,hL,((Et _ _).alloc (Eo _) _).grown hg D9 Z⟩
theorem H' (x:Int) (w:Ee) (E:0<=x) (I:x<4294967296) :
  Ed Ec 187 #[Ey Eu x] w fun e H=>e = Eh (Ey Ew (bitLen x.toNat))/\w=H:=by
 go_enter Tryz.func187,Tryz.ntmps187
 go_wp2
 all_goals go_ret
 all_goals refine⟨yK ?_,rfl⟩
 all_goals simp only[Array.getD_eq_getD_getElem?,List.getElem?_toArray,List.getElem?_cons_succ,List.getElem?_cons_zero,Option.getD_some,len8tab_get]
 all_goals first
  | exact ZC x _ 24 D5 D5 D5 D5
  | exact ZC x _ 16 D5 D5 D5 D5
  | exact ZC x _ 8 D5 D5 D5 D5
  | exact JH x D5
theorem VG (n:Nat) (h:0<n):2^(bitLen n-1)<=n/\n<2^bitLen n:=by
 unfold bitLen;rw[E9 D5]
 constructor
 . rw[Nat.add_sub_cancel]; exact Nat.log2_self_le D5
 . exact Nat.lt_log2_self
theorem Cs (x:Int) (w:Ee) (M:0<x) (hx:x<4294967296) :
  Ed Ec 162 #[Ey Eu x] w fun e w'=>∃s:Nat,e = Eh (Ey Ew s)/\s<=31/\2147483648<=x*((2^s:Nat):Int)/\x*((2^s:Nat):Int)<4294967296/\w=w':=by
 obtain⟨n,rfl⟩:=Int.eq_ofNat_of_zero_le (Int.le_of_lt M);have I:=VG n D5
 have T:bitLen n<=32:=by
  rcases Ep 32 (bitLen n)with h | h
  .
   have:=Nat.pow_le_pow_right (show 0<2 by omega) (show 32<=bitLen n-1 by omega);omega
  . exact h
 have l1:1<=bitLen n:=by
  rcases Nat.eq_zero_or_pos (bitLen n)with h | h
  . rw[h]at I; omega
  . exact h
 obtain⟨b,E⟩:∃b,bitLen n=b:=⟨_,rfl⟩;have L:=H' n w D5 hx;rw[Int.toNat_natCast,E]at L;rw[E]at I T l1
 have Z:n*2^(32-b)<4294967296:=by
  have H:=Nat.mul_lt_mul_of_pos_right I.2 (show 0<2^(32-b) from Nat.two_pow_pos _);rw[<- Nat.pow_add,show b+(32-b)=32 by omega]at H;exact H
 have X:2147483648<=n*2^(32-b):=by
  have H:=Nat.mul_le_mul_right (2^(32-b)) I.1;rw[<- Nat.pow_add,show b-1+(32-b)=31 by omega]at H;exact H
 have Y:=E6 (E7 Z X);clear I E Z X
 go_enter Tryz.func162,Tryz.ntmps162
 go_wp2_with (go_at_call 187; refine L.mono ?_; rintro e w' ⟨rfl,rfl⟩)
 go_ret
 refine⟨32-b,yK ?_,by omega,?_,?_,rfl⟩
 . omega
 . rw[<- Int.natCast_mul]; have:=Y.out.2; omega
 . rw[<- Int.natCast_mul]; have:=Y.out.1; omega
theorem Gu {A:List Int} (w:Ee) (ha:aA w a A) (nA:A.length<=zP) (hs:s<=31) :
  Ed Ec 163 #[a,Ey Ew s] w fun e w'=>∃v l,e = Eh v/\aA w' v l/\zo l=zo A*(2^s:Nat)/\l.length=A.length+1/\w'.ownsRow w.heap.size 172 1 v (A.length+1) (zI l)/\zf w w':=by
 obtain⟨i0,hi,b9,bg,bh⟩:=info_parts ZU;obtain⟨aa,ca,rfl⟩:=ha.ak;obtain⟨oa,-,la,fa⟩:=ha.cells;clear ha;unfold zP at nA;obtain⟨n,hn⟩:∃n,A.length=n:=⟨_,rfl⟩;have H:Hid (A.length=n):=hn;rw[hn]at fa la nA;rw[hn];clear hn;obtain⟨P,hP⟩:∃P,((2^s:Nat):Int)=P:=⟨_,rfl⟩;have P0:1<=P:=by have:=Nat.one_le_two_pow (n:=s); omega
 have P1:P<=2147483648:=by have:=Nat.pow_le_pow_right (show 0<2 by omega) hs; simp at this; omega
 have HP:Hid (((2^s:Nat):Int)=P):=hP;clear hP;have hq:(s:Int).tdiv 32=0:=Int.tdiv_eq_zero_of_lt D5 D5;have hr:(s:Int).tmod 32=s:=Int.tmod_eq_of_lt D5 D5;have cg:(s:Int) / 32=0:=D5
 have ci:(s:Int)%32=s:=D5
 go_enter Tryz.func163,Tryz.ntmps163
 go_wp2_with (at_make; refine wpList_make_own _ rfl _ _ 24 rfl w.heap.size 172 i0 (Ey Eu 0) 1 Tryz.underlying24 hi b9 bg _ _ _ (n+1) rfl rfl D5 ?b2 ?b3 (Eo _) ?_)
 case b2=>rw[bh]; omega
 case b3=>unfold maxLen; omega
 intro w0 T I;have B0:Below w.heap.size w w0:=(Et _ _).grown I (Eo _) (fun k h=>by cases h)
 go_wp2
 go_loopw [5,6,8,20] (fun o c x i wr=>∃ (k:Nat) (xs:List Int) (M:Int),k<=n/\i = Ey Ew k/\c = Ey .u64 M/\0<=M/\M<P/\xs.length=k/\yB xs/\zo xs+bp k*M=zo (A.take k)*P/\
   wr.ownsRow w.heap.size 172 1 o k (zI xs)/\Below w.heap.size w wr) (fun _ _ _ i _=>(n-(intOf i).toNat))
 case atStart=>exact⟨0,[],0,Nat.zero_le _,rfl,rfl,by omega,by omega,rfl,yg,by simp[zo],T,B0⟩
 case round=>
  obtain⟨k,xs,M,hk,rfl,rfl,c0,c1,hl,bl,hv,aY,X⟩:=hrel;have Z:=X.size;have Y:Hid (xs.length=k/\yB xs/\zo xs+bp k*M=zo (A.take k)*P):=⟨hl,bl,hv⟩;clear hl bl hv T I B0
  rcases Ep k n with h1 | h1
  .
   obtain⟨u,hu⟩:∃u,A.getD k 0=u:=⟨_,rfl⟩;have u0:=zG oa k;rw[hu]at u0;have HU:Hid (A.getD k 0=u):=hu;obtain⟨ba,br,rfl,ce,bi⟩:=fa D5;have g1:=(X.cell (p:=⟨ba,br+k,none⟩) ce).trans (bi k (by rw[H.out]; omega));rw[hu]at g1;obtain⟨t,ht⟩:∃t,u*P=t:=⟨_,rfl⟩
   have t0:0<=t/\t<=4294967295*P:=by
    rw[<- ht];exact⟨Int.mul_nonneg u0.1 D5,Int.mul_le_mul_of_nonneg_right D5 D5⟩
   have hw:IntKind.u64.wrap (u*2^s)=t:=by
    have e:u*2^s=t:=by rw[<- ht,<- HP.out]; simp
    rw[e,wrap_u64 D5 D5]
   have cn:bits BinOp.or IntKind.u64 M t=M+t:=by
    rw[Yu,<- ht,<- HP.out,kt u0.1 c0 (by rw[HP.out]; exact c1) (by rw[HP.out,ht]; omega)];omega
   have HT:Hid (u*P=t):=ht;clear bi fa hu ht
   go_wp2_with (at_builtin; refine yu rfl (.tmp 31) (.tmp 34) 24 rfl w.heap.size 172 i0 Tryz.underlying24 hi b9 bg bh _ k xs rfl (aY.alloc _) _ [_] rfl (aA.one D5 D5) (by simp; omega) D9 ?_)
   intro v' w1 E hg be
   go_wp2
   go_roundw
   case rel=>
    have S:=Xh (s:=M+t) Y.out.1 Y.out.2.2 (by rw[HU.out,HT.out]);exact⟨k+1,xs ++ [(M+t)%4294967296],(M+t) / 4294967296,by omega,by go_num,by go_num,by omega,by omega,by rw[List.length_append,Y.out.1]; rfl,zZ Y.out.2.1 D5 D5,S,E,(X.alloc Z _).grown hg D9 be⟩
   case measure=>simp[intOf]; omega
  .
   clear fa
   go_wp2_with (at_builtin; refine yu rfl (.tmp 39) (.tmp 42) 24 rfl w.heap.size 172 i0 Tryz.underlying24 hi b9 bg bh _ k xs rfl (aY.alloc _) _ [_] rfl (aA.one D5 D5) (by simp; omega) D9 ?_)
   intro v' w1 E hg be
   go_wp2
   go_returns
   have bt:k=n:=D5
   subst bt;have hB:Below w.heap.size w w1:=(X.alloc Z _).grown hg D9 be;refine⟨_,xs ++ [M],rfl,aA.own E (zZ Y.out.2.1 D5 D5),?_,?_,E,hB⟩
   .
    have:=Y.out.2.2;rw[List.take_of_length_le (by have:=H.out; omega)]at this;rw[y9,Y.out.1,HP.out];exact this
   . rw[List.length_append,Y.out.1]; rfl
end Go.Proofs.YtffmbepfbienaaaGreat
/- 'for i, x := range down(l)': zp from the highest one to the lowest one. -/
namespace Go.Proofs.YtffmbepfbienaaaGreat
section
open Go.RowKit Go.Shelf
attribute [local go_sem] Oper.semAt_some
def yU (n:Nat):(k:Nat)->k<=n->List (Fin n)
 | 0,_=> []
 | k+1,h=>yU n k (Nat.le_of_succ_le h) ++ [⟨n-1-k,by omega⟩]
theorem Za (n k:Nat) (h:k<=n):(yU n k h).length=k:=by
 induction k with
 | zero=>rfl
 | succ k ih=>simp[yU,ih]
theorem Ur (F:Fence) (n:Nat) (h8:F.fn 191) (aY:F.round=none) (hn:1<=n) (l Bs n₀ b off len cap:Nat) (Z:List Int) (bh:Z.length=len) (E:len<=zP) (hb:b<n₀) (J Jx:List (Fin len)->Ee->Prop)
  (hY:∀pre (x:Fin len) W,J pre W->pre.length<len->YieldAt F (n-1) Ec l #[Ey Ew ((x:Nat):Int),Ey Eu (Z.getD x 0)] W fun e M=>
   (e = Eh (.bool true)/\J (pre ++ [x]) M/\Below n₀ W M)\/(e = Eh (.bool false)/\Jx (pre ++ [x]) M))
  (W:Ee) (be:W.cell? ⟨Bs,0,none⟩=some (Ex (some ⟨b,off,none⟩) len cap)) (b9:Bs<n₀) (hc:Cells W b off Z) (h0:J [] W) :
  CallsIn F n Ec 191 #[.func (.yield l) #[] #[],Ek (some ⟨Bs,0,none⟩)] W fun e M=>(∃v,e = Eh v)/\
   ((∃ys,ys=yU len len (Eo _)/\J ys M)\/(∃pre,(∃k,∃T:k<=len,pre=yU len k T)/\Jx pre M)):=by
 unfold zP at E;refine callsIn_of_wp Tryz.func191 rfl h8 ?_ aY;simp only[Tryz.ntmps191,List.size_toArray,List.length_cons,List.length_nil,Nat.reduceAdd,Nat.reduceSub,Array.replicate_succ,Array.replicate_zero,List.push_toArray,List.append_toArray,List.nil_append,List.cons_append]
 gi_wp2
 gi_loopw [3] (fun i wr=>∃ (k:Nat) (T:k<=len),i = Ey Ew ((len:Int)-1-k)/\J (yU len k T) wr/\Below n₀ W wr)
  (fun i _=>(intOf i+1).toNat)
 case atStart=>exact⟨0,Nat.zero_le _,by go_num,h0,Et _ _⟩
 case round=>
  obtain⟨k,T,rfl,Y,I⟩:=hrel;have bl:=(I.cell (p:=⟨Bs,0,none⟩) b9).trans be
  rcases Ep k len with H | bi
  .
   obtain⟨j,hj⟩:∃j,len-1-k=j:=⟨_,rfl⟩;have X:j<len:=D5
   have bg:=(I.cell (p:=⟨b,off+j,none⟩) hb).trans (hc j D5);obtain⟨fn,tmps,assign,body,hy,hR⟩:=hY _ ⟨j,X⟩ wr Y (by rw[Za]; exact H);dsimp only at hy;obtain⟨v,hv⟩:∃v,Z.getD j 0=v:=⟨_,rfl⟩;rw[hv]at bg hy;clear hv;have hi:(len:Int)-1-k=(j:Int):=D5
   rw[hi];have HD:Hid (yU len (k+1) H=yU len k T ++ [⟨j,X⟩]):=by subst hj; rfl
   have hm:Hid (len-1-k=j/\k<len):=⟨hj,H⟩;clear hj
   gi_wp2
   refine hR.mono ?_;rintro e W3 (⟨rfl,hJ3,hk3⟩ | ⟨rfl,hJx3⟩)
   .
    gi_wp2
    go_roundw
    case rel=>exact⟨k+1,hm.out.2,by go_num,by rw[HD.out]; exact hJ3,I.trans hk3⟩
    case measure=>simp[intOf]
   .
    gi_wp2
    refine bodyPost_ret (results_none rfl _ _ _) rfl ?_;exact⟨⟨_,rfl⟩,.inr ⟨_,⟨k+1,hm.out.2,HD.out.symm⟩,hJx3⟩⟩
  .
   obtain rfl:k=len:=D5
   gi_wp2
   go_end0
   exact⟨⟨_,rfl⟩,.inl ⟨_,rfl,Y⟩⟩
theorem QA (F:Fence) (n:Nat) (T:F.fn 191) (H:F.round=none) (l Bs:Nat) (ao:Option Addr) (cap:Nat) (J:List (Fin 0)->Ee->Prop) (W:Ee) (M:W.cell? ⟨Bs,0,none⟩=some (Ex ao 0 cap)) (h0:J [] W) :
  CallsIn F n Ec 191 #[.func (.yield l) #[] #[],Ek (some ⟨Bs,0,none⟩)] W fun e I=>(∃v,e = Eh v)/\J [] I:=by
 refine callsIn_of_wp Tryz.func191 rfl T ?_ H;simp only[Tryz.ntmps191,List.size_toArray,List.length_cons,List.length_nil,Nat.reduceAdd,Nat.reduceSub,Array.replicate_succ,Array.replicate_zero,List.push_toArray,List.append_toArray,List.nil_append,List.cons_append]
 gi_wp2
 gi_loopw [3] (fun i wr=>i = Ey Ew (-1)/\J [] wr) (fun _ _=>0)
 case atStart=>exact⟨rfl,h0⟩
 case round=>
  obtain⟨rfl,E⟩:=hrel
  gi_wp2
  go_end0
  exact⟨⟨_,rfl⟩,E⟩
theorem XS (F:Fence) (n:Nat) (H:F.fn 166) (E:F.round=none) (a:Option Addr) (len cap:Nat) (w:Ee) :
  CallsIn F n Ec 166 #[Ex a len cap] w fun e I=>e = Eh (.func (.func 191) #[] #[Ek (some ⟨w.heap.size,0,none⟩)])/\I=w.alloc (.cells #[Ex a len cap] 24):=by
 refine callsIn_of_wp Tryz.func166 rfl H ?_ E;simp only[Tryz.ntmps166,List.size_toArray,List.length_cons,List.length_nil,Nat.reduceAdd,Nat.reduceSub,Array.replicate_succ,Array.replicate_zero,List.push_toArray,List.append_toArray,List.nil_append,List.cons_append]
 gi_wp2
 go_ret
 exact⟨rfl,rfl⟩
def QB (E:List Int) (len:Nat) (x:Fin len):Array Ef:=#[Ey Ew ((x:Nat):Int),Ey Eu (E.getD x 0)]
theorem JO (F:Fence) (n:Nat) (h8:F.fn 191) (H:F.round=none) (hn:1<=n) (Bs n₀:Nat) (ao:Option Addr) (cap len:Nat) (T:List Int) (M:T.length=len) (E:len<=zP) (w:Ee) (aY:Bs<w.heap.size) (Y:Bs<n₀) (X:n₀<=w.heap.size)
  (hc:w.cell? ⟨Bs,0,none⟩=some (Ex ao len cap)) (hI:0<len->∃b o,ao=some ⟨b,o,none⟩/\b<n₀/\Cells w b o T) :
  SeqStopsK F n Ec 191 #[Ek (some ⟨Bs,0,none⟩)] (QB T len) (Below n₀) (fun ys=>ys=yU len len (Eo _))
   (fun pre=>∃k,∃hk:k<=len,pre=yU len k hk) len w:=fun l J Jx W hW _ _ hY h0=>by
 have I:=(hW.cell (p:=⟨Bs,0,none⟩) aY).trans hc
 rcases Nat.eq_zero_or_pos len with h | h
 .
  subst h;exact(QA F n h8 H l Bs ao cap J W I h0).mono fun e W' ⟨he,hj⟩=>⟨he,.inl ⟨_,rfl,hj⟩⟩
 .
  obtain⟨b,o,rfl,hb,Z⟩:=hI h;exact Ur F n h8 H hn l Bs n₀ b o len cap T M E hb J Jx hY W I Y (Z.below hW (Nat.lt_of_lt_of_le hb X)) h0
theorem QC {n:Nat} {A B:List Int} (T:A.length=n) (X:B.length=n):∀ (k:Nat) (E:k<=n),(∀p∈yU n k E,A.getD p 0=B.getD p 0)->zo (A.drop (n-k))=zo (B.drop (n-k)):=by
 intro k
 induction k with
 | zero=>intro E _; rw[List.drop_of_length_le D5,List.drop_of_length_le D5]
 | succ k ih=>
  intro E h;have I:=ih D5 (fun p M=>h p (by rw[yU]; exact List.mem_append_left _ M));have H:=h ⟨n-1-k,by omega⟩ (by rw[yU]; exact List.mem_append_right _ (List.mem_singleton.2 rfl));rw[yM A,yM B,show n-(k+1)+1=n-k by omega,I,show n-(k+1)=n-1-k by omega];dsimp only at H;rw[H]
end
section
open Go.RowKit Go.Shelf
attribute [local go_sem] Oper.semAt_some
theorem QE {aa ab:Option Addr} {ca cb len:Nat} {A B:List Int} (w:Ee) (lA:A.length=len) (lB:B.length=len) (oA:yB A) (oB:yB B) (Y:len<=zP)
  (fA:0<len->∃b o,aa=some ⟨b,o,none⟩/\b<w.heap.size/\Cells w b o A) (fB:0<len->∃b o,ab=some ⟨b,o,none⟩/\b<w.heap.size/\Cells w b o B) :
  Ed Ec 136 #[Ex aa len ca,Ex ab len cb] w fun e W'=>e = Eh (Ey Ew (zL (zo A) (zo B)))/\zf w W':=by
 have X:Fence.wide.round=none:=rfl;refine(callsIn_wide (n:=3)).1 ?_;refine callsIn_of_wp_marks Tryz.func136 rfl trivial ?_ X;simp only[Tryz.ntmps136,List.size_toArray,List.length_cons,List.length_nil,Nat.reduceAdd,Nat.reduceSub,Array.replicate_succ,Array.replicate_zero,List.push_toArray,List.append_toArray,List.nil_append,List.cons_append]
 gi_wp2_with (refine⟨trivial,?_⟩; gi_at_call 166; refine(XS Fence.wide 2 trivial X _ _ _ _).mono ?_; rintro e w' ⟨rfl,rfl⟩)
 have bB:=Boxed.new w 24 (Ex ab len cb);have bR:=Boxed.new (w.alloc (.cells #[Ex ab len cb] 24)) 3 (Ey Ew 0);have bN:=Boxed.new ((w.alloc (.cells #[Ex ab len cb] 24)).alloc (.cells #[Ey Ew 0] 3)) 24 (Ex aa len ca);simp only[Es]at bR bN;have bg:Below w.heap.size w (((w.alloc (.cells #[Ex ab len cb] 24)).alloc (.cells #[Ey Ew 0] 3)).alloc (.cells #[Ex aa len ca] 24)):=(((Et _ w).alloc (Eo _) _).alloc D8 _).alloc (by simp; omega) _
 have be:0<len->∃b o,aa=some ⟨b,o,none⟩/\b<w.heap.size+1+1+1/\Cells (((w.alloc (.cells #[Ex ab len cb] 24)).alloc (.cells #[Ey Ew 0] 3)).alloc (.cells #[Ex aa len ca] 24)) b o A:=fun h=>by
  obtain⟨b,o,e,hb,hc⟩:=fA h;exact⟨b,o,e,by omega,hc.below bg hb⟩
 refine wpIn_rangeFunc_ownG X (show 1<=3 by omega) (gf:=191) (lb:=#[Ek (some ⟨w.heap.size+1+1,0,none⟩)]) rfl trivial (enters_of Tryz.func191 D6 rfl)
  (JO Fence.wide 2 trivial X D5 (w.heap.size+1+1) (w.heap.size+1+1+1) aa ca len A lA Y _ D8 D5 D8 bN.cell be) belowK_t (belowK_b D8) (Et _ _) (fun _=>rfl)
  (fun(pre:List (Fin len)) W=>((∀p:Fin len,p∈pre->A.getD (p:Nat) 0=B.getD (p:Nat) 0)/\W.cell? ⟨w.heap.size,0,none⟩=some (Ex ab len cb)/\W.cell? ⟨w.heap.size+1,0,none⟩=some (Ey Ew 0)/\W.frozen? ⟨w.heap.size+1,0,none⟩=false)/\Below w.heap.size w W)
  (fun c (pre:List (Fin len)) W=>(c = .ret/\∃ (M:List (Fin len)) (E:Fin len),pre=M ++ [E]/\(∀p:Fin len,p∈M->A.getD (p:Nat) 0=B.getD (p:Nat) 0)/\((A.getD E 0<B.getD E 0/\W.cell? ⟨w.heap.size+1,0,none⟩=some (Ey Ew (-1)))\/(B.getD E 0<A.getD E 0/\W.cell? ⟨w.heap.size+1,0,none⟩=some (Ey Ew 1))))/\Below w.heap.size w W)
  (OwnFrom.and (Own.from (fun s A B row hs hg hr=>⟨hs.1,cell_kept hs.2.1 hg hr,cell_kept hs.2.2.1 hg hr,(frozen_kept hs.2.2.1 hg hr).trans hs.2.2.2⟩) _) (ownFrom_below (Eo _) (by simp; omega)))
  (fun c=>OwnFrom.and (Own.from (fun s A B row hs hg hr=>by
   obtain⟨hc,M,E,e1,e2,e3⟩:=hs
   exact⟨hc,M,E,e1,e2,e3.imp (fun h=>⟨h.1,cell_kept h.2 hg hr⟩) (fun h=>⟨h.1,cell_kept h.2 hg hr⟩)⟩) _) (ownFrom_below (Eo _) (by simp; omega)))
  ⟨⟨by simp,((bB.alloc _).alloc _).cell,(bR.alloc _).cell,(bR.alloc _).frozen⟩,bg⟩
  (fun x=>{ tmps:=#[Ex aa len ca,Ex ab len cb,Em,Ek (some ⟨w.heap.size,0,none⟩),Ek (some ⟨w.heap.size+1,0,none⟩),Ey Ew ((x:Nat):Int),Ey Eu (A.getD x 0),Ex aa len ca,Ey Ew len,Ex ab len cb,Ey Ew len,.bool false,Em,Em,Em,Em,Em,Ex aa len ca,.func (.func 191) #[] #[Ek (some ⟨w.heap.size+1+1,0,none⟩)],Ey Ew ((x:Nat):Int),Ey Eu (A.getD x 0),Em,Em,Em,Em,Em,Em,Em,Em,Em,Em,Em,Em],defers:= [] }) ?assign ?body ?done ?stop
 case assign=>
  intro l x W K Z;dsimp only[QB];obtain⟨u,hu⟩:∃u,A.getD (x:Nat) 0=u:=⟨_,rfl⟩;simp only[hu]at Z|-;clear hu
  gi_wp2
  exact Z
 case body=>
  rintro l pre x W ⟨⟨hp,bi,I,bl⟩,hB⟩ _;obtain⟨i,hi⟩:=x;obtain⟨bb,ob,rfl,br,bh⟩:=fB D5;have g1:=(hB.cell (p:=⟨bb,ob+i,none⟩) br).trans (bh i D5);obtain⟨u,hu⟩:∃u,A.getD i 0=u:=⟨_,rfl⟩;obtain⟨v,hv⟩:∃v,B.getD i 0=v:=⟨_,rfl⟩;rw[hv]at g1;have HU:=E6 (E7 hu hv);have HP:=E6 hp;dsimp only;rw[hu]
  have z1:w.heap.size+1<W.heap.size:=by
   rcases Ep (w.heap.size+1) W.heap.size with h | h
   . exact h
   . simp[World.cell?,Array.getElem?_eq_none h]at I
  clear fA fB be bh hu hv hp
  gi_wp2
  .
   have hl:u<v:=by assumption
   exact⟨(KeepsOthers.setCell _ _ _).from _,⟨rfl,pre,⟨i,hi⟩,rfl,HP.out,Or.inl ⟨by dsimp only; rw[HU.out.1,HU.out.2]; exact hl,World.cell?_setCell_same' _ _ _ (by rw[I]; rfl)⟩⟩,hB.setCell (p:=⟨w.heap.size+1,0,none⟩) (Nat.le_succ _) _⟩
  .
   have hl:v<u:=by assumption
   exact⟨(KeepsOthers.setCell _ _ _).from _,⟨rfl,pre,⟨i,hi⟩,rfl,HP.out,Or.inr ⟨by dsimp only; rw[HU.out.1,HU.out.2]; exact hl,World.cell?_setCell_same' _ _ _ (by rw[I]; rfl)⟩⟩,hB.setCell (p:=⟨w.heap.size+1,0,none⟩) (Nat.le_succ _) _⟩
  .
   have he:u=v:=D5
   exact⟨KeepsFrom.refl _ _,Et _ _,⟨fun p bt=>(List.mem_append.1 bt).elim (HP.out p) (fun e=>by
    rw[List.mem_singleton]at e; subst e; dsimp only; rw[HU.out.1,HU.out.2,he]),bi,I,bl⟩,hB⟩
 case done=>
  rintro D ys W hD rfl ⟨⟨hne,bi,I,bl⟩,hB⟩ Z;have he:=QC lA lB len (Eo _) hne;rw[Nat.sub_self,List.drop_zero,List.drop_zero]at he;have H:Hid (zL (zo A) (zo B)=0):=by show zL _ _=0; unfold zL; rw[E8 he]
  clear he hne
  gi_wp2
  have aY:=(KeepsOthers.setCell W ⟨w.heap.size+1,0,none⟩ (Ey Ew 0)).same D _ Z rfl;refine⟨by simp,.inl ⟨_,_,rfl,run_takeDeferred aY,?_⟩⟩;have b9:=cell_kept (World.cell?_setCell_same' W ⟨w.heap.size+1,0,none⟩ (Ey Ew 0) (by rw[I]; rfl)) (grownBy_putObj' _ D (.deferred none)) (fun r e=>by cases e; exact⟨_,aY,rfl⟩);refine⟨Ey Ew 0,?_,yK H.out.symm,(hB.setCell (p:=⟨w.heap.size+1,0,none⟩) (Nat.le_succ _) _).trans (belowK_b (w:=w) (Eo _) _ D _ _ (by simp at hD; omega) aY rfl rfl)⟩;simp[results,Tryz.f136,go_sem,b9]
 case stop=>
  rintro D c pre W hD ⟨k,hk,rfl⟩ ⟨⟨rfl,M,E,e1,e2,e3⟩,hB⟩ Z
  obtain⟨T,rfl⟩:∃T,k=T+1:=by
   cases k with
   | zero=>simp[yU]at e1
   | succ T=>exact⟨T,rfl⟩
  rw[yU]at e1;obtain⟨rfl,e5⟩:=List.append_inj' e1 rfl;have e6:E=⟨len-1-T,by omega⟩:=by simpa using e5.symm
  subst e6;have hd:=QC lA lB T D5 e2;rw[show len-T=len-1-T+1 by omega]at hd;dsimp only at e3
  obtain⟨r,hr,hH⟩:∃r:Int,W.cell? ⟨w.heap.size+1,0,none⟩=some (Ey Ew r)/\Hid (zL (zo A) (zo B)=r):=by
   rcases e3 with⟨h,hc⟩ | ⟨h,hc⟩
   .
    have:=XP oA oB (i:=len-1-T) D5 D5 hd h;exact⟨-1,hc,by show zL _ _ = -1; unfold zL; rw[E9 D5,E8 this]⟩
   .
    have:=XP oB oA (i:=len-1-T) D5 D5 hd.symm h;exact⟨1,hc,by show zL _ _=1; unfold zL; rw[E9 D5,E9 D5]⟩
  clear e1 e2 e3 e5 hd
  gi_wp2
  refine⟨by simp,.inl ⟨_,_,rfl,run_takeDeferred Z,?_⟩⟩;have b9:=cell_kept hr (grownBy_putObj' _ D (.deferred none)) (fun r e=>by cases e; exact⟨_,Z,rfl⟩);refine⟨Ey Ew r,?_,yK hH.out.symm,hB.trans (belowK_b (w:=w) (Eo _) W D _ _ (by simp at hD; omega) Z rfl rfl)⟩;simp[results,Tryz.f136,go_sem,b9]
end
section
open Go.RowKit Go.Shelf
attribute [local go_sem] Oper.semAt_some
theorem QG {aa ab:Option Addr} {ca cb n m:Nat} (w:Ee) (h:n≠m) :
  Ed Ec 136 #[Ex aa n ca,Ex ab m cb] w fun e Z=>e = Eh (Ey Ew (if n<m then -1 else 1))/\zf w Z:=by
 have X:Fence.wide.round=none:=rfl;have hB:Below w.heap.size w ((w.alloc (.cells #[Ex ab m cb] 24)).alloc (.cells #[Ey Ew 0] 3)):=((Et _ w).alloc (Eo _) _).alloc D8 _;have bR:=Boxed.new (w.alloc (.cells #[Ex ab m cb] 24)) 3 (Ey Ew 0);simp only[Es]at bR;refine(callsIn_wide (n:=3)).1 ?_;refine callsIn_of_wp_marks Tryz.func136 rfl trivial ?_ X;simp only[Tryz.ntmps136,List.size_toArray,List.length_cons,List.length_nil,Nat.reduceAdd,Nat.reduceSub,Array.replicate_succ,Array.replicate_zero,List.push_toArray,List.append_toArray,List.nil_append,List.cons_append]
 rcases Ep n m with Y | Y
 .
  have H:Hid ((if n<m then -1 else 1:Int) = -1):=E8 Y;have M:((n:Int) != (m:Int))=true:=by simp; omega
  have T:decide ((n:Int)<(m:Int))=true:=E_ D5
  gi_wp2
  have I:=Boxed.new (w.alloc (.cells #[Ex ab m cb] 24)) 3 (Ey Ew (-1));simp only[Es]at I;have E:=I.cell;refine⟨Ey Ew (-1),?_,by first | rfl | exact yK H.out.symm,((Et _ w).alloc (Eo _) _).alloc D8 _⟩;simp[results,Tryz.f136,go_sem,E]
 .
  have H:Hid ((if n<m then -1 else 1:Int)=1):=E9 D5;have M:((n:Int) != (m:Int))=true:=by simp; omega
  have T:decide ((n:Int)<(m:Int))=false:=E' D5
  gi_wp2
  have I:=Boxed.new (w.alloc (.cells #[Ex ab m cb] 24)) 3 (Ey Ew 1);simp only[Es]at I;have E:=I.cell;refine⟨Ey Ew 1,?_,by first | rfl | exact yK H.out.symm,((Et _ w).alloc (Eo _) _).alloc D8 _⟩;simp[results,Tryz.f136,go_sem,E]
theorem qP {a b:Ef} {x y:Int} (w:Ee) (I:aA w a (zp x)) (M:aA w b (zp y)) (H:0<=x) (E:0<=y) (T:(zp x).length<=zP) (Y:(zp y).length<=zP) :
  Ed Ec 136 #[a,b] w fun e X=>e = Eh (Ey Ew (zL x y))/\zf w X:=by
 obtain⟨aa,ca,rfl⟩:=I.ak;obtain⟨ab,cb,rfl⟩:=M.ak
 by_cases h:(zp x).length=(zp y).length
 .
  have C:=QE (ca:=ca) (cb:=cb) (len:=(zp x).length) w rfl h.symm (xw x) (xw y) T I.cells.2.2.2 (by have:=M.cells.2.2.2; rw[h]; exact this);rw[zD H,zD E]at C;rw[<- h];exact C
 .
  have C:=QG (aa:=aa) (ab:=ab) (ca:=ca) (cb:=cb) w h
  have e:(if(zp x).length<(zp y).length then -1 else 1:Int)=zL x y:=by
   rcases Ep (zp x).length (zp y).length with g | g
   .
    rw[E8 g];have:=yn H E g;unfold zL; rw[E9 D5,E8 this]
   .
    rw[E9 D5];have:=yn E H D5;unfold zL; rw[E9 D5,E9 D5]
  rw[e]at C;exact C
end
end Go.Proofs.YtffmbepfbienaaaGreat
/- A region that draws its order in a round of a range Qo a function: by XReg's chain. -/
namespace Go.Proofs.YtffmbepfbienaaaGreat
open Go.RowKit
variable {a:Act} {K K':Act->Ee->Prop} {l n:Nat} {w:Ee}
def xf (Q:Exit->Act->Ee->Prop):Exit->Act->Ee->Prop
 | .outgrown,_,_=>False
 | e,a,w=>Q e a w
theorem vG (Q:Exit->Act->Ee->Prop):¬LetsOut (xf Q):=fun⟨_,_,h⟩=>h
theorem Yx {P:Program} {o:Oper} {Q:Exit->Act->Ee->Prop} (hd:∀c,o.op≠ .defer c) (h:o.wp P a w K (xf Q))
  (E:∀a w,K a w->K' a w):o.wpIn (Fence.wide.inRound l) n P a w K' Q:=by
 refine⟨fun _ _=>trivial,?_⟩;rw[Fence.inRound_round,Oper.semAt_some l _ o hd];unfold Oper.wp at h;generalize (execOp a.eval o).run P w=r at h
 cases r with
 | ok nx I=>
  cases nx with
  | value v=>exact E _ _ h
  | skip=>exact E _ _ h
  | defer d=>exact E _ _ h
  | enter f args=>
   refine⟨fun h=>(by cases h),CallsIn.inRound l (callsIn_wide.2 (Calls.mono h ?_))⟩;intro e M H
   cases e with
   | returned v=>exact E _ _ H
   | panicked c=>exact H
   | outgrown=>exact(vG Q H).elim
  | row r args=>
   refine⟨fun h=>(by cases h),fun c cs _=> ?_⟩;obtain⟨v,I,r,s⟩:=h c cs;exact⟨v,I,E _ _ r,stepsIn_wide.2 s⟩
  | _=>exact h.elim
 | halt x I=>
  cases x with
  | panic v=>exact h
  | _=>exact h.elim
def jX (ops:Array Oper):Bool:=ops.toList.all fun o=>match o.op with | .defer _=>false | _=>true
theorem Zd {ops:Array Oper} (h:jX ops=true) {i:Nat} {o:Oper} (E:ops[i]? = some o):∀c,o.op≠ .defer c:=by
 intro c e;have H:o∈ops.toList:=by rw[Array.mem_toList_iff]; exact Array.mem_of_getElem? E
 have:=List.all_eq_true.1 h o H;rw[e]at this
 cases this
theorem Ut {P:Program} {ops:Array Oper} {Q:Exit->Act->Ee->Prop} {i:Nat} (hd:jX ops=true) (E:∀a w,K a w->K' a w)
  (h:wpOp P ops (xf Q) i K a w):wpOpIn (Fence.wide.inRound l) n P ops Q i K' a w:=by
 unfold wpOp at h;unfold wpOpIn
 cases ho:ops[i]? with
 | none=>rw[ho]at h; exact E _ _ h
 | some o=>
  rw[ho]at h;dsimp only at h|-
  by_cases hw:Region.wanted o (yielded ops a.tmps)=true
  .
   rw[E8 hw]at h|-
   rcases h with h | ⟨_,h⟩
   . exact Yx (Zd hd ho) h E
   . exact(vG Q h).elim
  .
   rw[E9 hw]at h|-;exact⟨fun _ _=>trivial,E _ _ h⟩
theorem VH {P:Program} {ops:Array Oper} {Q:Exit->Act->Ee->Prop} {md:Region.Mode} (hd:jX ops=true):∀ (H:Nat) (E:Array Bool) (a:Act) (w:Ee),
  wpAny P md ops (xf Q) H E a w->wpAnyIn (Fence.wide.inRound l) n P md ops Q H E a w:=by
 intro H
 induction H with
 | zero=>intro E a w h; exact⟨h.1,h.2⟩
 | succ H ih=>intro E a w h; exact⟨fun M=>h.1 M,fun i I=>Ut hd (fun a w=>ih _ a w) (h.2 i I)⟩
section
open aj
variable {P:Program} {ops:Array Oper} {Q:Exit->Act->Ee->Prop}
theorem jx {id:Nat} {ah:Act} (J:(Nat->Bool)->(Nat->Ef)->Ee->Prop) (a9:Nat->Bool) (V:Nat->Ef->Prop) (G:Nat->Ef->Ee->Prop) (Sx:Nat->Ee->Ee->Prop) (aX:List PanicEntry->Ee->Prop) (pre:Nat->List (Nat×Option Tmp)) (post:Nat->List Nat)
  (hd:jX ops=true) (hm:P.follows .mixedOrders=true) (ht:tidy ops ah.tmps.size=true) (H:c_ ops a9 pre post=true)
  (hV:∀k,∃x,V k x) (X:∀v,J (fun _=>false) v w.drew) (I:∀D v v' W,(∀j,D j=true->v j=v' j)->J D v W->J D v' W)
  (Y:∀D v k j W Z x,j≠k->a9 j=true->a9 k=true->J D v W->Sx k W Z->G j x W->G j x Z)
  (hP:∀a W c,a.defers=ah.defers->aX c W->Q (.panic c) a W)
  (h:∀E Q',E=ops->(∀a W,Q .normal a W->Q' .normal a W)->RC P E Q' J a9 V G Sx aX pre post 0 ops.toList ah):(Code.region id ops true).wpIn (Fence.wide.inRound l) n P Q ah w:=by
 have hc:=h ops (xf Q) rfl (fun _ _ h=>h);refine wpIn_region_any hm (VH hd _ _ _ _ ?_)
 exact Xo (Inv P ops J a9 V G pre post ah) (cG (Q:=xf Q) ht H hV I Y (fun a W c T M=>hP a W c T M) hc) (cE (Q:=xf Q) ht H hV I Y (fun a W c T M=>hP a W c T M) hc) _ _ _ _ (ku X) (by
  unfold xU;have:=List.length_filter_le (fun i=> !(Array.replicate ops.size false).getD i true) (List.range ops.size)
  rwa[List.length_range]at this)
end
end Go.Proofs.YtffmbepfbienaaaGreat
/- The chain of XReg where an operation of the region calls 'yield': for an iterator's own text. -/
namespace Go.Proofs.YtffmbepfbienaaaGreat
section
open Go.RowKit
variable {a b ah:Act} {L:Array Oper} {rest:List Oper} {k n:Nat} {o:Oper} {N:Ef->Ee->Prop} {W w:Ee}
def Yy (P:Program) (o:Oper) (ρ : Operand->Ef) (W:Ee) (aX:List PanicEntry->Ee->Prop) (N:Ef->Ee->Prop):Prop:=
 match (execOp ρ o).run P W with
 | .ok (.value v) W'=>N v W'
 | .ok .skip W'=>N Em W'
 | .ok (.enter f args) W'=>Ed P f args W' fun
   | Eh v,W''=>N v W''
   | .panicked c,W''=>aX c W''
   | .outgrown,_=>False
 | .ok (.row row args) W'=>Rows P row args W' N
 | .ok (.round l f tmps assign body) W'=>RoundIn Fence.wide 0 P l f tmps assign body W' fun
   | Eh v,W''=>N v W''
   | .panicked c,W''=>aX c W''
   | .outgrown,_=>False
 | .halt (.panic v) W'=>aX [{ v,recovered:=false }] W'
 | _=>False
theorem jF {m:Nat} {P:Program} {l:Nat} {f:FuncId} {tmps:Array Ef} {assign body:Code} {R:Ending->Ee->Prop}
  (h:RoundIn Fence.wide n P l f tmps assign body w R):RoundIn Fence.wide m P l f tmps assign body w R:=⟨h.1,fun c cs _=>h.2 c cs (room_wide _)⟩
namespace aT
open aj
section
variable (P:Program) (ops:Array Oper) (Q:Exit->Act->Ee->Prop) (J:(Nat->Bool)->(Nat->Ef)->Ee->Prop) (a9:Nat->Bool) (V:Nat->Ef->Prop) (G:Nat->Ef->Ee->Prop) (Sx:Nat->Ee->Ee->Prop) (aX:List PanicEntry->Ee->Prop) (pre:Nat->List (Nat×Option Tmp)) (post:Nat->List Nat)
def bm (k:Nat) (o:Oper) (a:Act) (D:Nat->Bool) (v:Nat->Ef) (W:Ee):Prop:=
 if Region.wanted o (yielded ops a.tmps)=true then Yy P o a.eval W aX (fun x E=>Sx k W E/\J (upd D k) (aS v k (dv o x)) E/\G k (dv o x) E/\V k (dv o x))else J (upd D k) (aS v k Em) W/\G k Em W/\V k Em
def RC:Nat->List Oper->Act->Prop
 | k,[],a=>∀D v W,(∀j,j<k->D j=a9 j)->J D v W->aL a9 G pre k a D v W->Q .normal a W
 | k,o::rest,a=>
  if a9 k=true then(∀D v W,bC post k D->J D v W->aL a9 G pre k a D v W->bm P ops J V G Sx aX k o a D v W)/\∀x,V k x->RC (k+1) rest (a.put o.dst x)
  else ∃x,(∀D v W,bC post k D->J D v W->aL a9 G pre k a D v W->yP P ops o a x W)/\RC (k+1) rest (a.put o.dst x)
end
section
variable {P:Program} {ops:Array Oper} {Q:Exit->Act->Ee->Prop} {J:(Nat->Bool)->(Nat->Ef)->Ee->Prop} {a9:Nat->Bool} {V:Nat->Ef->Prop} {G:Nat->Ef->Ee->Prop} {Sx:Nat->Ee->Ee->Prop} {aX:List PanicEntry->Ee->Prop} {pre:Nat->List (Nat×Option Tmp)} {post:Nat->List Nat}
theorem cL (xs:Nat->Ef) (hx:∀k,V k (xs k)):∀ (l:List Oper) (k:Nat) (a:Act),RC P ops Q J a9 V G Sx aX pre post k l a->
  ∃ (E:Nat->Act) (y:Nat->Ef),E k=a/\(∀i o,l[i]? = some o->E (k+i+1)=(E (k+i)).put o.dst (y (k+i))/\
   (a9 (k+i)=true->y (k+i)=xs (k+i)/\∀D v W,bC post (k+i) D->J D v W->aL a9 G pre (k+i) (E (k+i)) D v W->bm P ops J V G Sx aX (k+i) o (E (k+i)) D v W)/\
   (a9 (k+i)=false->∀D v W,bC post (k+i) D->J D v W->aL a9 G pre (k+i) (E (k+i)) D v W->yP P ops o (E (k+i)) (y (k+i)) W))/\
   (∀D v W,(∀j,j<k+l.length->D j=a9 j)->J D v W->aL a9 G pre (k+l.length) (E (k+l.length)) D v W->Q .normal (E (k+l.length)) W):=by
 intro l
 induction l with
 | nil=>
  intro k a h;refine⟨fun _=>a,xs,rfl,fun i o H=>by simp at H,?_⟩;exact h
 | cons o rest ih=>
  intro k a h
  have key:∃x,RC P ops Q J a9 V G Sx aX pre post (k+1) rest (a.put o.dst x)/\
    (a9 k=true->x=xs k/\∀D v W,bC post k D->J D v W->aL a9 G pre k a D v W->bm P ops J V G Sx aX k o a D v W)/\
    (a9 k=false->∀D v W,bC post k D->J D v W->aL a9 G pre k a D v W->yP P ops o a x W):=by
   unfold RC at h
   split at h
   .
    rename_i hc
    exact⟨xs k,h.2 _ (hx k),fun _=>⟨rfl,h.1⟩,fun I=>by rw[hc]at I; cases I⟩
   .
    rename_i hc
    obtain⟨x,Z,Y⟩:=h;exact⟨x,Y,fun I=>absurd I hc,fun _=>Z⟩
  obtain⟨x,hr,T,M⟩:=key;obtain⟨E,y,ht,hs,X⟩:=ih (k+1) _ hr;refine⟨fun i=>if i<=k then a else E i,fun i=>if i<=k then x else y i,by simp,?_,?_⟩
  .
   intro i o' H
   cases i with
   | zero=>
    simp only[List.getElem?_cons_zero,Option.some.injEq]at H;subst H;simp only[Nat.add_zero,Eo,if_true,E9 (show ¬(k+1<=k) by omega),ht];exact⟨trivial,T,M⟩
   | succ i=>
    rw[List.getElem?_cons_succ]at H;have:=hs i o' H;have e:k+1+i=k+(i+1):=D5
    rw[e]at this;simp only[E9 (show ¬(k+(i+1)<=k) by omega),E9 (show ¬(k+(i+1)+1<=k) by omega)];exact this
  .
   have e:k+1+rest.length=k+(o::rest).length:=by simp; omega
   rw[e]at X;simp only[E9 (show ¬(k+(o::rest).length<=k) by simp)];exact X
theorem dO {K:Act->Ee->Prop} (h:Yy P o a.eval W aX N) (I:∀x H,N x H->K (a.put o.dst x) H)
  (T:∀c H,aX c H->Q (.panic c) a H):o.wpIn Fence.wide n P a W K Q:=by
 unfold Yy at h;unfold Oper.wpIn;refine⟨fun _ _=>trivial,?_⟩;rw[show o.semAt Fence.wide.round a.eval=execOp a.eval o from rfl]
 split at h
 . rename_i heq; rw[heq,Oper.uponIn_value]; exact I _ _ h
 . rename_i heq; rw[heq,Oper.uponIn_skip]; exact I _ _ h
 .
  rename_i heq
  rw[heq,Oper.uponIn_enter];refine⟨fun h=>(by cases h),callsIn_wide.2 (Calls.mono h fun e M E=> ?_)⟩
  cases e with
  | returned v=>exact I _ _ E
  | panicked c=>exact T _ _ E
  | outgrown=>exact E.elim
 .
  rename_i heq
  rw[heq,Oper.uponIn_row];refine⟨fun h=>(by cases h),fun c cs _=> ?_⟩;obtain⟨v,X,r,s⟩:=h c cs;exact⟨v,X,I _ _ r,stepsIn_wide.2 s⟩
 .
  rename_i heq
  rw[heq,Oper.uponIn_round];refine⟨fun h=>(by cases h),jF (RoundIn.mono h fun e M E=> ?_)⟩
  cases e with
  | returned v=>exact I _ _ E
  | panicked c=>exact T _ _ E
  | outgrown=>exact E.elim
 . rename_i heq; rw[heq,Oper.uponIn_panic]; exact T _ _ h
 . exact h.elim
theorem cV {ρ E:Operand->Ef} (e:execOp ρ o=execOp E o) (h:Yy P o ρ W aX N):Yy P o E W aX N:=by
 unfold Yy at *
 rwa[<- e]
theorem cW {D:Nat->Bool} {v:Nat->Ef} (H:∀cs c,o.op≠ .select cs c) (h:∀t,t∈o.looksAt ops->a.tmps[t]? = b.tmps[t]?) (E:bm P ops J V G Sx aX k o a D v W):bm P ops J V G Sx aX k o b D v W:=by
 unfold bm at *;rw[<- jW h]
 split
 . rename_i hw; rw[E8 hw]at E; exact cV (vE H h) E
 . rename_i hw; rwa[E9 hw]at E
theorem cG (ht:tidy ops ah.tmps.size=true) (d9:c_ ops a9 pre post=true)
  (hV:∀k,∃x,V k x) (cy:∀D v v' W,(∀j,D j=true->v j=v' j)->J D v W->J D v' W)
  (hG:∀D v k j W Z x,j≠k->a9 j=true->a9 k=true->J D v W->Sx k W Z->G j x W->G j x Z)
  (hP:∀a W c,a.defers=ah.defers->aX c W->Q (.panic c) a W)
  (h:RC P ops Q J a9 V G Sx aX pre post 0 ops.toList ah) :
  ∀E a W i,Inv P ops J a9 V G pre post ah E a W->i∈Region.ready .any ops E->wpOpIn Fence.wide n P ops Q i (fun a' Z=>Inv P ops J a9 V G pre post ah (E.setIfInBounds i true) a' Z) a W:=by
 have T:=kP ht;have S:=kQ d9;intro E a W i I hi;obtain⟨dk,o,ho,dl⟩:=mem_ready.1 hi;have br:i<ops.size:=jL ho;have hd:yC ops i=o.dst:=by unfold yC; rw[ho]; rfl
 have bg:∀j∈jD ops i,E.getD j false=true:=fun j M=>by
  obtain⟨e,he,hb,rfl⟩:=(kR ho).1 M;exact dl e he hb
 have hl:∀j,de ops j i->E.getD j false=true:=fun j M=>by
  cases M with
  | one h=>exact bg j h
  | more h1 h2=>exact I.eF h1 (bg _ h2)
 have bh:¬E.getD i false=true:=fun hc=>by
  have dy:i<E.size:=I.n▸br;simp[dy]at dk hc;rw[dk]at hc; cases hc
 obtain⟨xs,hx,ey⟩:∃xs:Nat->Ef,(∀k,V k (xs k))/\∀k,V k (y' ops a k)->xs k=y' ops a k:=by
  classical
  refine⟨fun k=>if V k (y' ops a k)then y' ops a k else(hV k).choose,fun k=> ?_,fun k H=>by simp only[E8 H]⟩
  by_cases H:V k (y' ops a k)
  . simp only[E8 H]; exact H
  . simp only[E9 H]; exact(hV k).choose_spec
 obtain⟨tr,y,h0,hs,hf⟩:=cL xs hx ops.toList 0 ah h
 have em:∀i o,ops[i]? = some o->tr (i+1)=(tr i).put o.dst (y i):=fun i o ho=>by
  have:=(hs i o (by simpa using ho)).1;simpa using this
 have eW:∀i,i<ops.size->E.getD i false=true->a9 i=true->y i=y' ops a i:=fun i hi er X=>by
  have:=(hs i ops[i] (by simp[hi])).2.1;simp only[Nat.zero_add]at this;exact(this X).1.trans (ey i (I.call i er X).2)
 have cN:∀i o,ops[i]? = some o->a9 i=false->∀D v W,bC post i D->J D v W->aL a9 G pre i (tr i) D v W->yP P ops o (tr i) (y i) W:=fun i o ho X=>by
  have:=(hs i o (by simpa using ho)).2.2;simp only[Nat.zero_add]at this;exact this X
 obtain⟨A1,A2,-⟩:=Kz S T I h0 em eW cN i br hl
 have A1:∀t,t∈o.looksAt ops->(tr i).tmps[t]? = a.tmps[t]? :=fun t ht=>by
  by_cases hw:∃j,de ops j i/\yC ops j=some t
  .
   obtain⟨j,M,bi⟩:=hw;exact(A1 o ho t ht).1 j M bi
  .
   rw[(A1 o ho t ht).2 fun j M bi=>hw ⟨j,M,bi⟩,I.old t fun j M bi=> ?_]
   rcases T.look i o t j ho ht bi with h | h
   . exact hw ⟨j,h,bi⟩
   . exact bh (I.eF h M)
 have F:aL a9 G pre i a (done a9 E) (y' ops a) W:=fun p hp cU=>by
  obtain⟨h1,h2⟩:=S.fore i p br hp;refine⟨by unfold done; rw[cU,hl p.1 h1]; rfl,by unfold y'; rw[h2],?_⟩;rw[<- h2];exact(I.call p.1 (hl p.1 h1) cU).1
 have F':aL a9 G pre i (tr i) (done a9 E) (y' ops a) W:=yD (fun p hp=>(A2 p hp).symm) F;have eO:=fun cs c=>T.eO i o cs c ho
 have bt:bC post i (done a9 E):=by
  refine⟨?_,fun j M=> ?_⟩
  .
   unfold done; cases h:E.getD i false with
   | true=>exact absurd h bh
   | false=>simp
  .
   unfold done; cases h:E.getD j false with
   | true=>exact absurd (I.eF (S.aft i j br M) h) bh
   | false=>simp
 have dC:a9 i=true->done a9 (E.setIfInBounds i true)=upd (done a9 E) i:=fun hc=>funext fun j=>by
  unfold done upd
  by_cases e:j=i
  . subst e; simp only[qK (show j<E.size from I.n▸br),hc]; simp
  . rw[getD_set_ne false (Ne.symm e)]; simp[e]
 have dP:a9 i=false->done a9 (E.setIfInBounds i true)=done a9 E:=fun hc=>funext fun j=>by
  unfold done
  by_cases e:j=i
  . subst e; rw[hc]; simp
  . rw[getD_set_ne false (Ne.symm e)]
 -- what stands, whatever i yields, of the frame behind it
 have bT:∀x k,E.getD k false=true->∀t,yC ops k=some t->(a.put o.dst x).tmps[t]? = a.tmps[t]? :=fun x k H t aY=>
  ZG fun e=>bh (T.once i k t (hd.trans e) aY▸H)
 have next:∀x Z,J (done a9 (E.setIfInBounds i true)) (y' ops (a.put o.dst x)) Z->(∀k,E.getD k false=true->a9 k=true->G k (y' ops a k) Z/\V k (y' ops a k))->(a9 i=true->G i (dv o x) Z/\V i (dv o x))->
   (a9 i=false->∀D v W,bC post i D->J D v W->aL a9 G pre i a D v W->yP P ops o a x W)->Inv P ops J a9 V G pre post ah (E.setIfInBounds i true) (a.put o.dst x) Z:=by
  intro x Z M hg ek f7;have vk:∀k,E.getD k false=true->y' ops (a.put o.dst x) k=y' ops a k:=fun k H=>jw fun t aY=>bT x k H t aY
  have vi:∀t,o.dst=some t->(a.put o.dst x).tmps[t]? = some x:=fun t dc=>by
   rw[dc]; exact qE (by rw[I.size]; exact T.inb i t (hd.trans dc))
  refine⟨M,by simp[I.n],?_,(ju _ _ _).trans I.defs,(Yw _ _ _).trans I.size,?_,?_,?_⟩
  .
   intro k H j dx
   rcases qQ H with rfl | H
   . exact getD_set_true (bg j dx)
   . exact getD_set_true (I.closed k H j dx)
  .
   intro t cx;rw[ZG fun e=>cx i (qK (I.n▸br)) (hd.trans e)];exact I.old t fun k H=>cx k (getD_set_true H)
  .
   intro k H Y
   rcases qQ H with rfl | H
   .
    have:y' ops (a.put o.dst x) k=dv o x:=by
     unfold y'; rw[hd]
     cases hdo:o.dst with
     | none=>simp[at_,dv,hdo]
     | some t=>have:=vi t hdo; rw[hdo]at this; simp[at_,dv,hdo,this]
    rw[this]; exact ek Y
   . rw[vk k H]; exact hg k H Y
  .
   intro k o' t H Y bl aY
   have ag:∀p∈pre k,at_ (a.put o.dst x) p.2=at_ a p.2:=fun p hp=>by
    have ed:k<ops.size:=jL bl;obtain⟨h1,h2⟩:=S.fore k p ed hp
    have dz:E.getD p.1 false=true:=by
     rcases qQ H with rfl | H
     . exact hl _ h1
     . exact I.eF h1 H
    exact jw fun t f8=>bT x p.1 dz t (h2.trans f8)
   rcases qQ H with rfl | H
   .
    rw[ho]at bl
    injection bl with bl
    subst bl
    have e:y' ops (a.put o.dst x) k=x:=by
     unfold y'; rw[hd];rw[hd]at aY;have:=vi t aY; rw[aY]at this; simp[at_,aY,this]
    refine⟨a,fun u j M be=>(bT x j (hl j M) u be).symm,fun u hu hn=>I.old u fun j M be=> ?_,fun cg cn ci cw co ce=> ?_,?_⟩
    .
     rcases T.look k o u j ho hu be with h | h
     . exact hn j h be
     . exact bh (I.eF h M)
    . rw[e]; exact f7 Y cg cn ci cw co (yD ag ce)
    . exact⟨_,_,W,bt,I.j,yD (fun p hp=>(ag p hp).symm) F⟩
   .
    obtain⟨b,b1,b2,P1,D1,v1,W1,c1,j1,f1⟩:=I.pur k o' t H Y bl aY;refine⟨b,fun u j M be=>(b1 u j M be).trans (bT x j (I.eF M H) u be).symm,b2,fun cg cn ci cw co ce=> ?_,D1,v1,W1,c1,j1,yD (fun p hp=>(ag p hp).symm) f1⟩;rw[vk k H];exact P1 cg cn ci cw co (yD ag ce)
 have vx:∀x j,done a9 E j=true->aS (y' ops a) i (dv o x) j=y' ops (a.put o.dst x) j:=fun x j M=>by
  unfold done at M;simp only[Bool.and_eq_true]at M;unfold aS;rw[E9 (show ¬j=i from fun e=>bh (e▸M.2))];exact(jw fun t aY=>bT x j M.2 t aY).symm
 have eM:∀x,y' ops (a.put o.dst x) i=dv o x:=fun x=>by
  unfold y'; rw[hd]
  cases hdo:o.dst with
  | none=>simp[at_,dv,hdo]
  | some t=>
   have:=qE (a:=a) (v:=x) (t:=t) (by rw[I.size]; exact T.inb i t (hd.trans hdo));simp[at_,dv,hdo,this]
 have vC:∀x Z,a9 i=true->J (upd (done a9 E) i) (aS (y' ops a) i (dv o x)) Z->J (done a9 (E.setIfInBounds i true)) (y' ops (a.put o.dst x)) Z:=fun x Z hc h=>by
  rw[dC hc];refine cy _ _ _ _ (fun j M=> ?_) h
  by_cases e:j=i
  . subst e; unfold aS; rw[E8 rfl,eM]
  .
   unfold upd at M;simp only[Bool.or_eq_true,beq_iff_eq,e,false_or]at M;exact vx x j M
 have vP:∀x Z,a9 i=false->J (done a9 E) (y' ops a) Z->J (done a9 (E.setIfInBounds i true)) (y' ops (a.put o.dst x)) Z:=fun x Z hc h=>by
  rw[dP hc];refine cy _ _ _ _ (fun j M=> ?_) h;rw[<- vx x j M];unfold aS;rw[E9];intro e;subst e;unfold done at M;rw[hc]at M; cases M
 unfold wpOpIn;rw[ho]
 cases X:a9 i with
 | true=>
  have hC:=(hs i o (by simpa using ho)).2.1;simp only[Nat.zero_add]at hC;have hC:=cW eO A1 ((hC X).2 _ _ W bt I.j F');unfold bm at hC;simp only
  split
  .
   rename_i hw
   rw[E8 hw]at hC;refine(dO hC (fun x Z hx=>next x Z (vC x Z X hx.2.1) (fun k H Y=> ?_) (fun _=>hx.2.2) (fun h=>by rw[X]at h; cases h)) (fun c Z hc=>hP a Z c I.defs hc));exact⟨hG _ _ i k W Z _ (fun e=>bh (e▸H)) Y X I.j hx.1 (I.call k H Y).1,(I.call k H Y).2⟩
  .
   rename_i hw
   rw[E9 hw]at hC;have e:dv o Em=Em:=by unfold dv; split<;>rfl
   refine⟨fun _ _=>trivial,next Em W (vC Em W X (e.symm▸hC.1)) (fun k H Y=>I.call k H Y) (fun _=> ?_) (fun h=>by rw[X]at h; cases h)⟩;rw[e]; exact hC.2
 | false=>
  have hp:=fun D v W cw M hf=>vF eO A1 (cN i o ho X D v W cw M (yD (fun p hp=>(A2 p hp).symm) hf));have b9:=hp _ _ W bt I.j F;unfold yP at b9;simp only;have nx:=next (y i) W (vP _ W X I.j) (fun k H Y=>I.call k H Y) (fun h=>by rw[X]at h; cases h) (fun _=>hp)
  split
  .
   rename_i hw
   rw[E8 hw]at b9;unfold Oper.wpIn;refine⟨fun _ _=>trivial,?_⟩;rw[show o.semAt Fence.wide.round a.eval=execOp a.eval o from rfl]
   rcases b9 with b9 | ⟨b9,hy⟩
   . rw[b9,Oper.uponIn_value]; exact nx
   . rw[b9,Oper.uponIn_skip,<- hy]; exact nx
  .
   rename_i hw
   rw[E9 hw]at b9;rw[<- b9]; exact⟨fun _ _=>trivial,nx⟩
theorem cE (ht:tidy ops ah.tmps.size=true) (bg:c_ ops a9 pre post=true)
  (hV:∀k,∃x,V k x) (ci:∀D v v' W,(∀j,D j=true->v j=v' j)->J D v W->J D v' W)
  (hG:∀D v k j W W' x,j≠k->a9 j=true->a9 k=true->J D v W->Sx k W W'->G j x W->G j x W')
  (hP:∀a W c,a.defers=ah.defers->aX c W->Q (.panic c) a W)
  (h:RC P ops Q J a9 V G Sx aX pre post 0 ops.toList ah) :
  ∀H a W,Inv P ops J a9 V G pre post ah H a W->Region.ready .any ops H = []->Q .normal a W:=by
 have T:=kP ht;have S:=kQ bg;intro H a W I hr
 -- nothing is left: all are H
 have all:∀k,k<ops.size->H.getD k false=true:=by
  intro k
  induction k using Nat.strongRecOn with
  | _ k ih=>
   intro X
   cases hl:H.getD k false with
   | true=>rfl
   | false=>
    have:k∈Region.ready .any ops H:=by
     refine mem_ready.2 ⟨?_,ops[k],by simp[X],fun e he hb=> ?_⟩
     .
      have bl:k<H.size:=I.n▸X;simpa[bl]using hl
     .
      have hm:=(kR (ops:=ops) (k:=k) (j:=e.on) (by simp[X])).2 ⟨e,he,hb,rfl⟩;have:=T.back _ _ hm;exact ih e.on this D5
    rw[hr]at this; cases this
 obtain⟨xs,hx,bi⟩:∃xs:Nat->Ef,(∀k,V k (xs k))/\∀k,V k (y' ops a k)->xs k=y' ops a k:=by
  classical
  refine⟨fun k=>if V k (y' ops a k)then y' ops a k else(hV k).choose,fun k=> ?_,fun k X=>by simp only[E8 X]⟩
  by_cases X:V k (y' ops a k)
  . simp only[E8 X]; exact X
  . simp only[E9 X]; exact(hV k).choose_spec
 obtain⟨tr,y,h0,hs,hf⟩:=cL xs hx ops.toList 0 ah h
 have b9:∀i o,ops[i]? = some o->tr (i+1)=(tr i).put o.dst (y i):=fun i o ho=>by
  have:=(hs i o (by simpa using ho)).1;simpa using this
 have br:∀i,i<ops.size->H.getD i false=true->a9 i=true->y i=y' ops a i:=fun i hi cg aY=>by
  have:=(hs i ops[i] (by simp[hi])).2.1;simp only[Nat.zero_add]at this;exact(this aY).1.trans (bi i (I.call i cg aY).2)
 have bt:∀i o,ops[i]? = some o->a9 i=false->∀D v W,bC post i D->J D v W->aL a9 G pre i (tr i) D v W->yP P ops o (tr i) (y i) W:=fun i o ho aY=>by
  have:=(hs i o (by simpa using ho)).2.2;simp only[Nat.zero_add]at this;exact this aY
 have Y:∀k,k<ops.size->y k=y' ops a k:=fun k X=>(Kz S T I h0 b9 br bt k X fun j Z=>all j (by have:=Z.lt T; omega)).2.2 (all k X)
 have E:tr ops.size=a:=by
  have hz:=XT h0 b9 ops.size (Eo _)
  have ce:∀t,(tr ops.size).tmps[t]? = a.tmps[t]? :=fun t=>by
   obtain⟨s1,s2⟩:=Yd T rfl h0 b9 ops.size (Eo _)
   by_cases hw:∃j,j<ops.size/\yC ops j=some t
   .
    obtain⟨j,Z,M⟩:=hw;rw[s1 j t Z M,Y j Z];unfold y' at_;simp only[M];have hb:t<a.tmps.size:=by rw[I.size]; exact T.inb j t M
    rw[Array.getElem?_eq_getElem hb]; rfl
   . rw[s2 t fun j Z M=>hw ⟨j,Z,M⟩,I.old t fun j Z M=>hw ⟨j,jq M,M⟩]
  have:(tr ops.size).tmps=a.tmps:=Array.ext_getElem? ce;have be:(tr ops.size).defers=a.defers:=hz.2.trans I.defs.symm
  cases htr:tr ops.size with
  | mk t1 d1=>
   rw[htr]at this be;simp only at this be;subst this be;rfl
 simp only[Nat.zero_add,Array.length_toList]at hf;rw[E]at hf
 exact hf _ _ W (fun j Z=>by unfold done; rw[all j Z]; simp) I.j fun p hp bh=>by
  obtain⟨h1,h2⟩:=S.fin p hp;refine⟨by unfold done; rw[bh,all p.1 h1]; rfl,by unfold y'; rw[h2],?_⟩;rw[<- h2];exact(I.call p.1 (all p.1 h1) bh).1
theorem bD (M:Act) (x:Ef) (hc:a9 k=false) (hst:kv o.op=true) (hw:Region.wanted o (yielded ops a.tmps)=true)
  (h:∀D v W,bC post k D->J D v W->aL a9 G pre k a D v W->∀K:Act->Ee->Prop,Hid (K M W)->o.wp P a W K (fun _ _ _=>False)) (t:Tmp) (hd:o.dst=some t) (ht:t<a.tmps.size) (Y:M=a.put o.dst x)
  (H:RC P ops Q J a9 V G Sx aX pre post (k+1) rest M):RC P ops Q J a9 V G Sx aX pre post k (o::rest) a:=by
 unfold RC;rw[E9 (by rw[hc]; simp)];refine⟨x,fun D v W cw hj Z=> ?_,Y▸H⟩;have h:=h D v W cw hj Z (fun X T=>X=M/\T=W) ⟨rfl,rfl⟩;unfold yP;rw[E8 hw]
 have I:∀v,a.put o.dst v=M->v=x:=fun v hv=>by
  rw[Y,hd]at hv;have E:=qE (v:=v) ht;rw[hv,qE ht]at E
  injection E with E
  exact E.symm
 unfold Oper.wp at h
 cases H:(execOp a.eval o).run P W with
 | ok r T=>
  rw[H]at h
  rcases Xp hst H with⟨v,rfl⟩ | rfl
  .
   rw[Oper.upon_value]at h;obtain⟨E,rfl⟩:=h;exact .inl (by rw[I v E])
  .
   rw[Oper.upon_skip]at h;obtain⟨E,rfl⟩:=h;exact .inr ⟨rfl,(I _ E).symm⟩
 | halt r T=>
  rw[H]at h
  cases r<;>exact h.elim
theorem dh (hc:a9 k=false) (hw:Region.wanted o (yielded ops a.tmps)=false)
  (E:RC P ops Q J a9 V G Sx aX pre post (k+1) rest (a.put o.dst Em)):RC P ops Q J a9 V G Sx aX pre post k (o::rest) a:=by
 unfold RC;rw[E9 (by rw[hc]; simp)];refine⟨Em,fun D v W _ _ _=> ?_,E⟩;unfold yP;rw[E9 (by rw[hw]; simp)]
theorem RY {o:Oper} {a:Act} {E:Act} {x:Ef} (I:ops=L) (t:Tmp) (M:RC P ops Q J a9 V G Sx aX pre post (k+1) rest E) (hc:a9 k=false:=by exact rfl) (hst:kv o.op=true:=by exact rfl) (hw:Region.wanted o (yielded L a.tmps)=true:=by exact rfl) (hd:o.dst=some t:=by exact rfl) (ht:Nat.ble (t+1) a.tmps.size=true:=by exact rfl)
  (h:∀W,∀K:Act->World->Prop,Hid (K E W)->o.wp P a W K (fun _ _ _=>False):=by (intro X K H; go_step; exact H.out)) (T:E=a.put o.dst x:=by exact rfl):RC P ops Q J a9 V G Sx aX pre post k (o::rest) a:=
 bD E x hc hst (by rw[I]; exact hw) (fun _ _ W _ _ _ K H=>h W K H) t hd (Eb ht) T M
theorem sk (E:ops=L) (H:RC P ops Q J a9 V G Sx aX pre post (k+1) rest (a.put o.dst Em)) (hc:a9 k=false:=by exact rfl) (hw:Region.wanted o (yielded L a.tmps)=false:=by exact rfl):RC P ops Q J a9 V G Sx aX pre post k (o::rest) a:=dh hc (by rw[E]; exact hw) H
theorem aC {n k:Nat} {o:Oper} {rest:List Oper} {a:Act} (hc:a9 k=true) (hb:∀t,o.dst=some t->t<a.tmps.size) (hw:Region.wanted o (yielded ops a.tmps)=true)
  (h:∀D v W,bC post k D->J D v W->aL a9 G pre k a D v W->∀K:Act->Ee->Prop,Hid (∀x E,Sx k W E->J (upd D k) (aS v k (dv o x)) E->G k (dv o x) E->V k (dv o x)->K (a.put o.dst x) E)->o.wpIn Fence.wide n P a W K (fun e _ E=>match e with | .panic c=>aX c E | _=>False))
  (X:∀x,V k x->RC P ops Q J a9 V G Sx aX pre post (k+1) rest (a.put o.dst x)):RC P ops Q J a9 V G Sx aX pre post k (o::rest) a:=by
 unfold RC;rw[E8 hc];refine⟨fun D v W cw hj hf=> ?_,X⟩;have h:=h D v W cw hj hf (fun Z E=>∃x,Z=a.put o.dst x/\Sx k W E/\J (upd D k) (aS v k (dv o x)) E/\G k (dv o x) E/\V k (dv o x)) (fun x E I Y h3 h4=>⟨x,rfl,I,Y,h3,h4⟩);unfold bm;rw[E8 hw]
 have M:∀u E,(∃x,a.put o.dst u=a.put o.dst x/\Sx k W E/\J (upd D k) (aS v k (dv o x)) E/\G k (dv o x) E/\V k (dv o x))->Sx k W E/\J (upd D k) (aS v k (dv o u)) E/\G k (dv o u) E/\V k (dv o u):=fun u E ⟨x,hv,I,h3,Y⟩=>by
  have:dv o u=dv o x:=by
   unfold dv
   cases hd:o.dst with
   | none=>rfl
   | some t=>
    rw[hd]at hv;have I:=qE (v:=u) (hb t hd);rw[hv,qE (hb t hd)]at I
    injection I with I
    exact I.symm
  rw[this];exact⟨I,h3,Y⟩
 unfold Oper.wpIn at h;replace h:=h.2;rw[show o.semAt Fence.wide.round a.eval=execOp a.eval o from rfl]at h;unfold Yy
 cases X:(execOp a.eval o).run P W with
 | ok r E=>
  rw[X]at h
  cases r
  case value v=>exact M v E h
  case skip=>exact M Em E h
  case enter f args=>
   rw[Oper.uponIn_enter]at h;refine Calls.mono (callsIn_wide.1 h.2) fun e T H=> ?_
   cases e with
   | returned v=>exact M v T H
   | panicked c=>exact H
   | outgrown=>obtain⟨_,_,H⟩:=H; exact H.elim
  case defer d=>
   rw[Oper.uponIn_defer]at h;obtain⟨x,h,-⟩:=h;have I:=congrArg Act.defers h;rw[ju,ju]at I;exact absurd (congrArg List.length I) D8
  case row row args=>
   rw[Oper.uponIn_row]at h
   exact fun c cs=>by
    obtain⟨v,w',r,s⟩:=h.2 c cs (room_wide _);exact⟨v,w',M v w' r,stepsIn_wide.1 s⟩
  case round l f tmps assign body=>
   rw[Oper.uponIn_round]at h;refine jF (RoundIn.mono h.2 fun e T H=> ?_)
   cases e with
   | returned v=>exact M v T H
   | panicked c=>exact H
   | outgrown=>obtain⟨_,_,H⟩:=H; exact H.elim
  all_goals exact h.elim
 | halt r E=>
  rw[X]at h
  cases r<;>exact h
theorem aB {l:List Oper} (h:a=b) (E:RC P ops Q J a9 V G Sx aX pre post k l b):RC P ops Q J a9 V G Sx aX pre post k l a:=h▸E
theorem aF (h:∀D v W,(∀j,j<k->D j=a9 j)->J D v W->aL a9 G pre k a D v W->Q .normal a W):RC P ops Q J a9 V G Sx aX pre post k [] a:=h
theorem QI {F:Fence} {md:Region.Mode} (I:Array Bool->Act->Ee->Prop)
  (step:∀E a w i,I E a w->i∈Region.ready md ops E->wpOpIn F n P ops Q i (fun X Y=>I (E.setIfInBounds i true) X Y) a w)
  (done:∀E a w,I E a w->Region.ready md ops E = []->Q .normal a w) :
  ∀H E a w,I E a w->xU ops E<=H->wpAnyIn F n P md ops Q H E a w:=by
 intro H
 induction H with
 | zero=>
  intro E a w T hf;have M:=Zc (md:=md) (Nat.le_zero.1 hf);exact⟨M,done _ _ _ T M⟩
 | succ H ih=>
  intro E a w T hf;refine⟨fun M=>done _ _ _ T M,fun i Z=>wpOpIn_mono (fun X Y h=>ih _ X Y h ?_) (step _ _ _ i T Z)⟩;obtain⟨h1,h2⟩:=ZE Z;have:=Zb (ops:=ops) h1 h2;omega
theorem bQ {id:Nat} (J:(Nat->Bool)->(Nat->Ef)->Ee->Prop) (a9:Nat->Bool) (V:Nat->Ef->Prop) (G:Nat->Ef->Ee->Prop) (Sx:Nat->Ee->Ee->Prop) (aX:List PanicEntry->Ee->Prop) (pre:Nat->List (Nat×Option Tmp)) (post:Nat->List Nat)
  (hm:P.follows .mixedOrders=true) (ht:tidy ops ah.tmps.size=true) (H:c_ ops a9 pre post=true)
  (Z:∀k,∃x,V k x) (M:∀v,J (fun _=>false) v w.drew) (I:∀D v Y W,(∀j,D j=true->v j=Y j)->J D v W->J D Y W)
  (T:∀D v k j W X x,j≠k->a9 j=true->a9 k=true->J D v W->Sx k W X->G j x W->G j x X)
  (hP:∀a W c,a.defers=ah.defers->aX c W->Q (.panic c) a W)
  (h:∀E Q',E=ops->(∀a W,Q .normal a W->Q' .normal a W)->RC P E Q' J a9 V G Sx aX pre post 0 ops.toList ah):(Code.region id ops true).wpIn Fence.wide n P Q ah w:=by
 have hc:=h ops Q rfl (fun _ _ h=>h);refine wpIn_region_any hm ?_
 exact QI (Inv P ops J a9 V G pre post ah) (cG ht H Z I T hP hc) (cE ht H Z I T hP hc) _ _ _ _ (ku M) (by
  unfold xU;have:=List.length_filter_le (fun i=> !(Array.replicate ops.size false).getD i true) (List.range ops.size)
  rwa[List.length_range]at this)
end
end aT
end
section
open Go.RowKit Go.Shelf
variable {p q z:Addr} {b:Bool} {d:Int} {Bs n n₀:Nat} {row:Option Nat} {x y:Ef} {A B W:Ee}
attribute [local go_sem] Oper.semAt_some
def KD (n₀ Bs:Nat) (W E:Ee):Prop:=Below n₀ W E/\E.heap[Bs]? = W.heap[Bs]?
theorem KD.refl (n₀ Bs:Nat) (W:Ee):KD n₀ Bs W W:=⟨Et _ _,rfl⟩
theorem KD.trans {C:Ee} (h:KD n₀ Bs A B) (k:KD n₀ Bs B C):KD n₀ Bs A C:=⟨h.1.trans k.1,k.2.trans h.2⟩
theorem GY {w:Ee} (T:n₀<=w.heap.size) (X:Bs<w.heap.size) (W:Ee) (l:Nat) (o E:Obj) (M:w.heap.size<=l) (h:W.heap[l]? = some o) (I:o.isCells=false) (H:o.isWalk=false):KD n₀ Bs W (W.putObj l E):=
 ⟨belowK_b T W l o E M h I H,(grownBy_putObj' W l E).block Bs (by have:=(Array.getElem?_eq_some_iff.1 h).1; omega) (fun e=>by cases e; omega)⟩
theorem VI (F:Fence) (n:Nat) (h8:F.fn 191) (aY:F.round=none) (hn:1<=n) (l Bs n₀ b off len cap:Nat) (Z:List Int) (bg:Z.length=len) (E:len<=zP) (hb:b<n₀) (J Jx:List (Fin len)->Ee->Prop)
  (hY:∀pre (x:Fin len) W,J pre W->pre.length<len->YieldAt F (n-1) Ec l #[Ey Ew ((x:Nat):Int),Ey Eu (Z.getD x 0)] W fun e M=>
   (e = Eh (.bool true)/\J (pre ++ [x]) M/\KD n₀ Bs W M)\/(e = Eh (.bool false)/\Jx (pre ++ [x]) M))
  (W:Ee) (b9:W.cell? ⟨Bs,0,none⟩=some (Ex (some ⟨b,off,none⟩) len cap)) (hc:Cells W b off Z) (h0:J [] W) :
  CallsIn F n Ec 191 #[.func (.yield l) #[] #[],Ek (some ⟨Bs,0,none⟩)] W fun e M=>(∃v,e = Eh v)/\
   ((∃ys,ys=yU len len (Eo _)/\J ys M)\/(∃pre,(∃k,∃T:k<=len,pre=yU len k T)/\Jx pre M)):=by
 unfold zP at E;refine callsIn_of_wp Tryz.func191 rfl h8 ?_ aY;simp only[Tryz.ntmps191,List.size_toArray,List.length_cons,List.length_nil,Nat.reduceAdd,Nat.reduceSub,Array.replicate_succ,Array.replicate_zero,List.push_toArray,List.append_toArray,List.nil_append,List.cons_append]
 gi_wp2
 gi_loopw [3] (fun i wr=>∃ (k:Nat) (T:k<=len),i = Ey Ew ((len:Int)-1-k)/\J (yU len k T) wr/\KD n₀ Bs W wr)
  (fun i _=>(intOf i+1).toNat)
 case atStart=>exact⟨0,Nat.zero_le _,by go_num,h0,KD.refl _ _ _⟩
 case round=>
  obtain⟨k,T,rfl,Y,I⟩:=hrel;have bi:=(World.cell?_of_block (a:=⟨Bs,0,none⟩) I.2).trans b9
  rcases Ep k len with H | bh
  .
   obtain⟨j,hj⟩:∃j,len-1-k=j:=⟨_,rfl⟩;have X:j<len:=D5
   have be:=(I.1.cell (p:=⟨b,off+j,none⟩) hb).trans (hc j D5);obtain⟨fn,tmps,assign,body,hy,hR⟩:=hY _ ⟨j,X⟩ wr Y (by rw[Za]; exact H);dsimp only at hy;obtain⟨v,hv⟩:∃v,Z.getD j 0=v:=⟨_,rfl⟩;rw[hv]at be hy;clear hv;have hi:(len:Int)-1-k=(j:Int):=D5
   rw[hi];have HD:Hid (yU len (k+1) H=yU len k T ++ [⟨j,X⟩]):=by subst hj; rfl
   have hm:Hid (len-1-k=j/\k<len):=⟨hj,H⟩;clear hj
   gi_wp2
   refine hR.mono ?_;rintro e W3 (⟨rfl,hJ3,hk3⟩ | ⟨rfl,hJx3⟩)
   .
    gi_wp2
    go_roundw
    case rel=>exact⟨k+1,hm.out.2,by go_num,by rw[HD.out]; exact hJ3,I.trans hk3⟩
    case measure=>simp[intOf]
   .
    gi_wp2
    refine bodyPost_ret (results_none rfl _ _ _) rfl ?_;exact⟨⟨_,rfl⟩,.inr ⟨_,⟨k+1,hm.out.2,HD.out.symm⟩,hJx3⟩⟩
  .
   obtain rfl:k=len:=D5
   gi_wp2
   go_end0
   exact⟨⟨_,rfl⟩,.inl ⟨_,rfl,Y⟩⟩
theorem ZV (F:Fence) (n:Nat) (h8:F.fn 191) (H:F.round=none) (hn:1<=n) (Bs n₀:Nat) (ao:Option Addr) (cap len:Nat) (T:List Int) (M:T.length=len) (E:len<=zP) (w:Ee) (Z:Bs<w.heap.size) (X:n₀<=w.heap.size)
  (hc:w.cell? ⟨Bs,0,none⟩=some (Ex ao len cap)) (hI:0<len->∃b o,ao=some ⟨b,o,none⟩/\b<n₀/\Cells w b o T) :
  SeqStopsK F n Ec 191 #[Ek (some ⟨Bs,0,none⟩)] (QB T len) (KD n₀ Bs) (fun ys=>ys=yU len len (Eo _))
   (fun pre=>∃k,∃hk:k<=len,pre=yU len k hk) len w:=fun l J Jx W hW _ _ hY h0=>by
 have I:=(hW.cell (p:=⟨Bs,0,none⟩) Z).trans hc
 rcases Nat.eq_zero_or_pos len with h | h
 .
  subst h;exact(QA F n h8 H l Bs ao cap J W I h0).mono fun e W' ⟨he,hj⟩=>⟨he,.inl ⟨_,rfl,hj⟩⟩
 .
  obtain⟨b,o,rfl,hb,Y⟩:=hI h;exact VI F n h8 H hn l Bs n₀ b o len cap T M E hb J Jx hY W I (Y.below hW (Nat.lt_of_lt_of_le hb X)) h0
def j' (d:Int) (A:List Int) {n:Nat} (s:List Int×Int) (i:Fin n):List Int×Int:=
 (s.1.set (i:Nat) ((s.2*4294967296+A.getD (i:Nat) 0) / d),(s.2*4294967296+A.getD (i:Nat) 0)%d)
def vH (d:Int) (A:List Int) (n:Nat) (pre:List (Fin n)):List Int×Int:=pre.foldl (j' d A) (List.replicate n 0,0)
theorem Yz (d:Int) (A:List Int) (n:Nat) (pre:List (Fin n)) (i:Fin n):vH d A n (pre ++ [i])=j' d A (vH d A n pre) i:=by
 simp[vH,List.foldl_append]
theorem Uu {A:List Int} (X:1<=d) (T:d<4294967296) (H:yB A) (pre:List (Fin n)):(vH d A n pre).1.length=n/\yB (vH d A n pre).1/\0<=(vH d A n pre).2/\(vH d A n pre).2<d:=by
 suffices h:∀ (pre:List (Fin n)) (s:List Int×Int),(s.1.length=n/\yB s.1/\0<=s.2/\s.2<d)->
   ((pre.foldl (j' d A) s).1.length=n/\yB (pre.foldl (j' d A) s).1/\0<=(pre.foldl (j' d A) s).2/\(pre.foldl (j' d A) s).2<d) from
  h pre (List.replicate n 0,0) ⟨by simp,fun x M=>by obtain rfl:=List.eq_of_mem_replicate M; omega,by simp,by simp; omega⟩
 intro pre
 induction pre with
 | nil=>intro s h; exact h
 | cons i pre ih=>
  intro s h;obtain⟨I,E,Y,Z⟩:=h;refine ih _ ?_;have u0:=zG H (i:Nat);have q0:0<=(s.2*4294967296+A.getD (i:Nat) 0) / d:=Int.ediv_nonneg D5 D5;have q1:(s.2*4294967296+A.getD (i:Nat) 0) / d<4294967296:=Int.ediv_lt_of_lt_mul D5 D5;exact⟨by simpa[j']using I,WJ E _ q0 q1,Int.emod_nonneg _ D5,Int.emod_lt_of_pos _ D5⟩
theorem vI (j:Nat) (x:Int) (qs:List Int):(List.replicate (j+1) (0:Int)++qs).set j x=List.replicate j 0++x::qs:=by
 rw[List.replicate_succ',List.append_assoc,List.set_append_right _ _ D8];simp
theorem Xq {A:List Int} (X:A.length=n) (T:1<=d):∀ (k:Nat) (E:k<=n),∃qs,(vH d A n (yU n k E)).1=List.replicate (n-k) 0++qs/\qs.length=k/\zo (A.drop (n-k))=d*zo qs+(vH d A n (yU n k E)).2:=by
 intro k
 induction k with
 | zero=>intro E; exact⟨[],by simp[vH,yU],rfl,by rw[List.drop_of_length_le D5]; simp[vH,yU,zo]⟩
 | succ k ih=>
  intro E;obtain⟨qs,I,H,M⟩:=ih D5;rw[yU,Yz];dsimp only[j'];refine⟨((vH d A n (yU n k (Nat.le_of_succ_le E))).2*4294967296+A.getD (n-1-k) 0) / d::qs,?_,by simp[H],?_⟩
  . rw[I,show n-k=(n-1-k)+1 by omega,vI,show n-(k+1)=n-1-k by omega]
  .
   have S:=Yo (x:=A.getD (n-1-k) 0) M;rw[yM A (n-(k+1)),show n-(k+1)+1=n-k by omega,show n-(k+1)=n-1-k by omega,S];simp only[zo]
theorem yi {g:Nat} {t:TypeId} {cs:Array Ef} (h:ai A g t cs) (hg:A.grownBy B row) (H:∀r,row=some r->∃o:Obj,A.heap[r]? = some o/\o.isCells=false):ai B g t cs:=by
 refine(hg.block g h.lt (fun e=> ?_)).trans h;obtain⟨o,E,hc⟩:=H g e.symm;unfold ai at h;rw[h]at E
 cases E
 cases hc
theorem kz {v:Ef} {l:List Int} (h:aA A v l) (hg:A.grownBy B row) (M:∀r,row=some r->∃o:Obj,A.heap[r]? = some o/\o.isCells=false):aA B v l:=by
 obtain⟨h0,ao,cap,e,I,Y,H⟩:=h;refine⟨h0,ao,cap,e,I,Y,fun X=> ?_⟩;obtain⟨b,o,E,T,hc⟩:=H X;exact⟨b,o,E,Nat.lt_of_lt_of_le T hg.size,fun t ht=>cell_kept (hc t ht) hg M⟩
def Uv (p q:Addr) (x y:Ef) (b c:Bool) (W:Ee):Ee:=
 let V:=match b with | true=>W.setCell p x | false=>W
 match c with | true=>V.setCell q y | false=>V
theorem KA {c:Bool} (H:z.block≠p.block) (E:z.block≠q.block):(Uv p q x y b c W).cell? z=W.cell? z:=by
 cases b<;>cases c<;>simp only[Uv]
 . exact World.cell?_of_block (Below.heap_setCell _ _ _ _ E)
 . exact World.cell?_of_block (Below.heap_setCell _ _ _ _ H)
 . exact(World.cell?_of_block (Below.heap_setCell _ _ _ _ E)).trans (World.cell?_of_block (Below.heap_setCell _ _ _ _ H))
theorem Xr (E:z.block≠p.block):(Uv p q x y b false W).cell? z=W.cell? z/\(Uv p q x y b false W).frozen? z=W.frozen? z:=by
 cases b
 . exact⟨rfl,rfl⟩
 . exact⟨World.cell?_of_block (Below.heap_setCell _ _ _ _ E),World.frozen?_of_block (Below.heap_setCell _ _ _ _ E)⟩
theorem GZ {a:Ef} {A:List Int} (w:Ee) (ha:aA w a A) (nA:A.length<=zP) (d0:1<=d) (d1:d<4294967296) :
  Ed Ec 161 #[a,Ey Eu d] w fun e w'=>∃q,e = Eh (.tuple #[q,Ey Eu (zo A%d)])/\aA w' q (zp (zo A / d))/\zf w w':=by
 obtain⟨aa,ca,rfl⟩:=ha.ak;obtain⟨oa,-,la,fa⟩:=ha.cells;obtain⟨len,aY⟩:∃n,A.length=n:=⟨_,rfl⟩;have HA:=E6 ha;rw[aY]at la fa nA|-;have co:=xT len (by unfold zP at nA; omega);have be:Fence.wide.round=none:=rfl;refine(callsIn_wide (n:=3)).1 ?_;refine callsIn_of_wp_marks Tryz.func161 rfl trivial ?_ be;simp only[Tryz.ntmps161,List.size_toArray,List.length_cons,List.length_nil,Nat.reduceAdd,Nat.reduceSub,Array.replicate_succ,Array.replicate_zero,List.push_toArray,List.append_toArray,List.nil_append,List.cons_append]
 gi_wp2_with (refine⟨trivial,?_⟩; gi_at_call 166; refine(XS Fence.wide 2 trivial be _ _ _ _).mono ?_; rintro e w' ⟨rfl,rfl⟩)
 have b1:=Boxed.new w 172 (Ey Eu d)
 have b2:ai ((w.alloc (.cells #[Ey Eu d] 172)).alloc (.cells (madeCells #[Ey Eu 0] len) 172)) (w.heap.size+1) 172 (zI (List.replicate len 0)).toArray:=by
  have:=ai.dZ w (.cells #[Ey Eu d] 172) 172 (madeCells #[Ey Eu 0] len);rw[yH]at this|-;exact this
 have b3:=Boxed.new ((w.alloc (.cells #[Ey Eu d] 172)).alloc (.cells (madeCells #[Ey Eu 0] len) 172)) 24 (Ex (some ⟨w.heap.size+1,0,none⟩) len len);have b4:=Boxed.new (((w.alloc (.cells #[Ey Eu d] 172)).alloc (.cells (madeCells #[Ey Eu 0] len) 172)).alloc (.cells #[Ex (some ⟨w.heap.size+1,0,none⟩) len len] 24)) 172 (Ey Eu 0);have b5:=Boxed.new ((((w.alloc (.cells #[Ey Eu d] 172)).alloc (.cells (madeCells #[Ey Eu 0] len) 172)).alloc (.cells #[Ex (some ⟨w.heap.size+1,0,none⟩) len len] 24)).alloc (.cells #[Ey Eu 0] 172)) 24 (Ex aa len ca);simp only[Es]at b3 b4 b5;have bg:Below w.heap.size w (((((w.alloc (.cells #[Ey Eu d] 172)).alloc (.cells (madeCells #[Ey Eu 0] len) 172)).alloc (.cells #[Ex (some ⟨w.heap.size+1,0,none⟩) len len] 24)).alloc (.cells #[Ey Eu 0] 172)).alloc (.cells #[Ex aa len ca] 24)):=(((((Et _ w).alloc (Eo _) _).alloc D8 _).alloc (by simp; omega) _).alloc (by simp; omega) _).alloc (by simp; omega) _
 have bh:0<len->∃b o,aa=some ⟨b,o,none⟩/\b<w.heap.size/\Cells (((((w.alloc (.cells #[Ey Eu d] 172)).alloc (.cells (madeCells #[Ey Eu 0] len) 172)).alloc (.cells #[Ex (some ⟨w.heap.size+1,0,none⟩) len len] 24)).alloc (.cells #[Ey Eu 0] 172)).alloc (.cells #[Ex aa len ca] 24)) b o A:=fun h=>by
  obtain⟨b,o,e,hb,hc⟩:=fa h;exact⟨b,o,e,hb,hc.below bg hb⟩
 have SO:=fun pre=>Uu (n:=len) d0 d1 oa pre
 refine wpIn_rangeFunc_ownG be (show 1<=3 by omega) (gf:=191) (lb:=#[Ek (some ⟨w.heap.size+1+1+1+1,0,none⟩)]) rfl trivial (enters_of Tryz.func191 D6 rfl)
  (ZV Fence.wide 2 trivial be D5 (w.heap.size+1+1+1+1) w.heap.size aa ca len A aY nA _ D8 (by simp; omega) b5.cell bh) KD.trans (GY (by simp; omega) D8) (Et _ _) (fun _=>rfl)
  (fun(pre:List (Fin len)) W=>(ai W (w.heap.size+1) 172 (zI (vH d A len pre).1).toArray/\W.cell? ⟨w.heap.size,0,none⟩=some (Ey Eu d)/\W.cell? ⟨w.heap.size+1+1,0,none⟩=some (Ex (some ⟨w.heap.size+1,0,none⟩) len len)/\W.cell? ⟨w.heap.size+1+1+1,0,none⟩=some (Ey Eu (vH d A len pre).2)/\W.frozen? ⟨w.heap.size+1+1+1,0,none⟩=false)/\Below w.heap.size w W)
  (fun _ _ _=>False)
  (OwnFrom.and (Own.from (fun s A B row H hg Y=>⟨yi H.1 hg Y,cell_kept H.2.1 hg Y,cell_kept H.2.2.1 hg Y,cell_kept H.2.2.2.1 hg Y,(frozen_kept H.2.2.2.1 hg Y).trans H.2.2.2.2⟩) _) (ownFrom_below (Eo _) (by simp; omega)))
  (fun _ _ _ _ _ H _ _=>H)
  ⟨⟨((b2.alloc _).alloc _).alloc _,(((((b1.alloc _).alloc _).alloc _).alloc _)).cell,((b3.alloc _).alloc _).cell,(b4.alloc _).cell,(b4.alloc _).frozen⟩,bg⟩
  (fun x=>{ tmps:=#[Ex aa len ca,Ey Eu d,Em,Ek (some ⟨w.heap.size,0,none⟩),Ex none 0 0,Ey Eu 0,Ek (some ⟨w.heap.size+1+1,0,none⟩),Ek (some ⟨w.heap.size+1+1+1,0,none⟩),Ey Ew ((x:Nat):Int),Ey Eu (A.getD x 0),Ex aa len ca,Ey Ew len,Ex (some ⟨w.heap.size+1,0,none⟩) len len,Ex aa len ca,.func (.func 191) #[] #[Ek (some ⟨w.heap.size+1+1+1+1,0,none⟩)],Ey Ew ((x:Nat):Int),Ey Eu (A.getD x 0),Em,Em,Em,Em,Em,Em,Em,Em,Em,Em,Em,Em,Em],defers:= [] }) ?assign ?body ?done ?stop
 case assign=>
  intro l x W K M;dsimp only[QB];obtain⟨u,hu⟩:∃u,A.getD (x:Nat) 0=u:=⟨_,rfl⟩;simp only[hu]at M|-;clear hu
  gi_wp2
  exact M
 case body=>
  rintro l pre x W ⟨⟨hb,bi,b9,E,bt⟩,hB⟩ _;obtain⟨i,hi⟩:=x;have X:=SO pre;obtain⟨u,hu⟩:∃u,A.getD i 0=u:=⟨_,rfl⟩;obtain⟨r,Y⟩:∃r,(vH d A len pre).2=r:=⟨_,rfl⟩;have u0:=zG oa i;rw[hu]at u0;rw[Y]at E X;have r0:=X.2.2.1;have r1:=X.2.2.2;have ci:W.cell? ⟨w.heap.size+1,i,none⟩=some (Ey Eu ((vH d A len pre).1.getD i 0)):=hb.c _ (by simpa using qj (vH d A len pre).1 i D5);obtain⟨v,hv⟩:∃v,(vH d A len pre).1.getD i 0=v:=⟨_,rfl⟩;rw[hv]at ci;have d9:W.frozen? ⟨w.heap.size+1,i,none⟩=false:=hb.fr _
  have z1:w.heap.size+1+1+1<W.heap.size:=by
   rcases Ep (w.heap.size+1+1+1) W.heap.size with h | h
   . exact h
   . simp[World.cell?,Array.getElem?_eq_none h]at E
  have HH:=E6 (E7 hb (E7 hu Y));dsimp only;rw[hu];clear hb hu Y hv bh fa b1 b2 b3 b4 b5 bg co X
  gi_wp2_with fail
  refine jx (fun D _ Z=>∃m,Z=(Uv ⟨w.heap.size+1,i,none⟩ ⟨w.heap.size+1+1+1,0,none⟩ (Ey Eu ((r*4294967296+u) / d)) (Ey Eu ((r*4294967296+u)%d)) (D 10) (D 11) W).drewN m)
   (aj.inl [5,10,11]) (aj.ge [(5,.tuple #[Ey Eu ((r*4294967296+u) / d),Ey Eu ((r*4294967296+u)%d)])]) aj.aR (fun _=>aj.Any) (fun _ _=>False) (aj.pl []) (aj.pl [(2,[11]),(10,[11])])
   D6 D6 D6 D6 (aj.cH _) (fun v=> ?_) (fun _ _ _ _ _ h=>h) (fun _ _ _ _ _ _ _ _ _ _ _ _ _=>aj.none_) (fun _ _ _ _ h=>h.elim) (fun cn Q' cg hQ=> ?_)
  . exact⟨1,rfl⟩
  apply aj.RP rfl rfl rfl 18 rfl rfl
  .
   intro D v' Z hc T hf K M;obtain⟨m,rfl⟩:=T;have c1:=(KA (p:=⟨w.heap.size+1,i,none⟩) (q:=⟨w.heap.size+1+1+1,0,none⟩) (x:= Ey Eu ((r*4294967296+u) / d)) (y:= Ey Eu ((r*4294967296+u)%d)) (b:=D 10) (c:=D 11) (W:=W) (z:=⟨w.heap.size+1+1,0,none⟩) (by dsimp only; omega) (by dsimp only; omega));rw[b9]at c1;go_step;exact M.out
  . rfl
  refine aj.aD 19 ?_;apply aj.RP rfl rfl rfl 20 rfl rfl
  .
   intro D v' Z hc T hf K M;obtain⟨m,rfl⟩:=T;have H:D 11=false:=hc.2 11 D7;have c1:(Uv ⟨w.heap.size+1,i,none⟩ ⟨w.heap.size+1+1+1,0,none⟩ (Ey Eu ((r*4294967296+u) / d)) (Ey Eu ((r*4294967296+u)%d)) (D 10) (D 11) W).cell? ⟨w.heap.size+1+1+1,0,none⟩=some (Ey Eu r):=by rw[H]; exact(Xr (by dsimp only; omega)).1.trans E
   clear H;go_step;exact M.out
  . rfl
  refine aj.aD 21 ?_;apply aj.RP rfl rfl rfl 22 rfl rfl
  .
   intro D v' Z hc T hf K M;obtain⟨m,rfl⟩:=T;have c1:=(KA (p:=⟨w.heap.size+1,i,none⟩) (q:=⟨w.heap.size+1+1+1,0,none⟩) (x:= Ey Eu ((r*4294967296+u) / d)) (y:= Ey Eu ((r*4294967296+u)%d)) (b:=D 10) (c:=D 11) (W:=W) (z:=⟨w.heap.size,0,none⟩) (by dsimp only; omega) (by dsimp only; omega));rw[bi]at c1;go_step;exact M.out
  . rfl
  refine aj.eK _ (fun _ h=>h) rfl (by intro t ht; cases ht; exact Eb rfl) rfl (fun D v' Z hc T hf K M=> ?_) (aj.aB (b:=⟨#[_,_,_,_,_,_,_,_,_,_,_,_,_,_,_,_,_,_,_,_,_,_,_,_,_,_,_,_,_,_],[]⟩) rfl ?_)
  .
   obtain⟨m,rfl⟩:=T;go_step;refine(H_ r u d _ r0 r1 u0 d1).mono ?_;rintro e W2 ⟨rfl,n2,rfl⟩;exact M.out _ _ aj.any ⟨m+n2,by rw[World.drewN_drewN]; rfl⟩ aj.none_ rfl
  repeat refine aj.aD _ ?_
  refine aj.dL (fun D v' Z hc T hf K M=> ?_) (fun _ _=>aj.aB (b:=⟨_,[]⟩) rfl ?_)
  .
   obtain⟨m,rfl⟩:=T;have H:D 10=false:=hc.1;have cx:D 11=false:=hc.2 11 D7;rw[H,cx];have c1:((Uv ⟨w.heap.size+1,i,none⟩ ⟨w.heap.size+1+1+1,0,none⟩ (Ey Eu ((r*4294967296+u) / d)) (Ey Eu ((r*4294967296+u)%d)) false false W).drewN m).cell? ⟨w.heap.size+1,i,none⟩=_:=ci;have c2:((Uv ⟨w.heap.size+1,i,none⟩ ⟨w.heap.size+1+1+1,0,none⟩ (Ey Eu ((r*4294967296+u) / d)) (Ey Eu ((r*4294967296+u)%d)) false false W).drewN m).frozen? ⟨w.heap.size+1,i,none⟩=_:=d9;go_step;exact M.out Em _ aj.any ⟨m,by show _=(Uv ⟨w.heap.size+1,i,none⟩ ⟨w.heap.size+1+1+1,0,none⟩ (Ey Eu ((r*4294967296+u) / d)) (Ey Eu ((r*4294967296+u)%d)) true (D 11) W).drewN m; rw[cx]; rfl⟩ aj.none_ trivial
  refine aj.dL (fun D v' Z hc T hf K M=> ?_) (fun _ _=>aj.aB (b:=⟨_,[]⟩) rfl ?_)
  .
   obtain⟨m,rfl⟩:=T;have H:D 11=false:=hc.1;rw[H];have c0:=Xr (p:=⟨w.heap.size+1,i,none⟩) (q:=⟨w.heap.size+1+1+1,0,none⟩) (x:= Ey Eu ((r*4294967296+u) / d)) (y:= Ey Eu ((r*4294967296+u)%d)) (b:=D 10) (W:=W) (z:=⟨w.heap.size+1+1+1,0,none⟩) (by dsimp only; omega);have c1:((Uv ⟨w.heap.size+1,i,none⟩ ⟨w.heap.size+1+1+1,0,none⟩ (Ey Eu ((r*4294967296+u) / d)) (Ey Eu ((r*4294967296+u)%d)) (D 10) false W).drewN m).cell? ⟨w.heap.size+1+1+1,0,none⟩=_:=c0.1.trans E;have c2:((Uv ⟨w.heap.size+1,i,none⟩ ⟨w.heap.size+1+1+1,0,none⟩ (Ey Eu ((r*4294967296+u) / d)) (Ey Eu ((r*4294967296+u)%d)) (D 10) false W).drewN m).frozen? ⟨w.heap.size+1+1+1,0,none⟩=_:=c0.2.trans bt;go_step;exact M.out Em _ aj.any ⟨m,rfl⟩ aj.none_ trivial
  refine aj.aF (fun D v' Z hd T hf=> ?_);obtain⟨m,I⟩:=T;rw[hd 10 D7,hd 11 D7]at I;replace I:Z=((W.setCell ⟨w.heap.size+1,i,none⟩ (Ey Eu ((r*4294967296+u) / d))).setCell ⟨w.heap.size+1+1+1,0,none⟩ (Ey Eu ((r*4294967296+u)%d))).drewN m:=I;clear hd hf;refine hQ _ _ ?_;clear hQ cg Q' cn
  gi_wp2
  have dc:=(SO pre).1;have SN:=Yz d A len pre ⟨i,hi⟩;have dk:=HH.out.1
  have k1:KeepsOthers W Z:=by
   rw[I];have k0:KeepsOthers W ((W.setCell ⟨w.heap.size+1,i,none⟩ (Ey Eu ((r*4294967296+u) / d))).setCell ⟨w.heap.size+1+1+1,0,none⟩ (Ey Eu ((r*4294967296+u)%d))):=(KeepsOthers.setCell W ⟨w.heap.size+1,i,none⟩ (Ey Eu ((r*4294967296+u) / d))).trans (KeepsOthers.setCell _ ⟨w.heap.size+1+1+1,0,none⟩ (Ey Eu ((r*4294967296+u)%d)));exact⟨k0.size,k0.same⟩
  have k3:∀k,k≠w.heap.size+1->k≠w.heap.size+1+1+1->Z.heap[k]? = W.heap[k]? :=fun k h1 h2=>by
   rw[I];exact(Below.heap_setCell _ _ _ _ h2).trans (Below.heap_setCell _ _ _ _ h1)
  have k2:KD w.heap.size (w.heap.size+1+1+1+1) W Z:=by
   refine⟨?_,k3 _ D5 D5⟩;rw[I];exact yX (((Et w.heap.size W).setCell (p:=⟨w.heap.size+1,i,none⟩) (Nat.le_succ _) _).setCell (p:=⟨w.heap.size+1+1+1,0,none⟩) (show w.heap.size<=w.heap.size+1+1+1 by omega) _) m
  refine⟨k1.from _,k2,⟨?_,?_,?_,?_,?_⟩,hB.trans k2.1⟩
  .
   rw[SN];have cN:=dk.bL i (Ey Eu ((r*4294967296+u) / d));have br:=(cN.aH (b:=w.heap.size+1+1+1) (i:=0) (u:= Ey Eu ((r*4294967296+u)%d)) D5).drewN m;rw[<- I]at br;dsimp only[j'];rw[HH.out.2.1,HH.out.2.2];rw[show (zI (vH d A len pre).1).toArray.setIfInBounds i (Ey Eu ((r*4294967296+u) / d))=(zI ((vH d A len pre).1.set i ((r*4294967296+u) / d))).toArray by simp[zI,List.map_set]]at br;exact br
  . exact(World.cell?_of_block (a:=⟨w.heap.size,0,none⟩) (k3 w.heap.size D5 D5)).trans bi
  . exact(World.cell?_of_block (a:=⟨w.heap.size+1+1,0,none⟩) (k3 (w.heap.size+1+1) D5 D5)).trans b9
  .
   rw[SN,I];dsimp only[j'];rw[HH.out.2.1,HH.out.2.2];exact World.cell?_setCell_same' _ _ _ (by rw[show (W.setCell ⟨w.heap.size+1,i,none⟩ (Ey Eu ((r*4294967296+u) / d))).cell? ⟨w.heap.size+1+1+1,0,none⟩=W.cell? ⟨w.heap.size+1+1+1,0,none⟩ from World.cell?_of_block (Below.heap_setCell _ _ _ _ (by dsimp only; omega)),E]; rfl)
  .
   rw[I]
   show ((W.setCell ⟨w.heap.size+1,i,none⟩ (Ey Eu ((r*4294967296+u) / d))).setCell ⟨w.heap.size+1+1+1,0,none⟩ (Ey Eu ((r*4294967296+u)%d))).frozen? ⟨w.heap.size+1+1+1,0,none⟩=false
   rw[World.frozen?_setCell,World.frozen?_setCell];exact bt
 case done=>
  rintro D ys W hD rfl ⟨⟨hb,bi,b9,E,bt⟩,hB⟩ M;have cU:D<W.heap.size:=(Array.getElem?_eq_some_iff.1 M).1;obtain⟨qs,f1,f2,f3⟩:=Xq (d:=d) aY d0 len (Eo _);rw[Nat.sub_self,List.replicate_zero,List.nil_append]at f1;rw[Nat.sub_self,List.drop_zero]at f3;have X:=SO (yU len len (Eo _));obtain⟨r,Y⟩:∃r,(vH d A len (yU len len (Eo _))).2=r:=⟨_,rfl⟩;rw[Y]at E f3 X;rw[f1]at hb X;have QR:=jU f3 X.2.2.1 X.2.2.2
  have LQ:aA W (Ex (some ⟨w.heap.size+1,0,none⟩) len len) qs:=by
   have:=aA.a_ hb X.2.1;rw[f2]at this;exact this
  have HQ:=E6 (E7 QR (E7 X.2.1 f2));have HB:=E6 hB;have HK:=E6 M;have lq:qs.length<=zP:=D5
  have z1:w.heap.size+1+1+1<W.heap.size:=by
   rcases Ep (w.heap.size+1+1+1) W.heap.size with h | h
   . exact h
   . simp[World.cell?,Array.getElem?_eq_none h]at E
  clear hb Y f1 f3 X QR hB M bh fa b1 b2 b3 b4 b5 bg co SO
  gi_wp2_with fail
  refine wpIn_wide.2 ?_;go_wp2_with fail
  go_region_held3 (fun w'=>w'.cell? ⟨w.heap.size+1+1,0,none⟩=some (Ex (some ⟨w.heap.size+1,0,none⟩) len len)/\w'.cell? ⟨w.heap.size+1+1+1,0,none⟩=some (Ey Eu r))
   (first | exact⟨b9,E⟩ | exact⟨cy,ce⟩)
   (first
    | ((go_at_call 133; refine(Xk _ (show aA W.drew _ _ from LQ) lq).mono ?_; rintro e wv ⟨v,rfl,hv,H⟩; go_must (have cy:=(H.cell (p:=⟨w.heap.size+1+1,0,none⟩) (show w.heap.size+1+1<W.heap.size by omega)).trans b9; have ce:=(H.cell (p:=⟨w.heap.size+1+1+1,0,none⟩) (show w.heap.size+1+1+1<W.heap.size by omega)).trans E))))
  go_wp2
  gi_wp2
  have bl:wv.heap[D]? = some (.deferred (some [])):=(H.block D cU).trans HK.out;refine⟨by simp,.inl ⟨_,_,rfl,run_takeDeferred bl,?_⟩⟩;refine⟨.tuple #[v,Ey Eu r],?_,v,?_,?_,?_⟩
  . simp[results,Tryz.f161,go_sem]
  . rw[HQ.out.1.2]
  .
   rw[HQ.out.1.1,yt HQ.out.2.1];exact kz hv (grownBy_putObj' _ D (.deferred none)) (fun r e=>by cases e; exact⟨_,bl,rfl⟩)
  . exact(zt (W:=W.drew) HB.out.drew (Eo _) H).trans (belowK_b (w:=w) (Eo _) _ D _ _ (by simp at hD; omega) bl rfl rfl)
 case stop=>
  rintro D c pre W _ _ h _;exact h.elim
end
end Go.Proofs.YtffmbepfbienaaaGreat
