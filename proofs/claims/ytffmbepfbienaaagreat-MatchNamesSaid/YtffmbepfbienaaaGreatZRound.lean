import Derived.Test.YtffmbepfbienaaaGreatZNa
import Derived.Laws.Cover3
import Derived.RangeFuncNested
import Derived.OwnWalkIn
import Derived.TacticsInMore
import Derived.LoopNIn
import Derived.LoopIn
set_option linter.unusedVariables false
set_option linter.unusedSimpArgs false
set_option maxHeartbeats 6400000
set_option maxRecDepth 1000000
open Go.Value renaming slice->Cq,int->Cz,pointer->Cj
open Go.IntKind renaming i64->Cv,u32->Cw
open Go.Ending renaming returned->Cg
open Go.Proofs.Tryz renaming prog->Ch
open Go renaming Calls->Cb,World->Cc,Value->Cd,undef->Cf
open Nat renaming le_refl->Cl,lt_or_ge->Cm
open Go.World renaming size_alloc->Co
open Go.RowKit.Below renaming refl->Cp
namespace Go.Proofs.YtffmbepfbienaaaGreat
open Go.RowKit
variable {s:Nat} {a:Cd}
theorem qH {P:Program} (w:Cc) (t e:TypeId) (a:Option Addr) (l c:Nat) (h:P.underlying t=some (.slice e)):(binOp .eql t (Cq a l c) (Cq none 0 0)).run P w = .ok (.bool a.isNone) w:=by
 simp only[binOp];simp[run_equal_slice_nil w t e a l c h]
theorem jx {a b:Int} (H:0<=a) (M:0<=b) (I:b<((2^s:Nat):Int)) (E:a*((2^s:Nat):Int)+b<18446744073709551616):bits .or .u64 (a*((2^s:Nat):Int)) b=a*((2^s:Nat):Int)+b:=by
 obtain⟨n,rfl⟩:=Int.eq_ofNat_of_zero_le H;obtain⟨m,rfl⟩:=Int.eq_ofNat_of_zero_le M;rw[<- Int.natCast_mul]at E|-;rw[bits_or_u64_nat _ _ B_ B_];have h:=Nat.shiftLeft_add_eq_or_of_lt (i:=s) (b:=m) B_ n;rw[Nat.shiftLeft_eq]at h;rw[<- h];omega
theorem Zr (a b:Int):bits .or .u64 a b=bits .or .u64 b a:=by
 show IntKind.u64.wrap (((BitVec.ofInt 64 a ||| BitVec.ofInt 64 b).toNat:Nat):Int)=IntKind.u64.wrap (((BitVec.ofInt 64 b ||| BitVec.ofInt 64 a).toNat:Nat):Int)
 rw[BitVec.or_comm]
theorem Ge (h l y:Int) (w:Cc) (h0:0<=h) (h1:h<y) (H:0<=l/\l<4294967296) (y0:y<4294967296) :
  Cb Ch 186 #[Cz Cw h,Cz Cw l,Cz Cw y] w fun e X=>e = Cg (.tuple #[Cz Cw ((h*4294967296+l) / y),Cz Cw ((h*4294967296+l)%y)])/\∃n,X=w.drewN n:=by
 have E:bits .or .u64 (h*4294967296) l=h*4294967296+l:=jx (s:=32) h0 H.1 (by simpa using H.2) (by simp; omega);obtain⟨t,ht⟩:∃t,h*4294967296+l=t:=⟨_,rfl⟩;have I:0<=t/\t<y*4294967296:=B_
 have q0:0<=t / y:=Int.ediv_nonneg I.1 B_;have q1:t / y<4294967296:=Int.ediv_lt_of_lt_mul B_ (by rw[Int.mul_comm]; exact I.2);have M:=Int.emod_nonneg t (show y≠0 by omega);have m1:=Int.emod_lt_of_pos t (show 0<y by omega);have Y:t / y%4294967296=t / y:=Int.emod_eq_of_lt q0 q1;have T:t%y%4294967296=t%y:=Int.emod_eq_of_lt M B_;have yz:(y==0)=false:=by simp; omega
 rw[ht]at E|-;clear ht;have Z:t<18446744073709551616:=B_
 go_enter Tryz.func186,Tryz.ntmps186
 go_wp2
 go_quiet (fail)
 go_wp2
 go_returns
 exact⟨by first | rfl | (rw[Y,T]),_,rfl⟩
theorem Zs {l:List Int} (w:Cc) (M:aA w a l) (nl:l.length<=aE) :
  Cb Ch 134 #[a] w fun e E=>∃v,e = Cg v/\E.ownsRow w.heap.size 172 1 v l.length (zH l)/\aA E v l/\zf w E:=by
 obtain⟨i0,hi,Y,bg,bf⟩:=info_parts vw;have ok:=M.ok;obtain⟨ao,ca,rfl⟩:=M.au;unfold aE at nl;obtain⟨h0,bl,bi,e,h1,Z,h2⟩:=id M
 injection e with e1 e2 e3
 subst e1 e3;clear h2 e2
 rcases Option.eq_none_or_eq_some ao with I | ⟨ad,rfl⟩
 .
  have hc:ca=0:=Z I;have hl:l = []:=List.eq_nil_of_length_eq_zero B_;subst hl;obtain⟨b,hb⟩:∃b,ao.isNone=b:=⟨_,rfl⟩;have bh:b=true:=by rw[<- hb,I]; rfl
  subst bh;have be:∀E,(binOp .eql 24 (Cq ao 0 ca) (Cq none 0 0)).run Ch E = .ok (.bool true) E:=fun E=>by rw[qH E _ _ _ _ _ Tryz.underlying24,hb]
  clear M I Z hb h1 hc;simp only[List.length_nil]
  go_enter Tryz.func134,Tryz.ntmps134
  go_wp2
  go_returns
  exact⟨_,rfl,World.ownsRow_nil _ _ _ _,aA.nil _,Cp _ _⟩
 .
  clear h0 h1 Z;have HA:=C5 (M.ae ((Cp _ _).alloc (Cl _) (.cells #[] 172)));obtain⟨n,X⟩:∃n,l.length=n:=⟨_,rfl⟩;have HN:=C5 X;rw[X]at nl HA|-;clear M X;have be:∀E,(binOp .eql 24 (Cq (some ad) n ca) (Cq none 0 0)).run Ch E = .ok (.bool false) E:=fun E=>qH E _ _ _ _ _ Tryz.underlying24
  go_enter Tryz.func134,Tryz.ntmps134
  go_wp2_with (at_builtin; refine z' rfl (.tmp 5) (.tmp 6) 24 rfl w.heap.size 172 i0 Tryz.underlying24 hi Y bg bf _ 0 [] rfl (World.ownsRow_made w #[] 0 (Cl _) (Nat.zero_le _) rfl) _ l rfl HA.out (by have:=HN.out; omega) C4 ?_)
  intro v' w1 H hg T
  try simp only[HN.out,Nat.zero_add,List.nil_append]at H
  have hL:=aA.own H ok
  go_wp2
  go_returns
  exact⟨_,rfl,H,hL,((Cp _ _).alloc (Cl _) _).grown hg C4 T⟩
theorem Gf (x:Int) (w:Cc) (H:0<=x) (I:x<4294967296) :
  Cb Ch 187 #[Cz Cw x] w fun e E=>e = Cg (Cz Cv (bitLen x.toNat))/\w=E:=by
 go_enter Tryz.func187,Tryz.ntmps187
 go_wp2
 all_goals go_ret
 all_goals refine⟨yT ?_,rfl⟩
 all_goals simp only[Array.getD_eq_getD_getElem?,List.getElem?_toArray,List.getElem?_cons_succ,List.getElem?_cons_zero,Option.getD_some,len8tab_get]
 all_goals first
  | exact kP x _ 24 B_ B_ B_ B_
  | exact kP x _ 16 B_ B_ B_ B_
  | exact kP x _ 8 B_ B_ B_ B_
  | exact Qa x B_
theorem JL (n:Nat) (h:0<n):2^(bitLen n-1)<=n/\n<2^bitLen n:=by
 unfold bitLen;rw[C8 B_]
 constructor
 . rw[Nat.add_sub_cancel]; exact Nat.log2_self_le B_
 . exact Nat.lt_log2_self
theorem Ha (x:Int) (w:Cc) (M:0<x) (hx:x<4294967296) :
  Cb Ch 162 #[Cz Cw x] w fun e Y=>∃s:Nat,e = Cg (Cz Cv s)/\s<=31/\2147483648<=x*((2^s:Nat):Int)/\x*((2^s:Nat):Int)<4294967296/\w=Y:=by
 obtain⟨n,rfl⟩:=Int.eq_ofNat_of_zero_le (Int.le_of_lt M);have I:=JL n B_
 have T:bitLen n<=32:=by
  rcases Cm 32 (bitLen n)with h | h
  .
   have:=Nat.pow_le_pow_right (show 0<2 by omega) (show 32<=bitLen n-1 by omega);omega
  . exact h
 have l1:1<=bitLen n:=by
  rcases Nat.eq_zero_or_pos (bitLen n)with h | h
  . rw[h]at I; omega
  . exact h
 obtain⟨b,E⟩:∃b,bitLen n=b:=⟨_,rfl⟩;have L:=Gf n w B_ hx;rw[Int.toNat_natCast,E]at L;rw[E]at I T l1
 have e1:n*2^(32-b)<4294967296:=by
  have H:=Nat.mul_lt_mul_of_pos_right I.2 (show 0<2^(32-b) from Nat.two_pow_pos _);rw[<- Nat.pow_add,show b+(32-b)=32 by omega]at H;exact H
 have X:2147483648<=n*2^(32-b):=by
  have H:=Nat.mul_le_mul_right (2^(32-b)) I.1;rw[<- Nat.pow_add,show b-1+(32-b)=31 by omega]at H;exact H
 have Z:=C5 (C6 e1 X);clear I E e1 X
 go_enter Tryz.func162,Tryz.ntmps162
 go_wp2_with (go_at_call 187; refine L.mono ?_; rintro e Y ⟨rfl,rfl⟩)
 go_ret
 refine⟨32-b,yT ?_,by omega,?_,?_,rfl⟩
 . omega
 . rw[<- Int.natCast_mul]; have:=Z.out.2; omega
 . rw[<- Int.natCast_mul]; have:=Z.out.1; omega
theorem UV {A:List Int} (w:Cc) (ha:aA w a A) (nA:A.length<=aE) (hs:s<=31) :
  Cb Ch 163 #[a,Cz Cv s] w fun e w'=>∃v l,e = Cg v/\aA w' v l/\zj l=zj A*(2^s:Nat)/\l.length=A.length+1/\w'.ownsRow w.heap.size 172 1 v (A.length+1) (zH l)/\zf w w':=by
 obtain⟨i0,hi,bf,bg,bh⟩:=info_parts vw;obtain⟨aa,ca,rfl⟩:=ha.au;obtain⟨oa,-,la,fa⟩:=ha.cells;clear ha;unfold aE at nA;obtain⟨n,hn⟩:∃n,A.length=n:=⟨_,rfl⟩;have H:Hid (A.length=n):=hn;rw[hn]at fa la nA;rw[hn];clear hn;obtain⟨P,hP⟩:∃P,((2^s:Nat):Int)=P:=⟨_,rfl⟩;have P0:1<=P:=by have:=Nat.one_le_two_pow (n:=s); omega
 have P1:P<=2147483648:=by have:=Nat.pow_le_pow_right (show 0<2 by omega) hs; simp at this; omega
 have HP:Hid (((2^s:Nat):Int)=P):=hP;clear hP;have hq:(s:Int).tdiv 32=0:=Int.tdiv_eq_zero_of_lt B_ B_;have hr:(s:Int).tmod 32=s:=Int.tmod_eq_of_lt B_ B_;have ce:(s:Int) / 32=0:=B_
 have ci:(s:Int)%32=s:=B_
 go_enter Tryz.func163,Tryz.ntmps163
 go_wp2_with (at_make; refine wpList_make_own _ rfl _ _ 24 rfl w.heap.size 172 i0 (Cz Cw 0) 1 Tryz.underlying24 hi bf bg _ _ _ (n+1) rfl rfl B_ ?b2 ?b3 (Cl _) ?_)
 case b2=>rw[bh]; omega
 case b3=>unfold maxLen; omega
 intro w0 T I;have B0:Below w.heap.size w w0:=(Cp _ _).grown I (Cl _) (fun k h=>by cases h)
 go_wp2
 go_loopw [5,6,8,20] (fun o c x i wr=>∃ (k:Nat) (xs:List Int) (M:Int),k<=n/\i = Cz Cv k/\c = Cz .u64 M/\0<=M/\M<P/\xs.length=k/\yn xs/\zj xs+bp k*M=zj (A.take k)*P/\
   wr.ownsRow w.heap.size 172 1 o k (zH xs)/\Below w.heap.size w wr) (fun _ _ _ i _=>(n-(intOf i).toNat))
 case atStart=>exact⟨0,[],0,Nat.zero_le _,rfl,rfl,by omega,by omega,rfl,z4,by simp[zj],T,B0⟩
 case round=>
  obtain⟨k,xs,M,hk,rfl,rfl,c0,c1,hl,bi,hv,Y,X⟩:=hrel;have Z:=X.size;have HV:Hid (xs.length=k/\yn xs/\zj xs+bp k*M=zj (A.take k)*P):=⟨hl,bi,hv⟩;clear hl bi hv T I B0
  rcases Cm k n with h1 | h1
  .
   obtain⟨u,hu⟩:∃u,A.getD k 0=u:=⟨_,rfl⟩;have u0:=zF oa k;rw[hu]at u0;have HU:Hid (A.getD k 0=u):=hu;obtain⟨ba,br,rfl,bq,bl⟩:=fa B_;have g1:=(X.cell (p:=⟨ba,br+k,none⟩) bq).trans (bl k (by rw[H.out]; omega));rw[hu]at g1;obtain⟨t,ht⟩:∃t,u*P=t:=⟨_,rfl⟩
   have t0:0<=t/\t<=4294967295*P:=by
    rw[<- ht];exact⟨Int.mul_nonneg u0.1 B_,Int.mul_le_mul_of_nonneg_right B_ B_⟩
   have hw:IntKind.u64.wrap (u*2^s)=t:=by
    have e:u*2^s=t:=by rw[<- ht,<- HP.out]; simp
    rw[e,wrap_u64 B_ B_]
   have cg:bits BinOp.or IntKind.u64 M t=M+t:=by
    rw[Zr,<- ht,<- HP.out,jx u0.1 c0 (by rw[HP.out]; exact c1) (by rw[HP.out,ht]; omega)];omega
   have HT:Hid (u*P=t):=ht;clear bl fa hu ht
   go_wp2_with (at_builtin; refine z' rfl (.tmp 31) (.tmp 34) 24 rfl w.heap.size 172 i0 Tryz.underlying24 hi bf bg bh _ k xs rfl (Y.alloc _) _ [_] rfl (aA.one B_ B_) (by simp; omega) C4 ?_)
   intro v' w1 E hg be
   go_wp2
   go_roundw
   case rel=>
    have S:=Yg (s:=M+t) HV.out.1 HV.out.2.2 (by rw[HU.out,HT.out]);exact⟨k+1,xs ++ [(M+t)%4294967296],(M+t) / 4294967296,by omega,by go_num,by go_num,by omega,by omega,by rw[List.length_append,HV.out.1]; rfl,zO HV.out.2.1 B_ B_,S,E,(X.alloc Z _).grown hg C4 be⟩
   case measure=>simp[intOf]; omega
  .
   clear fa
   go_wp2_with (at_builtin; refine z' rfl (.tmp 39) (.tmp 42) 24 rfl w.heap.size 172 i0 Tryz.underlying24 hi bf bg bh _ k xs rfl (Y.alloc _) _ [_] rfl (aA.one B_ B_) (by simp; omega) C4 ?_)
   intro v' w1 E hg be
   go_wp2
   go_returns
   have bt:k=n:=B_
   subst bt;have hB:Below w.heap.size w w1:=(X.alloc Z _).grown hg C4 be;refine⟨_,xs ++ [M],rfl,aA.own E (zO HV.out.2.1 B_ B_),?_,?_,E,hB⟩
   .
    have:=HV.out.2.2;rw[List.take_of_length_le (by have:=H.out; omega)]at this;rw[yE,HV.out.1,HP.out];exact this
   . rw[List.length_append,HV.out.1]; rfl
end Go.Proofs.YtffmbepfbienaaaGreat
/- 'for i, x := range down(l)': zn from the highest one to the lowest one. -/
namespace Go.Proofs.YtffmbepfbienaaaGreat
section
open Go.RowKit Go.Shelf
attribute [local go_sem] Oper.semAt_some
def yA (n:Nat):(k:Nat)->k<=n->List (Fin n)
 | 0,_=> []
 | k+1,h=>yA n k (Nat.le_of_succ_le h) ++ [⟨n-1-k,by omega⟩]
theorem kv (n k:Nat) (h:k<=n):(yA n k h).length=k:=by
 induction k with
 | zero=>rfl
 | succ k ih=>simp[yA,ih]
theorem Kw (F:Fence) (n:Nat) (h8:F.fn 191) (bg:F.round=none) (hn:1<=n) (l Bs n₀ b off len cap:Nat) (Z:List Int) (bi:Z.length=len) (E:len<=aE) (hb:b<n₀) (J Jx:List (Fin len)->Cc->Prop)
  (hY:∀pre (x:Fin len) W,J pre W->pre.length<len->YieldAt F (n-1) Ch l #[Cz Cv ((x:Nat):Int),Cz Cw (Z.getD x 0)] W fun e M=>
   (e = Cg (.bool true)/\J (pre ++ [x]) M/\Below n₀ W M)\/(e = Cg (.bool false)/\Jx (pre ++ [x]) M))
  (W:Cc) (bf:W.cell? ⟨Bs,0,none⟩=some (Cq (some ⟨b,off,none⟩) len cap)) (be:Bs<n₀) (hc:Cells W b off Z) (h0:J [] W) :
  CallsIn F n Ch 191 #[.func (.yield l) #[] #[],Cj (some ⟨Bs,0,none⟩)] W fun e M=>(∃v,e = Cg v)/\
   ((∃ys,ys=yA len len (Cl _)/\J ys M)\/(∃pre,(∃k,∃Y:k<=len,pre=yA len k Y)/\Jx pre M)):=by
 unfold aE at E;refine callsIn_of_wp Tryz.func191 rfl h8 ?_ bg;simp only[Tryz.ntmps191,List.size_toArray,List.length_cons,List.length_nil,Nat.reduceAdd,Nat.reduceSub,Array.replicate_succ,Array.replicate_zero,List.push_toArray,List.append_toArray,List.nil_append,List.cons_append]
 gi_wp2
 gi_loopw [3] (fun i wr=>∃ (k:Nat) (Y:k<=len),i = Cz Cv ((len:Int)-1-k)/\J (yA len k Y) wr/\Below n₀ W wr)
  (fun i _=>(intOf i+1).toNat)
 case atStart=>exact⟨0,Nat.zero_le _,by go_num,h0,Cp _ _⟩
 case round=>
  obtain⟨k,Y,rfl,X,I⟩:=hrel;have bq:=(I.cell (p:=⟨Bs,0,none⟩) be).trans bf
  rcases Cm k len with H | bl
  .
   obtain⟨j,hj⟩:∃j,len-1-k=j:=⟨_,rfl⟩;have T:j<len:=B_
   have bh:=(I.cell (p:=⟨b,off+j,none⟩) hb).trans (hc j B_);obtain⟨fn,tmps,assign,body,hy,hR⟩:=hY _ ⟨j,T⟩ wr X (by rw[kv]; exact H);dsimp only at hy;obtain⟨v,hv⟩:∃v,Z.getD j 0=v:=⟨_,rfl⟩;rw[hv]at bh hy;clear hv;have hi:(len:Int)-1-k=(j:Int):=B_
   rw[hi];have HD:Hid (yA len (k+1) H=yA len k Y ++ [⟨j,T⟩]):=by subst hj; rfl
   have hm:Hid (len-1-k=j/\k<len):=⟨hj,H⟩;clear hj
   gi_wp2
   refine hR.mono ?_;rintro e W3 (⟨rfl,hJ3,hk3⟩ | ⟨rfl,hJx3⟩)
   .
    gi_wp2
    go_roundw
    case rel=>exact⟨k+1,hm.out.2,by go_num,by rw[HD.out]; exact hJ3,I.trans hk3⟩
    case measure=>simp[intOf]
   .
    gi_wp2
    refine bodyPost_ret (results_none rfl _ _ _) rfl ?_;exact⟨⟨_,rfl⟩,.inr ⟨_,⟨k+1,hm.out.2,HD.out.symm⟩,hJx3⟩⟩
  .
   obtain rfl:k=len:=B_
   gi_wp2
   go_end0
   exact⟨⟨_,rfl⟩,.inl ⟨_,rfl,X⟩⟩
theorem Xm (F:Fence) (n:Nat) (I:F.fn 191) (E:F.round=none) (l Bs:Nat) (ao:Option Addr) (cap:Nat) (J:List (Fin 0)->Cc->Prop) (W:Cc) (T:W.cell? ⟨Bs,0,none⟩=some (Cq ao 0 cap)) (h0:J [] W) :
  CallsIn F n Ch 191 #[.func (.yield l) #[] #[],Cj (some ⟨Bs,0,none⟩)] W fun e M=>(∃v,e = Cg v)/\J [] M:=by
 refine callsIn_of_wp Tryz.func191 rfl I ?_ E;simp only[Tryz.ntmps191,List.size_toArray,List.length_cons,List.length_nil,Nat.reduceAdd,Nat.reduceSub,Array.replicate_succ,Array.replicate_zero,List.push_toArray,List.append_toArray,List.nil_append,List.cons_append]
 gi_wp2
 gi_loopw [3] (fun i wr=>i = Cz Cv (-1)/\J [] wr) (fun _ _=>0)
 case atStart=>exact⟨rfl,h0⟩
 case round=>
  obtain⟨rfl,H⟩:=hrel
  gi_wp2
  go_end0
  exact⟨⟨_,rfl⟩,H⟩
theorem YK (F:Fence) (n:Nat) (I:F.fn 166) (E:F.round=none) (a:Option Addr) (len cap:Nat) (w:Cc) :
  CallsIn F n Ch 166 #[Cq a len cap] w fun e H=>e = Cg (.func (.func 191) #[] #[Cj (some ⟨w.heap.size,0,none⟩)])/\H=w.alloc (.cells #[Cq a len cap] 24):=by
 refine callsIn_of_wp Tryz.func166 rfl I ?_ E;simp only[Tryz.ntmps166,List.size_toArray,List.length_cons,List.length_nil,Nat.reduceAdd,Nat.reduceSub,Array.replicate_succ,Array.replicate_zero,List.push_toArray,List.append_toArray,List.nil_append,List.cons_append]
 gi_wp2
 go_ret
 exact⟨rfl,rfl⟩
def Xn (E:List Int) (len:Nat) (x:Fin len):Array Cd:=#[Cz Cv ((x:Nat):Int),Cz Cw (E.getD x 0)]
theorem Qi (F:Fence) (n:Nat) (h8:F.fn 191) (I:F.round=none) (hn:1<=n) (Bs n₀:Nat) (ao:Option Addr) (cap len:Nat) (T:List Int) (M:T.length=len) (E:len<=aE) (w:Cc) (Z:Bs<w.heap.size) (X:Bs<n₀) (Y:n₀<=w.heap.size)
  (hc:w.cell? ⟨Bs,0,none⟩=some (Cq ao len cap)) (hI:0<len->∃b o,ao=some ⟨b,o,none⟩/\b<n₀/\Cells w b o T) :
  SeqStopsK F n Ch 191 #[Cj (some ⟨Bs,0,none⟩)] (Xn T len) (Below n₀) (fun ys=>ys=yA len len (Cl _))
   (fun pre=>∃k,∃hk:k<=len,pre=yA len k hk) len w:=fun l J Jx W hW _ _ hY h0=>by
 have H:=(hW.cell (p:=⟨Bs,0,none⟩) Z).trans hc
 rcases Nat.eq_zero_or_pos len with h | h
 .
  subst h;exact(Xm F n h8 I l Bs ao cap J W H h0).mono fun e W' ⟨he,hj⟩=>⟨he,.inl ⟨_,rfl,hj⟩⟩
 .
  obtain⟨b,o,rfl,hb,be⟩:=hI h;exact Kw F n h8 I hn l Bs n₀ b o len cap T M E hb J Jx hY W H X (be.below hW (Nat.lt_of_lt_of_le hb Y)) h0
theorem Xo {n:Nat} {A B:List Int} (T:A.length=n) (X:B.length=n):∀ (k:Nat) (E:k<=n),(∀p∈yA n k E,A.getD p 0=B.getD p 0)->zj (A.drop (n-k))=zj (B.drop (n-k)):=by
 intro k
 induction k with
 | zero=>intro E _; rw[List.drop_of_length_le B_,List.drop_of_length_le B_]
 | succ k ih=>
  intro E h;have M:=ih B_ (fun p I=>h p (by rw[yA]; exact List.mem_append_left _ I));have H:=h ⟨n-1-k,by omega⟩ (by rw[yA]; exact List.mem_append_right _ (List.mem_singleton.2 rfl));rw[yq A,yq B,show n-(k+1)+1=n-k by omega,M,show n-(k+1)=n-1-k by omega];dsimp only at H;rw[H]
end
section
open Go.RowKit Go.Shelf
attribute [local go_sem] Oper.semAt_some
theorem Xp {aa ab:Option Addr} {ca cb len:Nat} {A B:List Int} (w:Cc) (lA:A.length=len) (lB:B.length=len) (oA:yn A) (oB:yn B) (X:len<=aE)
  (fA:0<len->∃b o,aa=some ⟨b,o,none⟩/\b<w.heap.size/\Cells w b o A) (fB:0<len->∃b o,ab=some ⟨b,o,none⟩/\b<w.heap.size/\Cells w b o B) :
  Cb Ch 136 #[Cq aa len ca,Cq ab len cb] w fun e W'=>e = Cg (Cz Cv (zI (zj A) (zj B)))/\zf w W':=by
 have Y:Fence.wide.round=none:=rfl;refine(callsIn_wide (n:=3)).1 ?_;refine callsIn_of_wp_marks Tryz.func136 rfl trivial ?_ Y;simp only[Tryz.ntmps136,List.size_toArray,List.length_cons,List.length_nil,Nat.reduceAdd,Nat.reduceSub,Array.replicate_succ,Array.replicate_zero,List.push_toArray,List.append_toArray,List.nil_append,List.cons_append]
 gi_wp2_with (refine⟨trivial,?_⟩; gi_at_call 166; refine(YK Fence.wide 2 trivial Y _ _ _ _).mono ?_; rintro e w' ⟨rfl,rfl⟩)
 have bB:=Boxed.new w 24 (Cq ab len cb);have bR:=Boxed.new (w.alloc (.cells #[Cq ab len cb] 24)) 3 (Cz Cv 0);have bN:=Boxed.new ((w.alloc (.cells #[Cq ab len cb] 24)).alloc (.cells #[Cz Cv 0] 3)) 24 (Cq aa len ca);simp only[Co]at bR bN;have bq:Below w.heap.size w (((w.alloc (.cells #[Cq ab len cb] 24)).alloc (.cells #[Cz Cv 0] 3)).alloc (.cells #[Cq aa len ca] 24)):=(((Cp _ w).alloc (Cl _) _).alloc C3 _).alloc (by simp; omega) _
 have bi:0<len->∃b o,aa=some ⟨b,o,none⟩/\b<w.heap.size+1+1+1/\Cells (((w.alloc (.cells #[Cq ab len cb] 24)).alloc (.cells #[Cz Cv 0] 3)).alloc (.cells #[Cq aa len ca] 24)) b o A:=fun h=>by
  obtain⟨b,o,e,hb,hc⟩:=fA h;exact⟨b,o,e,by omega,hc.below bq hb⟩
 refine wpIn_rangeFunc_ownG Y (show 1<=3 by omega) (gf:=191) (lb:=#[Cj (some ⟨w.heap.size+1+1,0,none⟩)]) rfl trivial (enters_of Tryz.func191 B' rfl)
  (Qi Fence.wide 2 trivial Y B_ (w.heap.size+1+1) (w.heap.size+1+1+1) aa ca len A lA X _ C3 B_ C3 bN.cell bi) belowK_t (belowK_b C3) (Cp _ _) (fun _=>rfl)
  (fun(pre:List (Fin len)) W=>((∀p:Fin len,p∈pre->A.getD (p:Nat) 0=B.getD (p:Nat) 0)/\W.cell? ⟨w.heap.size,0,none⟩=some (Cq ab len cb)/\W.cell? ⟨w.heap.size+1,0,none⟩=some (Cz Cv 0)/\W.frozen? ⟨w.heap.size+1,0,none⟩=false)/\Below w.heap.size w W)
  (fun c (pre:List (Fin len)) W=>(c = .ret/\∃ (M:List (Fin len)) (E:Fin len),pre=M ++ [E]/\(∀p:Fin len,p∈M->A.getD (p:Nat) 0=B.getD (p:Nat) 0)/\((A.getD E 0<B.getD E 0/\W.cell? ⟨w.heap.size+1,0,none⟩=some (Cz Cv (-1)))\/(B.getD E 0<A.getD E 0/\W.cell? ⟨w.heap.size+1,0,none⟩=some (Cz Cv 1))))/\Below w.heap.size w W)
  (OwnFrom.and (Own.from (fun s A B row hs hg hr=>⟨hs.1,cell_kept hs.2.1 hg hr,cell_kept hs.2.2.1 hg hr,(frozen_kept hs.2.2.1 hg hr).trans hs.2.2.2⟩) _) (ownFrom_below (Cl _) (by simp; omega)))
  (fun c=>OwnFrom.and (Own.from (fun s A B row hs hg hr=>by
   obtain⟨hc,M,E,e1,e2,e3⟩:=hs
   exact⟨hc,M,E,e1,e2,e3.imp (fun h=>⟨h.1,cell_kept h.2 hg hr⟩) (fun h=>⟨h.1,cell_kept h.2 hg hr⟩)⟩) _) (ownFrom_below (Cl _) (by simp; omega)))
  ⟨⟨by simp,((bB.alloc _).alloc _).cell,(bR.alloc _).cell,(bR.alloc _).frozen⟩,bq⟩
  (fun x=>{ tmps:=#[Cq aa len ca,Cq ab len cb,Cf,Cj (some ⟨w.heap.size,0,none⟩),Cj (some ⟨w.heap.size+1,0,none⟩),Cz Cv ((x:Nat):Int),Cz Cw (A.getD x 0),Cq aa len ca,Cz Cv len,Cq ab len cb,Cz Cv len,.bool false,Cf,Cf,Cf,Cf,Cf,Cq aa len ca,.func (.func 191) #[] #[Cj (some ⟨w.heap.size+1+1,0,none⟩)],Cz Cv ((x:Nat):Int),Cz Cw (A.getD x 0),Cf,Cf,Cf,Cf,Cf,Cf,Cf,Cf,Cf,Cf,Cf,Cf],defers:= [] }) ?assign ?body ?done ?stop
 case assign=>
  intro l x W K hK;dsimp only[Xn];obtain⟨u,hu⟩:∃u,A.getD (x:Nat) 0=u:=⟨_,rfl⟩;simp only[hu]at hK|-;clear hu
  gi_wp2
  exact hK
 case body=>
  rintro l pre x W ⟨⟨hp,bg,I,bl⟩,Z⟩ _;obtain⟨i,hi⟩:=x;obtain⟨bb,ob,rfl,br,bh⟩:=fB B_;have g1:=(Z.cell (p:=⟨bb,ob+i,none⟩) br).trans (bh i B_);obtain⟨u,hu⟩:∃u,A.getD i 0=u:=⟨_,rfl⟩;obtain⟨v,hv⟩:∃v,B.getD i 0=v:=⟨_,rfl⟩;rw[hv]at g1;have HU:=C5 (C6 hu hv);have HP:=C5 hp;dsimp only;rw[hu]
  have z1:w.heap.size+1<W.heap.size:=by
   rcases Cm (w.heap.size+1) W.heap.size with h | h
   . exact h
   . simp[World.cell?,Array.getElem?_eq_none h]at I
  clear fA fB bi bh hu hv hp
  gi_wp2
  .
   have hl:u<v:=by assumption
   exact⟨(KeepsOthers.setCell _ _ _).from _,⟨rfl,pre,⟨i,hi⟩,rfl,HP.out,Or.inl ⟨by dsimp only; rw[HU.out.1,HU.out.2]; exact hl,World.cell?_setCell_same' _ _ _ (by rw[I]; rfl)⟩⟩,Z.setCell (p:=⟨w.heap.size+1,0,none⟩) (Nat.le_succ _) _⟩
  .
   have hl:v<u:=by assumption
   exact⟨(KeepsOthers.setCell _ _ _).from _,⟨rfl,pre,⟨i,hi⟩,rfl,HP.out,Or.inr ⟨by dsimp only; rw[HU.out.1,HU.out.2]; exact hl,World.cell?_setCell_same' _ _ _ (by rw[I]; rfl)⟩⟩,Z.setCell (p:=⟨w.heap.size+1,0,none⟩) (Nat.le_succ _) _⟩
  .
   have he:u=v:=B_
   exact⟨KeepsFrom.refl _ _,Cp _ _,⟨fun p bt=>(List.mem_append.1 bt).elim (HP.out p) (fun e=>by
    rw[List.mem_singleton]at e; subst e; dsimp only; rw[HU.out.1,HU.out.2,he]),bg,I,bl⟩,Z⟩
 case done=>
  rintro D ys W hD rfl ⟨⟨hne,bg,I,bl⟩,Z⟩ hK;have he:=Xo lA lB len (Cl _) hne;rw[Nat.sub_self,List.drop_zero,List.drop_zero]at he;have H:Hid (zI (zj A) (zj B)=0):=by show zI _ _=0; unfold zI; rw[C7 he]
  clear he hne
  gi_wp2
  have bf:=(KeepsOthers.setCell W ⟨w.heap.size+1,0,none⟩ (Cz Cv 0)).same D _ hK rfl;refine⟨by simp,.inl ⟨_,_,rfl,run_takeDeferred bf,?_⟩⟩;have be:=cell_kept (World.cell?_setCell_same' W ⟨w.heap.size+1,0,none⟩ (Cz Cv 0) (by rw[I]; rfl)) (grownBy_putObj' _ D (.deferred none)) (fun r e=>by cases e; exact⟨_,bf,rfl⟩);refine⟨Cz Cv 0,?_,yT H.out.symm,(Z.setCell (p:=⟨w.heap.size+1,0,none⟩) (Nat.le_succ _) _).trans (belowK_b (w:=w) (Cl _) _ D _ _ (by simp at hD; omega) bf rfl rfl)⟩;simp[results,Tryz.f136,go_sem,be]
 case stop=>
  rintro D c pre W hD ⟨k,hk,rfl⟩ ⟨⟨rfl,M,E,e1,e2,e3⟩,Z⟩ hK
  obtain⟨T,rfl⟩:∃T,k=T+1:=by
   cases k with
   | zero=>simp[yA]at e1
   | succ T=>exact⟨T,rfl⟩
  rw[yA]at e1;obtain⟨rfl,e5⟩:=List.append_inj' e1 rfl;have e6:E=⟨len-1-T,by omega⟩:=by simpa using e5.symm
  subst e6;have hd:=Xo lA lB T B_ e2;rw[show len-T=len-1-T+1 by omega]at hd;dsimp only at e3
  obtain⟨r,hr,hH⟩:∃r:Int,W.cell? ⟨w.heap.size+1,0,none⟩=some (Cz Cv r)/\Hid (zI (zj A) (zj B)=r):=by
   rcases e3 with⟨h,hc⟩ | ⟨h,hc⟩
   .
    have:=YH oA oB (i:=len-1-T) B_ B_ hd h;exact⟨-1,hc,by show zI _ _ = -1; unfold zI; rw[C8 B_,C7 this]⟩
   .
    have:=YH oB oA (i:=len-1-T) B_ B_ hd.symm h;exact⟨1,hc,by show zI _ _=1; unfold zI; rw[C8 B_,C8 B_]⟩
  clear e1 e2 e3 e5 hd
  gi_wp2
  refine⟨by simp,.inl ⟨_,_,rfl,run_takeDeferred hK,?_⟩⟩;have be:=cell_kept hr (grownBy_putObj' _ D (.deferred none)) (fun r e=>by cases e; exact⟨_,hK,rfl⟩);refine⟨Cz Cv r,?_,yT hH.out.symm,Z.trans (belowK_b (w:=w) (Cl _) W D _ _ (by simp at hD; omega) hK rfl rfl)⟩;simp[results,Tryz.f136,go_sem,be]
end
section
open Go.RowKit Go.Shelf
attribute [local go_sem] Oper.semAt_some
theorem Xq {aa ab:Option Addr} {ca cb n m:Nat} (w:Cc) (h:n≠m) :
  Cb Ch 136 #[Cq aa n ca,Cq ab m cb] w fun e Z=>e = Cg (Cz Cv (if n<m then -1 else 1))/\zf w Z:=by
 have M:Fence.wide.round=none:=rfl;have hB:Below w.heap.size w ((w.alloc (.cells #[Cq ab m cb] 24)).alloc (.cells #[Cz Cv 0] 3)):=((Cp _ w).alloc (Cl _) _).alloc C3 _;have bR:=Boxed.new (w.alloc (.cells #[Cq ab m cb] 24)) 3 (Cz Cv 0);simp only[Co]at bR;refine(callsIn_wide (n:=3)).1 ?_;refine callsIn_of_wp_marks Tryz.func136 rfl trivial ?_ M;simp only[Tryz.ntmps136,List.size_toArray,List.length_cons,List.length_nil,Nat.reduceAdd,Nat.reduceSub,Array.replicate_succ,Array.replicate_zero,List.push_toArray,List.append_toArray,List.nil_append,List.cons_append]
 rcases Cm n m with Y | Y
 .
  have H:Hid ((if n<m then -1 else 1:Int) = -1):=C7 Y;have T:((n:Int) != (m:Int))=true:=by simp; omega
  have X:decide ((n:Int)<(m:Int))=true:=C9 B_
  gi_wp2
  have I:=Boxed.new (w.alloc (.cells #[Cq ab m cb] 24)) 3 (Cz Cv (-1));simp only[Co]at I;have E:=I.cell;refine⟨Cz Cv (-1),?_,by first | rfl | exact yT H.out.symm,((Cp _ w).alloc (Cl _) _).alloc C3 _⟩;simp[results,Tryz.f136,go_sem,E]
 .
  have H:Hid ((if n<m then -1 else 1:Int)=1):=C8 B_;have T:((n:Int) != (m:Int))=true:=by simp; omega
  have X:decide ((n:Int)<(m:Int))=false:=C_ B_
  gi_wp2
  have I:=Boxed.new (w.alloc (.cells #[Cq ab m cb] 24)) 3 (Cz Cv 1);simp only[Co]at I;have E:=I.cell;refine⟨Cz Cv 1,?_,by first | rfl | exact yT H.out.symm,((Cp _ w).alloc (Cl _) _).alloc C3 _⟩;simp[results,Tryz.f136,go_sem,E]
theorem xY {a b:Cd} {x y:Int} (w:Cc) (I:aA w a (zn x)) (M:aA w b (zn y)) (E:0<=x) (H:0<=y) (T:(zn x).length<=aE) (Y:(zn y).length<=aE) :
  Cb Ch 136 #[a,b] w fun e X=>e = Cg (Cz Cv (zI x y))/\zf w X:=by
 obtain⟨aa,ca,rfl⟩:=I.au;obtain⟨ab,cb,rfl⟩:=M.au
 by_cases h:(zn x).length=(zn y).length
 .
  have C:=Xp (ca:=ca) (cb:=cb) (len:=(zn x).length) w rfl h.symm (yX x) (yX y) T I.cells.2.2.2 (by have:=M.cells.2.2.2; rw[h]; exact this);rw[zA E,zA H]at C;rw[<- h];exact C
 .
  have C:=Xq (aa:=aa) (ab:=ab) (ca:=ca) (cb:=cb) w h
  have e:(if(zn x).length<(zn y).length then -1 else 1:Int)=zI x y:=by
   rcases Cm (zn x).length (zn y).length with g | g
   .
    rw[C7 g];have:=z6 E H g;unfold zI; rw[C8 B_,C7 this]
   .
    rw[C8 B_];have:=z6 H E B_;unfold zI; rw[C8 B_,C8 B_]
  rw[e]at C;exact C
end
end Go.Proofs.YtffmbepfbienaaaGreat
/- A region that draws its order in a round of a range Xb a function: by XReg's chain. -/
namespace Go.Proofs.YtffmbepfbienaaaGreat
open Go.RowKit
variable {a:Act} {K K':Act->Cc->Prop} {l n:Nat} {w:Cc}
def yM (Q:Exit->Act->Cc->Prop):Exit->Act->Cc->Prop
 | .outgrown,_,_=>False
 | e,a,w=>Q e a w
theorem j6 (Q:Exit->Act->Cc->Prop):¬LetsOut (yM Q):=fun⟨_,_,h⟩=>h
theorem Zu {P:Program} {o:Oper} {Q:Exit->Act->Cc->Prop} (hd:∀c,o.op≠ .defer c) (h:o.wp P a w K (yM Q))
  (E:∀a w,K a w->K' a w):o.wpIn (Fence.wide.inRound l) n P a w K' Q:=by
 refine⟨fun _ _=>trivial,?_⟩;rw[Fence.inRound_round,Oper.semAt_some l _ o hd];unfold Oper.wp at h;generalize (execOp a.eval o).run P w=r at h
 cases r with
 | ok nx H=>
  cases nx with
  | value v=>exact E _ _ h
  | skip=>exact E _ _ h
  | defer d=>exact E _ _ h
  | enter f args=>
   refine⟨fun h=>(by cases h),CallsIn.inRound l (callsIn_wide.2 (Calls.mono h ?_))⟩;intro e M I
   cases e with
   | returned v=>exact E _ _ I
   | panicked c=>exact I
   | outgrown=>exact(j6 Q I).elim
  | row r args=>
   refine⟨fun h=>(by cases h),fun c cs _=> ?_⟩;obtain⟨v,H,r,s⟩:=h c cs;exact⟨v,H,E _ _ r,stepsIn_wide.2 s⟩
  | _=>exact h.elim
 | halt x H=>
  cases x with
  | panic v=>exact h
  | _=>exact h.elim
def jh (ops:Array Oper):Bool:=ops.toList.all fun o=>match o.op with | .defer _=>false | _=>true
theorem kz {ops:Array Oper} (h:jh ops=true) {i:Nat} {o:Oper} (E:ops[i]? = some o):∀c,o.op≠ .defer c:=by
 intro c e;have H:o∈ops.toList:=by rw[Array.mem_toList_iff]; exact Array.mem_of_getElem? E
 have:=List.all_eq_true.1 h o H;rw[e]at this
 cases this
theorem Ky {P:Program} {ops:Array Oper} {Q:Exit->Act->Cc->Prop} {i:Nat} (hd:jh ops=true) (E:∀a w,K a w->K' a w)
  (h:wpOp P ops (yM Q) i K a w):wpOpIn (Fence.wide.inRound l) n P ops Q i K' a w:=by
 unfold wpOp at h;unfold wpOpIn
 cases ho:ops[i]? with
 | none=>rw[ho]at h; exact E _ _ h
 | some o=>
  rw[ho]at h;dsimp only at h|-
  by_cases hw:Region.wanted o (yielded ops a.tmps)=true
  .
   rw[C7 hw]at h|-
   rcases h with h | ⟨_,h⟩
   . exact Zu (kz hd ho) h E
   . exact(j6 Q h).elim
  .
   rw[C8 hw]at h|-;exact⟨fun _ _=>trivial,E _ _ h⟩
theorem JM {P:Program} {ops:Array Oper} {Q:Exit->Act->Cc->Prop} {md:Region.Mode} (hd:jh ops=true):∀ (H:Nat) (E:Array Bool) (a:Act) (w:Cc),
  wpAny P md ops (yM Q) H E a w->wpAnyIn (Fence.wide.inRound l) n P md ops Q H E a w:=by
 intro H
 induction H with
 | zero=>intro E a w h; exact⟨h.1,h.2⟩
 | succ H ih=>intro E a w h; exact⟨fun M=>h.1 M,fun i I=>Ky hd (fun a w=>ih _ a w) (h.2 i I)⟩
section
open aj
variable {P:Program} {ops:Array Oper} {Q:Exit->Act->Cc->Prop}
theorem qz {id:Nat} {ah:Act} (J:(Nat->Bool)->(Nat->Cd)->Cc->Prop) (a9:Nat->Bool) (V:Nat->Cd->Prop) (G:Nat->Cd->Cc->Prop) (Sx:Nat->Cc->Cc->Prop) (b9:List PanicEntry->Cc->Prop) (pre:Nat->List (Nat×Option Tmp)) (post:Nat->List Nat)
  (hd:jh ops=true) (hm:P.follows .mixedOrders=true) (ht:tidy ops ah.tmps.size=true) (E:cS ops a9 pre post=true)
  (hV:∀k,∃x,V k x) (M:∀v,J (fun _=>false) v w.drew) (I:∀D v v' W,(∀j,D j=true->v j=v' j)->J D v W->J D v' W)
  (Z:∀D v k j W Y x,j≠k->a9 j=true->a9 k=true->J D v W->Sx k W Y->G j x W->G j x Y)
  (hP:∀a W c,a.defers=ah.defers->b9 c W->Q (.panic c) a W)
  (h:∀H Q',H=ops->(∀a W,Q .normal a W->Q' .normal a W)->RC P H Q' J a9 V G Sx b9 pre post 0 ops.toList ah):(Code.region id ops true).wpIn (Fence.wide.inRound l) n P Q ah w:=by
 have hc:=h ops (yM Q) rfl (fun _ _ h=>h);refine wpIn_region_any hm (JM hd _ _ _ _ ?_)
 exact Yk (Inv P ops J a9 V G pre post ah) (bW (Q:=yM Q) ht E hV I Z (fun a W c T X=>hP a W c T X) hc) (bY (Q:=yM Q) ht E hV I Z (fun a W c T X=>hP a W c T X) hc) _ _ _ _ (jy M) (by
  unfold xr;have:=List.length_filter_le (fun i=> !(Array.replicate ops.size false).getD i true) (List.range ops.size)
  rwa[List.length_range]at this)
end
end Go.Proofs.YtffmbepfbienaaaGreat
/- The chain of XReg where an operation of the region calls 'yield': for an iterator's own text. -/
namespace Go.Proofs.YtffmbepfbienaaaGreat
section
open Go.RowKit
variable {a b ah:Act} {L:Array Oper} {rest:List Oper} {k n:Nat} {o:Oper} {N:Cd->Cc->Prop} {W w:Cc}
def Zv (P:Program) (o:Oper) (ρ : Operand->Cd) (W:Cc) (b9:List PanicEntry->Cc->Prop) (N:Cd->Cc->Prop):Prop:=
 match (execOp ρ o).run P W with
 | .ok (.value v) W'=>N v W'
 | .ok .skip W'=>N Cf W'
 | .ok (.enter f args) W'=>Cb P f args W' fun
   | Cg v,W''=>N v W''
   | .panicked c,W''=>b9 c W''
   | .outgrown,_=>False
 | .ok (.row row args) W'=>Rows P row args W' N
 | .ok (.round l f tmps assign body) W'=>RoundIn Fence.wide 0 P l f tmps assign body W' fun
   | Cg v,W''=>N v W''
   | .panicked c,W''=>b9 c W''
   | .outgrown,_=>False
 | .halt (.panic v) W'=>b9 [{ v,recovered:=false }] W'
 | _=>False
theorem qK {m:Nat} {P:Program} {l:Nat} {f:FuncId} {tmps:Array Cd} {assign body:Code} {R:Ending->Cc->Prop}
  (h:RoundIn Fence.wide n P l f tmps assign body w R):RoundIn Fence.wide m P l f tmps assign body w R:=⟨h.1,fun c cs _=>h.2 c cs (room_wide _)⟩
namespace aP
open aj
section
variable (P:Program) (ops:Array Oper) (Q:Exit->Act->Cc->Prop) (J:(Nat->Bool)->(Nat->Cd)->Cc->Prop) (a9:Nat->Bool) (V:Nat->Cd->Prop) (G:Nat->Cd->Cc->Prop) (Sx:Nat->Cc->Cc->Prop) (b9:List PanicEntry->Cc->Prop) (pre:Nat->List (Nat×Option Tmp)) (post:Nat->List Nat)
def aZ (k:Nat) (o:Oper) (a:Act) (D:Nat->Bool) (v:Nat->Cd) (W:Cc):Prop:=
 if Region.wanted o (yielded ops a.tmps)=true then Zv P o a.eval W b9 (fun x E=>Sx k W E/\J (upd D k) (aQ v k (dv o x)) E/\G k (dv o x) E/\V k (dv o x))else J (upd D k) (aQ v k Cf) W/\G k Cf W/\V k Cf
def RC:Nat->List Oper->Act->Prop
 | k,[],a=>∀D v W,(∀j,j<k->D j=a9 j)->J D v W->aJ a9 G pre k a D v W->Q .normal a W
 | k,o::rest,a=>
  if a9 k=true then(∀D v W,bj post k D->J D v W->aJ a9 G pre k a D v W->aZ P ops J V G Sx b9 k o a D v W)/\∀x,V k x->RC (k+1) rest (a.put o.dst x)
  else ∃x,(∀D v W,bj post k D->J D v W->aJ a9 G pre k a D v W->yu P ops o a x W)/\RC (k+1) rest (a.put o.dst x)
end
section
variable {P:Program} {ops:Array Oper} {Q:Exit->Act->Cc->Prop} {J:(Nat->Bool)->(Nat->Cd)->Cc->Prop} {a9:Nat->Bool} {V:Nat->Cd->Prop} {G:Nat->Cd->Cc->Prop} {Sx:Nat->Cc->Cc->Prop} {b9:List PanicEntry->Cc->Prop} {pre:Nat->List (Nat×Option Tmp)} {post:Nat->List Nat}
theorem cF (xs:Nat->Cd) (hx:∀k,V k (xs k)):∀ (l:List Oper) (k:Nat) (a:Act),RC P ops Q J a9 V G Sx b9 pre post k l a->
  ∃ (E:Nat->Act) (y:Nat->Cd),E k=a/\(∀i o,l[i]? = some o->E (k+i+1)=(E (k+i)).put o.dst (y (k+i))/\
   (a9 (k+i)=true->y (k+i)=xs (k+i)/\∀D v W,bj post (k+i) D->J D v W->aJ a9 G pre (k+i) (E (k+i)) D v W->aZ P ops J V G Sx b9 (k+i) o (E (k+i)) D v W)/\
   (a9 (k+i)=false->∀D v W,bj post (k+i) D->J D v W->aJ a9 G pre (k+i) (E (k+i)) D v W->yu P ops o (E (k+i)) (y (k+i)) W))/\
   (∀D v W,(∀j,j<k+l.length->D j=a9 j)->J D v W->aJ a9 G pre (k+l.length) (E (k+l.length)) D v W->Q .normal (E (k+l.length)) W):=by
 intro l
 induction l with
 | nil=>
  intro k a h;refine⟨fun _=>a,xs,rfl,fun i o H=>by simp at H,?_⟩;exact h
 | cons o rest ih=>
  intro k a h
  have key:∃x,RC P ops Q J a9 V G Sx b9 pre post (k+1) rest (a.put o.dst x)/\
    (a9 k=true->x=xs k/\∀D v W,bj post k D->J D v W->aJ a9 G pre k a D v W->aZ P ops J V G Sx b9 k o a D v W)/\
    (a9 k=false->∀D v W,bj post k D->J D v W->aJ a9 G pre k a D v W->yu P ops o a x W):=by
   unfold RC at h
   split at h
   .
    rename_i hc
    exact⟨xs k,h.2 _ (hx k),fun _=>⟨rfl,h.1⟩,fun I=>by rw[hc]at I; cases I⟩
   .
    rename_i hc
    obtain⟨x,Z,h2⟩:=h;exact⟨x,h2,fun I=>absurd I hc,fun _=>Z⟩
  obtain⟨x,hr,M,T⟩:=key;obtain⟨E,y,ht,hs,X⟩:=ih (k+1) _ hr;refine⟨fun i=>if i<=k then a else E i,fun i=>if i<=k then x else y i,by simp,?_,?_⟩
  .
   intro i Y H
   cases i with
   | zero=>
    simp only[List.getElem?_cons_zero,Option.some.injEq]at H;subst H;simp only[Nat.add_zero,Cl,if_true,C8 (show ¬(k+1<=k) by omega),ht];exact⟨trivial,M,T⟩
   | succ i=>
    rw[List.getElem?_cons_succ]at H;have:=hs i Y H;have e:k+1+i=k+(i+1):=B_
    rw[e]at this;simp only[C8 (show ¬(k+(i+1)<=k) by omega),C8 (show ¬(k+(i+1)+1<=k) by omega)];exact this
  .
   have e:k+1+rest.length=k+(o::rest).length:=by simp; omega
   rw[e]at X;simp only[C8 (show ¬(k+(o::rest).length<=k) by simp)];exact X
theorem dt {K:Act->Cc->Prop} (h:Zv P o a.eval W b9 N) (H:∀x I,N x I->K (a.put o.dst x) I)
  (T:∀c I,b9 c I->Q (.panic c) a I):o.wpIn Fence.wide n P a W K Q:=by
 unfold Zv at h;unfold Oper.wpIn;refine⟨fun _ _=>trivial,?_⟩;rw[show o.semAt Fence.wide.round a.eval=execOp a.eval o from rfl]
 split at h
 . rename_i heq; rw[heq,Oper.uponIn_value]; exact H _ _ h
 . rename_i heq; rw[heq,Oper.uponIn_skip]; exact H _ _ h
 .
  rename_i heq
  rw[heq,Oper.uponIn_enter];refine⟨fun h=>(by cases h),callsIn_wide.2 (Calls.mono h fun e M E=> ?_)⟩
  cases e with
  | returned v=>exact H _ _ E
  | panicked c=>exact T _ _ E
  | outgrown=>exact E.elim
 .
  rename_i heq
  rw[heq,Oper.uponIn_row];refine⟨fun h=>(by cases h),fun c cs _=> ?_⟩;obtain⟨v,X,r,s⟩:=h c cs;exact⟨v,X,H _ _ r,stepsIn_wide.2 s⟩
 .
  rename_i heq
  rw[heq,Oper.uponIn_round];refine⟨fun h=>(by cases h),qK (RoundIn.mono h fun e M E=> ?_)⟩
  cases e with
  | returned v=>exact H _ _ E
  | panicked c=>exact T _ _ E
  | outgrown=>exact E.elim
 . rename_i heq; rw[heq,Oper.uponIn_panic]; exact T _ _ h
 . exact h.elim
theorem cK {ρ E:Operand->Cd} (e:execOp ρ o=execOp E o) (h:Zv P o ρ W b9 N):Zv P o E W b9 N:=by
 unfold Zv at *
 rwa[<- e]
theorem cI {D:Nat->Bool} {v:Nat->Cd} (H:∀cs c,o.op≠ .select cs c) (h:∀t,t∈o.looksAt ops->a.tmps[t]? = b.tmps[t]?) (E:aZ P ops J V G Sx b9 k o a D v W):aZ P ops J V G Sx b9 k o b D v W:=by
 unfold aZ at *;rw[<- jg h]
 split
 . rename_i hw; rw[C7 hw]at E; exact cK (j4 H h) E
 . rename_i hw; rwa[C8 hw]at E
theorem bW (ht:tidy ops ah.tmps.size=true) (d9:cS ops a9 pre post=true)
  (hV:∀k,∃x,V k x) (cY:∀D v v' W,(∀j,D j=true->v j=v' j)->J D v W->J D v' W)
  (hG:∀D v k j W Z x,j≠k->a9 j=true->a9 k=true->J D v W->Sx k W Z->G j x W->G j x Z)
  (hP:∀a W c,a.defers=ah.defers->b9 c W->Q (.panic c) a W)
  (h:RC P ops Q J a9 V G Sx b9 pre post 0 ops.toList ah) :
  ∀E a W i,Inv P ops J a9 V G pre post ah E a W->i∈Region.ready .any ops E->wpOpIn Fence.wide n P ops Q i (fun a' Z=>Inv P ops J a9 V G pre post ah (E.setIfInBounds i true) a' Z) a W:=by
 have T:=jP ht;have S:=jQ d9;intro E a W i I hi;obtain⟨dx,o,ho,dk⟩:=mem_ready.1 hi;have br:i<ops.size:=qV ho;have hd:yf ops i=o.dst:=by unfold yf; rw[ho]; rfl
 have bi:∀j∈qI ops i,E.getD j false=true:=fun j M=>by
  obtain⟨e,he,hb,rfl⟩:=(jR ho).1 M;exact dk e he hb
 have hl:∀j,cO ops j i->E.getD j false=true:=fun j M=>by
  cases M with
  | one h=>exact bi j h
  | more h1 h2=>exact I.dU h1 (bi _ h2)
 have bg:¬E.getD i false=true:=fun hc=>by
  have eW:i<E.size:=I.n▸br;simp[eW]at dx hc;rw[dx]at hc; cases hc
 obtain⟨xs,hx,er⟩:∃xs:Nat->Cd,(∀k,V k (xs k))/\∀k,V k (yH ops a k)->xs k=yH ops a k:=by
  classical
  refine⟨fun k=>if V k (yH ops a k)then yH ops a k else(hV k).choose,fun k=> ?_,fun k H=>by simp only[C7 H]⟩
  by_cases H:V k (yH ops a k)
  . simp only[C7 H]; exact H
  . simp only[C8 H]; exact(hV k).choose_spec
 obtain⟨tr,y,h0,hs,hf⟩:=cF xs hx ops.toList 0 ah h
 have ec:∀i o,ops[i]? = some o->tr (i+1)=(tr i).put o.dst (y i):=fun i o ho=>by
  have:=(hs i o (by simpa using ho)).1;simpa using this
 have f7:∀i,i<ops.size->E.getD i false=true->a9 i=true->y i=yH ops a i:=fun i hi f9 X=>by
  have:=(hs i ops[i] (by simp[hi])).2.1;simp only[Nat.zero_add]at this;exact(this X).1.trans (er i (I.call i f9 X).2)
 have dl:∀i o,ops[i]? = some o->a9 i=false->∀D v W,bj post i D->J D v W->aJ a9 G pre i (tr i) D v W->yu P ops o (tr i) (y i) W:=fun i o ho X=>by
  have:=(hs i o (by simpa using ho)).2.2;simp only[Nat.zero_add]at this;exact this X
 obtain⟨A1,A2,-⟩:=Jg S T I h0 ec f7 dl i br hl
 have A1:∀t,t∈o.looksAt ops->(tr i).tmps[t]? = a.tmps[t]? :=fun t ht=>by
  by_cases hw:∃j,cO ops j i/\yf ops j=some t
  .
   obtain⟨j,M,bq⟩:=hw;exact(A1 o ho t ht).1 j M bq
  .
   rw[(A1 o ho t ht).2 fun j M bq=>hw ⟨j,M,bq⟩,I.old t fun j M bq=> ?_]
   rcases T.look i o t j ho ht bq with h | h
   . exact hw ⟨j,h,bq⟩
   . exact bg (I.dU h M)
 have F:aJ a9 G pre i a (done a9 E) (yH ops a) W:=fun p hp dy=>by
  obtain⟨h1,h2⟩:=S.fore i p br hp;refine⟨by unfold done; rw[dy,hl p.1 h1]; rfl,by unfold yH; rw[h2],?_⟩;rw[<- h2];exact(I.call p.1 (hl p.1 h1) dy).1
 have F':aJ a9 G pre i (tr i) (done a9 E) (yH ops a) W:=yg (fun p hp=>(A2 p hp).symm) F;have eh:=fun cs c=>T.eh i o cs c ho
 have bt:bj post i (done a9 E):=by
  refine⟨?_,fun j M=> ?_⟩
  .
   unfold done; cases h:E.getD i false with
   | true=>exact absurd h bg
   | false=>simp
  .
   unfold done; cases h:E.getD j false with
   | true=>exact absurd (I.dU (S.aft i j br M) h) bg
   | false=>simp
 have dC:a9 i=true->done a9 (E.setIfInBounds i true)=upd (done a9 E) i:=fun hc=>funext fun j=>by
  unfold done upd
  by_cases e:j=i
  . subst e; simp only[xU (show j<E.size from I.n▸br),hc]; simp
  . rw[getD_set_ne false (Ne.symm e)]; simp[e]
 have dP:a9 i=false->done a9 (E.setIfInBounds i true)=done a9 E:=fun hc=>funext fun j=>by
  unfold done
  by_cases e:j=i
  . subst e; rw[hc]; simp
  . rw[getD_set_ne false (Ne.symm e)]
 -- what stands, whatever i yields, of the frame behind it
 have bM:∀x k,E.getD k false=true->∀t,yf ops k=some t->(a.put o.dst x).tmps[t]? = a.tmps[t]? :=fun x k H t be=>
  kV fun e=>bg (T.once i k t (hd.trans e) be▸H)
 have next:∀x Z,J (done a9 (E.setIfInBounds i true)) (yH ops (a.put o.dst x)) Z->(∀k,E.getD k false=true->a9 k=true->G k (yH ops a k) Z/\V k (yH ops a k))->(a9 i=true->G i (dv o x) Z/\V i (dv o x))->
   (a9 i=false->∀D v W,bj post i D->J D v W->aJ a9 G pre i a D v W->yu P ops o a x W)->Inv P ops J a9 V G pre post ah (E.setIfInBounds i true) (a.put o.dst x) Z:=by
  intro x Z M hg ek em;have vk:∀k,E.getD k false=true->yH ops (a.put o.dst x) k=yH ops a k:=fun k H=>qu fun t be=>bM x k H t be
  have vi:∀t,o.dst=some t->(a.put o.dst x).tmps[t]? = some x:=fun t cN=>by
   rw[cN]; exact xP (by rw[I.size]; exact T.inb i t (hd.trans cN))
  refine⟨M,by simp[I.n],?_,(qt _ _ _).trans I.defs,(Zt _ _ _).trans I.size,?_,?_,?_⟩
  .
   intro k H j dd
   rcases xZ H with rfl | H
   . exact getD_set_true (bi j dd)
   . exact getD_set_true (I.closed k H j dd)
  .
   intro t dc;rw[kV fun e=>dc i (xU (I.n▸br)) (hd.trans e)];exact I.old t fun k H=>dc k (getD_set_true H)
  .
   intro k H Y
   rcases xZ H with rfl | H
   .
    have:yH ops (a.put o.dst x) k=dv o x:=by
     unfold yH; rw[hd]
     cases hdo:o.dst with
     | none=>simp[at_,dv,hdo]
     | some t=>have:=vi t hdo; rw[hdo]at this; simp[at_,dv,hdo,this]
    rw[this]; exact ek Y
   . rw[vk k H]; exact hg k H Y
  .
   intro k o' t H Y bl be
   have ag:∀p∈pre k,at_ (a.put o.dst x) p.2=at_ a p.2:=fun p hp=>by
    have fd:k<ops.size:=qV bl;obtain⟨h1,h2⟩:=S.fore k p fd hp
    have eM:E.getD p.1 false=true:=by
     rcases xZ H with rfl | H
     . exact hl _ h1
     . exact I.dU h1 H
    exact qu fun t f8=>bM x p.1 eM t (h2.trans f8)
   rcases xZ H with rfl | H
   .
    rw[ho]at bl
    injection bl with bl
    subst bl
    have e:yH ops (a.put o.dst x) k=x:=by
     unfold yH; rw[hd];rw[hd]at be;have:=vi t be; rw[be]at this; simp[at_,be,this]
    refine⟨a,fun u j M bh=>(bM x j (hl j M) u bh).symm,fun u hu hn=>I.old u fun j M bh=> ?_,fun ce ci cy cw cx cg=> ?_,?_⟩
    .
     rcases T.look k o u j ho hu bh with h | h
     . exact hn j h bh
     . exact bg (I.dU h M)
    . rw[e]; exact em Y ce ci cy cw cx (yg ag cg)
    . exact⟨_,_,W,bt,I.j,yg (fun p hp=>(ag p hp).symm) F⟩
   .
    obtain⟨b,b1,b2,P1,D1,v1,W1,c1,j1,f1⟩:=I.pur k o' t H Y bl be;refine⟨b,fun u j M bh=>(b1 u j M bh).trans (bM x j (I.dU M H) u bh).symm,b2,fun ce ci cy cw cx cg=> ?_,D1,v1,W1,c1,j1,yg (fun p hp=>(ag p hp).symm) f1⟩;rw[vk k H];exact P1 ce ci cy cw cx (yg ag cg)
 have vx:∀x j,done a9 E j=true->aQ (yH ops a) i (dv o x) j=yH ops (a.put o.dst x) j:=fun x j M=>by
  unfold done at M;simp only[Bool.and_eq_true]at M;unfold aQ;rw[C8 (show ¬j=i from fun e=>bg (e▸M.2))];exact(qu fun t be=>bM x j M.2 t be).symm
 have eF:∀x,yH ops (a.put o.dst x) i=dv o x:=fun x=>by
  unfold yH; rw[hd]
  cases hdo:o.dst with
  | none=>simp[at_,dv,hdo]
  | some t=>
   have:=xP (a:=a) (v:=x) (t:=t) (by rw[I.size]; exact T.inb i t (hd.trans hdo));simp[at_,dv,hdo,this]
 have vC:∀x Z,a9 i=true->J (upd (done a9 E) i) (aQ (yH ops a) i (dv o x)) Z->J (done a9 (E.setIfInBounds i true)) (yH ops (a.put o.dst x)) Z:=fun x Z hc h=>by
  rw[dC hc];refine cY _ _ _ _ (fun j M=> ?_) h
  by_cases e:j=i
  . subst e; unfold aQ; rw[C7 rfl,eF]
  .
   unfold upd at M;simp only[Bool.or_eq_true,beq_iff_eq,e,false_or]at M;exact vx x j M
 have vP:∀x Z,a9 i=false->J (done a9 E) (yH ops a) Z->J (done a9 (E.setIfInBounds i true)) (yH ops (a.put o.dst x)) Z:=fun x Z hc h=>by
  rw[dP hc];refine cY _ _ _ _ (fun j M=> ?_) h;rw[<- vx x j M];unfold aQ;rw[C8];intro e;subst e;unfold done at M;rw[hc]at M; cases M
 unfold wpOpIn;rw[ho]
 cases X:a9 i with
 | true=>
  have hC:=(hs i o (by simpa using ho)).2.1;simp only[Nat.zero_add]at hC;have hC:=cI eh A1 ((hC X).2 _ _ W bt I.j F');unfold aZ at hC;simp only
  split
  .
   rename_i hw
   rw[C7 hw]at hC;refine(dt hC (fun x Z hx=>next x Z (vC x Z X hx.2.1) (fun k H Y=> ?_) (fun _=>hx.2.2) (fun h=>by rw[X]at h; cases h)) (fun c Z hc=>hP a Z c I.defs hc));exact⟨hG _ _ i k W Z _ (fun e=>bg (e▸H)) Y X I.j hx.1 (I.call k H Y).1,(I.call k H Y).2⟩
  .
   rename_i hw
   rw[C8 hw]at hC;have e:dv o Cf=Cf:=by unfold dv; split<;>rfl
   refine⟨fun _ _=>trivial,next Cf W (vC Cf W X (e.symm▸hC.1)) (fun k H Y=>I.call k H Y) (fun _=> ?_) (fun h=>by rw[X]at h; cases h)⟩;rw[e]; exact hC.2
 | false=>
  have hp:=fun D v W cw M hf=>j5 eh A1 (dl i o ho X D v W cw M (yg (fun p hp=>(A2 p hp).symm) hf));have bf:=hp _ _ W bt I.j F;unfold yu at bf;simp only;have nx:=next (y i) W (vP _ W X I.j) (fun k H Y=>I.call k H Y) (fun h=>by rw[X]at h; cases h) (fun _=>hp)
  split
  .
   rename_i hw
   rw[C7 hw]at bf;unfold Oper.wpIn;refine⟨fun _ _=>trivial,?_⟩;rw[show o.semAt Fence.wide.round a.eval=execOp a.eval o from rfl]
   rcases bf with bf | ⟨bf,hy⟩
   . rw[bf,Oper.uponIn_value]; exact nx
   . rw[bf,Oper.uponIn_skip,<- hy]; exact nx
  .
   rename_i hw
   rw[C8 hw]at bf;rw[<- bf]; exact⟨fun _ _=>trivial,nx⟩
theorem bY (ht:tidy ops ah.tmps.size=true) (bh:cS ops a9 pre post=true)
  (hV:∀k,∃x,V k x) (ci:∀D v v' W,(∀j,D j=true->v j=v' j)->J D v W->J D v' W)
  (hG:∀D v k j W W' x,j≠k->a9 j=true->a9 k=true->J D v W->Sx k W W'->G j x W->G j x W')
  (hP:∀a W c,a.defers=ah.defers->b9 c W->Q (.panic c) a W)
  (h:RC P ops Q J a9 V G Sx b9 pre post 0 ops.toList ah) :
  ∀H a W,Inv P ops J a9 V G pre post ah H a W->Region.ready .any ops H = []->Q .normal a W:=by
 have T:=jP ht;have S:=jQ bh;intro H a W I hr
 -- nothing is left: all are H
 have all:∀k,k<ops.size->H.getD k false=true:=by
  intro k
  induction k using Nat.strongRecOn with
  | _ k ih=>
   intro X
   cases hl:H.getD k false with
   | true=>rfl
   | false=>
    have:k∈Region.ready .any ops H:=by
     refine mem_ready.2 ⟨?_,ops[k],by simp[X],fun e he hb=> ?_⟩
     .
      have bl:k<H.size:=I.n▸X;simpa[bl]using hl
     .
      have hm:=(jR (ops:=ops) (k:=k) (j:=e.on) (by simp[X])).2 ⟨e,he,hb,rfl⟩;have:=T.back _ _ hm;exact ih e.on this B_
    rw[hr]at this; cases this
 obtain⟨xs,hx,ce⟩:∃xs:Nat->Cd,(∀k,V k (xs k))/\∀k,V k (yH ops a k)->xs k=yH ops a k:=by
  classical
  refine⟨fun k=>if V k (yH ops a k)then yH ops a k else(hV k).choose,fun k=> ?_,fun k X=>by simp only[C7 X]⟩
  by_cases X:V k (yH ops a k)
  . simp only[C7 X]; exact X
  . simp only[C8 X]; exact(hV k).choose_spec
 obtain⟨tr,y,h0,hs,hf⟩:=cF xs hx ops.toList 0 ah h
 have bf:∀i o,ops[i]? = some o->tr (i+1)=(tr i).put o.dst (y i):=fun i o ho=>by
  have:=(hs i o (by simpa using ho)).1;simpa using this
 have br:∀i,i<ops.size->H.getD i false=true->a9 i=true->y i=yH ops a i:=fun i hi bq be=>by
  have:=(hs i ops[i] (by simp[hi])).2.1;simp only[Nat.zero_add]at this;exact(this be).1.trans (ce i (I.call i bq be).2)
 have cg:∀i o,ops[i]? = some o->a9 i=false->∀D v W,bj post i D->J D v W->aJ a9 G pre i (tr i) D v W->yu P ops o (tr i) (y i) W:=fun i o ho be=>by
  have:=(hs i o (by simpa using ho)).2.2;simp only[Nat.zero_add]at this;exact this be
 have Y:∀k,k<ops.size->y k=yH ops a k:=fun k X=>(Jg S T I h0 bf br cg k X fun j Z=>all j (by have:=Z.lt T; omega)).2.2 (all k X)
 have E:tr ops.size=a:=by
  have hz:=YL h0 bf ops.size (Cl _)
  have bt:∀t,(tr ops.size).tmps[t]? = a.tmps[t]? :=fun t=>by
   obtain⟨s1,s2⟩:=vY T rfl h0 bf ops.size (Cl _)
   by_cases hw:∃j,j<ops.size/\yf ops j=some t
   .
    obtain⟨j,Z,M⟩:=hw;rw[s1 j t Z M,Y j Z];unfold yH at_;simp only[M];have hb:t<a.tmps.size:=by rw[I.size]; exact T.inb j t M
    rw[Array.getElem?_eq_getElem hb]; rfl
   . rw[s2 t fun j Z M=>hw ⟨j,Z,M⟩,I.old t fun j Z M=>hw ⟨j,qo M,M⟩]
  have:(tr ops.size).tmps=a.tmps:=Array.ext_getElem? bt;have bg:(tr ops.size).defers=a.defers:=hz.2.trans I.defs.symm
  cases htr:tr ops.size with
  | mk t1 d1=>
   rw[htr]at this bg;simp only at this bg;subst this bg;rfl
 simp only[Nat.zero_add,Array.length_toList]at hf;rw[E]at hf
 exact hf _ _ W (fun j Z=>by unfold done; rw[all j Z]; simp) I.j fun p hp bi=>by
  obtain⟨h1,h2⟩:=S.fin p hp;refine⟨by unfold done; rw[bi,all p.1 h1]; rfl,by unfold yH; rw[h2],?_⟩;rw[<- h2];exact(I.call p.1 (all p.1 h1) bi).1
theorem bm (H:Act) (x:Cd) (hc:a9 k=false) (hst:jz o.op=true) (hw:Region.wanted o (yielded ops a.tmps)=true)
  (h:∀D v W,bj post k D->J D v W->aJ a9 G pre k a D v W->∀K:Act->Cc->Prop,Hid (K H W)->o.wp P a W K (fun _ _ _=>False)) (t:Tmp) (hd:o.dst=some t) (ht:t<a.tmps.size) (Y:H=a.put o.dst x)
  (M:RC P ops Q J a9 V G Sx b9 pre post (k+1) rest H):RC P ops Q J a9 V G Sx b9 pre post k (o::rest) a:=by
 unfold RC;rw[C8 (by rw[hc]; simp)];refine⟨x,fun D v W cw Z hf=> ?_,Y▸M⟩;have h:=h D v W cw Z hf (fun X T=>X=H/\T=W) ⟨rfl,rfl⟩;unfold yu;rw[C7 hw]
 have I:∀v,a.put o.dst v=H->v=x:=fun v hv=>by
  rw[Y,hd]at hv;have E:=xP (v:=v) ht;rw[hv,xP ht]at E
  injection E with E
  exact E.symm
 unfold Oper.wp at h
 cases M:(execOp a.eval o).run P W with
 | ok r T=>
  rw[M]at h
  rcases Yl hst M with⟨v,rfl⟩ | rfl
  .
   rw[Oper.upon_value]at h;obtain⟨E,rfl⟩:=h;exact .inl (by rw[I v E])
  .
   rw[Oper.upon_skip]at h;obtain⟨E,rfl⟩:=h;exact .inr ⟨rfl,(I _ E).symm⟩
 | halt r T=>
  rw[M]at h
  cases r<;>exact h.elim
theorem cM (hc:a9 k=false) (hw:Region.wanted o (yielded ops a.tmps)=false)
  (E:RC P ops Q J a9 V G Sx b9 pre post (k+1) rest (a.put o.dst Cf)):RC P ops Q J a9 V G Sx b9 pre post k (o::rest) a:=by
 unfold RC;rw[C8 (by rw[hc]; simp)];refine⟨Cf,fun D v W _ _ _=> ?_,E⟩;unfold yu;rw[C8 (by rw[hw]; simp)]
theorem RY {o:Oper} {a:Act} {E:Act} {x:Cd} (I:ops=L) (t:Tmp) (T:RC P ops Q J a9 V G Sx b9 pre post (k+1) rest E) (hc:a9 k=false:=by exact rfl) (hst:jz o.op=true:=by exact rfl) (hw:Region.wanted o (yielded L a.tmps)=true:=by exact rfl) (hd:o.dst=some t:=by exact rfl) (ht:Nat.ble (t+1) a.tmps.size=true:=by exact rfl)
  (h:∀W,∀K:Act->World->Prop,Hid (K E W)->o.wp P a W K (fun _ _ _=>False):=by (intro X K H; go_step; exact H.out)) (M:E=a.put o.dst x:=by exact rfl):RC P ops Q J a9 V G Sx b9 pre post k (o::rest) a:=
 bm E x hc hst (by rw[I]; exact hw) (fun _ _ W _ _ _ K H=>h W K H) t hd (Ca ht) M T
theorem sk (E:ops=L) (H:RC P ops Q J a9 V G Sx b9 pre post (k+1) rest (a.put o.dst Cf)) (hc:a9 k=false:=by exact rfl) (hw:Region.wanted o (yielded L a.tmps)=false:=by exact rfl):RC P ops Q J a9 V G Sx b9 pre post k (o::rest) a:=cM hc (by rw[E]; exact hw) H
theorem aB {n k:Nat} {o:Oper} {rest:List Oper} {a:Act} (hc:a9 k=true) (hb:∀t,o.dst=some t->t<a.tmps.size) (hw:Region.wanted o (yielded ops a.tmps)=true)
  (h:∀D v W,bj post k D->J D v W->aJ a9 G pre k a D v W->∀K:Act->Cc->Prop,Hid (∀x E,Sx k W E->J (upd D k) (aQ v k (dv o x)) E->G k (dv o x) E->V k (dv o x)->K (a.put o.dst x) E)->o.wpIn Fence.wide n P a W K (fun e _ E=>match e with | .panic c=>b9 c E | _=>False))
  (X:∀x,V k x->RC P ops Q J a9 V G Sx b9 pre post (k+1) rest (a.put o.dst x)):RC P ops Q J a9 V G Sx b9 pre post k (o::rest) a:=by
 unfold RC;rw[C7 hc];refine⟨fun D v W cw hj hf=> ?_,X⟩;have h:=h D v W cw hj hf (fun be E=>∃x,be=a.put o.dst x/\Sx k W E/\J (upd D k) (aQ v k (dv o x)) E/\G k (dv o x) E/\V k (dv o x)) (fun x E I Z Y h4=>⟨x,rfl,I,Z,Y,h4⟩);unfold aZ;rw[C7 hw]
 have M:∀u E,(∃x,a.put o.dst u=a.put o.dst x/\Sx k W E/\J (upd D k) (aQ v k (dv o x)) E/\G k (dv o x) E/\V k (dv o x))->Sx k W E/\J (upd D k) (aQ v k (dv o u)) E/\G k (dv o u) E/\V k (dv o u):=fun u E ⟨x,hv,I,Y,Z⟩=>by
  have:dv o u=dv o x:=by
   unfold dv
   cases hd:o.dst with
   | none=>rfl
   | some t=>
    rw[hd]at hv;have I:=xP (v:=u) (hb t hd);rw[hv,xP (hb t hd)]at I
    injection I with I
    exact I.symm
  rw[this];exact⟨I,Y,Z⟩
 unfold Oper.wpIn at h;replace h:=h.2;rw[show o.semAt Fence.wide.round a.eval=execOp a.eval o from rfl]at h;unfold Zv
 cases X:(execOp a.eval o).run P W with
 | ok r E=>
  rw[X]at h
  cases r
  case value v=>exact M v E h
  case skip=>exact M Cf E h
  case enter f args=>
   rw[Oper.uponIn_enter]at h;refine Calls.mono (callsIn_wide.1 h.2) fun e T H=> ?_
   cases e with
   | returned v=>exact M v T H
   | panicked c=>exact H
   | outgrown=>obtain⟨_,_,H⟩:=H; exact H.elim
  case defer d=>
   rw[Oper.uponIn_defer]at h;obtain⟨x,h,-⟩:=h;have I:=congrArg Act.defers h;rw[qt,qt]at I;exact absurd (congrArg List.length I) C3
  case row row args=>
   rw[Oper.uponIn_row]at h
   exact fun c cs=>by
    obtain⟨v,w',r,s⟩:=h.2 c cs (room_wide _);exact⟨v,w',M v w' r,stepsIn_wide.1 s⟩
  case round l f tmps assign body=>
   rw[Oper.uponIn_round]at h;refine qK (RoundIn.mono h.2 fun e T H=> ?_)
   cases e with
   | returned v=>exact M v T H
   | panicked c=>exact H
   | outgrown=>obtain⟨_,_,H⟩:=H; exact H.elim
  all_goals exact h.elim
 | halt r E=>
  rw[X]at h
  cases r<;>exact h
theorem aD {l:List Oper} (h:a=b) (E:RC P ops Q J a9 V G Sx b9 pre post k l b):RC P ops Q J a9 V G Sx b9 pre post k l a:=h▸E
theorem aH (h:∀D v W,(∀j,j<k->D j=a9 j)->J D v W->aJ a9 G pre k a D v W->Q .normal a W):RC P ops Q J a9 V G Sx b9 pre post k [] a:=h
theorem Xs {F:Fence} {md:Region.Mode} (I:Array Bool->Act->Cc->Prop)
  (step:∀E a w i,I E a w->i∈Region.ready md ops E->wpOpIn F n P ops Q i (fun X Y=>I (E.setIfInBounds i true) X Y) a w)
  (done:∀E a w,I E a w->Region.ready md ops E = []->Q .normal a w) :
  ∀H E a w,I E a w->xr ops E<=H->wpAnyIn F n P md ops Q H E a w:=by
 intro H
 induction H with
 | zero=>
  intro E a w T hf;have M:=ky (md:=md) (Nat.le_zero.1 hf);exact⟨M,done _ _ _ T M⟩
 | succ H ih=>
  intro E a w T hf;refine⟨fun M=>done _ _ _ T M,fun i Z=>wpOpIn_mono (fun X Y h=>ih _ X Y h ?_) (step _ _ _ i T Z)⟩;obtain⟨h1,h2⟩:=kS Z;have:=kx (ops:=ops) h1 h2;omega
theorem bK {id:Nat} (J:(Nat->Bool)->(Nat->Cd)->Cc->Prop) (a9:Nat->Bool) (V:Nat->Cd->Prop) (G:Nat->Cd->Cc->Prop) (Sx:Nat->Cc->Cc->Prop) (b9:List PanicEntry->Cc->Prop) (pre:Nat->List (Nat×Option Tmp)) (post:Nat->List Nat)
  (hm:P.follows .mixedOrders=true) (ht:tidy ops ah.tmps.size=true) (E:cS ops a9 pre post=true)
  (hV:∀k,∃x,V k x) (M:∀v,J (fun _=>false) v w.drew) (I:∀D v Y W,(∀j,D j=true->v j=Y j)->J D v W->J D Y W)
  (X:∀D v k j W T x,j≠k->a9 j=true->a9 k=true->J D v W->Sx k W T->G j x W->G j x T)
  (hP:∀a W c,a.defers=ah.defers->b9 c W->Q (.panic c) a W)
  (h:∀H Z,H=ops->(∀a W,Q .normal a W->Z .normal a W)->RC P H Z J a9 V G Sx b9 pre post 0 ops.toList ah):(Code.region id ops true).wpIn Fence.wide n P Q ah w:=by
 have hc:=h ops Q rfl (fun _ _ h=>h);refine wpIn_region_any hm ?_
 exact Xs (Inv P ops J a9 V G pre post ah) (bW ht E hV I X hP hc) (bY ht E hV I X hP hc) _ _ _ _ (jy M) (by
  unfold xr;have:=List.length_filter_le (fun i=> !(Array.replicate ops.size false).getD i true) (List.range ops.size)
  rwa[List.length_range]at this)
end
end aP
end
section
open Go.RowKit Go.Shelf
variable {p q z:Addr} {b:Bool} {d:Int} {Bs n n₀:Nat} {row:Option Nat} {x y:Cd} {A B W:Cc}
attribute [local go_sem] Oper.semAt_some
def KD (n₀ Bs:Nat) (W E:Cc):Prop:=Below n₀ W E/\E.heap[Bs]? = W.heap[Bs]?
theorem KD.refl (n₀ Bs:Nat) (W:Cc):KD n₀ Bs W W:=⟨Cp _ _,rfl⟩
theorem KD.trans {C:Cc} (h:KD n₀ Bs A B) (k:KD n₀ Bs B C):KD n₀ Bs A C:=⟨h.1.trans k.1,k.2.trans h.2⟩
theorem Wo {w:Cc} (H:n₀<=w.heap.size) (X:Bs<w.heap.size) (W:Cc) (l:Nat) (o E:Obj) (T:w.heap.size<=l) (h:W.heap[l]? = some o) (I:o.isCells=false) (M:o.isWalk=false):KD n₀ Bs W (W.putObj l E):=
 ⟨belowK_b H W l o E T h I M,(grownBy_putObj' W l E).block Bs (by have:=(Array.getElem?_eq_some_iff.1 h).1; omega) (fun e=>by cases e; omega)⟩
theorem JN (F:Fence) (n:Nat) (h8:F.fn 191) (bf:F.round=none) (hn:1<=n) (l Bs n₀ b off len cap:Nat) (Z:List Int) (bh:Z.length=len) (E:len<=aE) (hb:b<n₀) (J Jx:List (Fin len)->Cc->Prop)
  (hY:∀pre (x:Fin len) W,J pre W->pre.length<len->YieldAt F (n-1) Ch l #[Cz Cv ((x:Nat):Int),Cz Cw (Z.getD x 0)] W fun e M=>
   (e = Cg (.bool true)/\J (pre ++ [x]) M/\KD n₀ Bs W M)\/(e = Cg (.bool false)/\Jx (pre ++ [x]) M))
  (W:Cc) (be:W.cell? ⟨Bs,0,none⟩=some (Cq (some ⟨b,off,none⟩) len cap)) (hc:Cells W b off Z) (h0:J [] W) :
  CallsIn F n Ch 191 #[.func (.yield l) #[] #[],Cj (some ⟨Bs,0,none⟩)] W fun e M=>(∃v,e = Cg v)/\
   ((∃ys,ys=yA len len (Cl _)/\J ys M)\/(∃pre,(∃k,∃Y:k<=len,pre=yA len k Y)/\Jx pre M)):=by
 unfold aE at E;refine callsIn_of_wp Tryz.func191 rfl h8 ?_ bf;simp only[Tryz.ntmps191,List.size_toArray,List.length_cons,List.length_nil,Nat.reduceAdd,Nat.reduceSub,Array.replicate_succ,Array.replicate_zero,List.push_toArray,List.append_toArray,List.nil_append,List.cons_append]
 gi_wp2
 gi_loopw [3] (fun i wr=>∃ (k:Nat) (Y:k<=len),i = Cz Cv ((len:Int)-1-k)/\J (yA len k Y) wr/\KD n₀ Bs W wr)
  (fun i _=>(intOf i+1).toNat)
 case atStart=>exact⟨0,Nat.zero_le _,by go_num,h0,KD.refl _ _ _⟩
 case round=>
  obtain⟨k,Y,rfl,X,I⟩:=hrel;have bl:=(World.cell?_of_block (a:=⟨Bs,0,none⟩) I.2).trans be
  rcases Cm k len with H | bi
  .
   obtain⟨j,hj⟩:∃j,len-1-k=j:=⟨_,rfl⟩;have T:j<len:=B_
   have bg:=(I.1.cell (p:=⟨b,off+j,none⟩) hb).trans (hc j B_);obtain⟨fn,tmps,assign,body,hy,hR⟩:=hY _ ⟨j,T⟩ wr X (by rw[kv]; exact H);dsimp only at hy;obtain⟨v,hv⟩:∃v,Z.getD j 0=v:=⟨_,rfl⟩;rw[hv]at bg hy;clear hv;have hi:(len:Int)-1-k=(j:Int):=B_
   rw[hi];have HD:Hid (yA len (k+1) H=yA len k Y ++ [⟨j,T⟩]):=by subst hj; rfl
   have hm:Hid (len-1-k=j/\k<len):=⟨hj,H⟩;clear hj
   gi_wp2
   refine hR.mono ?_;rintro e W3 (⟨rfl,hJ3,hk3⟩ | ⟨rfl,hJx3⟩)
   .
    gi_wp2
    go_roundw
    case rel=>exact⟨k+1,hm.out.2,by go_num,by rw[HD.out]; exact hJ3,I.trans hk3⟩
    case measure=>simp[intOf]
   .
    gi_wp2
    refine bodyPost_ret (results_none rfl _ _ _) rfl ?_;exact⟨⟨_,rfl⟩,.inr ⟨_,⟨k+1,hm.out.2,HD.out.symm⟩,hJx3⟩⟩
  .
   obtain rfl:k=len:=B_
   gi_wp2
   go_end0
   exact⟨⟨_,rfl⟩,.inl ⟨_,rfl,X⟩⟩
theorem vz (F:Fence) (n:Nat) (h8:F.fn 191) (I:F.round=none) (hn:1<=n) (Bs n₀:Nat) (ao:Option Addr) (cap len:Nat) (T:List Int) (M:T.length=len) (E:len<=aE) (w:Cc) (Y:Bs<w.heap.size) (X:n₀<=w.heap.size)
  (hc:w.cell? ⟨Bs,0,none⟩=some (Cq ao len cap)) (hI:0<len->∃b o,ao=some ⟨b,o,none⟩/\b<n₀/\Cells w b o T) :
  SeqStopsK F n Ch 191 #[Cj (some ⟨Bs,0,none⟩)] (Xn T len) (KD n₀ Bs) (fun ys=>ys=yA len len (Cl _))
   (fun pre=>∃k,∃hk:k<=len,pre=yA len k hk) len w:=fun l J Jx W hW _ _ hY h0=>by
 have H:=(hW.cell (p:=⟨Bs,0,none⟩) Y).trans hc
 rcases Nat.eq_zero_or_pos len with h | h
 .
  subst h;exact(Xm F n h8 I l Bs ao cap J W H h0).mono fun e W' ⟨he,hj⟩=>⟨he,.inl ⟨_,rfl,hj⟩⟩
 .
  obtain⟨b,o,rfl,hb,Z⟩:=hI h;exact JN F n h8 I hn l Bs n₀ b o len cap T M E hb J Jx hY W H (Z.below hW (Nat.lt_of_lt_of_le hb X)) h0
def jr (d:Int) (A:List Int) {n:Nat} (s:List Int×Int) (i:Fin n):List Int×Int:=
 (s.1.set (i:Nat) ((s.2*4294967296+A.getD (i:Nat) 0) / d),(s.2*4294967296+A.getD (i:Nat) 0)%d)
def j7 (d:Int) (A:List Int) (n:Nat) (pre:List (Fin n)):List Int×Int:=pre.foldl (jr d A) (List.replicate n 0,0)
theorem Zw (d:Int) (A:List Int) (n:Nat) (pre:List (Fin n)) (i:Fin n):j7 d A n (pre ++ [i])=jr d A (j7 d A n pre) i:=by
 simp[j7,List.foldl_append]
theorem Kz {A:List Int} (Z:1<=d) (X:d<4294967296) (H:yn A) (pre:List (Fin n)):(j7 d A n pre).1.length=n/\yn (j7 d A n pre).1/\0<=(j7 d A n pre).2/\(j7 d A n pre).2<d:=by
 suffices h:∀ (pre:List (Fin n)) (s:List Int×Int),(s.1.length=n/\yn s.1/\0<=s.2/\s.2<d)->
   ((pre.foldl (jr d A) s).1.length=n/\yn (pre.foldl (jr d A) s).1/\0<=(pre.foldl (jr d A) s).2/\(pre.foldl (jr d A) s).2<d) from
  h pre (List.replicate n 0,0) ⟨by simp,fun x I=>by obtain rfl:=List.eq_of_mem_replicate I; omega,by simp,by simp; omega⟩
 intro pre
 induction pre with
 | nil=>intro s h; exact h
 | cons i pre ih=>
  intro s h;obtain⟨E,M,T,Y⟩:=h;refine ih _ ?_;have u0:=zF H (i:Nat);have q0:0<=(s.2*4294967296+A.getD (i:Nat) 0) / d:=Int.ediv_nonneg B_ B_;have q1:(s.2*4294967296+A.getD (i:Nat) 0) / d<4294967296:=Int.ediv_lt_of_lt_mul B_ B_;exact⟨by simpa[jr]using E,V8 M _ q0 q1,Int.emod_nonneg _ B_,Int.emod_lt_of_pos _ B_⟩
theorem j8 (j:Nat) (x:Int) (qs:List Int):(List.replicate (j+1) (0:Int)++qs).set j x=List.replicate j 0++x::qs:=by
 rw[List.replicate_succ',List.append_assoc,List.set_append_right _ _ C3];simp
theorem Ym {A:List Int} (T:A.length=n) (X:1<=d):∀ (k:Nat) (E:k<=n),∃qs,(j7 d A n (yA n k E)).1=List.replicate (n-k) 0++qs/\qs.length=k/\zj (A.drop (n-k))=d*zj qs+(j7 d A n (yA n k E)).2:=by
 intro k
 induction k with
 | zero=>intro E; exact⟨[],by simp[j7,yA],rfl,by rw[List.drop_of_length_le B_]; simp[j7,yA,zj]⟩
 | succ k ih=>
  intro E;obtain⟨qs,I,M,H⟩:=ih B_;rw[yA,Zw];dsimp only[jr];refine⟨((j7 d A n (yA n k (Nat.le_of_succ_le E))).2*4294967296+A.getD (n-1-k) 0) / d::qs,?_,by simp[M],?_⟩
  . rw[I,show n-k=(n-1-k)+1 by omega,j8,show n-(k+1)=n-1-k by omega]
  .
   have S:=Zk (x:=A.getD (n-1-k) 0) H;rw[yq A (n-(k+1)),show n-(k+1)+1=n-k by omega,show n-(k+1)=n-1-k by omega,S];simp only[zj]
theorem zZ {g:Nat} {t:TypeId} {cs:Array Cd} (h:ai A g t cs) (H:A.grownBy B row) (I:∀r,row=some r->∃o:Obj,A.heap[r]? = some o/\o.isCells=false):ai B g t cs:=by
 refine(H.block g h.lt (fun e=> ?_)).trans h;obtain⟨o,E,hc⟩:=I g e.symm;unfold ai at h;rw[h]at E
 cases E
 cases hc
theorem jA {v:Cd} {l:List Int} (h:aA A v l) (E:A.grownBy B row) (Z:∀r,row=some r->∃o:Obj,A.heap[r]? = some o/\o.isCells=false):aA B v l:=by
 obtain⟨h0,ao,cap,e,M,H,T⟩:=h;refine⟨h0,ao,cap,e,M,H,fun Y=> ?_⟩;obtain⟨b,o,I,X,hc⟩:=T Y;exact⟨b,o,I,Nat.lt_of_lt_of_le X E.size,fun t ht=>cell_kept (hc t ht) E Z⟩
def KA (p q:Addr) (x y:Cd) (b c:Bool) (W:Cc):Cc:=
 let V:=match b with | true=>W.setCell p x | false=>W
 match c with | true=>V.setCell q y | false=>V
theorem Jh {c:Bool} (H:z.block≠p.block) (E:z.block≠q.block):(KA p q x y b c W).cell? z=W.cell? z:=by
 cases b<;>cases c<;>simp only[KA]
 . exact World.cell?_of_block (Below.heap_setCell _ _ _ _ E)
 . exact World.cell?_of_block (Below.heap_setCell _ _ _ _ H)
 . exact(World.cell?_of_block (Below.heap_setCell _ _ _ _ E)).trans (World.cell?_of_block (Below.heap_setCell _ _ _ _ H))
theorem Yn (E:z.block≠p.block):(KA p q x y b false W).cell? z=W.cell? z/\(KA p q x y b false W).frozen? z=W.frozen? z:=by
 cases b
 . exact⟨rfl,rfl⟩
 . exact⟨World.cell?_of_block (Below.heap_setCell _ _ _ _ E),World.frozen?_of_block (Below.heap_setCell _ _ _ _ E)⟩
theorem Wp {a:Cd} {A:List Int} (w:Cc) (ha:aA w a A) (nA:A.length<=aE) (d0:1<=d) (d1:d<4294967296) :
  Cb Ch 161 #[a,Cz Cw d] w fun e w'=>∃q,e = Cg (.tuple #[q,Cz Cw (zj A%d)])/\aA w' q (zn (zj A / d))/\zf w w':=by
 obtain⟨aa,ca,rfl⟩:=ha.au;obtain⟨oa,-,la,fa⟩:=ha.cells;obtain⟨len,be⟩:∃n,A.length=n:=⟨_,rfl⟩;have HA:=C5 ha;rw[be]at la fa nA|-;have cY:=xE len (by unfold aE at nA; omega);have bg:Fence.wide.round=none:=rfl;refine(callsIn_wide (n:=3)).1 ?_;refine callsIn_of_wp_marks Tryz.func161 rfl trivial ?_ bg;simp only[Tryz.ntmps161,List.size_toArray,List.length_cons,List.length_nil,Nat.reduceAdd,Nat.reduceSub,Array.replicate_succ,Array.replicate_zero,List.push_toArray,List.append_toArray,List.nil_append,List.cons_append]
 gi_wp2_with (refine⟨trivial,?_⟩; gi_at_call 166; refine(YK Fence.wide 2 trivial bg _ _ _ _).mono ?_; rintro e w' ⟨rfl,rfl⟩)
 have b1:=Boxed.new w 172 (Cz Cw d)
 have b2:ai ((w.alloc (.cells #[Cz Cw d] 172)).alloc (.cells (madeCells #[Cz Cw 0] len) 172)) (w.heap.size+1) 172 (zH (List.replicate len 0)).toArray:=by
  have:=ai.dT w (.cells #[Cz Cw d] 172) 172 (madeCells #[Cz Cw 0] len);rw[yt]at this|-;exact this
 have b3:=Boxed.new ((w.alloc (.cells #[Cz Cw d] 172)).alloc (.cells (madeCells #[Cz Cw 0] len) 172)) 24 (Cq (some ⟨w.heap.size+1,0,none⟩) len len);have b4:=Boxed.new (((w.alloc (.cells #[Cz Cw d] 172)).alloc (.cells (madeCells #[Cz Cw 0] len) 172)).alloc (.cells #[Cq (some ⟨w.heap.size+1,0,none⟩) len len] 24)) 172 (Cz Cw 0);have b5:=Boxed.new ((((w.alloc (.cells #[Cz Cw d] 172)).alloc (.cells (madeCells #[Cz Cw 0] len) 172)).alloc (.cells #[Cq (some ⟨w.heap.size+1,0,none⟩) len len] 24)).alloc (.cells #[Cz Cw 0] 172)) 24 (Cq aa len ca);simp only[Co]at b3 b4 b5;have bh:Below w.heap.size w (((((w.alloc (.cells #[Cz Cw d] 172)).alloc (.cells (madeCells #[Cz Cw 0] len) 172)).alloc (.cells #[Cq (some ⟨w.heap.size+1,0,none⟩) len len] 24)).alloc (.cells #[Cz Cw 0] 172)).alloc (.cells #[Cq aa len ca] 24)):=(((((Cp _ w).alloc (Cl _) _).alloc C3 _).alloc (by simp; omega) _).alloc (by simp; omega) _).alloc (by simp; omega) _
 have br:0<len->∃b o,aa=some ⟨b,o,none⟩/\b<w.heap.size/\Cells (((((w.alloc (.cells #[Cz Cw d] 172)).alloc (.cells (madeCells #[Cz Cw 0] len) 172)).alloc (.cells #[Cq (some ⟨w.heap.size+1,0,none⟩) len len] 24)).alloc (.cells #[Cz Cw 0] 172)).alloc (.cells #[Cq aa len ca] 24)) b o A:=fun h=>by
  obtain⟨b,o,e,hb,hc⟩:=fa h;exact⟨b,o,e,hb,hc.below bh hb⟩
 have SO:=fun pre=>Kz (n:=len) d0 d1 oa pre
 refine wpIn_rangeFunc_ownG bg (show 1<=3 by omega) (gf:=191) (lb:=#[Cj (some ⟨w.heap.size+1+1+1+1,0,none⟩)]) rfl trivial (enters_of Tryz.func191 B' rfl)
  (vz Fence.wide 2 trivial bg B_ (w.heap.size+1+1+1+1) w.heap.size aa ca len A be nA _ C3 (by simp; omega) b5.cell br) KD.trans (Wo (by simp; omega) C3) (Cp _ _) (fun _=>rfl)
  (fun(pre:List (Fin len)) W=>(ai W (w.heap.size+1) 172 (zH (j7 d A len pre).1).toArray/\W.cell? ⟨w.heap.size,0,none⟩=some (Cz Cw d)/\W.cell? ⟨w.heap.size+1+1,0,none⟩=some (Cq (some ⟨w.heap.size+1,0,none⟩) len len)/\W.cell? ⟨w.heap.size+1+1+1,0,none⟩=some (Cz Cw (j7 d A len pre).2)/\W.frozen? ⟨w.heap.size+1+1+1,0,none⟩=false)/\Below w.heap.size w W)
  (fun _ _ _=>False)
  (OwnFrom.and (Own.from (fun s A B row H hg Z=>⟨zZ H.1 hg Z,cell_kept H.2.1 hg Z,cell_kept H.2.2.1 hg Z,cell_kept H.2.2.2.1 hg Z,(frozen_kept H.2.2.2.1 hg Z).trans H.2.2.2.2⟩) _) (ownFrom_below (Cl _) (by simp; omega)))
  (fun _ _ _ _ _ H _ _=>H)
  ⟨⟨((b2.alloc _).alloc _).alloc _,(((((b1.alloc _).alloc _).alloc _).alloc _)).cell,((b3.alloc _).alloc _).cell,(b4.alloc _).cell,(b4.alloc _).frozen⟩,bh⟩
  (fun x=>{ tmps:=#[Cq aa len ca,Cz Cw d,Cf,Cj (some ⟨w.heap.size,0,none⟩),Cq none 0 0,Cz Cw 0,Cj (some ⟨w.heap.size+1+1,0,none⟩),Cj (some ⟨w.heap.size+1+1+1,0,none⟩),Cz Cv ((x:Nat):Int),Cz Cw (A.getD x 0),Cq aa len ca,Cz Cv len,Cq (some ⟨w.heap.size+1,0,none⟩) len len,Cq aa len ca,.func (.func 191) #[] #[Cj (some ⟨w.heap.size+1+1+1+1,0,none⟩)],Cz Cv ((x:Nat):Int),Cz Cw (A.getD x 0),Cf,Cf,Cf,Cf,Cf,Cf,Cf,Cf,Cf,Cf,Cf,Cf,Cf],defers:= [] }) ?assign ?body ?done ?stop
 case assign=>
  intro l x W K M;dsimp only[Xn];obtain⟨u,hu⟩:∃u,A.getD (x:Nat) 0=u:=⟨_,rfl⟩;simp only[hu]at M|-;clear hu
  gi_wp2
  exact M
 case body=>
  rintro l pre x W ⟨⟨hb,bq,bf,E,bt⟩,hB⟩ _;obtain⟨i,hi⟩:=x;have Y:=SO pre;obtain⟨u,hu⟩:∃u,A.getD i 0=u:=⟨_,rfl⟩;obtain⟨r,Z⟩:∃r,(j7 d A len pre).2=r:=⟨_,rfl⟩;have u0:=zF oa i;rw[hu]at u0;rw[Z]at E Y;have r0:=Y.2.2.1;have r1:=Y.2.2.2;have cy:W.cell? ⟨w.heap.size+1,i,none⟩=some (Cz Cw ((j7 d A len pre).1.getD i 0)):=hb.c _ (by simpa using xy (j7 d A len pre).1 i B_);obtain⟨v,hv⟩:∃v,(j7 d A len pre).1.getD i 0=v:=⟨_,rfl⟩;rw[hv]at cy;have dd:W.frozen? ⟨w.heap.size+1,i,none⟩=false:=hb.fr _
  have z1:w.heap.size+1+1+1<W.heap.size:=by
   rcases Cm (w.heap.size+1+1+1) W.heap.size with h | h
   . exact h
   . simp[World.cell?,Array.getElem?_eq_none h]at E
  have HH:=C5 (C6 hb (C6 hu Z));dsimp only;rw[hu];clear hb hu Z hv br fa b1 b2 b3 b4 b5 bh cY Y
  gi_wp2_with fail
  refine qz (fun D _ X=>∃m,X=(KA ⟨w.heap.size+1,i,none⟩ ⟨w.heap.size+1+1+1,0,none⟩ (Cz Cw ((r*4294967296+u) / d)) (Cz Cw ((r*4294967296+u)%d)) (D 10) (D 11) W).drewN m)
   (aj.inl [5,10,11]) (aj.ge [(5,.tuple #[Cz Cw ((r*4294967296+u) / d),Cz Cw ((r*4294967296+u)%d)])]) aj.aU (fun _=>aj.Any) (fun _ _=>False) (aj.pl []) (aj.pl [(2,[11]),(10,[11])])
   B' B' B' B' (aj.bX _) (fun v=> ?_) (fun _ _ _ _ _ h=>h) (fun _ _ _ _ _ _ _ _ _ _ _ _ _=>aj.none_) (fun _ _ _ _ h=>h.elim) (fun cN Q' ce hQ=> ?_)
  . exact⟨1,rfl⟩
  apply aj.RP rfl rfl rfl 18 rfl rfl
  .
   intro D v' X hc T hf K M;obtain⟨m,rfl⟩:=T;have c1:=(Jh (p:=⟨w.heap.size+1,i,none⟩) (q:=⟨w.heap.size+1+1+1,0,none⟩) (x:= Cz Cw ((r*4294967296+u) / d)) (y:= Cz Cw ((r*4294967296+u)%d)) (b:=D 10) (c:=D 11) (W:=W) (z:=⟨w.heap.size+1+1,0,none⟩) (by dsimp only; omega) (by dsimp only; omega));rw[bf]at c1;go_step;exact M.out
  . rfl
  refine aj.aK 19 ?_;apply aj.RP rfl rfl rfl 20 rfl rfl
  .
   intro D v' X hc T hf K M;obtain⟨m,rfl⟩:=T;have H:D 11=false:=hc.2 11 C0;have c1:(KA ⟨w.heap.size+1,i,none⟩ ⟨w.heap.size+1+1+1,0,none⟩ (Cz Cw ((r*4294967296+u) / d)) (Cz Cw ((r*4294967296+u)%d)) (D 10) (D 11) W).cell? ⟨w.heap.size+1+1+1,0,none⟩=some (Cz Cw r):=by rw[H]; exact(Yn (by dsimp only; omega)).1.trans E
   clear H;go_step;exact M.out
  . rfl
  refine aj.aK 21 ?_;apply aj.RP rfl rfl rfl 22 rfl rfl
  .
   intro D v' X hc T hf K M;obtain⟨m,rfl⟩:=T;have c1:=(Jh (p:=⟨w.heap.size+1,i,none⟩) (q:=⟨w.heap.size+1+1+1,0,none⟩) (x:= Cz Cw ((r*4294967296+u) / d)) (y:= Cz Cw ((r*4294967296+u)%d)) (b:=D 10) (c:=D 11) (W:=W) (z:=⟨w.heap.size,0,none⟩) (by dsimp only; omega) (by dsimp only; omega));rw[bq]at c1;go_step;exact M.out
  . rfl
  refine aj.dZ _ (fun _ h=>h) rfl (by intro t ht; cases ht; exact Ca rfl) rfl (fun D v' X hc T hf K M=> ?_) (aj.aD (b:=⟨#[_,_,_,_,_,_,_,_,_,_,_,_,_,_,_,_,_,_,_,_,_,_,_,_,_,_,_,_,_,_],[]⟩) rfl ?_)
  .
   obtain⟨m,rfl⟩:=T;go_step;refine(Ge r u d _ r0 r1 u0 d1).mono ?_;rintro e W2 ⟨rfl,n2,rfl⟩;exact M.out _ _ aj.any ⟨m+n2,by rw[World.drewN_drewN]; rfl⟩ aj.none_ rfl
  repeat refine aj.aK _ ?_
  refine aj.dE (fun D v' X hc T hf K M=> ?_) (fun _ _=>aj.aD (b:=⟨_,[]⟩) rfl ?_)
  .
   obtain⟨m,rfl⟩:=T;have H:D 10=false:=hc.1;have cg:D 11=false:=hc.2 11 C0;rw[H,cg];have c1:((KA ⟨w.heap.size+1,i,none⟩ ⟨w.heap.size+1+1+1,0,none⟩ (Cz Cw ((r*4294967296+u) / d)) (Cz Cw ((r*4294967296+u)%d)) false false W).drewN m).cell? ⟨w.heap.size+1,i,none⟩=_:=cy;have c2:((KA ⟨w.heap.size+1,i,none⟩ ⟨w.heap.size+1+1+1,0,none⟩ (Cz Cw ((r*4294967296+u) / d)) (Cz Cw ((r*4294967296+u)%d)) false false W).drewN m).frozen? ⟨w.heap.size+1,i,none⟩=_:=dd;go_step;exact M.out Cf _ aj.any ⟨m,by show _=(KA ⟨w.heap.size+1,i,none⟩ ⟨w.heap.size+1+1+1,0,none⟩ (Cz Cw ((r*4294967296+u) / d)) (Cz Cw ((r*4294967296+u)%d)) true (D 11) W).drewN m; rw[cg]; rfl⟩ aj.none_ trivial
  refine aj.dE (fun D v' X hc T hf K M=> ?_) (fun _ _=>aj.aD (b:=⟨_,[]⟩) rfl ?_)
  .
   obtain⟨m,rfl⟩:=T;have H:D 11=false:=hc.1;rw[H];have c0:=Yn (p:=⟨w.heap.size+1,i,none⟩) (q:=⟨w.heap.size+1+1+1,0,none⟩) (x:= Cz Cw ((r*4294967296+u) / d)) (y:= Cz Cw ((r*4294967296+u)%d)) (b:=D 10) (W:=W) (z:=⟨w.heap.size+1+1+1,0,none⟩) (by dsimp only; omega);have c1:((KA ⟨w.heap.size+1,i,none⟩ ⟨w.heap.size+1+1+1,0,none⟩ (Cz Cw ((r*4294967296+u) / d)) (Cz Cw ((r*4294967296+u)%d)) (D 10) false W).drewN m).cell? ⟨w.heap.size+1+1+1,0,none⟩=_:=c0.1.trans E;have c2:((KA ⟨w.heap.size+1,i,none⟩ ⟨w.heap.size+1+1+1,0,none⟩ (Cz Cw ((r*4294967296+u) / d)) (Cz Cw ((r*4294967296+u)%d)) (D 10) false W).drewN m).frozen? ⟨w.heap.size+1+1+1,0,none⟩=_:=c0.2.trans bt;go_step;exact M.out Cf _ aj.any ⟨m,rfl⟩ aj.none_ trivial
  refine aj.aH (fun D v' X hd T hf=> ?_);obtain⟨m,I⟩:=T;rw[hd 10 C0,hd 11 C0]at I;replace I:X=((W.setCell ⟨w.heap.size+1,i,none⟩ (Cz Cw ((r*4294967296+u) / d))).setCell ⟨w.heap.size+1+1+1,0,none⟩ (Cz Cw ((r*4294967296+u)%d))).drewN m:=I;clear hd hf;refine hQ _ _ ?_;clear hQ ce Q' cN
  gi_wp2
  have dc:=(SO pre).1;have SN:=Zw d A len pre ⟨i,hi⟩;have dl:=HH.out.1
  have k1:KeepsOthers W X:=by
   rw[I];have k0:KeepsOthers W ((W.setCell ⟨w.heap.size+1,i,none⟩ (Cz Cw ((r*4294967296+u) / d))).setCell ⟨w.heap.size+1+1+1,0,none⟩ (Cz Cw ((r*4294967296+u)%d))):=(KeepsOthers.setCell W ⟨w.heap.size+1,i,none⟩ (Cz Cw ((r*4294967296+u) / d))).trans (KeepsOthers.setCell _ ⟨w.heap.size+1+1+1,0,none⟩ (Cz Cw ((r*4294967296+u)%d)));exact⟨k0.size,k0.same⟩
  have k3:∀k,k≠w.heap.size+1->k≠w.heap.size+1+1+1->X.heap[k]? = W.heap[k]? :=fun k h1 h2=>by
   rw[I];exact(Below.heap_setCell _ _ _ _ h2).trans (Below.heap_setCell _ _ _ _ h1)
  have k2:KD w.heap.size (w.heap.size+1+1+1+1) W X:=by
   refine⟨?_,k3 _ B_ B_⟩;rw[I];exact yD (((Cp w.heap.size W).setCell (p:=⟨w.heap.size+1,i,none⟩) (Nat.le_succ _) _).setCell (p:=⟨w.heap.size+1+1+1,0,none⟩) (show w.heap.size<=w.heap.size+1+1+1 by omega) _) m
  refine⟨k1.from _,k2,⟨?_,?_,?_,?_,?_⟩,hB.trans k2.1⟩
  .
   rw[SN];have d9:=dl.bI i (Cz Cw ((r*4294967296+u) / d));have bl:=(d9.aG (b:=w.heap.size+1+1+1) (i:=0) (u:= Cz Cw ((r*4294967296+u)%d)) B_).drewN m;rw[<- I]at bl;dsimp only[jr];rw[HH.out.2.1,HH.out.2.2];rw[show (zH (j7 d A len pre).1).toArray.setIfInBounds i (Cz Cw ((r*4294967296+u) / d))=(zH ((j7 d A len pre).1.set i ((r*4294967296+u) / d))).toArray by simp[zH,List.map_set]]at bl;exact bl
  . exact(World.cell?_of_block (a:=⟨w.heap.size,0,none⟩) (k3 w.heap.size B_ B_)).trans bq
  . exact(World.cell?_of_block (a:=⟨w.heap.size+1+1,0,none⟩) (k3 (w.heap.size+1+1) B_ B_)).trans bf
  .
   rw[SN,I];dsimp only[jr];rw[HH.out.2.1,HH.out.2.2];exact World.cell?_setCell_same' _ _ _ (by rw[show (W.setCell ⟨w.heap.size+1,i,none⟩ (Cz Cw ((r*4294967296+u) / d))).cell? ⟨w.heap.size+1+1+1,0,none⟩=W.cell? ⟨w.heap.size+1+1+1,0,none⟩ from World.cell?_of_block (Below.heap_setCell _ _ _ _ (by dsimp only; omega)),E]; rfl)
  .
   rw[I]
   show ((W.setCell ⟨w.heap.size+1,i,none⟩ (Cz Cw ((r*4294967296+u) / d))).setCell ⟨w.heap.size+1+1+1,0,none⟩ (Cz Cw ((r*4294967296+u)%d))).frozen? ⟨w.heap.size+1+1+1,0,none⟩=false
   rw[World.frozen?_setCell,World.frozen?_setCell];exact bt
 case done=>
  rintro D ys W hD rfl ⟨⟨hb,bq,bf,E,bt⟩,hB⟩ M;have dk:D<W.heap.size:=(Array.getElem?_eq_some_iff.1 M).1;obtain⟨qs,f1,f2,f3⟩:=Ym (d:=d) be d0 len (Cl _);rw[Nat.sub_self,List.replicate_zero,List.nil_append]at f1;rw[Nat.sub_self,List.drop_zero]at f3;have Y:=SO (yA len len (Cl _));obtain⟨r,Z⟩:∃r,(j7 d A len (yA len len (Cl _))).2=r:=⟨_,rfl⟩;rw[Z]at E f3 Y;rw[f1]at hb Y;have QR:=jc f3 Y.2.2.1 Y.2.2.2
  have LQ:aA W (Cq (some ⟨w.heap.size+1,0,none⟩) len len) qs:=by
   have:=aA.aY hb Y.2.1;rw[f2]at this;exact this
  have HQ:=C5 (C6 QR (C6 Y.2.1 f2));have HB:=C5 hB;have HK:=C5 M;have lq:qs.length<=aE:=B_
  have z1:w.heap.size+1+1+1<W.heap.size:=by
   rcases Cm (w.heap.size+1+1+1) W.heap.size with h | h
   . exact h
   . simp[World.cell?,Array.getElem?_eq_none h]at E
  clear hb Z f1 f3 Y QR hB M br fa b1 b2 b3 b4 b5 bh cY SO
  gi_wp2_with fail
  refine wpIn_wide.2 ?_;go_wp2_with fail
  go_region_held3 (fun w'=>w'.cell? ⟨w.heap.size+1+1,0,none⟩=some (Cq (some ⟨w.heap.size+1,0,none⟩) len len)/\w'.cell? ⟨w.heap.size+1+1+1,0,none⟩=some (Cz Cw r))
   (first | exact⟨bf,E⟩ | exact⟨cx,ci⟩)
   (first
    | ((go_at_call 133; refine(Yj _ (show aA W.drew _ _ from LQ) lq).mono ?_; rintro e wv ⟨v,rfl,hv,H⟩; go_must (have cx:=(H.cell (p:=⟨w.heap.size+1+1,0,none⟩) (show w.heap.size+1+1<W.heap.size by omega)).trans bf; have ci:=(H.cell (p:=⟨w.heap.size+1+1+1,0,none⟩) (show w.heap.size+1+1+1<W.heap.size by omega)).trans E))))
  go_wp2
  gi_wp2
  have bi:wv.heap[D]? = some (.deferred (some [])):=(H.block D dk).trans HK.out;refine⟨by simp,.inl ⟨_,_,rfl,run_takeDeferred bi,?_⟩⟩;refine⟨.tuple #[v,Cz Cw r],?_,v,?_,?_,?_⟩
  . simp[results,Tryz.f161,go_sem]
  . rw[HQ.out.1.2]
  .
   rw[HQ.out.1.1,ye HQ.out.2.1];exact jA hv (grownBy_putObj' _ D (.deferred none)) (fun r e=>by cases e; exact⟨_,bi,rfl⟩)
  . exact(zp (W:=W.drew) HB.out.drew (Cl _) H).trans (belowK_b (w:=w) (Cl _) _ D _ _ (by simp at hD; omega) bi rfl rfl)
 case stop=>
  rintro D c pre W _ _ h _;exact h.elim
end
end Go.Proofs.YtffmbepfbienaaaGreat
