import Derived.Test.YtdkcffnmlllamaaGreatMNa
import Derived.Laws.Cover3
set_option linter.unusedVariables false
set_option linter.unusedSimpArgs false
set_option maxHeartbeats 6400000
set_option maxRecDepth 1000000
namespace Go.Proofs.YtdkcffnmlllamaaGreat
open Go.RowKit
theorem run_eql_slice_nil {P:Program} (w:World) (t e:TypeId) (a:Option Addr) (l c:Nat) (h:P.underlying t=some (.slice e)):(binOp .eql t (.slice a l c) (.slice none 0 0)).run P w = .ok (.bool a.isNone) w:=by
 simp only[binOp]
 simp[run_equal_slice_nil w t e a l c h]
theorem bits_or_add {a b:Int} {s:Nat} (ha:0≤a) (hb:0≤b) (hlt:b<((2^s:Nat):Int)) (hbd:a*((2^s:Nat):Int)+b<18446744073709551616):bits .or .u64 (a*((2^s:Nat):Int)) b=a*((2^s:Nat):Int)+b:=by
 obtain⟨n,rfl⟩:=Int.eq_ofNat_of_zero_le ha
 obtain⟨m,rfl⟩:=Int.eq_ofNat_of_zero_le hb
 rw[← Int.natCast_mul]at hbd⊢
 rw[bits_or_u64_nat _ _ (by omega) (by omega)]
 have h:=Nat.shiftLeft_add_eq_or_of_lt (i:=s) (b:=m) (by omega) n
 rw[Nat.shiftLeft_eq]at h
 rw[← h]
 omega
theorem bits_or_comm64 (a b:Int):bits .or .u64 a b=bits .or .u64 b a:=by
 show IntKind.u64.wrap (((BitVec.ofInt 64 a ||| BitVec.ofInt 64 b).toNat:Nat):Int)=IntKind.u64.wrap (((BitVec.ofInt 64 b ||| BitVec.ofInt 64 a).toNat:Nat):Int)
 rw[BitVec.or_comm]
theorem bdiv (h l y:Int) (w:World) (h0:0≤h) (h1:h<y) (l0:0≤l∧l<4294967296) (y0:y<4294967296) :
  Calls Tryz.prog 160 #[.int .u32 h,.int .u32 l,.int .u32 y] w fun e w'=>e = .returned (.tuple #[.int .u32 ((h*4294967296+l) / y),.int .u32 ((h*4294967296+l)%y)])∧∃n,w'=w.drewN n:=by
 have hor:bits .or .u64 (h*4294967296) l=h*4294967296+l:=bits_or_add (s:=32) h0 l0.1 (by simpa using l0.2) (by simp; omega)
 obtain⟨t,ht⟩:∃t,h*4294967296+l=t:=⟨_,rfl⟩
 have t0:0≤t∧t<y*4294967296:=by omega
 have q0:0≤t / y:=Int.ediv_nonneg t0.1 (by omega)
 have q1:t / y<4294967296:=Int.ediv_lt_of_lt_mul (by omega) (by rw[Int.mul_comm]; exact t0.2)
 have m0:=Int.emod_nonneg t (show y≠0 by omega)
 have m1:=Int.emod_lt_of_pos t (show 0<y by omega)
 have e1:t / y%4294967296=t / y:=Int.emod_eq_of_lt q0 q1
 have e2:t%y%4294967296=t%y:=Int.emod_eq_of_lt m0 (by omega)
 have yz:(y==0)=false:=by simp; omega
 rw[ht]at hor⊢
 clear ht
 have t1:t<18446744073709551616:=by omega
 go_enter Tryz.func160,Tryz.ntmps160
 go_wp2
 go_quiet (fail)
 go_wp2
 go_returns
 exact⟨by first | rfl | (rw[e1,e2]),_,rfl⟩
theorem wclone {a:Value} {l:List Int} (w:World) (ha:Lim w a l) (nl:l.length≤few) :
  Calls Tryz.prog 139 #[a] w fun e w'=>∃v,e = .returned v∧w'.ownsRow w.heap.size 130 1 v l.length (u32s l)∧Lim w' v l∧Steps w w':=by
 obtain⟨i0,hi,hz0,hz1,hz2⟩:=info_parts infoU
 have ok:=ha.ok
 obtain⟨ao,ca,rfl⟩:=ha.shape
 unfold few at nl
 obtain⟨h0,ao',cap',e,h1,h3,h2⟩:=id ha
 injection e with e1 e2 e3
 subst e1 e3
 clear h2 e2
 rcases Option.eq_none_or_eq_some ao with hao | ⟨ad,rfl⟩
 ·
  have hc:ca=0:=h3 hao
  have hl:l = []:=List.eq_nil_of_length_eq_zero (by omega)
  subst hl
  obtain⟨b,hb⟩:∃b,ao.isNone=b:=⟨_,rfl⟩
  have hbt:b=true:=by rw[← hb,hao]; rfl
  subst hbt
  have heq:∀w',(binOp .eql 28 (.slice ao 0 ca) (.slice none 0 0)).run Tryz.prog w' = .ok (.bool true) w':=fun w'=>by rw[run_eql_slice_nil w' _ _ _ _ _ Tryz.underlying28,hb]
  clear ha hao h3 hb h1 hc
  simp only[List.length_nil]
  go_enter Tryz.func139,Tryz.ntmps139
  go_wp2
  go_returns
  exact⟨_,rfl,World.ownsRow_nil _ _ _ _,Lim.nil _,Below.refl _ _⟩
 ·
  clear h0 h1 h3
  have HA:=Hid.mk_ (ha.steps ((Below.refl _ _).alloc (Nat.le_refl _) (.cells #[] 130)))
  obtain⟨n,hn⟩:∃n,l.length=n:=⟨_,rfl⟩
  have HN:=Hid.mk_ hn
  rw[hn]at nl HA⊢
  clear ha hn
  have heq:∀w',(binOp .eql 28 (.slice (some ad) n ca) (.slice none 0 0)).run Tryz.prog w' = .ok (.bool false) w':=fun w'=>run_eql_slice_nil w' _ _ _ _ _ Tryz.underlying28
  go_enter Tryz.func139,Tryz.ntmps139
  go_wp2_with (at_builtin; refine wpList_app rfl (.tmp 5) (.tmp 6) 28 rfl w.heap.size 130 i0 Tryz.underlying28 hi hz0 hz1 hz2 _ 0 [] rfl (World.ownsRow_made w #[] 0 (Nat.le_refl _) (Nat.zero_le _) rfl) _ l rfl HA.out (by have:=HN.out; omega) (by rw[World.size_alloc]; omega) ?_)
  intro v' w1 hown hg hge
  try simp only[HN.out,Nat.zero_add,List.nil_append]at hown
  have hL:=Lim.own hown ok
  go_wp2
  go_returns
  exact⟨_,rfl,hown,hL,((Below.refl _ _).alloc (Nat.le_refl _) _).grown hg (by rw[World.size_alloc]; omega) hge⟩
theorem len32 (x:Int) (w:World) (hx0:0≤x) (hx:x<4294967296) :
  Calls Tryz.prog 161 #[.int .u32 x] w fun e w'=>e = .returned (.int .i64 (bitLen x.toNat))∧w=w':=by
 go_enter Tryz.func161,Tryz.ntmps161
 go_wp2
 all_goals go_ret
 all_goals refine⟨retI ?_,rfl⟩
 all_goals simp only[Array.getD_eq_getD_getElem?,List.getElem?_toArray,List.getElem?_cons_succ,List.getElem?_cons_zero,Option.getD_some,len8tab_get]
 all_goals first
  | exact len_close x _ 24 (by omega) (by omega) (by omega) (by omega)
  | exact len_close x _ 16 (by omega) (by omega) (by omega) (by omega)
  | exact len_close x _ 8 (by omega) (by omega) (by omega) (by omega)
  | exact len_close0 x (by omega)
theorem bitLen_lt (n:Nat) (h:0<n):2^(bitLen n-1)≤n∧n<2^bitLen n:=by
 unfold bitLen
 rw[if_neg (by omega)]
 constructor
 · rw[Nat.add_sub_cancel]; exact Nat.log2_self_le (by omega)
 · exact Nat.lt_log2_self
theorem lz32 (x:Int) (w:World) (hx0:0<x) (hx:x<4294967296) :
  Calls Tryz.prog 143 #[.int .u32 x] w fun e w'=>∃s:Nat,e = .returned (.int .i64 s)∧s≤31∧2147483648≤x*((2^s:Nat):Int)∧x*((2^s:Nat):Int)<4294967296∧w=w':=by
 obtain⟨n,rfl⟩:=Int.eq_ofNat_of_zero_le (Int.le_of_lt hx0)
 have hb:=bitLen_lt n (by omega)
 have l32:bitLen n≤32:=by
  rcases Nat.lt_or_ge 32 (bitLen n)with h | h
  ·
   have:=Nat.pow_le_pow_right (show 0<2 by omega) (show 32≤bitLen n-1 by omega)
   omega
  · exact h
 have l1:1≤bitLen n:=by
  rcases Nat.eq_zero_or_pos (bitLen n)with h | h
  · rw[h]at hb; omega
  · exact h
 obtain⟨b,hbb⟩:∃b,bitLen n=b:=⟨_,rfl⟩
 have L:=len32 n w (by omega) hx
 rw[Int.toNat_natCast,hbb]at L
 rw[hbb]at hb l32 l1
 have e1:n*2^(32-b)<4294967296:=by
  have h1:=Nat.mul_lt_mul_of_pos_right hb.2 (show 0<2^(32-b) from Nat.two_pow_pos _)
  rw[← Nat.pow_add,show b+(32-b)=32 by omega]at h1
  exact h1
 have e2:2147483648≤n*2^(32-b):=by
  have h1:=Nat.mul_le_mul_right (2^(32-b)) hb.1
  rw[← Nat.pow_add,show b-1+(32-b)=31 by omega]at h1
  exact h1
 have HE:=Hid.mk_ (And.intro e1 e2)
 clear hb hbb e1 e2
 go_enter Tryz.func143,Tryz.ntmps143
 go_wp2_with (go_at_call 161; refine L.mono ?_; rintro e w' ⟨rfl,rfl⟩)
 go_ret
 refine⟨32-b,retI ?_,by omega,?_,?_,rfl⟩
 · omega
 · rw[← Int.natCast_mul]; have:=HE.out.2; omega
 · rw[← Int.natCast_mul]; have:=HE.out.1; omega
theorem wleft {a:Value} {A:List Int} {s:Nat} (w:World) (ha:Lim w a A) (nA:A.length≤few) (hs:s≤31) :
  Calls Tryz.prog 144 #[a,.int .i64 s] w fun e w'=>∃v l,e = .returned v∧Lim w' v l∧lval l=lval A*(2^s:Nat)∧l.length=A.length+1∧w'.ownsRow w.heap.size 130 1 v (A.length+1) (u32s l)∧Steps w w':=by
 obtain⟨i0,hi,hz0,hz1,hz2⟩:=info_parts infoU
 obtain⟨aa,ca,rfl⟩:=ha.shape
 obtain⟨oa,-,la,fa⟩:=ha.cells
 clear ha
 unfold few at nA
 obtain⟨n,hn⟩:∃n,A.length=n:=⟨_,rfl⟩
 have H:Hid (A.length=n):=hn
 rw[hn]at fa la nA
 rw[hn]
 clear hn
 obtain⟨P,hP⟩:∃P,((2^s:Nat):Int)=P:=⟨_,rfl⟩
 have P0:1≤P:=by have:=Nat.one_le_two_pow (n:=s); omega
 have P1:P≤2147483648:=by have:=Nat.pow_le_pow_right (show 0<2 by omega) hs; simp at this; omega
 have HP:Hid (((2^s:Nat):Int)=P):=hP
 clear hP
 have hq:(s:Int).tdiv 32=0:=Int.tdiv_eq_zero_of_lt (by omega) (by omega)
 have hr:(s:Int).tmod 32=s:=Int.tmod_eq_of_lt (by omega) (by omega)
 have hq':(s:Int) / 32=0:=by omega
 have hr':(s:Int)%32=s:=by omega
 go_enter Tryz.func144,Tryz.ntmps144
 go_wp2_with (at_make; refine wpList_make_own _ rfl _ _ 28 rfl w.heap.size 130 i0 (.int .u32 0) 1 Tryz.underlying28 hi hz0 hz1 _ _ _ (n+1) rfl rfl (by omega) ?b2 ?b3 (Nat.le_refl _) ?_)
 case b2=>rw[hz2]; omega
 case b3=>unfold maxLen; omega
 intro w0 hown0 hgrow0
 have B0:Below w.heap.size w w0:=(Below.refl _ _).grown hgrow0 (Nat.le_refl _) (fun k h=>by cases h)
 go_wp2
 go_loopw [5,6,8,20] (fun o c x i wr=>∃ (k:Nat) (xs:List Int) (cv:Int),k≤n∧i = .int .i64 k∧c = .int .u64 cv∧0≤cv∧cv<P∧xs.length=k∧lok xs∧lval xs+bp k*cv=lval (A.take k)*P∧
   wr.ownsRow w.heap.size 130 1 o k (u32s xs)∧Below w.heap.size w wr) (fun _ _ _ i _=>(n-(intOf i).toNat))
 case atStart=>exact⟨0,[],0,Nat.zero_le _,rfl,rfl,by omega,by omega,rfl,lok_nil,by simp[lval],hown0,B0⟩
 case round=>
  obtain⟨k,xs,cv,hk,rfl,rfl,c0,c1,hl,hok,hv,hown,hnx⟩:=hrel
  have Z:=hnx.size
  have HV:Hid (xs.length=k∧lok xs∧lval xs+bp k*cv=lval (A.take k)*P):=⟨hl,hok,hv⟩
  clear hl hok hv hown0 hgrow0 B0
  rcases Nat.lt_or_ge k n with h1 | h1
  ·
   obtain⟨u,hu⟩:∃u,A.getD k 0=u:=⟨_,rfl⟩
   have u0:=lok_getD oa k
   rw[hu]at u0
   have HU:Hid (A.getD k 0=u):=hu
   obtain⟨ba,oa',rfl,hba,hca⟩:=fa (by omega)
   have g1:=(hnx.cell (p:=⟨ba,oa'+k,none⟩) hba).trans (hca k (by rw[H.out]; omega))
   rw[hu]at g1
   obtain⟨t,ht⟩:∃t,u*P=t:=⟨_,rfl⟩
   have t0:0≤t∧t≤4294967295*P:=by
    rw[← ht]
    exact⟨Int.mul_nonneg u0.1 (by omega),Int.mul_le_mul_of_nonneg_right (by omega) (by omega)⟩
   have hw:IntKind.u64.wrap (u*2^s)=t:=by
    have e:u*2^s=t:=by rw[← ht,← HP.out]; simp
    rw[e,wrap_u64 (by omega) (by omega)]
   have hor:bits BinOp.or IntKind.u64 cv t=cv+t:=by
    rw[bits_or_comm64,← ht,← HP.out,bits_or_add u0.1 c0 (by rw[HP.out]; exact c1) (by rw[HP.out,ht]; omega)]
    omega
   have HT:Hid (u*P=t):=ht
   clear hca fa hu ht
   go_wp2_with (at_builtin; refine wpList_app rfl (.tmp 31) (.tmp 34) 28 rfl w.heap.size 130 i0 Tryz.underlying28 hi hz0 hz1 hz2 _ k xs rfl (hown.alloc _) _ [_] rfl (Lim.one (by omega) (by omega)) (by simp; omega) (by rw[World.size_alloc]; omega) ?_)
   intro v' w1 hown1 hg hge
   go_wp2
   go_roundw
   case rel=>
    have S:=left_step (s:=cv+t) HV.out.1 HV.out.2.2 (by rw[HU.out,HT.out])
    exact⟨k+1,xs ++ [(cv+t)%4294967296],(cv+t) / 4294967296,by omega,by go_num,by go_num,by omega,by omega,by rw[List.length_append,HV.out.1]; rfl,lok_snoc HV.out.2.1 (by omega) (by omega),S,hown1,(hnx.alloc Z _).grown hg (by rw[World.size_alloc]; omega) hge⟩
   case measure=>simp[intOf]; omega
  ·
   clear fa
   go_wp2_with (at_builtin; refine wpList_app rfl (.tmp 39) (.tmp 42) 28 rfl w.heap.size 130 i0 Tryz.underlying28 hi hz0 hz1 hz2 _ k xs rfl (hown.alloc _) _ [_] rfl (Lim.one (by omega) (by omega)) (by simp; omega) (by rw[World.size_alloc]; omega) ?_)
   intro v' w1 hown1 hg hge
   go_wp2
   go_returns
   have hkn:k=n:=by omega
   subst hkn
   have hB:Below w.heap.size w w1:=(hnx.alloc Z _).grown hg (by rw[World.size_alloc]; omega) hge
   refine⟨_,xs ++ [cv],rfl,Lim.own hown1 (lok_snoc HV.out.2.1 (by omega) (by omega)),?_,?_,hown1,hB⟩
   ·
    have:=HV.out.2.2
    rw[List.take_of_length_le (by have:=H.out; omega)]at this
    rw[lval_snoc,HV.out.1,HP.out]
    exact this
   · rw[List.length_append,HV.out.1]; rfl
end Go.Proofs.YtdkcffnmlllamaaGreat
