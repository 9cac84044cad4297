import Derived.Test.YtdkcffnmlllamaaGreatMNa
import Derived.Deep.LoopGhost
set_option linter.unusedVariables false
set_option linter.unusedSimpArgs false
set_option maxHeartbeats 6400000
set_option maxRecDepth 1000000
namespace Go.Proofs.YtdkcffnmlllamaaGreat
open Go.RowKit
theorem rboth_ok {va vb:Value} {x y:Int} (w:World) (ha:Num w va x) (hb:Num w vb y) (fx:fits x) (fy:fits y) :
  Calls Tryz.prog 118 #[va,vb] w fun e w'=>e = .returned (.int .i64 0)∧Steps w w':=by
 obtain⟨sa,rfl,la⟩:=ha
 obtain⟨sb,rfl,lb⟩:=hb
 have:=rbothN (decide (x<0)) (decide (y<0)) w la lb
 have e:errC (valid (decide (x<0)) (limbs (absN x))∧valid (decide (y<0)) (limbs (absN y)))=0:=if_pos ⟨valid_of fx,valid_of fy⟩
 rw[e]at this
 exact this
def gcdI (x y:Int):Int:=((Int.gcd x y:Nat):Int)
theorem gcdI_abs (x y:Int):gcdI (absN x) (absN y)=gcdI x y:=by unfold gcdI absN; simp[Int.gcd]
theorem gcdI_step {X Y:Int} (h0:0≤X) (h1:1≤Y):gcdI Y (X%Y)=gcdI X Y:=by
 unfold gcdI
 obtain⟨a,rfl⟩:=Int.eq_ofNat_of_zero_le h0
 obtain⟨b,rfl⟩:=Int.eq_ofNat_of_zero_le (show 0≤Y by omega)
 have e:((a:Int)%(b:Int))=((a%b:Nat):Int):=by simp
 rw[e]
 simp only[Int.gcd,Int.natAbs_natCast]
 rw[Nat.gcd_comm b,← Nat.gcd_rec,Nat.gcd_comm]
theorem gcdI_zero {X:Int} (h0:0≤X):gcdI X 0=X:=by unfold gcdI; simp[Int.gcd]; omega
theorem limbs_le {x y:Int} (hx:0≤x) (hxy:x≤y):(limbs x).length≤(limbs y).length:=by
 rcases Nat.lt_or_ge (limbs y).length (limbs x).length with g | g
 · have:=limbs_len_lt (show 0≤y by omega) hx g; omega
 · exact g
theorem absN_of {X:Int} (h:0≤X):absN X=X:=by unfold absN; omega
theorem rover {a d:Value} {A D:Int} (w:World) (ha:Lim w a (limbs A)) (hd:Lim w d (limbs D)) (A0:0≤A) (D0:1≤D) (nA:(limbs A).length≤few) (nD:(limbs D).length≤few) :
  Calls Tryz.prog 124 #[a,d] w fun e w'=>∃q r,e = .returned (.tuple #[q,r])∧Lim w' q (limbs (A / D))∧Lim w' r (limbs (A%D))∧Steps w w':=by
 rcases Int.lt_or_le A D with h | h
 · exact rover_lt w ha hd A0 D0 nA nD h
 ·
  have hn:limbs D≠ []:=fun e=>by have:=(limbs_nil (show 0≤D by omega)).1 e; omega
  have hp:=List.length_pos_iff.2 hn
  rcases Nat.lt_or_ge (limbs D).length 2 with g | g
  · exact rover_one w ha hd A0 D0 nA (by omega) h
  · exact rover_many (m:=(limbs D).length-2) w ha hd A0 D0 nA (by omega) h
theorem rgcd {va vb:Value} {x y:Int} (w:World) (ha:Num w va x) (hb:Num w vb y) (fx:fits x) (fy:fits y) :
  Calls Tryz.prog 122 #[va,vb] w fun e w'=>∃v,e = .returned (.tuple #[v,.int .i64 0])∧Num w' v (gcdI x y)∧fits (gcdI x y)∧Steps w w':=by
 have bo:∀w',Steps w w'→Calls Tryz.prog 118 #[va,vb] w' fun e w2=>e = .returned (.int .i64 0)∧Steps w' w2:=fun w' h=>rboth_ok w' (ha.steps h) (hb.steps h) fx fy
 obtain⟨aa,ca,rfl,pa⟩:=ha.parts
 obtain⟨ab,cb,rfl,pb⟩:=hb.parts
 unfold fits at fx fy
 obtain⟨n,hn⟩:∃n,(limbs (absN x)).length=n:=⟨_,rfl⟩
 obtain⟨m,hm⟩:∃m,(limbs (absN y)).length=m:=⟨_,rfl⟩
 rw[hn]at pa bo⊢
 rw[hm]at pb bo⊢
 obtain⟨gx,hgx⟩:∃b,decide (x<0)=b:=⟨_,rfl⟩
 obtain⟨gy,hgy⟩:∃b,decide (y<0)=b:=⟨_,rfl⟩
 rw[hgx,hgy]at bo⊢
 have HN:=Hid.mk_ (And.intro hn hm)
 have HF:=Hid.mk_ (And.intro fx fy)
 clear ha hb hn hm hgx hgy fx fy
 go_enter Tryz.func122,Tryz.ntmps122
 go_wp2_with fail
 refine(bo _ belowB).mono ?_
 rintro e w1 ⟨rfl,hb1⟩
 have st:Steps _ w1:=hb1
 have Bn:=bA w st
 have oa:Blk w1 (w.heap.size) 30 #[.bool gx,.slice aa n ca]:=Blk.stepsA st
 have ob:Blk w1 (w.heap.size+1) 30 #[.bool gy,.slice ab m cb]:=Blk.stepsA st
 have or:Blk w1 (w.heap.size+1+1) 30 #[.bool false,.slice none 0 0]:=Blk.stepsA st
 clear st
 have B:=Bn
 clear Bn
 obtain⟨ca0,ca1,fa,la⟩:=oa.s1
 obtain⟨cb0,cb1,fb,lb⟩:=ob.s1
 obtain⟨cr0,cr1,fr,lr⟩:=or.s1
 clear bo
 go_wp2_with fail
 go_quiet (fail)
 go_wp2_with fail
 have pa1:=pa.steps B
 have pb1:=pb.steps B
 rename World=>w1
 go_loopg [6,7,8,9] (absN y).toNat (fun k vx vy q r wr=>∃ (X Y:Int) (ax ay:Option Addr) (cx cy:Nat),0≤X∧0≤Y∧k=Y.toNat∧vx = .slice ax (limbs X).length cx∧vy = .slice ay (limbs Y).length cy∧Lim wr vx (limbs X)∧Lim wr vy (limbs Y)∧(limbs X).length≤4096∧(limbs Y).length≤4096∧gcdI X Y=gcdI x y∧Steps w1 wr)
 case atStart=>exact⟨absN x,absN y,aa,ab,ca,cb,absN_nonneg _,absN_nonneg _,rfl,by rw[HN.out.1],by rw[HN.out.2],pa1,pb1,HF.out.1,HF.out.2,gcdI_abs x y,by show Below _ _ _; first | exact belowN (Below.refl _ _) _ | exact Below.refl _ _⟩
 case round=>
  obtain⟨X,Y,ax,ay,cx,cy,X0,Y0,rfl,rfl,rfl,lx,ly,nx,ny,hg,hsw⟩:=hrel
  have HG:=Hid.mk_ hg
  obtain⟨p,hp⟩:∃p,(limbs X).length=p:=⟨_,rfl⟩
  obtain⟨q,hq⟩:∃q,(limbs Y).length=q:=⟨_,rfl⟩
  have HPQ:=Hid.mk_ (And.intro hp hq)
  rw[hp]at lx nx
  rw[hq]at ly ny
  simp only[hp,hq]
  rcases Int.lt_or_le 0 Y with hy | hy
  ·
   have q0:0<q:=by rw[← hq]; exact List.length_pos_iff.2 (fun e=>by have:=(limbs_nil Y0).1 e; omega)
   have ov:=rover wr lx ly X0 (by omega) (by rw[hp]; unfold few; omega) (by rw[hq]; unfold few; omega)
   clear hg hp hq lx
   go_wp2_with fail
   refine ov.mono ?_
   rintro e w2 ⟨sq,sr,rfl,hq2,hr2,hs2⟩
   obtain⟨ar,cr,hsr⟩:=hr2.shape
   have HR:=Hid.mk_ hr2
   have HY:=Hid.mk_ (ly.steps hs2)
   subst hsr
   clear hr2 hq2 ly ov
   have m0:=Int.emod_nonneg X (show Y≠0 by omega)
   have m1:=Int.emod_lt_of_pos X hy
   have nr:=limbs_le m0 (show X%Y≤Y by omega)
   go_wp2
   go_roundg (X%Y).toNat
   case measure=>omega
   case rel=>exact⟨Y,X%Y,ay,ar,cy,cr,by omega,m0,rfl,by rw[HPQ.out.2],rfl,HY.out,HR.out,by rw[HPQ.out.2]; exact ny,by have:=HPQ.out.2; omega,by rw[gcdI_step X0 (by omega)]; exact HG.out,hsw.trans (hs2.mono hsw.size)⟩
  ·
   obtain rfl:Y=0:=by omega
   have q0:q=0:=by rw[← hq]; rfl
   subst q0
   rw[gcdI_zero X0]at hg
   have mk:=rmadeN false wr lx (by rw[hp]; unfold few; omega)
   have hv:=lval_limbs X0
   have hfx:fits X:=by unfold fits; rw[absN_of X0,hp]; exact nx
   rw[hv]at mk
   rw[show zv false X=X from rfl,errN_fits hfx,clipN_fits hfx]at mk
   have HE:=Hid.mk_ (And.intro hg hfx)
   have B2:Below w.heap.size w wr:=below_steps B (Nat.le_refl _) hsw
   have oa':=oa.steps hsw
   have ob':=ob.steps hsw
   have or':=or.steps hsw
   clear hg hp hq hv hfx lx ly pa1 pb1 ca0 ca1 fa la cb0 cb1 fb lb cr0 cr1 fr lr oa ob or B
   have B:=B2
   have oa:=oa'
   have ob:=ob'
   have or:=or'
   clear oa' ob' or' B2
   go_wp2_with fail
   refine(mk).mono ?_
   rintro e w1 ⟨v1,rfl,hv1,hb1⟩
   have st:Steps _ w1:=hb1
   have Bn:=bA w st
   replace oa:Blk w1 (w.heap.size) 30 #[.bool gx,.slice aa n ca]:=Blk.stepsA st
   replace ob:Blk w1 (w.heap.size+1) 30 #[.bool gy,.slice ab m cb]:=Blk.stepsA st
   replace or:Blk w1 (w.heap.size+1+1) 30 #[.bool false,.slice none 0 0]:=Blk.stepsA st
   clear B
   clear st
   have B:=Bn
   clear Bn
   obtain⟨ca0,ca1,fa,la⟩:=oa.s1
   obtain⟨cb0,cb1,fb,lb⟩:=ob.s1
   obtain⟨cr0,cr1,fr,lr⟩:=or.s1
   obtain⟨bb,ao,k,c,rfl⟩:=hv1.shape
   have HV:=Hid.mk_ hv1
   clear hv1
   go_wp2
   refine bodyPost_ret (by simp[results,Tryz.results122,go_sem,ca0,ca1,fa,la,cb0,cb1,fb,lb,cr0,cr1,fr,lr]; rfl) rfl ?_
   exact⟨_,rfl,by rw[← HE.out.1]; exact HV.out.put2 or,by rw[← HE.out.1]; exact HE.out.2,belowB⟩
theorem retB {a b:Bool} (h:a=b):Ending.returned (.bool a) = .returned (.bool b):=by rw[h]
theorem rsame {va vb:Value} {x y:Int} (w:World) (ha:Num w va x) (hb:Num w vb y) (fx:fits x) (fy:fits y) :
  Calls Tryz.prog 123 #[va,vb] w fun e w'=>e = .returned (.bool (decide (x=y)))∧Steps w w':=by
 obtain⟨aa,ca,rfl,pa⟩:=ha.parts
 obtain⟨ab,cb,rfl,pb⟩:=hb.parts
 have cmpc:∀w',Steps w w'→Calls Tryz.prog 120 #[.slice aa (limbs (absN x)).length ca,.slice ab (limbs (absN y)).length cb] w' fun e w2=>e = .returned (.int .i64 (cmpI (absN x) (absN y)))∧Steps w' w2:=fun w' h=>
  rcompare w' (pa.steps h) (pb.steps h) (absN_nonneg x) (absN_nonneg y) (by unfold fits at fx; unfold few; omega) (by unfold fits at fy; unfold few; omega)
 have X:=absN_cases x
 have Y:=absN_cases y
 have C:=cmpI_cases (absN x) (absN y)
 obtain⟨c,hc⟩:∃c,cmpI (absN x) (absN y)=c:=⟨_,rfl⟩
 rw[hc]at cmpc C
 obtain⟨n,hn⟩:∃n,(limbs (absN x)).length=n:=⟨_,rfl⟩
 obtain⟨m,hm⟩:∃m,(limbs (absN y)).length=m:=⟨_,rfl⟩
 rw[hn]at cmpc⊢
 rw[hm]at cmpc⊢
 obtain⟨gx,hgx⟩:∃b,decide (x<0)=b:=⟨_,rfl⟩
 obtain⟨gy,hgy⟩:∃b,decide (y<0)=b:=⟨_,rfl⟩
 rw[hgx,hgy]
 by_cases hs:gx=gy
 ·
  subst hs
  have E:Hid ((c==0)=decide (x=y)):=by
   show (c==0)=decide (x=y)
   have:(x<0↔y<0):=by
    have h1:=hgx.trans hgy.symm
    simpa using h1
   by_cases h0:c=0
   · rw[h0,decide_eq_true (show x=y by omega)]; rfl
   · rw[decide_eq_false (show ¬x=y by omega)]; simp[h0]
  clear hc hn hm hgx hgy X Y C pa pb ha hb fx fy
  go_enter Tryz.func123,Tryz.ntmps123
  cases gx
  all_goals
   go_wp2_with fail
   refine(cmpc _ belowB).mono ?_
   rintro e w1 ⟨rfl,hs1⟩
   clear cmpc
   go_wp2
   go_returns
   exact⟨retB E.out,(show Below _ _ _ from belowB).trans (hs1.mono (by simp only[World.size_alloc]; omega))⟩
 ·
  have E:Hid (decide (x=y)=false):=by
   show decide (x=y)=false
   simp
   rintro rfl
   exact hs (hgx.symm.trans hgy)
  have hgg:(gx==gy)=false:=by simp[hs]
  clear hc hn hm hgx hgy X Y C pa pb ha hb fx fy cmpc hs
  go_enter Tryz.func123,Tryz.ntmps123
  go_wp2
  go_returns
  exact⟨retB E.out.symm,belowB⟩
def errI (z:Int):Int:=if -9223372036854775808≤z∧z<9223372036854775808 then 0 else 16
def intI (z:Int):Int:=if -9223372036854775808≤z∧z<9223372036854775808 then z else 0
theorem retII {a b c d:Int} (h:a=b) (g:c=d):Ending.returned (.tuple #[.int .i64 a,.int .i64 c]) = .returned (.tuple #[.int .i64 b,.int .i64 d]):=by rw[h,g]
theorem rint {va:Value} {x:Int} (w:World) (ha:Num w va x) (fx:fits x) :
  Calls Tryz.prog 61 #[va] w fun e w'=>e = .returned (.tuple #[.int .i64 (intI x),.int .i64 (errI x)])∧Steps w w':=by
 obtain⟨aa,ca,rfl,pa⟩:=ha.parts
 have ck:∀w',Steps w w'→Calls Tryz.prog 94 #[.agg #[.bool (decide (x<0)),.slice aa (limbs (absN x)).length ca]] w' fun e w2=>e = .returned (.int .i64 0)∧Steps w' w2:=fun w' h=>by
  have:=rcheckN (decide (x<0)) w' (pa.steps h)
  rw[show errC (valid (decide (x<0)) (limbs (absN x)))=0 from if_pos (valid_of fx)]at this
  exact this
 obtain⟨L,hL⟩:∃L,limbs (absN x)=L:=⟨_,rfl⟩
 have vL:=lval_limbs (absN_nonneg x)
 rw[hL]at pa ck vL⊢
 unfold fits at fx
 rw[hL]at fx
 obtain⟨n,hn⟩:∃n,L.length=n:=⟨_,rfl⟩
 obtain⟨ok,-,-,fa'⟩:=pa.cells
 have big:2<n→Hid (intI x=0∧errI x=16):=fun h=>by
  have h1:¬absN x<bp 2:=fun g=>by
   have:=(limbs_length (absN_nonneg x) 2).2 g
   rw[hL]at this; omega
  rw[bp_two]at h1
  have X:=absN_cases x
  exact⟨if_neg (by omega),if_neg (by omega)⟩
 have HL:Hid (lval L=absN x∧L.length=n∧lok L):=⟨vL,hn,ok⟩
 rw[hn]at ck pa fx fa'⊢
 obtain⟨g,hg⟩:∃b,decide (x<0)=b:=⟨_,rfl⟩
 rw[hg]at ck⊢
 have HG:=Hid.mk_ hg
 clear ha hL vL hn hg
 go_enter Tryz.func61,Tryz.ntmps61
 go_wp2_with fail
 refine(ck _ belowB).mono ?_
 rintro e w1 ⟨rfl,st⟩
 have Bn:=bA w st
 have oa:Blk w1 (w.heap.size) 30 #[.bool g,.slice aa n ca]:=Blk.stepsA st
 clear st
 have B:=Bn
 clear Bn
 obtain⟨ca0,ca1,fa,la⟩:=oa.s1
 clear ck
 go_wp2
 go_loopw [4,5] (fun u i wr=>∃ (k:Nat) (uv:Int),k≤n∧i = .int .i64 ((k:Int)-1)∧u = .int .u64 uv∧uv=lval (L.drop k)∧(k=n∨n≤2)∧wr=w1) (fun _ i _=>(intOf i+1).toNat)
 case atStart=>exact⟨n,0,Nat.le_refl _,by go_num,rfl,by rw[List.drop_of_length_le (by have:=HL.out.2.1; omega)]; rfl,Or.inl rfl,rfl⟩
 case round=>
  obtain⟨k,uv,hk,rfl,rfl,hu,hkn,rfl⟩:=hrel
  rcases Nat.eq_zero_or_pos k with rfl | hp
  ·
   have hn2:n≤2:=by omega
   rw[List.drop_zero,HL.out.1]at hu
   have ub:0≤uv∧uv<18446744073709551616:=by
    have h1:=(limbs_length (absN_nonneg x) 2)
    have h2:=lval_lt HL.out.2.2
    have h3:=bp_mono (show L.length≤2 by rw[HL.out.2.1]; exact hn2)
    rw[bp_two]at h3
    rw[HL.out.1]at h2
    have:=absN_nonneg x
    omega
   have X:=absN_cases x
   have HU:=Hid.mk_ (And.intro hu X)
   have hgx:=HG.out
   clear hu X hkn big fa' pa fx
   cases g
   ·
    have x0:0≤x:=by simpa using hgx
    have e:uv=x:=by have:=HU.out; omega
    clear hgx
    rcases Int.lt_or_le uv 9223372036854775808 with h1 | h1
    ·
     have R:Hid (intI x=x∧errI x=0):=⟨if_pos (by omega),if_pos (by omega)⟩
     have HE:=Hid.mk_ e
     clear e
     go_wp2
     go_returns
     exact⟨retII (by rw[R.out.1,HE.out]) R.out.2.symm,belowB⟩
    ·
     have R:Hid (intI x=0∧errI x=16):=⟨if_neg (by omega),if_neg (by omega)⟩
     clear e
     go_wp2
     go_returns
     exact⟨retII R.out.1.symm R.out.2.symm,belowB⟩
   ·
    have x0:x<0:=by simpa using hgx
    have e:uv = -x:=by have:=HU.out; omega
    clear hgx
    rcases Int.lt_or_le 9223372036854775808 uv with h1 | h1
    ·
     have R:Hid (intI x=0∧errI x=16):=⟨if_neg (by omega),if_neg (by omega)⟩
     clear e
     go_wp2
     go_returns
     exact⟨retII R.out.1.symm R.out.2.symm,belowB⟩
    ·
     have R:Hid (intI x=x∧errI x=0):=⟨if_pos (by omega),if_pos (by omega)⟩
     have hw:wrap64 (IntKind.u64.wrap (-uv))=x:=by rw[IntKind.wrap_u64]; unfold wrap64; omega
     clear e
     go_wp2
     go_returns
     exact⟨retII (by first | (rw[hw,R.out.1]) | exact R.out.1.symm) R.out.2.symm,belowB⟩
  ·
   obtain⟨j,rfl⟩:∃j,k=j+1:=⟨k-1,by omega⟩
   rcases Nat.lt_or_ge 1 j with hj | hj
   ·
    have R:=big (by omega)
    clear big fa' pa fx hu
    go_wp2
    go_returns
    exact⟨retII R.out.1.symm R.out.2.symm,belowB⟩
   ·
    obtain⟨ba,oa',rfl,hba,hca⟩:=fa' (by omega)
    have g1:=(B.cell (p:=⟨ba,oa'+j,none⟩) hba).trans (hca j (by have:=HL.out.2.1; omega))
    obtain⟨v,hv⟩:∃v,L.getD j 0=v:=⟨_,rfl⟩
    have v0:=lok_getD HL.out.2.2 j
    rw[hv]at g1 v0
    have u0:0≤uv∧uv<4294967296:=by
     have h2:=lval_lt (lok_drop HL.out.2.2 (j+1))
     have h3:=bp_mono (show (L.drop (j+1)).length≤1 by rw[List.length_drop,HL.out.2.1]; omega)
     have h4:bp 1=4294967296:=by rw[bp_succ,bp_zero]; rfl
     have:=lval_nonneg (lok_drop HL.out.2.2 (j+1))
     omega
    have S:Hid (uv*4294967296+v=lval (L.drop j)):=by show _=_; rw[lval_drop L j,hv,hu]; omega
    clear big fa' pa fx hu hv hca
    go_wp2
    go_roundw
    case rel=>exact⟨j,uv*4294967296+v,by omega,by go_num,rfl,S.out,Or.inr (by omega),by first | rfl | trivial⟩
    case measure=>simp[intOf]
end Go.Proofs.YtdkcffnmlllamaaGreat
