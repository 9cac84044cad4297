import Derived.Test.YtdkcffnmlllamaaGreatMTu
import Derived.Test.YtdkcffnmlllamaaGreatMTp
import Derived.Test.YtdkcffnmlllamaaGreatMNe
import Derived.Deep.LoopGhost
set_option linter.unusedVariables false
set_option linter.unusedSimpArgs false
namespace Go.Proofs.YtdkcffnmlllamaaGreat
open Go.RowKit
theorem wdivide {a d:Value} {A D:Int} (w:World) (ha:Lim w a (limbs A)) (hd:Lim w d (limbs D)) (A0:0≤A) (D0:1≤D) (nA:(limbs A).length≤1000000) (nD:(limbs D).length≤1000000) :
  Calls Tryz.prog 112 #[a,d] w fun e w'=>∃q r,e = .returned (.tuple #[q,r])∧Lim w' q (limbs (A / D))∧Lim w' r (limbs (A%D))∧Steps w w':=by
 rcases Int.lt_or_le A D with h | h
 · exact wdivide_lt w ha hd A0 D0 (by unfold few; omega) (by unfold few; omega) h
 ·
  have hn:limbs D≠ []:=fun e=>by have:=(limbs_nil (show 0≤D by omega)).1 e; omega
  have hp:=List.length_pos_iff.2 hn
  rcases Nat.lt_or_ge (limbs D).length 2 with g | g
  · exact wdivide_one w ha hd A0 D0 (by unfold few; omega) (by omega) h
  · exact wdivide_many (m:=(limbs D).length-2) w ha hd A0 D0 nA (by omega) h
set_option maxHeartbeats 3200000 in
set_option maxRecDepth 1000000 in
theorem wgcd {va vb:Value} {x y:Int} (w:World) (ha:Num w va x) (hb:Num w vb y) (fx:fits x) (fy:fits y) :
  Calls Tryz.prog 110 #[va,vb] w fun e w'=>∃v,e = .returned (.tuple #[v,.int .i64 0])∧Num w' v (gcdI x y)∧fits (gcdI x y)∧Steps w w':=by
 have ck:∀ (w':World) (q:Nat) (aa ab:Option Addr) (ca cb:Nat),Blk w' q 30 #[.bool (decide (x<0)),.slice aa (limbs (absN x)).length ca,.bool (decide (y<0)),.slice ab (limbs (absN y)).length cb]→Lim w' (.slice aa (limbs (absN x)).length ca) (limbs (absN x))→Lim w' (.slice ab (limbs (absN y)).length cb) (limbs (absN y))→
   Calls Tryz.prog 81 #[.slice (some ⟨q,0,none⟩) 2 2] w' fun e w2=>e = .returned (.int .i64 0)∧Steps w' w2:=fun w' q aa ab ca cb hb h1 h2=>wcheck2_ok w' hb h1 h2 fx fy
 obtain⟨aa,ca,rfl,pa⟩:=ha.parts
 obtain⟨ab,cb,rfl,pb⟩:=hb.parts
 have ck':=fun(w':World) (q:Nat)=>ck w' q aa ab ca cb
 unfold fits at fx fy
 obtain⟨n,hn⟩:∃n,(limbs (absN x)).length=n:=⟨_,rfl⟩
 obtain⟨m,hm⟩:∃m,(limbs (absN y)).length=m:=⟨_,rfl⟩
 rw[hn]at pa⊢
 rw[hm]at pb⊢
 simp only[hn,hm]at ck'
 obtain⟨gx,hgx⟩:∃b,decide (x<0)=b:=⟨_,rfl⟩
 obtain⟨gy,hgy⟩:∃b,decide (y<0)=b:=⟨_,rfl⟩
 rw[hgx,hgy]at⊢
 simp only[hgx,hgy]at ck'
 have HN:=Hid.mk_ (And.intro hn hm)
 have HF:=Hid.mk_ (And.intro fx fy)
 clear ha hb hn hm hgx hgy fx fy ck
 go_enter Tryz.func110,Tryz.ntmps110
 go_wp2_with fail
 refine(ck' _ _ ownB (pa.steps belowB) (pb.steps belowB)).mono ?_
 rintro e w1 ⟨rfl,hb1⟩
 have st:Steps _ w1:=hb1
 have Bn:=bA w st
 have oa:Blk w1 (w.heap.size) 30 #[.bool gx,.slice aa n ca]:=Blk.stepsA st
 have ob:Blk w1 (w.heap.size+1) 30 #[.bool gy,.slice ab m cb]:=Blk.stepsA st
 have or:Blk w1 (w.heap.size+1+1) 30 #[.bool false,.slice none 0 0]:=Blk.stepsA st
 clear st
 have B:=Bn
 clear Bn
 obtain⟨ca0,ca1,fa,la⟩:=oa.s1
 obtain⟨cb0,cb1,fb,lb⟩:=ob.s1
 obtain⟨cr0,cr1,fr,lr⟩:=or.s1
 clear ck'
 go_wp2_with fail
 go_region_held3 (fun w'=>w'.cell? ⟨w.heap.size,0,none⟩=some (.bool gx)∧w'.cell? ⟨w.heap.size,1,none⟩=some (.slice aa n ca)∧w'.cell? ⟨w.heap.size+1,0,none⟩=some (.bool gy)∧w'.cell? ⟨w.heap.size+1,1,none⟩=some (.slice ab m cb))
  ((refine⟨Blk.c (t:=30) (cs:=#[.bool gx,.slice aa n ca]) ?_ 0 rfl,Blk.c (t:=30) (cs:=#[.bool gx,.slice aa n ca]) ?_ 1 rfl,Blk.c (t:=30) (cs:=#[.bool gy,.slice ab m cb]) ?_ 0 rfl,Blk.c (t:=30) (cs:=#[.bool gy,.slice ab m cb]) ?_ 1 rfl⟩<;>(repeat' first | with_reducible assumption | (with_reducible refine Blk.new' ?_; first | with_reducible rfl | (simp only[World.size_alloc,World.size_setCell,World.size_drew]; done)) | with_reducible refine Blk.alloc ?_ _ | with_reducible refine Blk.drew ?_ | with_reducible refine Blk.drewN ?_ _ | with_reducible apply Blk.both | with_reducible refine Blk.far' ?_ ?_ | (show _≠_; omega))))
  (first
   | ((go_at_call 139; refine(wclone _ (pa.steps belowB) (by have:=HF.out; have:=HN.out; unfold few; omega)).mono ?_; rintro e wv ⟨v1,rfl,ho1,hv1,hbv⟩; go_must (have st:Steps _ wv:=hbv; have Bn:=bA w st; have na:Blk wv (w.heap.size) 30 #[.bool gx,.slice aa n ca]:=Blk.stepsA st; have nb:Blk wv (w.heap.size+1) 30 #[.bool gy,.slice ab m cb]:=Blk.stepsA st; have nr:Blk wv (w.heap.size+1+1) 30 #[.bool false,.slice none 0 0]:=Blk.stepsA st; clear B oa ob or ca0 ca1 fa la cb0 cb1 fb lb cr0 cr1 fr lr; clear st; have B:=Bn; clear Bn; have oa:=na; clear na; have ca0:World.cell? wv ⟨w.heap.size,0,none⟩=some (.bool gx):=oa.c 0 rfl; have ca1:World.cell? wv ⟨w.heap.size,1,none⟩=some (.slice aa n ca):=oa.c 1 rfl; have fa:=oa.fr; have la:=oa.lt; have ob:=nb; clear nb; have cb0:World.cell? wv ⟨w.heap.size+1,0,none⟩=some (.bool gy):=ob.c 0 rfl; have cb1:World.cell? wv ⟨w.heap.size+1,1,none⟩=some (.slice ab m cb):=ob.c 1 rfl; have fb:=ob.fr; have lb:=ob.lt; have or:=nr; clear nr; have cr0:World.cell? wv ⟨w.heap.size+1+1,0,none⟩=some (.bool false):=or.c 0 rfl; have cr1:World.cell? wv ⟨w.heap.size+1+1,1,none⟩=some (.slice none 0 0):=or.c 1 rfl; have fr:=or.fr; have lr:=or.lt))))
 have pb1:=pb.steps B
 obtain⟨ax,cx,rfl⟩:=hv1.shape
 clear ho1
 rw[HN.out.1]at hv1⊢
 go_wp2_with fail
 go_loopg [7,8,9,10] (absN y).toNat (fun k vx vy q r wr=>∃ (X Y:Int) (ax ay:Option Addr) (cx cy:Nat),0≤X∧0≤Y∧k=Y.toNat∧vx = .slice ax (limbs X).length cx∧vy = .slice ay (limbs Y).length cy∧Lim wr vx (limbs X)∧Lim wr vy (limbs Y)∧(limbs X).length≤4096∧(limbs Y).length≤4096∧gcdI X Y=gcdI x y∧Steps wv wr)
 case atStart=>exact⟨absN x,absN y,ax,ab,cx,cb,absN_nonneg _,absN_nonneg _,rfl,by rw[HN.out.1],by rw[HN.out.2],hv1,pb1,HF.out.1,HF.out.2,gcdI_abs x y,by show Below _ _ _; first | exact belowN (Below.refl _ _) _ | exact Below.refl _ _⟩
 case round=>
  clear hv1 pb1
  obtain⟨X,Y,ax,ay,cx,cy,X0,Y0,rfl,rfl,rfl,lx,ly,nx,ny,hg,hsw⟩:=hrel
  have HG:=Hid.mk_ hg
  obtain⟨p,hp⟩:∃p,(limbs X).length=p:=⟨_,rfl⟩
  obtain⟨q,hq⟩:∃q,(limbs Y).length=q:=⟨_,rfl⟩
  have HPQ:=Hid.mk_ (And.intro hp hq)
  rw[hp]at lx nx
  rw[hq]at ly ny
  simp only[hp,hq]
  rcases Int.lt_or_le 0 Y with hy | hy
  ·
   have q0:0<q:=by rw[← hq]; exact List.length_pos_iff.2 (fun e=>by have:=(limbs_nil Y0).1 e; omega)
   have ov:=wdivide wr lx ly X0 (by omega) (by rw[hp]; omega) (by rw[hq]; omega)
   clear hg hp hq lx
   go_wp2_with fail
   refine ov.mono ?_
   rintro e w2 ⟨sq,sr,rfl,hq2,hr2,hs2⟩
   obtain⟨ar,cr,hsr⟩:=hr2.shape
   have HR:=Hid.mk_ hr2
   have HY:=Hid.mk_ (ly.steps hs2)
   subst hsr
   clear hr2 hq2 ly ov
   have m0:=Int.emod_nonneg X (show Y≠0 by omega)
   have m1:=Int.emod_lt_of_pos X hy
   have nr:=limbs_le m0 (show X%Y≤Y by omega)
   go_wp2
   go_roundg (X%Y).toNat
   case measure=>omega
   case rel=>exact⟨Y,X%Y,ay,ar,cy,cr,by omega,m0,rfl,by rw[HPQ.out.2],rfl,HY.out,HR.out,by rw[HPQ.out.2]; exact ny,by have:=HPQ.out.2; omega,by rw[gcdI_step X0 (by omega)]; exact HG.out,hsw.trans (hs2.mono hsw.size)⟩
  ·
   obtain rfl:Y=0:=by omega
   have q0:q=0:=by rw[← hq]; rfl
   subst q0
   rw[gcdI_zero X0]at hg
   have cl:=fun w' (h:Steps wr w')=>wclone w' (lx.steps h) (by rw[hp]; unfold few; omega)
   have mk:=fun w' v (h:Lim w' v (limbs X))=>wmadeN false w' h (by rw[hp]; unfold few; omega)
   have hv:=lval_limbs X0
   have hfx:fits X:=by unfold fits; rw[absN_of X0,hp]; exact nx
   simp only[hv,show zv false X=X from rfl,errN_fits hfx,clipN_fits hfx]at mk
   have HE:=Hid.mk_ (And.intro hg hfx)
   have B2:Below w.heap.size w wr:=below_steps B (Nat.le_refl _) hsw
   have oa':=oa.steps hsw
   have ob':=ob.steps hsw
   have or':=or.steps hsw
   clear hg hp hq hv hfx lx ly ca0 ca1 fa la cb0 cb1 fb lb cr0 cr1 fr lr oa ob or B
   have B:=B2
   have oa:=oa'
   have ob:=ob'
   have or:=or'
   clear oa' ob' or' B2
   go_wp2_with fail
   refine(cl _ (Below.refl _ _)).mono ?_
   rintro e w1 ⟨v0,rfl,ho0,hv0,hb1⟩
   have st:Steps _ w1:=hb1
   have Bn:=bA w st
   replace oa:Blk w1 (w.heap.size) 30 #[.bool gx,.slice aa n ca]:=Blk.stepsA st
   replace ob:Blk w1 (w.heap.size+1) 30 #[.bool gy,.slice ab m cb]:=Blk.stepsA st
   replace or:Blk w1 (w.heap.size+1+1) 30 #[.bool false,.slice none 0 0]:=Blk.stepsA st
   clear B
   clear st
   have B:=Bn
   clear Bn
   obtain⟨ca0,ca1,fa,la⟩:=oa.s1
   obtain⟨cb0,cb1,fb,lb⟩:=ob.s1
   obtain⟨cr0,cr1,fr,lr⟩:=or.s1
   clear cl ho0
   go_wp2_with fail
   refine(mk _ _ hv0).mono ?_
   rintro e w2 ⟨v1,rfl,hv1,st⟩
   have Bn:=bA w st
   have na:=oa.stq st
   have nb:=ob.stq st
   have nr:=or.stq st
   clear B oa ob or ca0 ca1 fa la cb0 cb1 fb lb cr0 cr1 fr lr
   clear st
   have B:=Bn
   clear Bn
   have oa:=na
   clear na
   obtain⟨ca0,ca1,fa,la⟩:=oa.s1
   have ob:=nb
   clear nb
   obtain⟨cb0,cb1,fb,lb⟩:=ob.s1
   have or:=nr
   clear nr
   obtain⟨cr0,cr1,fr,lr⟩:=or.s1
   clear mk hv0
   obtain⟨bb,ao,k,c,rfl⟩:=hv1.shape
   have HV:=Hid.mk_ hv1
   clear hv1
   go_wp2
   refine bodyPost_ret (by simp[results,Tryz.results110,go_sem,ca0,ca1,fa,la,cb0,cb1,fb,lb,cr0,cr1,fr,lr]; rfl) rfl ?_
   exact⟨_,rfl,by rw[← HE.out.1]; exact HV.out.put2 or,by rw[← HE.out.1]; exact HE.out.2,belowB⟩
theorem gcd_bad (na nb:Bool) {sa sb:Value} {la lb:List Int} (w:World) (ha:Lim w sa la) (hb:Lim w sb lb) (hv:¬(valid na la∧valid nb lb)) :
  Calls Tryz.prog 110 #[.agg #[.bool na,sa],.agg #[.bool nb,sb]] w fun e w'=>e = .returned (.tuple #[.agg #[.bool false,.slice none 0 0],.int .i64 8])∧Steps w w':=by
 have ck:∀ (w':World) (q:Nat),Blk w' q 30 #[.bool na,sa,.bool nb,sb]→Steps w w'→Calls Tryz.prog 81 #[.slice (some ⟨q,0,none⟩) 2 2] w' fun e w2=>e = .returned (.int .i64 8)∧Steps w' w2:=fun w' q hq h=>by
  have:=wcheck2 w' hq (ha.steps h) (hb.steps h)
  rw[errC_eq,if_neg hv]at this
  exact this
 obtain⟨aa,ca,rfl⟩:=ha.shape
 obtain⟨ab,cb,rfl⟩:=hb.shape
 obtain⟨n,hn⟩:∃n,la.length=n:=⟨_,rfl⟩
 obtain⟨m,hm⟩:∃m,lb.length=m:=⟨_,rfl⟩
 rw[hn,hm]at ck⊢
 clear ha hb hn hm hv
 go_enter Tryz.func110,Tryz.ntmps110
 go_wp2_with fail
 refine(ck _ _ ownB belowB).mono ?_
 rintro e w1 ⟨rfl,st⟩
 have Bn:=bA w st
 have oa:Blk w1 (w.heap.size) 30 #[.bool na,.slice aa n ca]:=Blk.stepsA st
 have ob:Blk w1 (w.heap.size+1) 30 #[.bool nb,.slice ab m cb]:=Blk.stepsA st
 have or:Blk w1 (w.heap.size+1+1) 30 #[.bool false,.slice none 0 0]:=Blk.stepsA st
 clear st
 have B:=Bn
 clear Bn
 obtain⟨ca0,ca1,fa,la⟩:=oa.s1
 obtain⟨cb0,cb1,fb,lb⟩:=ob.s1
 obtain⟨cr0,cr1,fr,lr⟩:=or.s1
 clear ck
 go_wp2
 refine bodyPost_ret (by simp[results,Tryz.results110,go_sem,ca0,ca1,fa,la,cb0,cb1,fb,lb,cr0,cr1,fr,lr]; rfl) rfl ?_
 exact⟨rfl,belowB⟩
end Go.Proofs.YtdkcffnmlllamaaGreat
