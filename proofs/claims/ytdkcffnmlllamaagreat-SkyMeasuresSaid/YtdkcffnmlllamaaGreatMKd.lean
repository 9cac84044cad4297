import Derived.Test.YtdkcffnmlllamaaGreatMKc
import Derived.Test.YtdkcffnmlllamaaGreatMUb
set_option linter.unusedVariables false
set_option linter.unusedSimpArgs false
set_option maxHeartbeats 6400000
set_option maxRecDepth 1000000
namespace Go.Proofs.YtdkcffnmlllamaaGreat
open Go.RowKit
def mgr (X Y s:Int) (l:List Int):Bool:=decide (200<l.length)||(decide (mchk X Y s l=0)&&decide (100<X*Y))
theorem pmgreat {ao:Option Addr} {n cap:Nat} {X Y s:Int} {l:List Int} (w:World) (h:IntsR w (.slice ao n cap) l) (hl:l.length≤100000) :
  Calls Tryz.prog 9 #[.agg #[.int .i64 X,.int .i64 Y,.int .i64 s,.slice ao n cap]] w fun e w'=>e = .returned (.bool (mgr X Y s l))∧Steps w w':=by
 have CK:=fun w' (k:Steps w w')=>prmcheck (X:=X) (Y:=Y) (s:=s) w' (h.steps k) hl
 obtain⟨ao',cap',e0,-⟩:=h
 simp only[Value.slice.injEq]at e0
 obtain⟨-,hn,-⟩:=e0
 have HE:Hid (mgr X Y s l=(decide (200<l.length)||(decide (mchk X Y s l=0)&&decide (100<X*Y)))):=Hid.mk_ rfl
 rw[← hn]at HE
 have HO:=Hid.mk_ (show mchk X Y s l=0→1≤X∧X≤100∧1≤Y∧Y≤100 from fun e=>by
  unfold mchk at e
  by_cases g:mOk X Y s l
  · exact⟨g.1,g.2.1,g.2.2.1,g.2.2.2.1⟩
  · rw[if_neg g]at e; cases e)
 clear hn
 generalize mgr X Y s l=B0 at *
 generalize mchk X Y s l=c at *
 by_cases g1:200<n
 ·
  have g2:(200:Int)<(n:Int):=by omega
  rw[show B0=true by rw[HE.out,decide_eq_true g1]; rfl]
  clear CK HE HO g1
  go_enter Tryz.func9,Tryz.ntmps9
  go_wp2
  go_returns
  exact⟨rfl,belowB⟩
 have g2:¬(200:Int)<(n:Int):=by omega
 rw[show B0=(decide (c=0)&&decide (100<X*Y)) by rw[HE.out,decide_eq_false g1]; rfl]
 clear HE g1
 by_cases g3:c=0
 ·
  obtain⟨p1,p2,p3,p4⟩:=HO.out g3
  have hm:=mul_100 p1 p2 p3 p4
  obtain⟨M,hM⟩:∃M,X*Y=M:=⟨_,rfl⟩
  have hw:IntKind.i64.wrap (X*Y)=M:=by rw[hM,IntKind.wrap_i64]; omega
  rw[hM]
  clear hM hm HO
  subst g3
  go_enter Tryz.func9,Tryz.ntmps9
  have kk:=Keeps.refl w
  go_wp2_with fail
  refine(CK _ belowB).mono ?_
  rintro e w1 ⟨rfl,hb1⟩
  have st:Steps _ w1:=hb1
  have B:=bA w st
  have kp:=kB w st
  replace kk:=kk.trans kp
  have om:Blk w1 (w.heap.size) 24 #[.int .i64 X,.int .i64 Y,.int .i64 s,.slice ao n cap]:=Blk.stepsK st
  clear kp
  clear st
  obtain⟨cm0,cm1,cm2,cm3⟩:=om.r3
  have lm:=om.lt
  go_wp2_with fail
  refine bodyPost_ret (by simp[results,Tryz.results9,go_sem,cm0,cm1,cm2,cm3,lm]; rfl) rfl ?_
  exact⟨rfl,belowB⟩
 ·
  have g4:(c==0)=false:=by simpa using g3
  rw[decide_eq_false g3,Bool.false_and]
  clear HO g3
  go_enter Tryz.func9,Tryz.ntmps9
  have kk:=Keeps.refl w
  go_wp2_with fail
  refine(CK _ belowB).mono ?_
  rintro e w1 ⟨rfl,hb1⟩
  have st:Steps _ w1:=hb1
  have B:=bA w st
  have kp:=kB w st
  replace kk:=kk.trans kp
  have om:Blk w1 (w.heap.size) 24 #[.int .i64 X,.int .i64 Y,.int .i64 s,.slice ao n cap]:=Blk.stepsK st
  clear kp
  clear st
  go_wp2_with fail
  refine bodyPost_ret (by simp[results,Tryz.results9,go_sem,]; rfl) rfl ?_
  exact⟨rfl,belowB⟩
theorem pfgreat {ao:Option Addr} {n cap:Nat} {X Y:Int} (w:World) :
  Calls Tryz.prog 28 #[.agg #[.int .i64 X,.int .i64 Y,.slice ao n cap]] w fun e w'=>e = .returned (.bool (decide (100<n)))∧Steps w w':=by
 by_cases g:100<n
 ·
  have g2:(100:Int)<(n:Int):=by omega
  rw[decide_eq_true g]
  go_enter Tryz.func28,Tryz.ntmps28
  go_wp2
  go_returns
  exact⟨rfl,belowB⟩
 ·
  have g2:¬(100:Int)<(n:Int):=by omega
  rw[decide_eq_false g]
  clear g
  go_enter Tryz.func28,Tryz.ntmps28
  go_wp2
  go_returns
  exact⟨rfl,belowB⟩
theorem lgreat12 {ao bo:Option Addr} {n cap m bcap:Nat} {X Y:Int} (w:World) :
  Calls Tryz.prog 10 #[.agg #[.int .i64 X,.int .i64 Y,.slice ao n cap],.slice bo m bcap] w fun e w'=>e = .returned (.bool (decide (100<n)||decide (120<m)))∧Steps w w':=by
 have GR:=fun w'=>pfgreat (ao:=ao) (n:=n) (cap:=cap) (X:=X) (Y:=Y) w'
 cases hd:decide (100<n)with
 | true=>
  rw[hd]at GR
  clear hd
  go_enter Tryz.func10,Tryz.ntmps10
  go_wp2_with fail
  refine(GR _).mono ?_
  rintro e w1 ⟨rfl,hs⟩
  have B:=bA w hs
  clear hs GR
  go_wp2
  go_returns
  exact⟨rfl,belowB⟩
 | false=>
  rw[hd]at GR
  clear hd
  by_cases g:120<m
  ·
   have g2:(120:Int)<(m:Int):=by omega
   rw[decide_eq_true g]
   go_enter Tryz.func10,Tryz.ntmps10
   go_wp2_with fail
   refine(GR _).mono ?_
   rintro e w1 ⟨rfl,hs⟩
   have B:=bA w hs
   clear hs GR
   go_wp2
   go_returns
   exact⟨rfl,belowB⟩
  ·
   have g2:decide ((120:Int)<(m:Int))=false:=decide_eq_false (by omega)
   have g3:decide (120<m)=false:=decide_eq_false g
   rw[g3]
   go_enter Tryz.func10,Tryz.ntmps10
   go_wp2_with fail
   refine(GR _).mono ?_
   rintro e w1 ⟨rfl,hs⟩
   have B:=bA w hs
   clear hs GR
   go_wp2
   go_returns
   exact⟨rfl,belowB⟩
theorem lsmall12 {k1 k5:Bool} {k2 k6:Option Addr} {p k4 q k8:Nat} (w:World) :
  Calls Tryz.prog 11 #[.agg #[.bool k1,.slice k2 p k4,.bool k5,.slice k6 q k8]] w fun e w'=>e = .returned (.bool (decide (p≤4)&&decide (q≤4)))∧Steps w w':=by
 by_cases g:p≤4
 ·
  have g2:(p:Int)≤4:=by omega
  rw[decide_eq_true g]
  by_cases g3:q≤4
  ·
   have g4:(q:Int)≤4:=by omega
   rw[decide_eq_true g3]
   go_enter Tryz.func11,Tryz.ntmps11
   go_wp2
   go_returns
   exact⟨rfl,belowB⟩
  ·
   have g4:¬(q:Int)≤4:=by omega
   rw[decide_eq_false g3]
   clear g3
   go_enter Tryz.func11,Tryz.ntmps11
   go_wp2
   go_returns
   exact⟨rfl,belowB⟩
 ·
  have g2:¬(p:Int)≤4:=by omega
  rw[decide_eq_false g]
  clear g
  go_enter Tryz.func11,Tryz.ntmps11
  go_wp2
  go_returns
  exact⟨rfl,belowB⟩
def pixV (n:Int):Int:=if -4294967296≤n∧n≤4294967296 then n else 0
def pixE (n:Int):Int:=if -4294967296≤n∧n≤4294967296 then 0 else 16
theorem ppixel {va:Value} {r:Rat} {k:Nat} (w:World) (h:FR w va r) (z:sz r k) (hk:k≤4000) (hn : -1152921504606846976≤rndQ r∧rndQ r≤1152921504606846976) :
  Calls Tryz.prog 40 #[va] w fun e w'=>e = .returned (.tuple #[.int .i64 (pixV (rndQ r)),.int .i64 (pixE (rndQ r))])∧Steps w w':=by
 have RD:∀w' v,FR w' v r→Calls Tryz.prog 60 #[v] w' fun e w2=>∃v,e = .returned (.tuple #[v,.int .i64 0])∧Num w2 v (rndQ r)∧Steps w' w2:=fun w' v h=>rround w' h z hk
 have IN:∀w' v,Num w' v (rndQ r)→Calls Tryz.prog 61 #[v] w' fun e w2=>e = .returned (.tuple #[.int .i64 (rndQ r),.int .i64 0])∧Steps w' w2:=fun w' v h=>by
  have:=rint w' h (fits_small64 (by omega) (by omega))
  rwa[show intI (rndQ r)=rndQ r from if_pos (by omega),show errI (rndQ r)=0 from if_pos (by omega)]at this
 obtain⟨a1,a2,a3,a4,a5,a6,a7,a8,rfl⟩:=h.shape
 have Fa:=Hid.mk_ h
 clear h z
 generalize rndQ r=N at *
 unfold pixV pixE
 by_cases g1:N < -4294967296
 ·
  rw[if_neg (by omega),if_neg (by omega)]
  go_enter Tryz.func40,Tryz.ntmps40
  have kk:=Keeps.refl w
  go_wp2_with fail
  refine(RD _ _ (Fa.out.keeps keepsB)).mono ?_
  rintro e w1 ⟨vu,rfl,hvu,hb1⟩
  have st:Steps _ w1:=hb1
  have B:=bA w st
  have kp:=kB w st
  replace kk:=kk.trans kp
  have oa:Blk w1 (w.heap.size) 32 #[.bool a1,.slice a2 a3 a4,.bool a5,.slice a6 a7 a8]:=Blk.stepsK st
  replace Fa:=Hid.mk_ (Fa.out.keeps kp)
  clear kp
  clear st
  obtain⟨u1,u2,u3,u4,rfl⟩:=hvu.shape
  have Fu:=Hid.mk_ hvu
  clear hvu
  have za_1:w.heap.size<w1.heap.size:=oa.lt
  have zz1:=B.size
  go_wp2_with fail
  refine(IN _ _ (Fu.out.keeps keepsB)).mono ?_
  rintro e w2 ⟨rfl,hb2⟩
  have st:Steps _ w2:=hb2
  have sk:=bA w1 st
  replace B:=bS B sk
  have on:Blk w2 (w1.heap.size) 30 #[.bool u1,.slice u2 u3 u4]:=Blk.stepsK st
  replace oa:=oa.steps sk
  replace Fa:=Hid.mk_ (Fa.out.steps sk)
  replace Fu:=Hid.mk_ (Fu.out.steps sk)
  replace kk:=kk.then_ sk
  clear st sk
  go_wp2_with fail
  refine bodyPost_ret (by simp[results,Tryz.results40,go_sem,]; rfl) rfl ?_
  exact⟨rfl,belowB⟩
 by_cases g2:4294967296<N
 ·
  rw[if_neg (by omega),if_neg (by omega)]
  go_enter Tryz.func40,Tryz.ntmps40
  have kk:=Keeps.refl w
  go_wp2_with fail
  refine(RD _ _ (Fa.out.keeps keepsB)).mono ?_
  rintro e w1 ⟨vu,rfl,hvu,hb1⟩
  have st:Steps _ w1:=hb1
  have B:=bA w st
  have kp:=kB w st
  replace kk:=kk.trans kp
  have oa:Blk w1 (w.heap.size) 32 #[.bool a1,.slice a2 a3 a4,.bool a5,.slice a6 a7 a8]:=Blk.stepsK st
  replace Fa:=Hid.mk_ (Fa.out.keeps kp)
  clear kp
  clear st
  obtain⟨u1,u2,u3,u4,rfl⟩:=hvu.shape
  have Fu:=Hid.mk_ hvu
  clear hvu
  have za_1:w.heap.size<w1.heap.size:=oa.lt
  have zz1:=B.size
  go_wp2_with fail
  refine(IN _ _ (Fu.out.keeps keepsB)).mono ?_
  rintro e w2 ⟨rfl,hb2⟩
  have st:Steps _ w2:=hb2
  have sk:=bA w1 st
  replace B:=bS B sk
  have on:Blk w2 (w1.heap.size) 30 #[.bool u1,.slice u2 u3 u4]:=Blk.stepsK st
  replace oa:=oa.steps sk
  replace Fa:=Hid.mk_ (Fa.out.steps sk)
  replace Fu:=Hid.mk_ (Fu.out.steps sk)
  replace kk:=kk.then_ sk
  clear st sk
  go_wp2_with fail
  refine bodyPost_ret (by simp[results,Tryz.results40,go_sem,]; rfl) rfl ?_
  exact⟨rfl,belowB⟩
 rw[if_pos (by omega),if_pos (by omega)]
 go_enter Tryz.func40,Tryz.ntmps40
 have kk:=Keeps.refl w
 go_wp2_with fail
 refine(RD _ _ (Fa.out.keeps keepsB)).mono ?_
 rintro e w1 ⟨vu,rfl,hvu,hb1⟩
 have st:Steps _ w1:=hb1
 have B:=bA w st
 have kp:=kB w st
 replace kk:=kk.trans kp
 have oa:Blk w1 (w.heap.size) 32 #[.bool a1,.slice a2 a3 a4,.bool a5,.slice a6 a7 a8]:=Blk.stepsK st
 replace Fa:=Hid.mk_ (Fa.out.keeps kp)
 clear kp
 clear st
 obtain⟨u1,u2,u3,u4,rfl⟩:=hvu.shape
 have Fu:=Hid.mk_ hvu
 clear hvu
 have za_1:w.heap.size<w1.heap.size:=oa.lt
 have zz1:=B.size
 go_wp2_with fail
 refine(IN _ _ (Fu.out.keeps keepsB)).mono ?_
 rintro e w2 ⟨rfl,hb2⟩
 have st:Steps _ w2:=hb2
 have sk:=bA w1 st
 replace B:=bS B sk
 have on:Blk w2 (w1.heap.size) 30 #[.bool u1,.slice u2 u3 u4]:=Blk.stepsK st
 replace oa:=oa.steps sk
 replace Fa:=Hid.mk_ (Fa.out.steps sk)
 replace Fu:=Hid.mk_ (Fu.out.steps sk)
 replace kk:=kk.then_ sk
 clear st sk
 go_wp2_with fail
 refine bodyPost_ret (by simp[results,Tryz.results40,go_sem,]; rfl) rfl ?_
 exact⟨rfl,belowB⟩
end Go.Proofs.YtdkcffnmlllamaaGreat
