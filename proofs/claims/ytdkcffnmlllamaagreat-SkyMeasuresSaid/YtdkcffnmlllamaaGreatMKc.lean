import Derived.Test.YtdkcffnmlllamaaGreatMRowU
import Derived.Laws.Cover1
set_option linter.unusedVariables false
set_option linter.unusedSimpArgs false
set_option maxHeartbeats 6400000
set_option maxRecDepth 1000000
namespace Go.Proofs.YtdkcffnmlllamaaGreat
open Go.RowKit
def cN (n s:Int):Int:=(n+s-1) / s
theorem cN_tdiv {n s:Int} (h1:1≤n) (h2:1≤s):Int.tdiv (n+s-1) s=cN n s:=Int.tdiv_eq_ediv_of_nonneg (by omega)
theorem cN_range {n s:Int} (h1:1≤n) (h2:1≤s):1≤cN n s∧cN n s≤n:=by
 unfold cN
 have e:=Int.mul_ediv_add_emod (n+s-1) s
 have m0:=Int.emod_nonneg (n+s-1) (show s≠0 by omega)
 have m1:=Int.emod_lt_of_pos (n+s-1) (show 0<s by omega)
 generalize (n+s-1) / s=q at *
 generalize (n+s-1)%s=m at *
 constructor
 ·
  rcases Int.lt_or_le q 1 with h | h
  ·
   have:=Int.mul_le_mul_of_nonneg_left (show q≤0 by omega) (show 0≤s by omega)
   omega
  · exact h
 ·
  rcases Int.lt_or_le n q with h | h
  ·
   have a:=Int.mul_le_mul_of_nonneg_left (show n+1≤q by omega) (show 0≤s by omega)
   rw[Int.mul_add,Int.mul_one]at a
   have b:=Int.mul_le_mul_of_nonneg_right h2 (show 0≤n by omega)
   omega
  · exact h
theorem scells {n s:Int} (w:World) (h1:1≤n) (h2:n≤100) (h3:1≤s) (h4:s≤30) :
  Calls Tryz.prog 32 #[.agg #[.int .i64 n,.int .i64 s]] w fun e w'=>e = .returned (.int .i64 (cN n s))∧Steps w w':=by
 have q1:IntKind.i64.wrap (n+s)=n+s:=by rw[IntKind.wrap_i64]; omega
 have q2:IntKind.i64.wrap (n+s-1)=n+s-1:=by rw[IntKind.wrap_i64]; omega
 have r:=cN_range h1 h3
 obtain⟨c,hc⟩:∃c,cN n s=c:=⟨_,rfl⟩
 have q3:Int.tdiv (n+s-1) s=c:=by rw[cN_tdiv h1 h3,hc]
 have q4:(s==0)=false:=by simp; omega
 have q5:IntKind.i64.wrap c=c:=by rw[IntKind.wrap_i64]; omega
 rw[hc]
 rw[hc]at r
 clear hc
 go_enter Tryz.func32,Tryz.ntmps32
 go_wp2_with fail
 go_returns
 exact⟨rfl,belowB⟩
theorem rcells {n s:Int} (w:World) (h1:1≤n) (h2:n≤100) (h3:1≤s) (h4:s≤30) :
  Calls Tryz.prog 21 #[.int .i64 n,.int .i64 s] w fun e w'=>e = .returned (.int .i64 (cN n s))∧Steps w w':=by
 have q1:IntKind.i64.wrap (n+s)=n+s:=by rw[IntKind.wrap_i64]; omega
 have q2:IntKind.i64.wrap (n+s-1)=n+s-1:=by rw[IntKind.wrap_i64]; omega
 have r:=cN_range h1 h3
 obtain⟨c,hc⟩:∃c,cN n s=c:=⟨_,rfl⟩
 have q3:Int.tdiv (n+s-1) s=c:=by rw[cN_tdiv h1 h3,hc]
 have q4:(s==0)=false:=by simp; omega
 have q5:IntKind.i64.wrap c=c:=by rw[IntKind.wrap_i64]; omega
 rw[hc]
 rw[hc]at r
 clear hc
 go_enter Tryz.func21,Tryz.ntmps21
 go_wp2_with fail
 go_returns
 exact⟨rfl,belowB⟩
theorem saxes {X Y s:Int} {v:Value} (w:World) :
  Calls Tryz.prog 31 #[.agg #[.int .i64 X,.int .i64 Y,.int .i64 s,v]] w fun e w'=>e = .returned (.tuple #[.agg #[.int .i64 X,.int .i64 s],.agg #[.int .i64 Y,.int .i64 s]])∧Steps w w':=by
 go_enter Tryz.func31,Tryz.ntmps31
 go_upto_region 1 with fail
 go_region
 go_wp2_with fail
 go_returns
 exact⟨rfl,belowB⟩
theorem run_min3B {P:Program} (ts:Array TypeId) (t:TypeId) (x y z:Int) (w:World):(Builtin.min_ ts t #[.int .i64 x,.int .i64 y,.int .i64 z]).run P w = .ok (.int .i64 (min (min x y) z)) w:=by
 rw[Go.run_min_int3]
 congr 2
 split<;>split<;>omega
def mOk (X Y s:Int) (l:List Int):Prop:=1≤X∧X≤100∧1≤Y∧Y≤100∧1≤s∧s≤30∧(l.length:Int)=cN X s*cN Y s∧okV l l.length=true
instance (X Y s:Int) (l:List Int):Decidable (mOk X Y s l):=inferInstanceAs (Decidable (_∧_))
def mchk (X Y s:Int) (l:List Int):Int:=if mOk X Y s l then 0 else 8
theorem mchk_bad {X Y s:Int} {l:List Int} (h:¬mOk X Y s l):mchk X Y s l=8:=if_neg h
theorem mchk_ok {X Y s:Int} {l:List Int} (h:mOk X Y s l):mchk X Y s l=0:=if_pos h
theorem scheck {ao:Option Addr} {n cap:Nat} {X Y s:Int} {l:List Int} (w:World) (h:IntsR w (.slice ao n cap) l) (hl:l.length≤100000) :
  Calls Tryz.prog 14 #[.agg #[.int .i64 X,.int .i64 Y,.int .i64 s,.slice ao n cap]] w fun e w'=>e = .returned (.int .i64 (mchk X Y s l))∧Steps w w':=by
 have HC:=Hid.mk_ h
 obtain⟨ao',cap',e0,-⟩:=h
 simp only[Value.slice.injEq]at e0
 obtain⟨-,hn,-⟩:=e0
 have HL:=Hid.mk_ hn
 rw[← hn]at hl
 clear hn
 obtain⟨mm,hmm⟩:∃m,min (min X Y) s=m:=⟨_,rfl⟩
 obtain⟨mz,hmz⟩:∃m,max X Y=m:=⟨_,rfl⟩
 have hn3:∀ts ty w',(Builtin.min_ ts ty #[.int .i64 X,.int .i64 Y,.int .i64 s]).run Tryz.prog w' = .ok (.int .i64 mm) w':=fun ts ty w'=>by
  rw[run_min3B,hmm]
 have hx2:∀ts ty w',(Builtin.max_ ts ty #[.int .i64 X,.int .i64 Y]).run Tryz.prog w' = .ok (.int .i64 mz) w':=fun ts ty w'=>by rw[run_max2B,hmz]
 by_cases g1:mm<1
 ·
  rw[mchk_bad (X:=X) (Y:=Y) (s:=s) (l:=l) (by unfold mOk; omega)]
  clear HC HL hmm hmz
  go_enter Tryz.func14,Tryz.ntmps14
  have kk:=Keeps.refl w
  go_wp2_with fail
  refine bodyPost_ret (by simp[results,Tryz.results14,go_sem,]; rfl) rfl ?_
  exact⟨rfl,belowB⟩
 by_cases g2:100<mz
 ·
  rw[mchk_bad (X:=X) (Y:=Y) (s:=s) (l:=l) (by unfold mOk; omega)]
  clear HC HL hmm hmz
  go_enter Tryz.func14,Tryz.ntmps14
  have kk:=Keeps.refl w
  go_wp2_with fail
  refine bodyPost_ret (by simp[results,Tryz.results14,go_sem,]; rfl) rfl ?_
  exact⟨rfl,belowB⟩
 by_cases g3:30<s
 ·
  rw[mchk_bad (X:=X) (Y:=Y) (s:=s) (l:=l) (by unfold mOk; omega)]
  clear HC HL hmm hmz
  go_enter Tryz.func14,Tryz.ntmps14
  have kk:=Keeps.refl w
  go_wp2_with fail
  refine bodyPost_ret (by simp[results,Tryz.results14,go_sem,]; rfl) rfl ?_
  exact⟨rfl,belowB⟩
 have p1:1≤X:=by omega
 have p2:X≤100:=by omega
 have p3:1≤Y:=by omega
 have p4:Y≤100:=by omega
 have p5:1≤s:=by omega
 have p6:s≤30:=by omega
 have C1:=fun w'=>scells (n:=X) (s:=s) w' p1 p2 p5 p6
 have C2:=fun w'=>scells (n:=Y) (s:=s) w' p3 p4 p5 p6
 have R1:=fun w'=>rcells (n:=X) (s:=s) w' p1 p2 p5 p6
 have R2:=fun w'=>rcells (n:=Y) (s:=s) w' p3 p4 p5 p6
 have ra:=cN_range p1 p5
 have rb:=cN_range p3 p5
 have HX:=Hid.mk_ (rfl:cN X s=cN X s)
 have HY:=Hid.mk_ (rfl:cN Y s=cN Y s)
 obtain⟨a,ha⟩:∃a,cN X s=a:=⟨_,rfl⟩
 obtain⟨b,hb⟩:∃b,cN Y s=b:=⟨_,rfl⟩
 replace HX:=Hid.mk_ ha
 replace HY:=Hid.mk_ hb
 rw[ha]at C1 R1 ra
 rw[hb]at C2 R2 rb
 clear ha hb
 have hm:=mul_100 ra.1 (by omega) rb.1 (by omega)
 obtain⟨M,hM⟩:∃M,a*b=M:=⟨_,rfl⟩
 have HM:=Hid.mk_ hM
 rw[hM]at hm
 have hw:IntKind.i64.wrap (a*b)=M:=by rw[hM,IntKind.wrap_i64]; omega
 clear hM
 by_cases g5:(n:Int)=M
 case neg=>
  have d5:((n:Int) != M)=true:=by simpa using g5
  rw[mchk_bad (X:=X) (Y:=Y) (s:=s) (l:=l) (by intro h; exact g5 (by rw[HL.out,← HM.out,← HX.out,← HY.out]; exact h.2.2.2.2.2.2.1))]
  clear HC HL HM HX HY g5 R1 R2
  go_enter Tryz.func14,Tryz.ntmps14
  have kk:=Keeps.refl w
  go_wp2_with fail
  refine(saxes _).mono ?_
  rintro e w1 ⟨rfl,hb1⟩
  have st:Steps _ w1:=hb1
  have B:=bA w st
  have kp:=kB w st
  replace kk:=kk.trans kp
  have om:Blk w1 (w.heap.size) 24 #[.int .i64 X,.int .i64 Y,.int .i64 s,.slice ao n cap]:=Blk.stepsK st
  clear kp
  clear st
  obtain⟨cm0,cm1,cm2,cm3⟩:=om.r3
  have lm:=om.lt
  have zm_1:w.heap.size<w1.heap.size:=om.lt
  have zz1:=B.size
  go_wp2_with fail
  go_upto_region 4 with fail
  refine Reg.chn (fun N0 D v W=>Below w.heap.size w W∧Keeps w1 W∧N0≤W.heap.size∧Blk W (w.heap.size) 24 #[.int .i64 X,.int .i64 Y,.int .i64 s,.slice ao n cap]∧Blk W (w1.heap.size) 65 #[.int .i64 X,.int .i64 s]∧Blk W (w1.heap.size+1) 65 #[.int .i64 Y,.int .i64 s]) [4,6] [(4,fun z_=>z_ = .int .i64 a),(6,fun z_=>z_ = .int .i64 b)] [] [(21,[(4,some 35),(6,some 37)])] [] (fun N0 hN0=>⟨fun v=> ?_,fun D v v' W hv hj=> ?_,fun ops' Q' hops hQ=> ?_⟩)
  · exact⟨belowB,keepsB,leD hN0,ownK,ownK,ownK⟩
  · exact hj
  clear cm0 cm1 cm2 cm3 lm
  clear hN0
  refine Reg.RP0 31 ?_
  refine Reg.RPf 32 (fun _ _ _ h=>h.2.2.2.1.q3) ?_
  refine Reg.RP0 33 ?_
  refine Reg.RPf 34 (fun _ _ _ h=>h.2.2.2.2.1.r1) ?_
  refine Reg.RCv (fun D v' W' hj=>C1 W') ?_
  refine Reg.at52 rfl ?_
  refine Reg.RPf 36 (fun _ _ _ h=>h.2.2.2.2.2.r1) ?_
  refine Reg.RCv (fun D v' W' hj=>C2 W') ?_
  refine Reg.at52 rfl ?_
  repeat refine Reg.RP0 _ ?_
  refine Reg.sks hops 4 ?_ rfl
  refine Reg.at52 rfl ?_
  repeat refine Reg.RP0 _ ?_
  refine Reg.sks hops 4 ?_ rfl
  refine Reg.at52 rfl ?_
  refine Reg.RP0 51 ?_
  refine Reg.RC_end (fun Dn v' w2 hd hj hf=> ?_)
  obtain⟨B,jk,jn,om,ox,oy⟩:=hj
  replace kk:=kk.trans jk
  clear hd hf jk
  refine hQ _ _ ?_
  clear hQ hops Q' ops'
  go_wp2_with fail
  refine bodyPost_ret (by simp[results,Tryz.results14,go_sem,]; rfl) rfl ?_
  exact⟨rfl,belowB⟩
 case pos=>
  clear R1 R2 hmm hmz
  subst g5
  have MX:∀w',Steps w w'→Calls Tryz.prog 41 #[.slice ao n cap] w' fun e w2=>e = .returned (.int .i64 (mxI l (n-1)))∧Steps w' w2:=fun w' s=>by
   have:=slmax w' (HC.out.steps s) (by have:=HL.out; omega) (by have:=HL.out; omega)
   rwa[← HL.out]at this
  have MN:∀w',Steps w w'→Calls Tryz.prog 42 #[.slice ao n cap] w' fun e w2=>e = .returned (.int .i64 (mnI l (n-1)))∧Steps w' w2:=fun w' s=>by
   have:=slmin w' (HC.out.steps s) (by have:=HL.out; omega) (by have:=HL.out; omega)
   rwa[← HL.out]at this
  have HK:=Hid.mk_ (show okV l l.length=true↔mxI l (n-1)≤4294967296∧-4294967296≤mnI l (n-1) by rw[← HL.out]; exact okV_mm (by omega))
  generalize mxI l (n-1)=mx at *
  generalize mnI l (n-1)=mn at *
  by_cases g6:4294967296<mx
  ·
   rw[mchk_bad (X:=X) (Y:=Y) (s:=s) (l:=l) (fun g=>by have:=HK.out.1 g.2.2.2.2.2.2.2; omega)]
   clear HC HL HM HK HX HY MN
   have d6:decide (4294967296<mx)=true:=decide_eq_true g6
   go_enter Tryz.func14,Tryz.ntmps14
   have kk:=Keeps.refl w
   go_wp2_with fail
   refine(saxes _).mono ?_
   rintro e w1 ⟨rfl,hb1⟩
   have st:Steps _ w1:=hb1
   have B:=bA w st
   have kp:=kB w st
   replace kk:=kk.trans kp
   have om:Blk w1 (w.heap.size) 24 #[.int .i64 X,.int .i64 Y,.int .i64 s,.slice ao n cap]:=Blk.stepsK st
   clear kp
   clear st
   obtain⟨cm0,cm1,cm2,cm3⟩:=om.r3
   have lm:=om.lt
   have zm_1:w.heap.size<w1.heap.size:=om.lt
   have zz1:=B.size
   go_wp2_with fail
   go_upto_region 4 with fail
   refine Reg.chn (fun N0 D v W=>Below w.heap.size w W∧Keeps w1 W∧N0≤W.heap.size∧Blk W (w.heap.size) 24 #[.int .i64 X,.int .i64 Y,.int .i64 s,.slice ao n cap]∧Blk W (w1.heap.size) 65 #[.int .i64 X,.int .i64 s]∧Blk W (w1.heap.size+1) 65 #[.int .i64 Y,.int .i64 s]) [4,6,12] [(4,fun z_=>z_ = .int .i64 a),(6,fun z_=>z_ = .int .i64 b),(12,fun z_=>z_ = .int .i64 mx)] [] [(21,[(4,some 35),(6,some 37),(12,some 43)])] [] (fun N0 hN0=>⟨fun v=> ?_,fun D v v' W hv hj=> ?_,fun ops' Q' hops hQ=> ?_⟩)
   · exact⟨belowB,keepsB,leD hN0,ownK,ownK,ownK⟩
   · exact hj
   clear cm0 cm1 cm2 cm3 lm
   clear hN0
   refine Reg.RP0 31 ?_
   refine Reg.RPf 32 (fun _ _ _ h=>h.2.2.2.1.q3) ?_
   refine Reg.RP0 33 ?_
   refine Reg.RPf 34 (fun _ _ _ h=>h.2.2.2.2.1.r1) ?_
   refine Reg.RCv (fun D v' W' hj=>C1 W') ?_
   refine Reg.at52 rfl ?_
   refine Reg.RPf 36 (fun _ _ _ h=>h.2.2.2.2.2.r1) ?_
   refine Reg.RCv (fun D v' W' hj=>C2 W') ?_
   refine Reg.at52 rfl ?_
   repeat refine Reg.RP0 _ ?_
   refine Reg.RPg hops 41 ?_
   refine Reg.RPh hops 42 (fun _ _ _ h=>h.2.2.2.1.q3) ?_
   refine Reg.RCw hops (fun D v' W' hj=>MX W' hj.1) ?_
   refine Reg.at52 rfl ?_
   refine Reg.RPg hops 44 ?_
   repeat refine Reg.RP0 _ ?_
   refine Reg.sks hops 4 ?_ rfl
   refine Reg.at52 rfl ?_
   refine Reg.RP0 51 ?_
   refine Reg.RC_end (fun Dn v' w2 hd hj hf=> ?_)
   obtain⟨B,jk,jn,om,ox,oy⟩:=hj
   replace kk:=kk.trans jk
   clear hd hf jk
   refine hQ _ _ ?_
   clear hQ hops Q' ops'
   go_wp2_with fail
   refine bodyPost_ret (by simp[results,Tryz.results14,go_sem,]; rfl) rfl ?_
   exact⟨rfl,belowB⟩
  ·
   have d6:decide (4294967296<mx)=false:=decide_eq_false g6
   by_cases g7:mn < -4294967296
   focus
    have d7:decide (mn < -4294967296)=true:=decide_eq_true g7
    rw[mchk_bad (X:=X) (Y:=Y) (s:=s) (l:=l) (fun g=>by have:=HK.out.1 g.2.2.2.2.2.2.2; omega)]
   rotate_left
   focus
    have d7:decide (mn < -4294967296)=false:=decide_eq_false g7
    rw[mchk_ok (X:=X) (Y:=Y) (s:=s) (l:=l) ⟨p1,p2,p3,p4,p5,p6,by rw[← HL.out,HX.out,HY.out,HM.out],HK.out.2 ⟨by omega,by omega⟩⟩]
   rotate_left
   all_goals
    clear HC HL HM HK HX HY
    go_enter Tryz.func14,Tryz.ntmps14
    have kk:=Keeps.refl w
    go_wp2_with fail
    refine(saxes _).mono ?_
    rintro e w1 ⟨rfl,hb1⟩
    have st:Steps _ w1:=hb1
    have B:=bA w st
    have kp:=kB w st
    replace kk:=kk.trans kp
    have om:Blk w1 (w.heap.size) 24 #[.int .i64 X,.int .i64 Y,.int .i64 s,.slice ao n cap]:=Blk.stepsK st
    clear kp
    clear st
    obtain⟨cm0,cm1,cm2,cm3⟩:=om.r3
    have lm:=om.lt
    have zm_1:w.heap.size<w1.heap.size:=om.lt
    have zz1:=B.size
    go_wp2_with fail
    go_upto_region 4 with fail
    refine Reg.chn (fun N0 D v W=>Below w.heap.size w W∧Keeps w1 W∧N0≤W.heap.size∧Blk W (w.heap.size) 24 #[.int .i64 X,.int .i64 Y,.int .i64 s,.slice ao n cap]∧Blk W (w1.heap.size) 65 #[.int .i64 X,.int .i64 s]∧Blk W (w1.heap.size+1) 65 #[.int .i64 Y,.int .i64 s]) [4,6,12,18] [(4,fun z_=>z_ = .int .i64 a),(6,fun z_=>z_ = .int .i64 b),(12,fun z_=>z_ = .int .i64 mx),(18,fun z_=>z_ = .int .i64 mn)] [] [(21,[(4,some 35),(6,some 37),(12,some 43),(18,some 49)])] [] (fun N0 hN0=>⟨fun v=> ?_,fun D v v' W hv hj=> ?_,fun ops' Q' hops hQ=> ?_⟩)
    · exact⟨belowB,keepsB,leD hN0,ownK,ownK,ownK⟩
    · exact hj
    clear cm0 cm1 cm2 cm3 lm
    clear hN0
    refine Reg.RP0 31 ?_
    refine Reg.RPf 32 (fun _ _ _ h=>h.2.2.2.1.q3) ?_
    refine Reg.RP0 33 ?_
    refine Reg.RPf 34 (fun _ _ _ h=>h.2.2.2.2.1.r1) ?_
    refine Reg.RCv (fun D v' W' hj=>C1 W') ?_
    refine Reg.at52 rfl ?_
    refine Reg.RPf 36 (fun _ _ _ h=>h.2.2.2.2.2.r1) ?_
    refine Reg.RCv (fun D v' W' hj=>C2 W') ?_
    refine Reg.at52 rfl ?_
    repeat refine Reg.RP0 _ ?_
    refine Reg.RPg hops 41 ?_
    refine Reg.RPh hops 42 (fun _ _ _ h=>h.2.2.2.1.q3) ?_
    refine Reg.RCw hops (fun D v' W' hj=>MX W' hj.1) ?_
    refine Reg.at52 rfl ?_
    refine Reg.RPg hops 44 ?_
    repeat refine Reg.RP0 _ ?_
    refine Reg.RPg hops 47 ?_
    refine Reg.RPh hops 48 (fun _ _ _ h=>h.2.2.2.1.q3) ?_
    refine Reg.RCw hops (fun D v' W' hj=>MN W' hj.1) ?_
    refine Reg.at52 rfl ?_
    refine Reg.RPg hops 50 ?_
    refine Reg.RP0 51 ?_
    refine Reg.RC_end (fun Dn v' w2 hd hj hf=> ?_)
    obtain⟨B,jk,jn,om,ox,oy⟩:=hj
    replace kk:=kk.trans jk
    clear hd hf jk
    refine hQ _ _ ?_
    clear hQ hops Q' ops'
    go_wp2_with fail
    refine bodyPost_ret (by simp[results,Tryz.results14,go_sem,]; rfl) rfl ?_
    exact⟨rfl,belowB⟩
theorem prmcheck {ao:Option Addr} {n cap:Nat} {X Y s:Int} {l:List Int} (w:World) (h:IntsR w (.slice ao n cap) l) (hl:l.length≤100000) :
  Calls Tryz.prog 15 #[.agg #[.int .i64 X,.int .i64 Y,.int .i64 s,.slice ao n cap]] w fun e w'=>e = .returned (.int .i64 (mchk X Y s l))∧Steps w w':=by
 have HC:=Hid.mk_ h
 obtain⟨ao',cap',e0,-⟩:=h
 simp only[Value.slice.injEq]at e0
 obtain⟨-,hn,-⟩:=e0
 have HL:=Hid.mk_ hn
 rw[← hn]at hl
 clear hn
 rcases(show (X<1)∨(¬(X<1)∧100<X)∨(¬(X<1)∧¬(100<X)∧Y<1)∨(¬(X<1)∧¬(100<X)∧¬(Y<1)∧100<Y)∨(¬(X<1)∧¬(100<X)∧¬(Y<1)∧¬(100<Y)∧s<1)∨(¬(X<1)∧¬(100<X)∧¬(Y<1)∧¬(100<Y)∧¬(s<1)∧30<s)∨(¬(X<1)∧¬(100<X)∧¬(Y<1)∧¬(100<Y)∧¬(s<1)∧¬(30<s)) by omega)with g | g | g | g | g | g | g
 rotate_right
 ·
  obtain⟨g0,g1,g2,g3,g4,g5⟩:=g
  have p1:1≤X:=by omega
  have p2:X≤100:=by omega
  have p3:1≤Y:=by omega
  have p4:Y≤100:=by omega
  have p5:1≤s:=by omega
  have p6:s≤30:=by omega
  have C1:=fun w'=>scells (n:=X) (s:=s) w' p1 p2 p5 p6
  have C2:=fun w'=>scells (n:=Y) (s:=s) w' p3 p4 p5 p6
  have R1:=fun w'=>rcells (n:=X) (s:=s) w' p1 p2 p5 p6
  have R2:=fun w'=>rcells (n:=Y) (s:=s) w' p3 p4 p5 p6
  have ra:=cN_range p1 p5
  have rb:=cN_range p3 p5
  have HX:=Hid.mk_ (rfl:cN X s=cN X s)
  have HY:=Hid.mk_ (rfl:cN Y s=cN Y s)
  obtain⟨a,ha⟩:∃a,cN X s=a:=⟨_,rfl⟩
  obtain⟨b,hb⟩:∃b,cN Y s=b:=⟨_,rfl⟩
  replace HX:=Hid.mk_ ha
  replace HY:=Hid.mk_ hb
  rw[ha]at C1 R1 ra
  rw[hb]at C2 R2 rb
  clear ha hb
  have hm:=mul_100 ra.1 (by omega) rb.1 (by omega)
  obtain⟨M,hM⟩:∃M,a*b=M:=⟨_,rfl⟩
  have HM:=Hid.mk_ hM
  rw[hM]at hm
  have hw:IntKind.i64.wrap (a*b)=M:=by rw[hM,IntKind.wrap_i64]; omega
  clear hM
  by_cases g9:(n:Int)=M
  case neg=>
   have d5:((n:Int) != M)=true:=by simpa using g9
   rw[mchk_bad (X:=X) (Y:=Y) (s:=s) (l:=l) (by intro h; exact g9 (by rw[HL.out,← HM.out,← HX.out,← HY.out]; exact h.2.2.2.2.2.2.1))]
   clear HC HL HM HX HY g9 C1 C2
   go_enter Tryz.func15,Tryz.ntmps15
   have kk:=Keeps.refl w
   go_upto_region 1 with fail
   refine Reg.chn (fun N0 D v W=>Below w.heap.size w W∧Keeps w W∧N0≤W.heap.size∧Blk W (w.heap.size) 24 #[.int .i64 X,.int .i64 Y,.int .i64 s,.slice ao n cap]) [36,41] [(36,fun z_=>z_ = .int .i64 a),(41,fun z_=>z_ = .int .i64 b)] [] [(45,[(36,some 40),(41,some 45)])] [] (fun N0 hN0=>⟨fun v=> ?_,fun D v v' W hv hj=> ?_,fun ops' Q' hops hQ=> ?_⟩)
   · exact⟨belowB,keepsB,leD hN0,ownK⟩
   · exact hj
   clear hN0
   refine Reg.RP0 4 ?_
   refine Reg.RPf 5 (fun _ _ _ h=>h.2.2.2.q0) ?_
   repeat refine Reg.RP0 _ ?_
   refine Reg.RPg hops 8 ?_
   refine Reg.RPh hops 9 (fun _ _ _ h=>h.2.2.2.q0) ?_
   refine Reg.RPg hops 10 ?_
   repeat refine Reg.RP0 _ ?_
   refine Reg.RPg hops 13 ?_
   refine Reg.RPh hops 14 (fun _ _ _ h=>h.2.2.2.q1) ?_
   refine Reg.RPg hops 15 ?_
   repeat refine Reg.RP0 _ ?_
   refine Reg.RPg hops 18 ?_
   refine Reg.RPh hops 19 (fun _ _ _ h=>h.2.2.2.q1) ?_
   refine Reg.RPg hops 20 ?_
   repeat refine Reg.RP0 _ ?_
   refine Reg.RPg hops 23 ?_
   refine Reg.RPh hops 24 (fun _ _ _ h=>h.2.2.2.q2) ?_
   refine Reg.RPg hops 25 ?_
   repeat refine Reg.RP0 _ ?_
   refine Reg.RPg hops 28 ?_
   refine Reg.RPh hops 29 (fun _ _ _ h=>h.2.2.2.q2) ?_
   refine Reg.RPg hops 30 ?_
   repeat refine Reg.RP0 _ ?_
   refine Reg.RPg hops 33 ?_
   refine Reg.RPh hops 34 (fun _ _ _ h=>h.2.2.2.q3) ?_
   refine Reg.RPg hops 35 ?_
   refine Reg.RPg hops 36 ?_
   refine Reg.RPh hops 37 (fun _ _ _ h=>h.2.2.2.q0) ?_
   refine Reg.RPg hops 38 ?_
   refine Reg.RPh hops 39 (fun _ _ _ h=>h.2.2.2.q2) ?_
   refine Reg.RCw hops (fun D v' W' hj=>R1 W') ?_
   refine Reg.RC_at (b:=⟨#[_,_,_,_,_,_,_,_,_,_,_,_,_,_,_,_,_,_,_,_,_,_,_,_,_,_,_,_,_,_,_,_,_,_,_,_,_,_,_,_,_,_,_,_,_,_,_,_,_,_,_,_,_,_,_,_,_,_,_,_,_,_,_,_,_,_,_,_,_,_],_⟩) rfl ?_
   refine Reg.RPg hops 41 ?_
   refine Reg.RPh hops 42 (fun _ _ _ h=>h.2.2.2.q1) ?_
   refine Reg.RPg hops 43 ?_
   refine Reg.RPh hops 44 (fun _ _ _ h=>h.2.2.2.q2) ?_
   refine Reg.RCw hops (fun D v' W' hj=>R2 W') ?_
   refine Reg.RC_at (b:=⟨#[_,_,_,_,_,_,_,_,_,_,_,_,_,_,_,_,_,_,_,_,_,_,_,_,_,_,_,_,_,_,_,_,_,_,_,_,_,_,_,_,_,_,_,_,_,_,_,_,_,_,_,_,_,_,_,_,_,_,_,_,_,_,_,_,_,_,_,_,_,_],_⟩) rfl ?_
   refine Reg.RPg hops 46 ?_
   refine Reg.RPg hops 47 ?_
   refine Reg.RP0 48 ?_
   refine Reg.RC_end (fun Dn v' w1 hd hj hf=> ?_)
   obtain⟨B,jk,jn,om⟩:=hj
   replace kk:=kk.trans jk
   clear hd hf jk
   refine hQ _ _ ?_
   clear hQ hops Q' ops'
   go_wp2_with fail
   refine bodyPost_ret (by simp[results,Tryz.results15,go_sem,]; rfl) rfl ?_
   exact⟨rfl,belowB⟩
  case pos=>
   subst g9
   obtain⟨A,hA⟩:∃A:Int,(if okV l n=true then(0:Int)else 8)=A:=⟨_,rfl⟩
   have HA:=Hid.mk_ hA
   rw[show mchk X Y s l=A by
    rw[← hA,HL.out]
    by_cases h:okV l l.length=true
    · rw[if_pos h,mchk_ok ⟨p1,p2,p3,p4,p5,p6,by rw[← HL.out,HX.out,HY.out,HM.out],h⟩]
    · rw[if_neg h,mchk_bad fun g=>h g.2.2.2.2.2.2.2]]
   clear hA HM HX HY C1 C2
   go_enter Tryz.func15,Tryz.ntmps15
   have kk:=Keeps.refl w
   go_upto_region 1 with fail
   refine Reg.chn (fun N0 D v W=>Below w.heap.size w W∧Keeps w W∧N0≤W.heap.size∧Blk W (w.heap.size) 24 #[.int .i64 X,.int .i64 Y,.int .i64 s,.slice ao n cap]) [36,41] [(36,fun z_=>z_ = .int .i64 a),(41,fun z_=>z_ = .int .i64 b)] [] [(45,[(36,some 40),(41,some 45)])] [] (fun N0 hN0=>⟨fun v=> ?_,fun D v v' W hv hj=> ?_,fun ops' Q' hops hQ=> ?_⟩)
   · exact⟨belowB,keepsB,leD hN0,ownK⟩
   · exact hj
   clear hN0
   refine Reg.RP0 4 ?_
   refine Reg.RPf 5 (fun _ _ _ h=>h.2.2.2.q0) ?_
   repeat refine Reg.RP0 _ ?_
   refine Reg.RPg hops 8 ?_
   refine Reg.RPh hops 9 (fun _ _ _ h=>h.2.2.2.q0) ?_
   refine Reg.RPg hops 10 ?_
   repeat refine Reg.RP0 _ ?_
   refine Reg.RPg hops 13 ?_
   refine Reg.RPh hops 14 (fun _ _ _ h=>h.2.2.2.q1) ?_
   refine Reg.RPg hops 15 ?_
   repeat refine Reg.RP0 _ ?_
   refine Reg.RPg hops 18 ?_
   refine Reg.RPh hops 19 (fun _ _ _ h=>h.2.2.2.q1) ?_
   refine Reg.RPg hops 20 ?_
   repeat refine Reg.RP0 _ ?_
   refine Reg.RPg hops 23 ?_
   refine Reg.RPh hops 24 (fun _ _ _ h=>h.2.2.2.q2) ?_
   refine Reg.RPg hops 25 ?_
   repeat refine Reg.RP0 _ ?_
   refine Reg.RPg hops 28 ?_
   refine Reg.RPh hops 29 (fun _ _ _ h=>h.2.2.2.q2) ?_
   refine Reg.RPg hops 30 ?_
   repeat refine Reg.RP0 _ ?_
   refine Reg.RPg hops 33 ?_
   refine Reg.RPh hops 34 (fun _ _ _ h=>h.2.2.2.q3) ?_
   refine Reg.RPg hops 35 ?_
   refine Reg.RPg hops 36 ?_
   refine Reg.RPh hops 37 (fun _ _ _ h=>h.2.2.2.q0) ?_
   refine Reg.RPg hops 38 ?_
   refine Reg.RPh hops 39 (fun _ _ _ h=>h.2.2.2.q2) ?_
   refine Reg.RCw hops (fun D v' W' hj=>R1 W') ?_
   refine Reg.RC_at (b:=⟨#[_,_,_,_,_,_,_,_,_,_,_,_,_,_,_,_,_,_,_,_,_,_,_,_,_,_,_,_,_,_,_,_,_,_,_,_,_,_,_,_,_,_,_,_,_,_,_,_,_,_,_,_,_,_,_,_,_,_,_,_,_,_,_,_,_,_,_,_,_,_],_⟩) rfl ?_
   refine Reg.RPg hops 41 ?_
   refine Reg.RPh hops 42 (fun _ _ _ h=>h.2.2.2.q1) ?_
   refine Reg.RPg hops 43 ?_
   refine Reg.RPh hops 44 (fun _ _ _ h=>h.2.2.2.q2) ?_
   refine Reg.RCw hops (fun D v' W' hj=>R2 W') ?_
   refine Reg.RC_at (b:=⟨#[_,_,_,_,_,_,_,_,_,_,_,_,_,_,_,_,_,_,_,_,_,_,_,_,_,_,_,_,_,_,_,_,_,_,_,_,_,_,_,_,_,_,_,_,_,_,_,_,_,_,_,_,_,_,_,_,_,_,_,_,_,_,_,_,_,_,_,_,_,_],_⟩) rfl ?_
   refine Reg.RPg hops 46 ?_
   refine Reg.RPg hops 47 ?_
   refine Reg.RP0 48 ?_
   refine Reg.RC_end (fun Dn v' w1 hd hj hf=> ?_)
   obtain⟨B,jk,jn,om⟩:=hj
   replace kk:=kk.trans jk
   clear hd hf jk
   refine hQ _ _ ?_
   clear hQ hops Q' ops'
   go_wp2_with fail
   go_loopw [3] (fun kk wr=>∃t:Nat,t≤n∧kk = .int .i64 t∧okV l t=true∧Blk wr w.heap.size 24 #[.int .i64 X,.int .i64 Y,.int .i64 s,.slice ao n cap]∧Below w.heap.size w wr) (fun kk _=>n-(intOf kk).toNat)
   case atStart=>exact⟨0,by omega,rfl,rfl,ownK,belowB⟩
   case round=>
    clear kk B om
    obtain⟨t,ht,rfl,hw',om,B⟩:=hrel
    have cm3:=om.c 3 rfl
    rcases Nat.lt_or_ge t n with tn | tn
    ·
     have hlt:decide ((t:Int)<(n:Int))=true:=decide_eq_true (by omega)
     obtain⟨b',off,rfl,hbl,h0⟩:=HC.out.at' (t:=t) (by have:=HL.out; omega)
     have c0:wr.cell? ⟨b',off+t,none⟩=some (.int .i64 (l.getD t 0)):=(B.cell (p:=⟨b',_,none⟩) hbl).trans h0
     have NO:¬(-4294967296≤l.getD t 0∧l.getD t 0≤4294967296)→okV l n=false:=fun e=>okV_stay (i:=t+1) (by unfold okV; rw[decide_eq_false e,Bool.and_false]) n (by omega)
     have YES:(-4294967296≤l.getD t 0∧l.getD t 0≤4294967296)→okV l (t+1)=true:=fun e=>by unfold okV; rw[hw',decide_eq_true e]; rfl
     obtain⟨y,hy⟩:∃y,l.getD t 0=y:=⟨_,rfl⟩
     rw[hy]at c0 NO YES
     clear h0 hy
     by_cases y1:y < -4294967296
     ·
      have N0:=NO (by omega)
      clear NO YES
      go_wp2
      go_returns
      exact⟨by rw[← HA.out,N0]; rfl,B⟩
     ·
      by_cases y2:4294967296<y
      ·
       have N0:=NO (by omega)
       clear NO YES
       go_wp2
       go_returns
       exact⟨by rw[← HA.out,N0]; rfl,B⟩
      ·
       have Y0:=YES (by omega)
       clear NO YES
       go_wp2_with fail
       go_roundw
       case rel=>exact⟨t+1,by omega,by go_num,Y0,om,B⟩
       case measure=>simp[intOf]; omega
    ·
     obtain rfl:t=n:=by omega
     go_wp2
     go_returns
     exact⟨by rw[← HA.out,hw']; rfl,B⟩
 all_goals
  have mb:=mchk_bad (X:=X) (Y:=Y) (s:=s) (l:=l) (by unfold mOk; omega)
  repeat (rcases g with⟨g',g⟩)
  rw[mb]
  clear HC HL
  go_enter Tryz.func15,Tryz.ntmps15
  have kk:=Keeps.refl w
  go_upto_region 1 with fail
  refine Reg.chn (fun N0 D v W=>Below w.heap.size w W∧Keeps w W∧N0≤W.heap.size∧Blk W (w.heap.size) 24 #[.int .i64 X,.int .i64 Y,.int .i64 s,.slice ao n cap]) [] [] [] [(45,[])] [] (fun N0 hN0=>⟨fun v=> ?_,fun D v v' W hv hj=> ?_,fun ops' Q' hops hQ=> ?_⟩)
  · exact⟨belowB,keepsB,leD hN0,ownK⟩
  · exact hj
  clear hN0
  repeat (first | refine Reg.RP0 _ ?_ | refine Reg.RPf _ (fun _ _ _ h=>h.2.2.2.r3) ?_ | refine Reg.RPg hops _ ?_ | refine Reg.RPh hops _ (fun _ _ _ h=>h.2.2.2.r3) ?_ | (refine Reg.sk hops ?_; refine Reg.RC_at (b:=⟨#[_,_,_,_,_,_,_,_,_,_,_,_,_,_,_,_,_,_,_,_,_,_,_,_,_,_,_,_,_,_,_,_,_,_,_,_,_,_,_,_,_,_,_,_,_,_,_,_,_,_,_,_,_,_,_,_,_,_,_,_,_,_,_,_,_,_,_,_,_,_],_⟩) rfl ?_))
  refine Reg.RC_end (fun Dn v' w1 hd hj hf=> ?_)
  obtain⟨B,jk,jn,om⟩:=hj
  replace kk:=kk.trans jk
  clear hd hf jk
  refine hQ _ _ ?_
  clear hQ hops Q' ops'
  go_wp2_with fail
  refine bodyPost_ret (by simp[results,Tryz.results15,go_sem,]; rfl) rfl ?_
  exact⟨rfl,belowB⟩
end Go.Proofs.YtdkcffnmlllamaaGreat
