import Derived.Test.YtdkcffnmlllamaaGreatMRowU
import Derived.Test.YtdkcffnmlllamaaGreatMNp
import Derived.Test.YtdkcffnmlllamaaGreatMUb
set_option linter.unusedVariables false
set_option linter.unusedSimpArgs false
set_option maxHeartbeats 6400000
set_option maxRecDepth 1000000
namespace Go.Proofs.YtdkcffnmlllamaaGreat
open Go.RowKit
theorem vkeep (a1:Bool) (a2:Option Addr) (a3 a4:Nat) {gc:Nat} {tc:TypeId} (w:World) (hc:Blk w gc tc #[.int .i64 0]) :
  Calls Tryz.prog 106 #[.pointer (some ⟨gc,0,none⟩),.agg #[.bool a1,.slice a2 a3 a4],.int .i64 0] w fun e w'=>e = .returned (.agg #[.bool a1,.slice a2 a3 a4])∧Steps w w':=by
 have hl:=hc.lt
 have h1:¬w.heap.size=gc:=by omega
 have h2:¬w.heap.size+1=gc:=by omega
 have h3:¬gc=w.heap.size:=by omega
 have h4:¬gc=w.heap.size+1:=by omega
 have cc:w.cell? ⟨gc,0,none⟩=some (.int .i64 0):=hc.c 0 rfl
 have cf:=hc.fr 0
 have HC:=Hid.mk_ hc
 clear hc
 go_enter Tryz.func106,Tryz.ntmps106
 go_wp2_with fail
 refine bodyPost_ret (by simp[results,Tryz.results106,go_sem,h1,h2,h3,h4,cc,cf]; rfl) rfl ?_
 exact⟨rfl,Below.alloc (Below.alloc (below_same (Below.refl _ _) HC.out rfl) (by simp) _) (by simp) _⟩
theorem vkeepN {va:Value} {z:Int} {gc:Nat} {tc:TypeId} (w:World) (hc:Blk w gc tc #[.int .i64 0]) (ha:Num w va z) :
  Calls Tryz.prog 106 #[.pointer (some ⟨gc,0,none⟩),va,.int .i64 0] w fun e w'=>∃v,e = .returned v∧Num w' v z∧Steps w w':=by
 obtain⟨a1,a2,a3,a4,rfl⟩:=ha.shape
 refine(vkeep a1 a2 a3 a4 w hc).mono ?_
 rintro e w' ⟨rfl,hs⟩
 exact⟨_,rfl,ha.keeps (Keeps.steps hs),hs⟩
theorem vadd {va vb:Value} {x y:Int} {gc:Nat} {tc:TypeId} (w:World) (hc:Blk w gc tc #[.int .i64 0]) (ha:Num w va x) (hb:Num w vb y) (fx:fits x) (fy:fits y) (fz:fits (x+y)) :
  Calls Tryz.prog 131 #[.pointer (some ⟨gc,0,none⟩),va,vb] w fun e w'=>∃v,e = .returned v∧Num w' v (x+y)∧Steps w w':=by
 have KP:∀w' u,Steps w w'→Num w' u (x+y)→Calls Tryz.prog 106 #[.pointer (some ⟨gc,0,none⟩),u,.int .i64 0] w' fun e w2=>∃v,e = .returned v∧Num w2 v (x+y)∧Steps w' w2:=fun w' u st h=>vkeepN w' (hc.steps st) h
 have CL:∀w',Steps w w'→Calls Tryz.prog 78 #[va,vb] w' fun e w2=>∃v,e = .returned (.tuple #[v,.int .i64 0])∧Num w2 v (x+y)∧Steps w' w2:=fun w' st=>by
  have:=wAdd w' (ha.keeps (Keeps.steps st)) (hb.keeps (Keeps.steps st)) fx fy
  rw[errN_fits fz,clipN_fits fz]at this
  exact this
 obtain⟨a1,a2,a3,a4,rfl⟩:=ha.shape
 obtain⟨b1,b2,b3,b4,rfl⟩:=hb.shape
 clear ha hb fx fy fz hc
 generalize x+y=t at *
 go_enter Tryz.func131,Tryz.ntmps131
 go_wp2_with fail
 refine(CL _ belowB).mono ?_
 rintro e w1 ⟨vx_,rfl,hvx_,st⟩
 have B:=bA w st
 have oa:Blk w1 (w.heap.size) 30 #[.bool a1,.slice a2 a3 a4]:=Blk.stepsK st
 have ob:Blk w1 (w.heap.size+1) 30 #[.bool b1,.slice b2 b3 b4]:=Blk.stepsK st
 have or:Blk w1 (w.heap.size+1+1) 30 #[.bool false,.slice none 0 0]:=Blk.stepsK st
 clear st
 obtain⟨x_1,x_2,x_3,x_4,rfl⟩:=hvx_.shape
 have Fx_:=Hid.mk_ hvx_
 clear hvx_
 go_wp2_with fail
 refine(KP _ _ belowB (Fx_.out.keeps keepsB)).mono ?_
 rintro e w2 ⟨vq,rfl,hvq,st⟩
 have sk:=bA w1 st
 replace B:=bS B sk
 replace oa:=oa.steps sk
 replace ob:=ob.steps sk
 replace or:=or.steps sk
 replace Fx_:=Hid.mk_ (Fx_.out.steps sk)
 clear st sk
 have la:=oa.lt
 have lb:=ob.lt
 obtain⟨cr0,cr1,fr,lr⟩:=or.s1
 obtain⟨q1,q2,q3,q4,rfl⟩:=hvq.shape
 have Fq:=Hid.mk_ hvq
 clear hvq
 go_wp2_with fail
 refine bodyPost_ret (by simp[results,Tryz.results131,go_sem,la,lb,cr0,cr1,fr,lr]; rfl) rfl ?_
 exact⟨_,rfl,Fq.out.keeps keepsB,belowB⟩
theorem vsub {va vb:Value} {x y:Int} {gc:Nat} {tc:TypeId} (w:World) (hc:Blk w gc tc #[.int .i64 0]) (ha:Num w va x) (hb:Num w vb y) (fx:fits x) (fy:fits y) (fz:fits (x-y)) :
  Calls Tryz.prog 104 #[.pointer (some ⟨gc,0,none⟩),va,vb] w fun e w'=>∃v,e = .returned v∧Num w' v (x-y)∧Steps w w':=by
 have KP:∀w' u,Steps w w'→Num w' u (x-y)→Calls Tryz.prog 106 #[.pointer (some ⟨gc,0,none⟩),u,.int .i64 0] w' fun e w2=>∃v,e = .returned v∧Num w2 v (x-y)∧Steps w' w2:=fun w' u st h=>vkeepN w' (hc.steps st) h
 have CL:∀w',Steps w w'→Calls Tryz.prog 133 #[va,vb] w' fun e w2=>∃v,e = .returned (.tuple #[v,.int .i64 0])∧Num w2 v (x-y)∧Steps w' w2:=fun w' st=>by
  have:=wSub w' (ha.keeps (Keeps.steps st)) (hb.keeps (Keeps.steps st)) fx fy
  rw[errN_fits fz,clipN_fits fz]at this
  exact this
 obtain⟨a1,a2,a3,a4,rfl⟩:=ha.shape
 obtain⟨b1,b2,b3,b4,rfl⟩:=hb.shape
 clear ha hb fx fy fz hc
 generalize x-y=t at *
 go_enter Tryz.func104,Tryz.ntmps104
 go_wp2_with fail
 refine(CL _ belowB).mono ?_
 rintro e w1 ⟨vx_,rfl,hvx_,st⟩
 have B:=bA w st
 have oa:Blk w1 (w.heap.size) 30 #[.bool a1,.slice a2 a3 a4]:=Blk.stepsK st
 have ob:Blk w1 (w.heap.size+1) 30 #[.bool b1,.slice b2 b3 b4]:=Blk.stepsK st
 have or:Blk w1 (w.heap.size+1+1) 30 #[.bool false,.slice none 0 0]:=Blk.stepsK st
 clear st
 obtain⟨x_1,x_2,x_3,x_4,rfl⟩:=hvx_.shape
 have Fx_:=Hid.mk_ hvx_
 clear hvx_
 go_wp2_with fail
 refine(KP _ _ belowB (Fx_.out.keeps keepsB)).mono ?_
 rintro e w2 ⟨vq,rfl,hvq,st⟩
 have sk:=bA w1 st
 replace B:=bS B sk
 replace oa:=oa.steps sk
 replace ob:=ob.steps sk
 replace or:=or.steps sk
 replace Fx_:=Hid.mk_ (Fx_.out.steps sk)
 clear st sk
 have la:=oa.lt
 have lb:=ob.lt
 obtain⟨cr0,cr1,fr,lr⟩:=or.s1
 obtain⟨q1,q2,q3,q4,rfl⟩:=hvq.shape
 have Fq:=Hid.mk_ hvq
 clear hvq
 go_wp2_with fail
 refine bodyPost_ret (by simp[results,Tryz.results104,go_sem,la,lb,cr0,cr1,fr,lr]; rfl) rfl ?_
 exact⟨_,rfl,Fq.out.keeps keepsB,belowB⟩
theorem vmul {va vb:Value} {x y:Int} {gc:Nat} {tc:TypeId} (w:World) (hc:Blk w gc tc #[.int .i64 0]) (ha:Num w va x) (hb:Num w vb y) (fx:fits x) (fy:fits y) (fz:fits (x*y)) :
  Calls Tryz.prog 101 #[.pointer (some ⟨gc,0,none⟩),va,vb] w fun e w'=>∃v,e = .returned v∧Num w' v (x*y)∧Steps w w':=by
 have KP:∀w' u,Steps w w'→Num w' u (x*y)→Calls Tryz.prog 106 #[.pointer (some ⟨gc,0,none⟩),u,.int .i64 0] w' fun e w2=>∃v,e = .returned v∧Num w2 v (x*y)∧Steps w' w2:=fun w' u st h=>vkeepN w' (hc.steps st) h
 have CL:∀w',Steps w w'→Calls Tryz.prog 132 #[va,vb] w' fun e w2=>∃v,e = .returned (.tuple #[v,.int .i64 0])∧Num w2 v (x*y)∧Steps w' w2:=fun w' st=>by
  have:=wMul w' (ha.keeps (Keeps.steps st)) (hb.keeps (Keeps.steps st)) fx fy
  rw[errN_fits fz,clipN_fits fz]at this
  exact this
 obtain⟨a1,a2,a3,a4,rfl⟩:=ha.shape
 obtain⟨b1,b2,b3,b4,rfl⟩:=hb.shape
 clear ha hb fx fy fz hc
 generalize x*y=t at *
 go_enter Tryz.func101,Tryz.ntmps101
 go_wp2_with fail
 refine(CL _ belowB).mono ?_
 rintro e w1 ⟨vx_,rfl,hvx_,st⟩
 have B:=bA w st
 have oa:Blk w1 (w.heap.size) 30 #[.bool a1,.slice a2 a3 a4]:=Blk.stepsK st
 have ob:Blk w1 (w.heap.size+1) 30 #[.bool b1,.slice b2 b3 b4]:=Blk.stepsK st
 have or:Blk w1 (w.heap.size+1+1) 30 #[.bool false,.slice none 0 0]:=Blk.stepsK st
 clear st
 obtain⟨x_1,x_2,x_3,x_4,rfl⟩:=hvx_.shape
 have Fx_:=Hid.mk_ hvx_
 clear hvx_
 go_wp2_with fail
 refine(KP _ _ belowB (Fx_.out.keeps keepsB)).mono ?_
 rintro e w2 ⟨vq,rfl,hvq,st⟩
 have sk:=bA w1 st
 replace B:=bS B sk
 replace oa:=oa.steps sk
 replace ob:=ob.steps sk
 replace or:=or.steps sk
 replace Fx_:=Hid.mk_ (Fx_.out.steps sk)
 clear st sk
 have la:=oa.lt
 have lb:=ob.lt
 obtain⟨cr0,cr1,fr,lr⟩:=or.s1
 obtain⟨q1,q2,q3,q4,rfl⟩:=hvq.shape
 have Fq:=Hid.mk_ hvq
 clear hvq
 go_wp2_with fail
 refine bodyPost_ret (by simp[results,Tryz.results101,go_sem,la,lb,cr0,cr1,fr,lr]; rfl) rfl ?_
 exact⟨_,rfl,Fq.out.keeps keepsB,belowB⟩
def Sums (w:World) (v:Value) (l:List Int):Prop:=∃ (n1:Bool) (n2:Option Addr) (n3 n4:Nat) (s1:Bool) (s2:Option Addr) (s3 s4:Nat) (q1:Bool) (q2:Option Addr) (q3 q4:Nat),v = .agg #[.bool n1,.slice n2 n3 n4,.bool s1,.slice s2 s3 s4,.bool q1,.slice q2 q3 q4]∧
 Num w (.agg #[.bool n1,.slice n2 n3 n4]) (nI l)∧Num w (.agg #[.bool s1,.slice s2 s3 s4]) (sumI l)∧Num w (.agg #[.bool q1,.slice q2 q3 q4]) (sqsI l)
theorem Sums.keeps {w w':World} {v:Value} {l:List Int} (h:Sums w v l) (k:Keeps w w'):Sums w' v l:=by
 obtain⟨n1,n2,n3,n4,s1,s2,s3,s4,q1,q2,q3,q4,e,h1,h2,h3⟩:=h
 exact⟨n1,n2,n3,n4,s1,s2,s3,s4,q1,q2,q3,q4,e,h1.keeps k,h2.keeps k,h3.keeps k⟩
theorem Sums.steps {w w':World} {v:Value} {l:List Int} (h:Sums w v l) (k:Steps w w'):Sums w' v l:=h.keeps (Keeps.steps k)
theorem valL.get {l:List Int} (h:valL l) {i:Nat} (hi:i<l.length) : -4294967296≤l.getD i 0∧l.getD i 0≤4294967296:=h.2 _ (getD_mem hi)
theorem Sums.shape {w:World} {v:Value} {l:List Int} (h:Sums w v l):∃ (n1:Bool) (n2:Option Addr) (n3 n4:Nat) (s1:Bool) (s2:Option Addr) (s3 s4:Nat) (q1:Bool) (q2:Option Addr) (q3 q4:Nat),v = .agg #[.bool n1,.slice n2 n3 n4,.bool s1,.slice s2 s3 s4,.bool q1,.slice q2 q3 q4]∧Num w (.agg #[.bool n1,.slice n2 n3 n4]) (nI l):=by
 obtain⟨n1,n2,n3,n4,s1,s2,s3,s4,q1,q2,q3,q4,e,h1,h2,h3⟩:=h
 exact⟨n1,n2,n3,n4,s1,s2,s3,s4,q1,q2,q3,q4,e,h1⟩
theorem vtotal {vl:Value} {l:List Int} {gc:Nat} {tc:TypeId} (w:World) (hc:Blk w gc tc #[.int .i64 0]) (hl:IntsR w vl l) (hv:valL l) :
  Calls Tryz.prog 100 #[.pointer (some ⟨gc,0,none⟩),vl] w fun e w'=>∃v,e = .returned v∧Sums w' v l∧Steps w w':=by
 have KC:∀w',Steps w w'→Blk w' gc tc #[.int .i64 0]:=fun w' s=>hc.steps s
 have FN:∀w',Calls Tryz.prog 105 #[.int .i64 (l.length:Int)] w' fun e w2=>∃v,e = .returned v∧Num w2 v (nI l)∧Steps w' w2:=fun w'=>wfrom (l.length:Int) w' (by omega) (by have:=hv.1; omega)
 have FX:∀i,i<l.length→∀w',Calls Tryz.prog 105 #[.int .i64 (l.getD i 0)] w' fun e w2=>∃v,e = .returned v∧Num w2 v (l.getD i 0)∧Steps w' w2:=fun i hi w'=>wfrom _ w' (by have:=(hv.get hi).1; omega) (by have:=(hv.get hi).2; omega)
 have fx:∀i,i<l.length→fits (l.getD i 0):=fun i hi=>fits_bp (val_one hv (getD_mem hi)) (by omega)
 have fs:∀i,fits (sumI (l.take i)):=fun i=>fits_bp (val_sum (hv.take i)) (by omega)
 have fq:∀i,fits (sqsI (l.take i)):=fun i=>fits_bp (val_sqs (hv.take i)) (by omega)
 have AS:∀i,i<l.length→∀w' u v,Steps w w'→Num w' u (sumI (l.take i))→Num w' v (l.getD i 0)→Calls Tryz.prog 131 #[.pointer (some ⟨gc,0,none⟩),u,v] w' fun e w2=>∃v,e = .returned v∧Num w2 v (sumI (l.take (i+1)))∧Steps w' w2:=fun i hi w' u v s h1 h2=>by
  rw[sum_step hi]
  exact vadd w' (KC w' s) h1 h2 (fs i) (fx i hi) (by rw[← sum_step hi]; exact fs (i+1))
 have MX:∀i,i<l.length→∀w' u v,Steps w w'→Num w' u (l.getD i 0)→Num w' v (l.getD i 0)→Calls Tryz.prog 101 #[.pointer (some ⟨gc,0,none⟩),u,v] w' fun e w2=>∃v,e = .returned v∧Num w2 v (l.getD i 0*l.getD i 0)∧Steps w' w2:=fun i hi w' u v s h1 h2=>
  vmul w' (KC w' s) h1 h2 (fx i hi) (fx i hi) (fits_bp (absN_mul_le (val_one hv (getD_mem hi)) (val_one hv (getD_mem hi))) (by omega))
 have AQ:∀i,i<l.length→∀w' u v,Steps w w'→Num w' u (sqsI (l.take i))→Num w' v (l.getD i 0*l.getD i 0)→Calls Tryz.prog 131 #[.pointer (some ⟨gc,0,none⟩),u,v] w' fun e w2=>∃v,e = .returned v∧Num w2 v (sqsI (l.take (i+1)))∧Steps w' w2:=fun i hi w' u v s h1 h2=>by
  rw[sqs_step hi]
  exact vadd w' (KC w' s) h1 h2 (fq i) (fits_bp (absN_mul_le (val_one hv (getD_mem hi)) (val_one hv (getD_mem hi))) (by omega)) (by rw[← sqs_step hi]; exact fq (i+1))
 have eS:sumI (l.take l.length)=sumI l:=by rw[List.take_length]
 have eQ:sqsI (l.take l.length)=sqsI l:=by rw[List.take_length]
 have zS:sumI (l.take 0)=0:=rfl
 have zQ:sqsI (l.take 0)=0:=rfl
 have NB:=hv.1
 unfold Sums
 obtain⟨fS,hS⟩:∃f:Nat→Int,∀i,sumI (l.take i)=f i:=⟨_,fun _=>rfl⟩
 obtain⟨fQ,hQ⟩:∃f:Nat→Int,∀i,sqsI (l.take i)=f i:=⟨_,fun _=>rfl⟩
 obtain⟨fX,hX⟩:∃f:Nat→Int,∀i,l.getD i 0=f i:=⟨_,fun _=>rfl⟩
 simp only[hS,hQ,hX]at FX AS MX AQ eS eQ zS zQ
 rw[← eS,← eQ]
 obtain⟨la,lc,rfl⟩:=hl.shape
 have HL:=Hid.mk_ hl
 obtain⟨N,hN⟩:∃n,l.length=n:=⟨_,rfl⟩
 have HN:=Hid.mk_ hN
 have HX:=Hid.mk_ hX
 rw[hN]at FN FX AS MX AQ HL NB⊢
 generalize nI l=nl at *
 clear hc hl hv fx fs fq hN eS eQ hS hQ hX KC
 go_enter Tryz.func100,Tryz.ntmps100
 have kk:=Keeps.refl w
 go_wp2_with fail
 refine(FN _).mono ?_
 rintro e w1 ⟨vn,rfl,hvn,st⟩
 have B:=bA w st
 have kp:=kB w st
 replace kk:=kk.trans kp
 have ot:Blk w1 (w.heap.size) 148 #[.bool false,.slice none 0 0,.bool false,.slice none 0 0,.bool false,.slice none 0 0]:=Blk.stepsK st
 clear kp
 clear st
 obtain⟨n1,n2,n3,n4,rfl⟩:=hvn.shape
 have Fn:=Hid.mk_ hvn
 clear hvn
 have zt_1:w.heap.size<w1.heap.size:=ot.lt
 have zz1:=B.size
 go_wp2_with fail
 go_loopw [15] (fun sl0 wr=>∃ (i:Nat) (y1:Bool) (y2:Option Addr) (y3 y4:Nat) (z1:Bool) (z2:Option Addr) (z3 z4:Nat),i≤N∧sl0 = .int .i64 i∧Blk wr (w1.heap.size) 148 #[.bool n1,.slice n2 n3 n4,.bool y1,.slice y2 y3 y4,.bool z1,.slice z2 z3 z4]∧Num wr (.agg #[.bool y1,.slice y2 y3 y4]) (fS i)∧Num wr (.agg #[.bool z1,.slice z2 z3 z4]) (fQ i)∧Blk wr (w.heap.size) 148 #[.bool false,.slice none 0 0,.bool false,.slice none 0 0,.bool false,.slice none 0 0]∧Below w.heap.size w wr∧Keeps w1 wr) (fun sl0 _=>N-(intOf sl0).toNat)
 case atStart=>exact⟨0,_,_,_,_,_,_,_,_,by omega,rfl,ownK,(by rw[zS]; exact Num.zero _),(by rw[zQ]; exact Num.zero _),ownK,belowB,keepsB⟩
 case round=>
  clear ot
  try clear B
  try clear kk
  obtain⟨i,y1,y2,y3,y4,z1,z2,z3,z4,hi,rfl,os,fy,fz,ot,B,kk⟩:=hrel
  replace Fn:=Hid.mk_ (Fn.out.keeps kk)
  have Fy:=Hid.mk_ fy
  have Fz:=Hid.mk_ fz
  clear fy fz
  obtain⟨ct0,ct1,ct2,ct3,ct4,ct5,ft,lt⟩:=ot.s5
  obtain⟨cs0,cs1,cs2,cs3,cs4,cs5⟩:=os.r5
  have ls:=os.lt
  rcases Nat.lt_or_ge i N with i4 | i4
  ·
   have hlt:decide ((i:Int)<(N:Int))=true:=decide_eq_true (by omega)
   obtain⟨b,of,rfl,hbl,hx0⟩:=HL.out.at' (t:=i) (by have:=HN.out; omega)
   rw[HX.out]at hx0
   have c0:wr.cell? ⟨b,of+i,none⟩=some (.int .i64 (fX i)):=(B.cell (p:=⟨b,_,none⟩) hbl).trans hx0
   have fxi:=FX i i4
   have asi:=AS i i4
   have mxi:=MX i i4
   have aqi:=AQ i i4
   clear hx0
   go_wp2_with fail
   refine(fxi _).mono ?_
   rintro e w2 ⟨vx,rfl,hvx,st⟩
   have sk:=bA wr st
   replace B:=bS B sk
   replace ot:=ot.steps sk
   replace os:=os.steps sk
   replace Fn:=Hid.mk_ (Fn.out.steps sk)
   replace Fy:=Hid.mk_ (Fy.out.steps sk)
   replace Fz:=Hid.mk_ (Fz.out.steps sk)
   replace kk:=kk.then_ sk
   clear st sk ct0 ct1 ct2 ct3 ct4 ct5 ft lt cs0 cs1 cs2 cs3 cs4 cs5 ls
   obtain⟨cs0,cs1,cs2,cs3,cs4,cs5⟩:=os.r5
   have ls:=os.lt
   obtain⟨x1,x2,x3,x4,rfl⟩:=hvx.shape
   have Fx:=Hid.mk_ hvx
   clear hvx
   have zs_2:w1.heap.size<w2.heap.size:=os.lt
   have zz2:=B.size
   go_wp2_with fail
   refine(asi _ _ _ belowB (Fy.out.keeps keepsB) (Fx.out.keeps keepsB)).mono ?_
   rintro e w3 ⟨vu,rfl,hvu,st⟩
   have sk:=bA w2 st
   replace B:=bS B sk
   have ox:Blk w3 (w2.heap.size) 30 #[.bool x1,.slice x2 x3 x4]:=Blk.stepsK st
   replace ot:=ot.steps sk
   replace os:=os.steps sk
   replace Fn:=Hid.mk_ (Fn.out.steps sk)
   replace Fy:=Hid.mk_ (Fy.out.steps sk)
   replace Fz:=Hid.mk_ (Fz.out.steps sk)
   replace Fx:=Hid.mk_ (Fx.out.steps sk)
   replace kk:=kk.then_ sk
   clear st sk cs0 cs1 cs2 cs3 cs4 cs5 ls
   obtain⟨cs0,cs1,cs2,cs3,cs4,cs5,fs,ls⟩:=os.s5
   obtain⟨cx0,cx1⟩:=ox.r1
   have lx:=ox.lt
   obtain⟨u1,u2,u3,u4,rfl⟩:=hvu.shape
   have Fu:=Hid.mk_ hvu
   clear hvu
   go_wp2_with fail
   have zx_3:w2.heap.size<w3.heap.size:=ox.lt
   have zz3:=B.size
   go_upto_region 7 with fail
   refine Reg.chn (fun N0 D v W=>Below w.heap.size w W∧Keeps w3 W∧N0≤W.heap.size∧Blk W (w.heap.size) 148 #[.bool false,.slice none 0 0,.bool false,.slice none 0 0,.bool false,.slice none 0 0]∧(D 9=false→Blk W (w1.heap.size) 148 #[.bool n1,.slice n2 n3 n4,.bool u1,.slice u2 u3 u4,.bool z1,.slice z2 z3 z4])∧(D 9=true→D 7=true∧∃ (y7_1:Bool) (y7_2:Option Addr) (y7_3 y7_4:Nat),v 7 = .agg #[.bool y7_1,.slice y7_2 y7_3 y7_4]∧Blk W (w1.heap.size) 148 #[.bool n1,.slice n2 n3 n4,.bool u1,.slice u2 u3 u4,.bool y7_1,.slice y7_2 y7_3 y7_4])∧Blk W (w2.heap.size) 30 #[.bool x1,.slice x2 x3 x4]) [6,7,9] [(6,IsNu),(7,IsNu)] [(6,GNu ((fX i*fX i))),(7,GNu ((fQ (i+1))))] [(7,[(6,some 33)]),(9,[(7,some 34)]),(10,[(6,some 33),(7,some 34)])] [(7,[9]),(2,[9])] (fun N0 hN0=>⟨fun v=> ?_,fun D v v' W hv hj=> ?_,fun ops' Q' hops hQ=> ?_⟩)
   · exact⟨belowB,keepsB,leD hN0,ownK,fun q0=>ownD,fun q0=>Bool.noConfusion q0,ownK⟩
   ·
    obtain⟨j0,jk,jn,b_t,b_s_0,b_s_1,b_x⟩:=hj
    exact⟨j0,jk,jn,b_t,fun q0=>(b_s_0 q0),fun q0=>by obtain⟨d_7,y7_1,y7_2,y7_3,y7_4,e_7,hb⟩:=b_s_1 q0; exact⟨d_7,_,_,_,_,(hv 7 d_7)▸e_7,hb⟩,b_x⟩
   have eN:=hN0.out
   try simp only[World.size_alloc,World.size_setCell,World.size_drew,World.heap_drewN]at eN
   have i_t:w.heap.size<N0:=by first | omega | (have h:=ot.lt; omega)
   have i_s:w1.heap.size<N0:=by first | omega | (have h:=os.lt; omega)
   have i_x:w2.heap.size<N0:=by first | omega | (have h:=ox.lt; omega)
   have iw:w.heap.size≤N0:=by first | omega | (have h:=B.size; omega)
   clear cs0 cs1 cs2 cs3 cs4 cs5 fs ls cx0 cx1 lx
   clear hN0
   repeat refine Reg.RP0 _ ?_
   apply Reg.RP rfl rfl rfl 29 rfl rfl
   ·
    intro D v' W' hc hj hf K hK
    obtain⟨j0,jk,jn,b_t,b_s_0,b_s_1,b_x⟩:=hj
    have b_s:=b_s_0 (hc.2 9 (by decide))
    have c4:=b_s.q4
    have c5:=b_s.q5
    go_step
    exact hK.out
   · rfl
   refine Reg.RP0 30 ?_
   refine Reg.RPf 31 (fun _ _ _ h=>h.2.2.2.2.2.2.r1) ?_
   refine Reg.RPf 32 (fun _ _ _ h=>h.2.2.2.2.2.2.r1) ?_
   refine Reg.RC_call rfl (tlt rfl) rfl (fun D v' W' hc hj hf K hK=> ?_) ?_
   ·
    obtain⟨j0,jk,jn,b_t,b_s_0,b_s_1,b_x⟩:=hj
    clear hf
    go_step
    refine(mxi W' _ _ j0 (Fx.out.keeps jk) (Fx.out.keeps jk)).mono ?_
    rintro e W2 ⟨u,rfl,hu,hs⟩
    obtain⟨p1,p2,p3,p4,rfl⟩:=hu.shape
    exact hK.out _ W2 (Keeps.steps hs) ⟨jst j0 hs,jk.then_ hs,jsz jn hs,b_t.steps hs,fun q0=>((b_s_0 q0)).steps hs,fun q0=>by obtain⟨d_7,y7_1,y7_2,y7_3,y7_4,e_7,hb⟩:=b_s_1 q0; exact⟨d_7,_,_,_,_,e_7,(hb).steps hs⟩,b_x.steps hs⟩ hu ⟨_,_,_,_,rfl⟩
   rintro _ ⟨p1,p2,p3,p4,rfl⟩
   refine Reg.RC_at (b:=⟨#[_,_,_,_,_,_,_,_,_,_,_,_,_,_,_,_,_,_,_,_,_,_,_,_,_,_,_,_,_,_,_,_,_,_,_,_,_,_],_⟩) rfl ?_
   refine Reg.RC_call rfl (tlt rfl) rfl (fun D v' W' hc hj hf K hK=> ?_) ?_
   ·
    obtain⟨j0,jk,jn,b_t,b_s_0,b_s_1,b_x⟩:=hj
    have g6:GNu ((fX i*fX i)) _ W':=(hf (6,some 33) (.head _) rfl).2.2
    have g6:Num W' _ ((fX i*fX i)):=g6
    clear hf
    go_step
    refine(aqi W' _ _ j0 (Fz.out.keeps jk) g6).mono ?_
    rintro e W2 ⟨u,rfl,hu,hs⟩
    obtain⟨q1,q2,q3,q4,rfl⟩:=hu.shape
    exact hK.out _ W2 (Keeps.steps hs) ⟨jst j0 hs,jk.then_ hs,jsz jn hs,b_t.steps hs,fun q0=>((b_s_0 q0)).steps hs,fun q0=>Bool.noConfusion ((hc.2 9 (by decide)).symm.trans q0),b_x.steps hs⟩ hu ⟨_,_,_,_,rfl⟩
   rintro _ ⟨q1,q2,q3,q4,rfl⟩
   refine Reg.RC_at (b:=⟨#[_,_,_,_,_,_,_,_,_,_,_,_,_,_,_,_,_,_,_,_,_,_,_,_,_,_,_,_,_,_,_,_,_,_,_,_,_,_],_⟩) rfl ?_
   refine Reg.RP0 35 ?_
   refine Reg.RCs (fun D v' W' hc hj hf K hK=> ?_) (fun _ _=>Reg.RC_at (b:=⟨_,_⟩) rfl ?_)
   ·
    obtain⟨j0,jk,jn,b_t,b_s_0,b_s_1,b_x⟩:=hj
    have e2:w.heap.size≤w1.heap.size:=by omega
    have fc:=hf (7,some 34) (.head _) rfl
    have ec:v' 7 = .agg #[.bool q1,.slice q2 q3 q4]:=fc.2.1
    have cc0:W'.cell? ⟨w1.heap.size,4,none⟩=some (.bool z1):=(b_s_0 hc.1).c 4 rfl
    have cc1:W'.cell? ⟨w1.heap.size,5,none⟩=some (.slice z2 z3 z4):=(b_s_0 hc.1).c 5 rfl
    have ff:∀j,W'.frozen? ⟨w1.heap.size,j,none⟩=false:=(b_s_0 hc.1).fr
    have kp:Keeps W' ((W'.setCell ⟨w1.heap.size,4,none⟩ (.bool q1)).setCell ⟨w1.heap.size,5,none⟩ (.slice q2 q3 q4)):=(Keeps.only (b_s_0 hc.1) rfl ((Only.refl _ _).set.set))
    go_step
    exact hK.out undef _ kp ⟨(Below.setCell (p:=⟨w1.heap.size,5,none⟩) (Below.setCell (p:=⟨w1.heap.size,4,none⟩) j0 (by show w.heap.size≤w1.heap.size; omega) _) (by show w.heap.size≤w1.heap.size; omega) _),jk.trans kp,by simpa using jn,((b_t).far' (show w.heap.size≠w1.heap.size by omega)).far' (show w.heap.size≠w1.heap.size by omega),fun q0=>Bool.noConfusion q0,fun q0=>by have hb:=b_s_0 hc.1; exact⟨fc.1,_,_,_,_,ec,(Blk.set2 (cs':=#[.bool n1,.slice n2 n3 n4,.bool u1,.slice u2 u3 u4,.bool q1,.slice q2 q3 q4]) (Blk.set2 (cs':=#[.bool n1,.slice n2 n3 n4,.bool u1,.slice u2 u3 u4,.bool q1,.slice z2 z3 z4]) hb (i:=4) rfl) (i:=5) rfl)⟩,((b_x).far' (show w2.heap.size≠w1.heap.size by omega)).far' (show w2.heap.size≠w1.heap.size by omega)⟩ trivial trivial
   refine Reg.RC_end (fun Dn v' w4 hd hj hf=> ?_)
   obtain⟨B,jk,jn,ot,b_s_0,b_s_1,ox⟩:=hj
   obtain⟨dd_7,y7_1,y7_2,y7_3,y7_4,ee_7,os⟩:=b_s_1 (hd 9 (Nat.le_of_ble_eq_true rfl))
   have ef:v' 7 = .agg #[.bool q1,.slice q2 q3 q4]:=(hf (7,some 34) (.tail _ (.head _)) rfl).2.1
   have eq_:=ef.symm.trans ee_7
   simp only[Value.tuple.injEq,Value.agg.injEq,Array.mk.injEq,List.cons.injEq,Value.bool.injEq,Value.slice.injEq,and_true,true_and]at eq_
   obtain⟨rfl,rfl,rfl,rfl⟩:=eq_
   clear ef ee_7 dd_7
   clear b_s_0 b_s_1
   have Fq:Hid (Num w4 (.agg #[.bool q1,.slice q2 q3 q4]) ((fQ (i+1)))):=(hf (7,some 34) (.tail _ (.head _)) rfl).2.2
   replace Fn:=Hid.mk_ (Fn.out.keeps jk)
   replace Fy:=Hid.mk_ (Fy.out.keeps jk)
   replace Fz:=Hid.mk_ (Fz.out.keeps jk)
   replace Fx:=Hid.mk_ (Fx.out.keeps jk)
   replace Fu:=Hid.mk_ (Fu.out.keeps jk)
   replace kk:=kk.trans jk
   clear hd hf jk
   refine hQ _ _ ?_
   clear hQ hops Q' ops'
   go_wp2_with fail
   go_roundw
   case rel=>exact⟨i+1,_,_,_,_,_,_,_,_,by omega,by go_num,ownK,Fu.out.keeps keepsB,Fq.out.keeps keepsB,ownK,belowB,kk.trans keepsB⟩
   case measure=>simp[intOf]; omega
  ·
   obtain rfl:i=N:=by omega
   have hlt:decide ((i:Int)<(i:Int))=false:=decide_eq_false (by omega)
   go_wp2_with fail
   refine bodyPost_ret (by simp[results,Tryz.results100,go_sem,ct0,ct1,ct2,ct3,ct4,ct5,ft,lt,cs0,cs1,cs2,cs3,cs4,cs5,ls]; rfl) rfl ?_
   exact⟨_,rfl,⟨_,_,_,_,_,_,_,_,_,_,_,_,rfl,Fn.out.keeps keepsB,Fy.out.keeps keepsB,Fz.out.keeps keepsB⟩,belowB⟩
theorem vspread {vs:Value} {l:List Int} {gc:Nat} {tc:TypeId} (w:World) (hc:Blk w gc tc #[.int .i64 0]) (h:Sums w vs l) (hv:valL l) :
  Calls Tryz.prog 102 #[.pointer (some ⟨gc,0,none⟩),vs] w fun e w'=>∃v,e = .returned v∧Num w' v (sprI l)∧Steps w w':=by
 have KC:∀w',Steps w w'→Blk w' gc tc #[.int .i64 0]:=fun w' s=>hc.steps s
 have f1:absN (nI l*sqsI l)≤bp 4:=absN_mul_le (i:=1) (j:=3) (val_n hv) (val_sqs hv)
 have f2:absN (sumI l*sumI l)≤bp 4:=absN_mul_le (i:=2) (j:=2) (val_sum hv) (val_sum hv)
 have M1:∀w' u v,Steps w w'→Num w' u (nI l)→Num w' v (sqsI l)→Calls Tryz.prog 101 #[.pointer (some ⟨gc,0,none⟩),u,v] w' fun e w2=>∃v,e = .returned v∧Num w2 v (nI l*sqsI l)∧Steps w' w2:=fun w' u v s h1 h2=>
  vmul w' (KC w' s) h1 h2 (fits_bp (val_n hv) (by omega)) (fits_bp (val_sqs hv) (by omega)) (fits_bp f1 (by omega))
 have M2:∀w' u v,Steps w w'→Num w' u (sumI l)→Num w' v (sumI l)→Calls Tryz.prog 101 #[.pointer (some ⟨gc,0,none⟩),u,v] w' fun e w2=>∃v,e = .returned v∧Num w2 v (sumI l*sumI l)∧Steps w' w2:=fun w' u v s h1 h2=>
  vmul w' (KC w' s) h1 h2 (fits_bp (val_sum hv) (by omega)) (fits_bp (val_sum hv) (by omega)) (fits_bp f2 (by omega))
 have SB:∀w' u v,Steps w w'→Num w' u (nI l*sqsI l)→Num w' v (sumI l*sumI l)→Calls Tryz.prog 104 #[.pointer (some ⟨gc,0,none⟩),u,v] w' fun e w2=>∃v,e = .returned v∧Num w2 v (sprI l)∧Steps w' w2:=fun w' u v s h1 h2=>
  vsub w' (KC w' s) h1 h2 (fits_bp f1 (by omega)) (fits_bp f2 (by omega)) (fits_bp (val_spr hv) (by omega))
 obtain⟨n1,n2,n3,n4,s1,s2,s3,s4,q1,q2,q3,q4,rfl,h1,h2,h3⟩:=h
 have Fn:=Hid.mk_ h1
 have Fs:=Hid.mk_ h2
 have Fq:=Hid.mk_ h3
 generalize sprI l=p at *
 generalize nI l=n at *
 generalize sumI l=s at *
 generalize sqsI l=q at *
 clear h1 h2 h3 hc hv f1 f2 KC
 go_enter Tryz.func102,Tryz.ntmps102
 go_wp2_with fail
 go_upto_region 1 with fail
 refine Reg.chn (fun N0 D v W=>Below w.heap.size w W∧Keeps w W∧N0≤W.heap.size∧Blk W (w.heap.size) 148 #[.bool n1,.slice n2 n3 n4,.bool s1,.slice s2 s3 s4,.bool q1,.slice q2 q3 q4]∧((D 14=false→Blk W (w.heap.size+1) 30 #[.bool false,.slice none 0 0])∧(D 14=true→D 13=true∧∃cs,v 13 = .agg cs∧Blk W (w.heap.size+1) 30 cs))) [6,12,13,14] [(6,IsNu),(12,IsNu),(13,IsNu)] [(6,GNu ((n*q))),(12,GNu ((s*s))),(13,GNu (p))] [(13,[(6,some 11),(12,some 17)]),(14,[(13,some 18)]),(15,[(6,some 11),(12,some 17),(13,some 18)])] [(13,[14])] (fun N0 hN0=>⟨fun v=> ?_,fun D v v' W hv hj=> ?_,fun ops' Q' hops hQ=> ?_⟩)
 · exact⟨belowB,keepsB,leD hN0,ownK,⟨fun _=>ownK,(fun h=>Bool.noConfusion h)⟩⟩
 ·
  obtain⟨j0,jk,jn,b_s,b_r⟩:=hj
  exact⟨j0,jk,jn,b_s,⟨b_r.1,fun h=>by obtain⟨d,cs,e,hb⟩:=b_r.2 h; exact⟨d,cs,(hv 13 d)▸e,hb⟩⟩⟩
 have eN:=hN0.out
 try simp only[World.size_alloc,World.size_setCell,World.size_drew,World.heap_drewN]at eN
 have i_s:w.heap.size<N0:=by first | omega | (have h:=os.lt; omega)
 have i_r:w.heap.size+1<N0:=by first | omega | (have h:=or.lt; omega)
 have iw:w.heap.size≤N0:=by first | omega | (have h:=B.size; omega)
 clear hN0 eN
 repeat refine Reg.RP0 _ ?_
 refine Reg.RPf 8 (fun _ _ _ h=>h.2.2.2.1.r1) ?_
 refine Reg.RP0 9 ?_
 refine Reg.RPf 10 (fun _ _ _ h=>And.intro h.2.2.2.1.q4 h.2.2.2.1.q5) ?_
 refine Reg.RC_call rfl (tlt rfl) rfl (fun D v' W' hc hj hf K hK=> ?_) ?_
 ·
  obtain⟨j0,jk,jn,b_s,b_r⟩:=hj
  clear hf
  go_step
  refine(M1 W' _ _ j0 (Fn.out.keeps jk) (Fq.out.keeps jk)).mono ?_
  rintro e W2 ⟨u,rfl,hu,hs⟩
  obtain⟨x1,x2,x3,x4,rfl⟩:=hu.shape
  exact hK.out _ W2 (Keeps.steps hs) ⟨jst j0 hs,jk.then_ hs,jsz jn hs,b_s.steps hs,dS b_r hs⟩ hu ⟨_,_,_,_,rfl⟩
 rintro _ ⟨x1,x2,x3,x4,rfl⟩
 refine Reg.RC_at (b:=⟨#[_,_,_,_,_,_,_,_,_,_,_,_,_,_,_,_,_,_,_],_⟩) rfl ?_
 repeat refine Reg.RP0 _ ?_
 refine Reg.RPf 14 (fun _ _ _ h=>And.intro h.2.2.2.1.q2 h.2.2.2.1.q3) ?_
 refine Reg.RP0 15 ?_
 refine Reg.RPf 16 (fun _ _ _ h=>And.intro h.2.2.2.1.q2 h.2.2.2.1.q3) ?_
 refine Reg.RC_call rfl (tlt rfl) rfl (fun D v' W' hc hj hf K hK=> ?_) ?_
 ·
  obtain⟨j0,jk,jn,b_s,b_r⟩:=hj
  clear hf
  go_step
  refine(M2 W' _ _ j0 (Fs.out.keeps jk) (Fs.out.keeps jk)).mono ?_
  rintro e W2 ⟨u,rfl,hu,hs⟩
  obtain⟨y1,y2,y3,y4,rfl⟩:=hu.shape
  exact hK.out _ W2 (Keeps.steps hs) ⟨jst j0 hs,jk.then_ hs,jsz jn hs,b_s.steps hs,dS b_r hs⟩ hu ⟨_,_,_,_,rfl⟩
 rintro _ ⟨y1,y2,y3,y4,rfl⟩
 refine Reg.RC_at (b:=⟨#[_,_,_,_,_,_,_,_,_,_,_,_,_,_,_,_,_,_,_],_⟩) rfl ?_
 refine Reg.RC_call rfl (tlt rfl) rfl (fun D v' W' hc hj hf K hK=> ?_) ?_
 ·
  obtain⟨j0,jk,jn,b_s,b_r⟩:=hj
  have g6:GNu ((n*q)) _ W':=(hf (6,some 11) (.head _) rfl).2.2
  have g6:Num W' _ ((n*q)):=g6
  have g12:GNu ((s*s)) _ W':=(hf (12,some 17) (.tail _ (.head _)) rfl).2.2
  have g12:Num W' _ ((s*s)):=g12
  clear hf
  go_step
  refine(SB W' _ _ j0 g6 g12).mono ?_
  rintro e W2 ⟨u,rfl,hu,hs⟩
  obtain⟨z1,z2,z3,z4,rfl⟩:=hu.shape
  exact hK.out _ W2 (Keeps.steps hs) ⟨jst j0 hs,jk.then_ hs,jsz jn hs,b_s.steps hs,⟨fun h=>(b_r.1 h).steps hs,fun h=>Bool.noConfusion ((hc.2 14 (by decide)).symm.trans h)⟩⟩ hu ⟨_,_,_,_,rfl⟩
 rintro _ ⟨z1,z2,z3,z4,rfl⟩
 refine Reg.RC_at (b:=⟨#[_,_,_,_,_,_,_,_,_,_,_,_,_,_,_,_,_,_,_],_⟩) rfl ?_
 refine Reg.RCs (fun D v' W' hc hj hf K hK=> ?_) (fun _ _=>Reg.RC_at (b:=⟨_,_⟩) rfl ?_)
 ·
  obtain⟨j0,jk,jn,b_s,b_r⟩:=hj
  have hb:=b_r.1 hc.1
  have e2:w.heap.size≤w.heap.size+1:=by omega
  have fc:=hf (13,some 18) (.head _) rfl
  have ec:v' 13 = .agg #[.bool z1,.slice z2 z3 z4]:=fc.2.1
  have ff:=hb.fr
  obtain⟨cc0,cc1⟩:=hb.r1
  go_step
  exact hK.out undef _ (wr2.k hb) ⟨(wr2.b j0),jk.trans (wr2.k hb),wr2.n jn,(wr2.f b_s),⟨fun h=>Bool.noConfusion h,fun _=>⟨fc.1,_,ec,(Blk.st (i:=1) (Blk.st (i:=0) hb))⟩⟩⟩ trivial trivial
 refine Reg.RC_end (fun Dn v' w1 hd hj hf=> ?_)
 obtain⟨B,jk,jn,os,b_r⟩:=hj
 obtain⟨-,cs_,ee,or⟩:=b_r.2 (hd 14 (Nat.le_of_ble_eq_true rfl))
 have ef:v' 13 = .agg #[.bool z1,.slice z2 z3 z4]:=(hf (13,some 18) (.tail _ (.tail _ (.head _))) rfl).2.1
 obtain rfl:#[.bool z1,.slice z2 z3 z4]=cs_:=by have:=ef.symm.trans ee; simpa only[Value.tuple.injEq,Value.agg.injEq,Array.mk.injEq,List.cons.injEq,and_true,true_and]using this
 clear b_r ee ef
 have Fz:Hid (Num w1 (.agg #[.bool z1,.slice z2 z3 z4]) (p)):=(hf (13,some 18) (.tail _ (.tail _ (.head _))) rfl).2.2
 replace Fn:=Hid.mk_ (Fn.out.keeps jk)
 replace Fs:=Hid.mk_ (Fs.out.keeps jk)
 replace Fq:=Hid.mk_ (Fq.out.keeps jk)
 clear hd hf jk
 refine hQ _ _ ?_
 clear hQ hops Q' ops'
 have ls:=os.lt
 obtain⟨cr0,cr1⟩:=or.r1
 have lr:=or.lt
 go_wp2_with fail
 refine bodyPost_ret (by simp[results,Tryz.results102,go_sem,ls,cr0,cr1,lr]; rfl) rfl ?_
 exact⟨_,rfl,Fz.out.keeps keepsB,belowB⟩
def FE (w:World) (v:Value) (c:Int) (r:Rat):Prop:=if c=0 then FR w v r else v = .agg #[.bool false,.slice none 0 0,.bool false,.slice none 0 0]
theorem FE.ok {w:World} {v:Value} {r:Rat} (h:FR w v r):FE w v 0 r:=by unfold FE; rw[if_pos rfl]; exact h
theorem FE.bad {w:World} {c:Int} {r:Rat} (h:c≠0):FE w (.agg #[.bool false,.slice none 0 0,.bool false,.slice none 0 0]) c r:=by unfold FE; rw[if_neg h]
theorem askV_val {l:List Int} (h:askV l=0):valL l∧l≠ []:=by
 obtain⟨h1,h2,h3⟩:=askV_ok h
 refine⟨⟨h2,fun x hx=> ?_⟩,h1⟩
 obtain⟨i,hi,rfl⟩:=List.getElem_of_mem hx
 have:=h3 i hi
 rw[List.getD,List.getElem?_eq_getElem hi]at this
 exact this
theorem sum_i64 {l:List Int} (h:valL l) (i:Nat) : -4294967296000≤sumI (l.take i)∧sumI (l.take i)≤4294967296000:=by
 have h1:=sum_range (h.take i).2
 have h2:=(h.take i).1
 omega
end Go.Proofs.YtdkcffnmlllamaaGreat
