import Derived.Test.YtdkcffnmlllamaaGreatMTw
import Derived.Test.YtdkcffnmlllamaaGreatMNg
import Derived.Deep.RegionWith
import Derived.Deep.QuietTactic
import Derived.BigQuiet
import Derived.Test.YtdkcffnmlllamaaGreatMReg
import Derived.Laws.Tables
import Derived.Laws.Rows
import Derived.Test.YtdkcffnmlllamaaGreatMRound
import Derived.Test.YtdkcffnmlllamaaGreatMTk
set_option linter.unusedVariables false
set_option linter.unusedSimpArgs false
set_option maxHeartbeats 6400000
set_option maxRecDepth 1000000
namespace Go.Proofs.YtdkcffnmlllamaaGreat
open Go.RowKit
theorem fcheck (gx gy:Bool) {sa sb:Value} {la lb:List Int} (w:World) (ha:Lim w sa la) (hb:Lim w sb lb) :
  Calls Tryz.prog 74 #[.agg #[.bool gx,sa,.bool gy,sb]] w fun e w'=>e = .returned (.int .i64 (errC (validF gx la gy lb)))∧Steps w w':=by
 have gb:¬(valid gx la∧valid gy lb)→∀w',Steps w w'→Calls Tryz.prog 110 #[.agg #[.bool gx,sa],.agg #[.bool gy,sb]] w' fun e w2=>e = .returned (.tuple #[.agg #[.bool false,.slice none 0 0],.int .i64 8])∧Steps w' w2:=fun hv w' h=>gcd_bad gx gy w' (ha.steps h) (hb.steps h) hv
 have gc:valid gx la→valid gy lb→∀w',Steps w w'→Calls Tryz.prog 110 #[.agg #[.bool gx,sa],.agg #[.bool gy,sb]] w' fun e w2=>∃v,e = .returned (.tuple #[v,.int .i64 0])∧Num w2 v (gcdI (zv gx (lval la)) (zv gy (lval lb)))∧fits (gcdI (zv gx (lval la)) (zv gy (lval lb)))∧Steps w' w2:=fun va vb w' h=>
  wgcd w' (valid_num (ha.steps h) va) (valid_num (hb.steps h) vb) (valid_fits ha.ok va) (valid_fits hb.ok vb)
 have zr:valid gy lb→∀w',Steps w w'→Calls Tryz.prog 79 #[.agg #[.bool gy,sb]] w' fun e w2=>e = .returned (.bool (decide (zv gy (lval lb)=0)))∧Steps w' w2:=fun vb w' h=>fzero w' (valid_num (hb.steps h) vb)
 have hz0:valid gy lb→(zv gy (lval lb)=0↔lb = []):=fun vb=>by
  have h1:=lval_nonneg hb.ok
  have h2:=limbs_lval hb.ok
  rw[vb.2.1]at h2
  have h3:=limbs_nil h1
  rw[h2]at h3
  rw[h3]
  unfold zv
  split<;>omega
 obtain⟨aa,ca,rfl⟩:=ha.shape
 obtain⟨ab,cb,rfl⟩:=hb.shape
 obtain⟨n,hn⟩:∃n,la.length=n:=⟨_,rfl⟩
 obtain⟨m,hm⟩:∃m,lb.length=m:=⟨_,rfl⟩
 rw[hn]at gb gc⊢
 rw[hm]at gb gc zr⊢
 have hm0:m=0↔lb = []:=by rw[← hm]; exact List.length_eq_zero_iff
 clear ha hb hn hm
 by_cases hv:valid gx la∧valid gy lb
 ·
  obtain⟨h1,h2⟩:=hv
  have gc':=gc h1 h2
  have zr':=zr h2
  have hz:=hz0 h2
  clear gc gb zr hz0
  cases gy with
  | true=>
   have H:Hid (errC (validF gx la true lb)=8):=if_neg (fun h=>by have:=h.2.2.1; cases this)
   clear h1 h2 hm0 zr' hz
   go_enter Tryz.func74,Tryz.ntmps74
   go_wp2_with fail
   refine(gc' _ belowB).mono ?_
   rintro e w1 ⟨vg,rfl,hng,fitG,hb1⟩
   have st:Steps _ w1:=hb1
   have Bn:=bA w st
   have of:Blk w1 (w.heap.size) 32 #[.bool gx,.slice aa n ca,.bool true,.slice ab m cb]:=Blk.stepsA st
   clear st
   have B:=Bn
   clear Bn
   obtain⟨cf0,cf1,cf2,cf3,ff,lf⟩:=of.s3
   clear gc'
   obtain⟨bg,ag,ng,cg,rfl⟩:=hng.shape
   have NG:=Hid.mk_ hng
   clear hng
   have hf3:w.heap.size<w1.heap.size:=of.lt
   go_wp2_with fail
   go_quiet (fail)
   go_wp2
   go_returns
   exact⟨retI H.out.symm,belowB⟩
  | false=>
   by_cases h0:lb = []
   ·
    have H:Hid (errC (validF gx la false lb)=8):=if_neg (fun h=>h.2.2.2.1 h0)
    simp only[decide_eq_true (hz.2 h0)]at zr'
    clear h1 h2 hm0 hz h0
    go_enter Tryz.func74,Tryz.ntmps74
    go_wp2_with fail
    refine(gc' _ belowB).mono ?_
    rintro e w1 ⟨vg,rfl,hng,fitG,hb1⟩
    have st:Steps _ w1:=hb1
    have Bn:=bA w st
    have of:Blk w1 (w.heap.size) 32 #[.bool gx,.slice aa n ca,.bool false,.slice ab m cb]:=Blk.stepsA st
    clear st
    have B:=Bn
    clear Bn
    obtain⟨cf0,cf1,cf2,cf3,ff,lf⟩:=of.s3
    clear gc'
    obtain⟨bg,ag,ng,cg,rfl⟩:=hng.shape
    have NG:=Hid.mk_ hng
    clear hng
    have hf3:w.heap.size<w1.heap.size:=of.lt
    go_wp2_with fail
    go_region_with (go_at_call 79; refine(zr' _ belowB).mono ?_; rintro e wv ⟨rfl,hbv⟩; go_must (have st:Steps _ wv:=hbv; have Bn:=bA w st; have nf:Blk wv (w.heap.size) 32 #[.bool gx,.slice aa n ca,.bool false,.slice ab m cb]:=Blk.stepsA st; have ng:Blk wv (w1.heap.size) 30 #[.bool bg,.slice ag ng cg]:=Blk.stepsA st; clear B of cf0 cf1 cf2 cf3 ff lf; clear st; have B:=Bn; clear Bn; have of:=nf; clear nf; have cf0:World.cell? wv ⟨w.heap.size,0,none⟩=some (.bool gx):=of.c 0 rfl; have cf1:World.cell? wv ⟨w.heap.size,1,none⟩=some (.slice aa n ca):=of.c 1 rfl; have cf2:World.cell? wv ⟨w.heap.size,2,none⟩=some (.bool false):=of.c 2 rfl; have cf3:World.cell? wv ⟨w.heap.size,3,none⟩=some (.slice ab m cb):=of.c 3 rfl; have ff:=of.fr; have lf:=of.lt; have og:=ng; clear ng; have cg0:World.cell? wv ⟨w1.heap.size,0,none⟩=some (.bool bg):=og.c 0 rfl; have cg1:World.cell? wv ⟨w1.heap.size,1,none⟩=some (.slice ag ng cg):=og.c 1 rfl; have fg:=og.fr; have lg:=og.lt))
    all_goals (go_wp2; go_returns; exact⟨retI H.out.symm,belowB⟩)
   ·
    have HV:errC (validF gx la false lb)=if gcdI (zv gx (lval la)) (zv false (lval lb))=1 then 0 else 8:=by
     by_cases hg:gcdI (zv gx (lval la)) (zv false (lval lb))=1
     · rw[if_pos hg]; exact if_pos ⟨h1,h2,rfl,h0,hg⟩
     · rw[if_neg hg]; exact if_neg (fun h=>hg h.2.2.2.2)
    simp only[decide_eq_false (fun e=>h0 (hz.1 e))]at zr'
    obtain⟨G,hG⟩:∃G,gcdI (zv gx (lval la)) (zv false (lval lb))=G:=⟨_,rfl⟩
    rw[hG]at gc' HV
    clear h1 h2 hm0 hG h0 hz
    have sm:∀w' va vb,Num w' va G→Num w' vb 1→fits G→Calls Tryz.prog 111 #[va,vb] w' fun e w2=>e = .returned (.bool (decide (G=1)))∧Steps w' w2:=fun w' va vb h1 h2 h3=>fsame w' h1 h2 h3 (fits_small (by unfold absN; omega))
    by_cases hg:G=1
    focus
     rw[if_pos hg]at HV
     have H:=Hid.mk_ HV
     simp only[decide_eq_true hg]at sm
    rotate_left
    focus
     rw[if_neg hg]at HV
     have H:=Hid.mk_ HV
     simp only[decide_eq_false hg]at sm
    rotate_left
    all_goals
     clear HV hg
     go_enter Tryz.func74,Tryz.ntmps74
     go_wp2_with fail
     refine(gc' _ belowB).mono ?_
     rintro e w1 ⟨vg,rfl,hng,fitG,hb1⟩
     have st:Steps _ w1:=hb1
     have Bn:=bA w st
     have of:Blk w1 (w.heap.size) 32 #[.bool gx,.slice aa n ca,.bool false,.slice ab m cb]:=Blk.stepsA st
     clear st
     have B:=Bn
     clear Bn
     obtain⟨cf0,cf1,cf2,cf3,ff,lf⟩:=of.s3
     clear gc'
     obtain⟨bg,ag,ng,cg,rfl⟩:=hng.shape
     have NG:=Hid.mk_ hng
     clear hng
     have hf3:w.heap.size<w1.heap.size:=of.lt
     go_wp2_with fail
     go_region_held3 (fun w'=>w'.cell? ⟨w.heap.size,0,none⟩=some (.bool gx)∧w'.cell? ⟨w.heap.size,1,none⟩=some (.slice aa n ca)∧w'.cell? ⟨w.heap.size,2,none⟩=some (.bool false)∧w'.cell? ⟨w.heap.size,3,none⟩=some (.slice ab m cb)∧w'.cell? ⟨w1.heap.size,0,none⟩=some (.bool bg)∧w'.cell? ⟨w1.heap.size,1,none⟩=some (.slice ag ng cg))
      ((refine⟨Blk.c (t:=32) (cs:=#[.bool gx,.slice aa n ca,.bool false,.slice ab m cb]) ?_ 0 rfl,Blk.c (t:=32) (cs:=#[.bool gx,.slice aa n ca,.bool false,.slice ab m cb]) ?_ 1 rfl,Blk.c (t:=32) (cs:=#[.bool gx,.slice aa n ca,.bool false,.slice ab m cb]) ?_ 2 rfl,Blk.c (t:=32) (cs:=#[.bool gx,.slice aa n ca,.bool false,.slice ab m cb]) ?_ 3 rfl,Blk.c (t:=30) (cs:=#[.bool bg,.slice ag ng cg]) ?_ 0 rfl,Blk.c (t:=30) (cs:=#[.bool bg,.slice ag ng cg]) ?_ 1 rfl⟩<;>(repeat' first | with_reducible assumption | (with_reducible refine Blk.new' ?_; first | with_reducible rfl | (simp only[World.size_alloc,World.size_setCell,World.size_drew]; done)) | with_reducible refine Blk.alloc ?_ _ | with_reducible refine Blk.drew ?_ | with_reducible refine Blk.drewN ?_ _ | with_reducible apply Blk.both | with_reducible refine Blk.far' ?_ ?_ | (show _≠_; omega))))
      (first
       | ((go_at_call 79; refine(zr' _ belowB).mono ?_; rintro e wv ⟨rfl,hbv⟩; go_must (have NG1:=Hid.mk_ (NG.out.steps (((Below.refl _ _).alloc (Nat.le_refl _) _).drew.trans (hbv.mono (by simp)))); have st:Steps _ wv:=hbv; have Bn:=bA w st; have nf:Blk wv (w.heap.size) 32 #[.bool gx,.slice aa n ca,.bool false,.slice ab m cb]:=Blk.stepsA st; have ng:Blk wv (w1.heap.size) 30 #[.bool bg,.slice ag ng cg]:=Blk.stepsA st; clear B of cf0 cf1 cf2 cf3 ff lf; clear st; have B:=Bn; clear Bn; have of:=nf; clear nf; have cf0:World.cell? wv ⟨w.heap.size,0,none⟩=some (.bool gx):=of.c 0 rfl; have cf1:World.cell? wv ⟨w.heap.size,1,none⟩=some (.slice aa n ca):=of.c 1 rfl; have cf2:World.cell? wv ⟨w.heap.size,2,none⟩=some (.bool false):=of.c 2 rfl; have cf3:World.cell? wv ⟨w.heap.size,3,none⟩=some (.slice ab m cb):=of.c 3 rfl; have ff:=of.fr; have lf:=of.lt; have og:=ng; clear ng; have cg0:World.cell? wv ⟨w1.heap.size,0,none⟩=some (.bool bg):=og.c 0 rfl; have cg1:World.cell? wv ⟨w1.heap.size,1,none⟩=some (.slice ag ng cg):=og.c 1 rfl; have fg:=og.fr; have lg:=og.lt; have Z1:=Hid.mk_ (And.intro hbv trivial))))
       | ((go_at_call 80; refine(fone _).mono ?_; rintro e wv ⟨vo,rfl,hno,hbv⟩; go_must (have NG2:=Hid.mk_ (NG1.out.steps hbv); have st:Steps _ wv:=hbv; have Bn:=bA w st; have nf:Blk wv (w.heap.size) 32 #[.bool gx,.slice aa n ca,.bool false,.slice ab m cb]:=Blk.stepsA st; have ng:Blk wv (w1.heap.size) 30 #[.bool bg,.slice ag ng cg]:=Blk.stepsA st; clear B of og cf0 cf1 cf2 cf3 ff lf cg0 cg1 fg lg; clear st; have B:=Bn; clear Bn; have of:=nf; clear nf; have cf0:World.cell? wv ⟨w.heap.size,0,none⟩=some (.bool gx):=of.c 0 rfl; have cf1:World.cell? wv ⟨w.heap.size,1,none⟩=some (.slice aa n ca):=of.c 1 rfl; have cf2:World.cell? wv ⟨w.heap.size,2,none⟩=some (.bool false):=of.c 2 rfl; have cf3:World.cell? wv ⟨w.heap.size,3,none⟩=some (.slice ab m cb):=of.c 3 rfl; have ff:=of.fr; have lf:=of.lt; have og:=ng; clear ng; have cg0:World.cell? wv ⟨w1.heap.size,0,none⟩=some (.bool bg):=og.c 0 rfl; have cg1:World.cell? wv ⟨w1.heap.size,1,none⟩=some (.slice ag ng cg):=og.c 1 rfl; have fg:=og.fr; have lg:=og.lt; obtain⟨bo',ao',no',co',rfl⟩:=hno.shape; have NO:=Hid.mk_ hno; clear hno)))
       | ((go_at_call 111; refine(sm _ _ _ NG2.out NO.out fitG).mono ?_; rintro e wv ⟨rfl,hbv⟩; go_must (have st:Steps _ wv:=hbv; have Bn:=bA w st; have nf:Blk wv (w.heap.size) 32 #[.bool gx,.slice aa n ca,.bool false,.slice ab m cb]:=Blk.stepsA st; have ng:Blk wv (w1.heap.size) 30 #[.bool bg,.slice ag ng cg]:=Blk.stepsA st; clear B of og cf0 cf1 cf2 cf3 ff lf cg0 cg1 fg lg; clear st; have B:=Bn; clear Bn; have of:=nf; clear nf; have cf0:World.cell? wv ⟨w.heap.size,0,none⟩=some (.bool gx):=of.c 0 rfl; have cf1:World.cell? wv ⟨w.heap.size,1,none⟩=some (.slice aa n ca):=of.c 1 rfl; have cf2:World.cell? wv ⟨w.heap.size,2,none⟩=some (.bool false):=of.c 2 rfl; have cf3:World.cell? wv ⟨w.heap.size,3,none⟩=some (.slice ab m cb):=of.c 3 rfl; have ff:=of.fr; have lf:=of.lt; have og:=ng; clear ng; have cg0:World.cell? wv ⟨w1.heap.size,0,none⟩=some (.bool bg):=og.c 0 rfl; have cg1:World.cell? wv ⟨w1.heap.size,1,none⟩=some (.slice ag ng cg):=og.c 1 rfl; have fg:=og.fr; have lg:=og.lt))))
     go_wp2
     go_returns
     exact⟨retI H.out.symm,belowB⟩
 ·
  have H:Hid (errC (validF gx la gy lb)=8):=if_neg (fun h=>hv ⟨h.1,h.2.1⟩)
  have gb':=gb hv
  clear gb gc zr hz0 hv hm0
  go_enter Tryz.func74,Tryz.ntmps74
  go_wp2_with fail
  refine(gb' _ belowB).mono ?_
  rintro e w1 ⟨rfl,hb1⟩
  have st:Steps _ w1:=hb1
  have Bn:=bA w st
  have of:Blk w1 (w.heap.size) 32 #[.bool gx,.slice aa n ca,.bool gy,.slice ab m cb]:=Blk.stepsA st
  clear st
  have B:=Bn
  clear Bn
  obtain⟨cf0,cf1,cf2,cf3,ff,lf⟩:=of.s3
  clear gb'
  go_wp2_with fail
  go_quiet (fail)
  go_wp2
  go_returns
  exact⟨retI H.out.symm,belowB⟩
def Frc (w:World) (v:Value) (p q:Int):Prop:=∃sp sq,v = .agg #[.bool (decide (p<0)),sp,.bool false,sq]∧Lim w sp (limbs (absN p))∧Lim w sq (limbs q)∧0<q∧gcdI p q=1∧fits p∧fits q
theorem Frc.steps {w w':World} {v:Value} {p q:Int} (h:Frc w v p q) (hs:Steps w w'):Frc w' v p q:=by
 obtain⟨sp,sq,e,l1,l2,h⟩:=h
 exact⟨sp,sq,e,l1.steps hs,l2.steps hs,h⟩
theorem zv_self (p:Int):zv (decide (p<0)) (absN p)=p:=by
 unfold zv absN
 by_cases h:p<0
 · rw[decide_eq_true h]; simp; omega
 · rw[decide_eq_false h]; simp; omega
theorem validF_of {p q:Int} (q0:0<q) (hg:gcdI p q=1) (fp:fits p) (fq:fits q):validF (decide (p<0)) (limbs (absN p)) false (limbs q):=by
 have v2:=valid_of fq
 rw[decide_eq_false (by omega),absN_of (by omega)]at v2
 refine⟨valid_of fp,v2,rfl,fun e=>by have:=(limbs_nil (by omega)).1 e; omega,?_⟩
 rw[lval_limbs (absN_nonneg p),lval_limbs (by omega),zv_self]
 exact hg
theorem Frc.of_valid {w:World} {gx gy:Bool} {sa sb:Value} {la lb:List Int} (ha:Lim w sa la) (hb:Lim w sb lb) (h:validF gx la gy lb):Frc w (.agg #[.bool gx,sa,.bool gy,sb]) (zv gx (lval la)) (lval lb):=by
 obtain⟨h1,h2,rfl,h4,h5⟩:=h
 have n1:=valid_num ha h1
 have n2:=valid_num hb h2
 obtain⟨s1,e1,l1⟩:=n1
 obtain⟨s2,e2,l2⟩:=n2
 have b0:=lval_nonneg hb.ok
 have q0:0<lval lb:=by
  have h3:=limbs_lval hb.ok
  rw[h2.2.1]at h3
  rcases Int.lt_or_le 0 (lval lb)with h | h
  · exact h
  · exfalso; apply h4; rw[← h3,(limbs_nil b0).2 (by omega)]
 have e0:zv false (lval lb)=lval lb:=rfl
 rw[e0]at h5 l2 e2
 rw[absN_of b0]at l2
 simp only[Value.agg.injEq,Array.mk.injEq,List.cons.injEq,Value.bool.injEq,and_true]at e1 e2
 obtain⟨e1,rfl⟩:=e1
 obtain⟨_,rfl⟩:=e2
 have f2:=valid_fits hb.ok h2
 rw[e0]at f2
 exact⟨sa,sb,by rw[← e1],l1,l2,q0,h5,valid_fits ha.ok h1,f2⟩
theorem fcheck_ok {v:Value} {p q:Int} (w:World) (h:Frc w v p q):Calls Tryz.prog 74 #[v] w fun e w'=>e = .returned (.int .i64 0)∧Steps w w':=by
 obtain⟨sp,sq,rfl,l1,l2,q0,hg,fp,fq⟩:=h
 have:=fcheck (decide (p<0)) false w l1 l2
 rw[errC_eq,if_pos (validF_of q0 hg fp fq)]at this
 exact this
theorem rfcheck_ok {v:Value} {p q:Int} (w:World) (h:Frc w v p q):Calls Tryz.prog 90 #[v] w fun e w'=>e = .returned (.int .i64 0)∧Steps w w':=by
 obtain⟨sp,sq,rfl,l1,l2,q0,hg,fp,fq⟩:=h
 have:=rfcheck (decide (p<0)) false w l1 l2
 rw[errC_eq,if_pos (validF_of q0 hg fp fq)]at this
 exact this
def ofI (p q:Int):Int×Int×Int:=md (divF (p*1099511627776) q) (divF (p*1099511627776) q+if 0<modF (p*1099511627776) q then 1 else 0)
def whI (n:Int):Int×Int×Int:=if n < -2097152∨2097152<n then(0,0,16)else(n*1099511627776,n*1099511627776,0)
theorem divmod_is {x y L r:Int} (h0:0≤r) (h1:r<y) (h:L*y+r=x):divF x y=L∧modF x y=r:=
 divF_of (by rw[Int.mul_comm]; exact h.symm) (.inl ⟨h0,h1⟩)
def OfInv (p q:Int) (j:Nat) (L r S:Int):Prop:=0≤r∧r<q∧L*q+r=p*((2^(40-j):Nat):Int)∧S=L*((2^j:Nat):Int)∧-2305843009213693952≤S∧S+((2^j:Nat):Int)≤2305844108725321728
theorem OfInv.start {p q N R0:Int} (DM:N*q+R0=p∧0≤R0∧R0<q) (h1 : -2097152≤N) (h2:N≤2097152):OfInv p q 40 N R0 (N*1099511627776):=by
 refine⟨DM.2.1,DM.2.2,by simp; exact DM.1,by simp,by omega,by simp; omega⟩
theorem next_core {p q L r S P X:Int} (P0:1≤P) (a:0≤r) (b:r<q) (c:L*q+r=p*X) (d:S=L*(2*P)) (e : -2305843009213693952≤S) (f:S+2*P≤2305844108725321728) :
  (r<q-r→0≤r+r∧r+r<q∧2*L*q+(r+r)=p*(2*X)∧S=2*L*P∧-2305843009213693952≤S∧S+P≤2305844108725321728)∧
  (q-r≤r→0≤r-(q-r)∧r-(q-r)<q∧(2*L+1)*q+(r-(q-r))=p*(2*X)∧S+P=(2*L+1)*P∧-2305843009213693952≤S+P∧S+P+P≤2305844108725321728):=by
 have p4:p*(2*X)=2*(p*X):=by rw[← Int.mul_assoc,Int.mul_comm p 2,Int.mul_assoc]
 have p5:L*(2*P)=2*L*P:=by rw[← Int.mul_assoc,Int.mul_comm L 2]
 have p6:2*L*q=2*(L*q):=Int.mul_assoc 2 L q
 have p7:(2*L+1)*q=2*(L*q)+q:=by rw[Int.add_mul,p6,Int.one_mul]
 have p8:(2*L+1)*P=2*L*P+P:=by rw[Int.add_mul,Int.one_mul]
 rw[p4,p6,p7,p8,d,p5]
 rw[d,p5]at e f
 exact⟨fun h=>⟨by omega,by omega,by omega,rfl,by omega,by omega⟩,fun h=>⟨by omega,by omega,by omega,rfl,by omega,by omega⟩⟩
theorem OfInv.next {p q:Int} {k:Nat} {L r S:Int} (hk:k+1≤40) (I:OfInv p q (k+1) L r S) :
  (r<q-r→OfInv p q k (2*L) (r+r) S)∧(q-r≤r→OfInv p q k (2*L+1) (r-(q-r)) (S+((2^k:Nat):Int))):=by
 obtain⟨a,b,c,d,e,f⟩:=I
 have p1:((2^(k+1):Nat):Int)=2*((2^k:Nat):Int):=by rw[Nat.pow_succ]; omega
 have p2:((2^(40-k):Nat):Int)=2*((2^(40-(k+1)):Nat):Int):=by rw[show 40-k=(40-(k+1))+1 by omega,Nat.pow_succ]; omega
 have p3:=Nat.one_le_two_pow (n:=k)
 rw[p1]at d f
 unfold OfInv
 rw[p2]
 exact next_core (by omega) a b c d e f
theorem OfInv.done {p q L r S:Int} (I:OfInv p q 0 L r S):divF (p*1099511627776) q=S∧modF (p*1099511627776) q=r:=by
 obtain⟨a,b,c,d,e,f⟩:=I
 simp at c d
 rw[d]
 exact divmod_is a b c
def rg (x y:Int):Int:=if y<0 then -gcdI x y else gcdI x y
def rdP (x y:Int):Int:=divF x (rg x y)
def rdQ (x y:Int):Int:=divF y (rg x y)
theorem gcdI_pos {x y:Int} (h:y≠0):0<gcdI x y:=by
 unfold gcdI
 have:=Int.gcd_pos_of_ne_zero_right x h
 omega
theorem divF_exact {k g:Int} (h:g≠0):divF (k*g) g=k:=by
 unfold divF
 exact Int.mul_fdiv_cancel k h
theorem rg_ne {x y:Int} (h:y≠0):rg x y≠0:=by
 have:=gcdI_pos (x:=x) h
 unfold rg
 split<;>omega
theorem gcdI_dvd (x y:Int):gcdI x y∣x∧gcdI x y∣y:=⟨Int.gcd_dvd_left x y,Int.gcd_dvd_right x y⟩
theorem rg_dvd (x y:Int):rg x y∣x∧rg x y∣y:=by
 have:=gcdI_dvd x y
 unfold rg
 split
 · exact⟨Int.neg_dvd.2 this.1,Int.neg_dvd.2 this.2⟩
 · exact this
theorem rd_mul {x y:Int} (h:y≠0):rdP x y*rg x y=x∧rdQ x y*rg x y=y:=by
 obtain⟨⟨a,ha⟩,⟨b,hb⟩⟩:=rg_dvd x y
 have g0:=rg_ne (x:=x) h
 unfold rdP rdQ
 have e1:divF x (rg x y)=a:=by
  conv=>lhs; rw[ha,Int.mul_comm]
  rw[show rg (a*rg x y) y=rg (a*rg x y) y from rfl]
  rw[Int.mul_comm a,← ha]
  have:=divF_exact (k:=a) g0
  rw[Int.mul_comm,← ha]at this
  exact this
 have e2:divF y (rg x y)=b:=by
  have:=divF_exact (k:=b) g0
  rw[Int.mul_comm,← hb]at this
  exact this
 rw[e1,e2,Int.mul_comm a,Int.mul_comm b]
 exact⟨ha.symm,hb.symm⟩
theorem rdQ_pos {x y:Int} (h:y≠0):0<rdQ x y:=by
 have m:=(rd_mul (x:=x) h).2
 have g:=gcdI_pos (x:=x) h
 obtain⟨G,hG⟩:∃G,gcdI x y=G:=⟨_,rfl⟩
 unfold rg at m
 rw[hG]at m g
 rcases Int.lt_or_le 0 (rdQ x y)with k | k
 · exact k
 ·
  exfalso
  split at m
  ·
   have h1:=Int.mul_nonneg_of_nonpos_of_nonpos k (show -G≤0 by omega)
   rw[m]at h1
   omega
  ·
   have:=Int.mul_le_mul_of_nonneg_right k (show 0≤G by omega)
   rw[m]at this
   omega
theorem gcd_one_of {a b g:Int} (hg:0<g) (h:gcdI (a*g) (b*g)=g):gcdI a b=1:=by
 unfold gcdI at h⊢
 rw[Int.gcd_mul_right]at h
 have e:((g.natAbs:Nat):Int)=g:=by omega
 have k:((Int.gcd a b:Nat):Int)*g=1*g:=by
  rw[Int.one_mul]
  conv=>rhs; rw[← h]
  rw[Int.natCast_mul,e]
 exact Int.eq_of_mul_eq_mul_right (by omega) k
theorem rd_gcd {x y:Int} (h:y≠0):gcdI (rdP x y) (rdQ x y)=1:=by
 have m:=rd_mul (x:=x) h
 have g:=gcdI_pos (x:=x) h
 unfold rg at m
 split at m
 ·
  rw[Int.mul_neg,Int.mul_neg]at m
  refine gcd_one_of g ?_
  have e1:rdP x y*gcdI x y = -x:=by omega
  have e2:rdQ x y*gcdI x y = -y:=by omega
  rw[e1,e2]
  unfold gcdI
  rw[Int.neg_gcd,Int.gcd_neg]
 ·
  refine gcd_one_of g ?_
  rw[m.1,m.2]
theorem dvd_of_gcd_one {k n m:Int} (h:Int.gcd k n=1) (hd:k∣n*m):k∣m:=by
 have:=(Int.dvd_gcd_mul_iff_dvd_mul (k:=k) (n:=n) (m:=m)).2 hd
 rw[h]at this
 simpa using this
theorem red_unique {p q p' q':Int} (q0:0<q) (q0':0<q') (g:gcdI p q=1) (g':gcdI p' q'=1) (h:p*q'=p'*q):p=p'∧q=q':=by
 unfold gcdI at g g'
 have g1:Int.gcd p q=1:=by omega
 have g2:Int.gcd p' q'=1:=by omega
 have d1:q∣q':=by
  have:q∣p*q':=⟨p',by rw[h,Int.mul_comm]⟩
  exact dvd_of_gcd_one (by rw[Int.gcd_comm]; exact g1) this
 have d2:q'∣q:=by
  have:q'∣p'*q:=⟨p,by rw[← h,Int.mul_comm]⟩
  exact dvd_of_gcd_one (by rw[Int.gcd_comm]; exact g2) this
 have e:q=q':=by
  have l1:=Int.le_of_dvd q0' d1
  have l2:=Int.le_of_dvd q0 d2
  omega
 subst e
 exact⟨Int.eq_of_mul_eq_mul_right (by omega) h,rfl⟩
theorem rd_unique {x y p q:Int} (hy:y≠0) (q0:0<q) (g:gcdI p q=1) (h:p*y=x*q):rdP x y=p∧rdQ x y=q:=by
 have m:=rd_mul (x:=x) hy
 have g0:=rg_ne (x:=x) hy
 refine red_unique (rdQ_pos hy) q0 (rd_gcd hy) g ?_
 have e:(rdP x y*q)*rg x y=(p*rdQ x y)*rg x y:=by
  rw[Int.mul_right_comm,m.1,Int.mul_assoc,m.2]; exact h.symm
 exact Int.eq_of_mul_eq_mul_right g0 e
theorem rd_abs {x y:Int} (h:y≠0):absN (rdP x y)≤absN x∧absN (rdQ x y)≤absN y∧absN (rg x y)≤absN y:=by
 have m:=rd_mul (x:=x) h
 have g0:=rg_ne (x:=x) h
 have key:∀a g:Int,g≠0→absN a≤absN (a*g):=fun a g hg=>by
  unfold absN
  rw[Int.natAbs_mul]
  have:1≤g.natAbs:=by omega
  have:=Nat.mul_le_mul_left a.natAbs this
  omega
 have k1:=key (rdP x y) (rg x y) g0
 have k2:=key (rdQ x y) (rg x y) g0
 have q0:=rdQ_pos (x:=x) h
 have k3:=key (rg x y) (rdQ x y) (by omega)
 rw[m.1]at k1
 rw[m.2]at k2
 rw[Int.mul_comm,m.2]at k3
 exact⟨k1,k2,k3⟩
theorem Frc.mk' {w:World} {a b:Bool} {s t:Value} {p q:Int} (h1:Num w (.agg #[.bool a,s]) p) (h2:Num w (.agg #[.bool b,t]) q) (q0:0<q) (hg:gcdI p q=1) (fp:fits p) (fq:fits q):Frc w (.agg #[.bool a,s,.bool b,t]) p q:=by
 obtain⟨s1,e1,l1⟩:=h1
 obtain⟨s2,e2,l2⟩:=h2
 simp only[Value.agg.injEq,Array.mk.injEq,List.cons.injEq,Value.bool.injEq,and_true]at e1 e2
 obtain⟨rfl,rfl⟩:=e1
 obtain⟨rfl,rfl⟩:=e2
 rw[absN_of (by omega)]at l2
 exact⟨s,t,by rw[decide_eq_false (by omega:¬q<0)],l1,l2,q0,hg,fp,fq⟩
theorem Frc.nums {w:World} {v:Value} {p q:Int} (h:Frc w v p q):∃ap np cp aq nq cq,v = .agg #[.bool (decide (p<0)),.slice ap np cp,.bool false,.slice aq nq cq]∧Num w (.agg #[.bool (decide (p<0)),.slice ap np cp]) p∧Num w (.agg #[.bool false,.slice aq nq cq]) q:=by
 obtain⟨sp,sq,rfl,lp,lq,q0,hg,fp,fq⟩:=h
 obtain⟨ap,cp,e1⟩:=lp.shape
 obtain⟨aq,cq,e2⟩:=lq.shape
 refine⟨ap,(limbs (absN p)).length,cp,aq,(limbs q).length,cq,by rw[e1,e2],⟨_,rfl,by rw[← e1]; exact lp⟩,⟨_,by rw[decide_eq_false (by omega:¬q<0)],by rw[absN_of (by omega),← e2]; exact lq⟩⟩
def Only (r:Nat) (w w':World):Prop:=w'.heap.size=w.heap.size∧∀k,k≠r→w'.heap[k]? = w.heap[k]?
theorem Only.refl (r:Nat) (w:World):Only r w w:=⟨rfl,fun _ _=>rfl⟩
theorem Only.set {r i:Nat} {w w':World} {u:Value} (h:Only r w w'):Only r w (w'.setCell ⟨r,i,none⟩ u):=
 ⟨by rw[World.size_setCell]; exact h.1,fun k hk=>(Below.heap_setCell w' ⟨r,i,none⟩ u k hk).trans (h.2 k hk)⟩
def noU32 (cs:Array Value):Bool:=cs.toList.all fun v=>match v with | .int .u32 _=>false | _=>true
theorem noU32_get {cs:Array Value} {k:Nat} {x:Int} (h:noU32 cs=true):cs[k]?≠some (.int .u32 x):=by
 intro e
 obtain⟨hk,e⟩:=Array.getElem?_eq_some_iff.1 e
 have:=List.all_eq_true.1 h cs[k] (by simp)
 rw[e]at this
 cases this
theorem Lim.only {w w':World} {v:Value} {l:List Int} {r:Nat} {t:TypeId} {cs:Array Value} (h:Lim w v l) (hb:Blk w r t cs) (hn:noU32 cs=true) (ho:Only r w w'):Lim w' v l:=by
 obtain⟨h0,ao',cap,rfl,h1,h3,h2⟩:=h
 refine⟨h0,ao',cap,rfl,h1,h3,fun hne=> ?_⟩
 obtain⟨b,o,rfl,hbb,hc⟩:=h2 hne
 have hr:b≠r:=by
  rintro rfl
  have g:=hc 0 (List.length_pos_iff.2 hne)
  rw[hb.cell]at g
  exact noU32_get hn g
 exact⟨b,o,rfl,by rw[ho.1]; exact hbb,fun t ht=>(World.cell?_of_block (a:=⟨b,o+t,none⟩) (ho.2 b hr)).trans (hc t ht)⟩
theorem Num.only {w w':World} {v:Value} {z:Int} {r:Nat} {t:TypeId} {cs:Array Value} (h:Num w v z) (hb:Blk w r t cs) (hn:noU32 cs=true) (ho:Only r w w'):Num w' v z:=by
 obtain⟨s,e,hl⟩:=h
 exact⟨s,e,hl.only hb hn ho⟩
theorem Frc.only {w w':World} {v:Value} {p q:Int} {r:Nat} {t:TypeId} {cs:Array Value} (h:Frc w v p q) (hb:Blk w r t cs) (hn:noU32 cs=true) (ho:Only r w w'):Frc w' v p q:=by
 obtain⟨sp,sq,e,l1,l2,h⟩:=h
 exact⟨sp,sq,e,l1.only hb hn ho,l2.only hb hn ho,h⟩
theorem Frc.alloc_ {w:World} {v:Value} {p q:Int} (h:Frc w v p q) (o:Obj):Frc (w.alloc o) v p q:=h.steps ((Below.refl _ _).alloc (Nat.le_refl _) _)
theorem Frc.shape {w:World} {v:Value} {p q:Int} (h:Frc w v p q):∃a s n c b t m d,v = .agg #[.bool a,.slice s n c,.bool b,.slice t m d]:=by
 obtain⟨ap,np,cp,aq,nq,cq,e,-⟩:=h.nums
 exact⟨_,_,_,_,_,_,_,_,e⟩
theorem fits_neg {x:Int} (h:fits x):fits (-x):=by
 unfold fits at *
 rw[show absN (-x)=absN x by unfold absN; omega]
 exact h
theorem zv_not (x:Int):zv (!decide (x<0)) (absN x) = -x:=by
 unfold zv absN
 by_cases h:x<0
 · rw[decide_eq_true h]; simp; omega
 · rw[decide_eq_false h]; simp; omega
end Go.Proofs.YtdkcffnmlllamaaGreat
/- Fractions in memory as rational numbers; their sizes. -/
namespace Go.Proofs.YtdkcffnmlllamaaGreat
open Go.RowKit
def cmpQ (r s:Rat):Int:=if r=s then 0 else if r<s then -1 else 1
theorem gcd_rat (r:Rat):gcdI r.num r.den=1:=by
 have h:=r.reduced
 unfold gcdI Int.gcd
 rw[Int.natAbs_natCast]
 have h2:Nat.gcd r.num.natAbs r.den=1:=h
 rw[h2]
 rfl
theorem den_pos' (r:Rat):(0:Int)<r.den:=by have:=r.den_nz; omega
theorem rat_of {p q:Int} (q0:0<q) (hg:gcdI p q=1):∃r:Rat,r.num=p∧(r.den:Int)=q:=by
 refine⟨⟨p,q.toNat,by omega,?_⟩,rfl,?_⟩
 ·
  unfold gcdI Int.gcd at hg
  have e:q.natAbs=q.toNat:=by omega
  rw[e]at hg
  show Nat.gcd p.natAbs q.toNat=1
  omega
 ·
  show ((q.toNat:Nat):Int)=q
  omega
theorem cmpI_rat (r s:Rat):cmpI (r.num*s.den) (s.num*r.den)=cmpQ r s:=by
 unfold cmpI cmpQ
 by_cases h:r=s
 · rw[if_pos h,if_pos (Rat.eq_iff_mul_eq_mul.1 h)]
 ·
  rw[if_neg h,if_neg (fun e=>h (Rat.eq_iff_mul_eq_mul.2 e))]
  by_cases h2:r<s
  · rw[if_pos h2,if_pos ((Rat.lt_iff r s).1 h2)]
  · rw[if_neg h2,if_neg (fun e=>h2 ((Rat.lt_iff r s).2 e))]
theorem cmpQ_lt {r s:Rat} : cmpQ r s<0↔r<s:=by
 rw[← cmpI_rat,cmpI_neg,Rat.lt_iff]
theorem cmpQ_le {r s:Rat} : cmpQ r s≤0↔r≤s:=by
 rw[← cmpI_rat,cmpI_le,Rat.le_iff]
theorem rat_frac (x y:Int):(x:Rat) / (y:Rat)=Rat.divInt x y:=(Rat.divInt_eq_div x y).symm
theorem frac_mul {x y:Int} (hy:y≠0):((x:Rat) / (y:Rat)).num*y=x*(((x:Rat) / (y:Rat)).den:Int):=by
 have h:=Rat.num_divInt_den ((x:Rat) / (y:Rat))
 conv at h=>rhs; rw[rat_frac]
 exact(Rat.divInt_eq_divInt_iff (by have:=den_pos' ((x:Rat) / (y:Rat)); omega) hy).1 h
theorem rd_rat {x y:Int} (hy:y≠0):rdP x y=((x:Rat) / (y:Rat)).num∧rdQ x y=(((x:Rat) / (y:Rat)).den:Int):=
 rd_unique hy (den_pos' _) (gcd_rat _) (frac_mul hy)
def sz (r:Rat) (k:Nat):Prop:=absN r.num≤bp k∧(r.den:Int)≤bp k
theorem sz.mono {r:Rat} {i j:Nat} (h:sz r i) (hij:i≤j):sz r j:=⟨Int.le_trans h.1 (bp_mono hij),Int.le_trans h.2 (bp_mono hij)⟩
theorem sz_frac {x y:Int} {k:Nat} (hy:y≠0) (hx:absN x≤bp k) (hy2:absN y≤bp k):sz ((x:Rat) / (y:Rat)) k:=by
 have h:=rd_abs (x:=x) hy
 rw[(rd_rat hy).1,(rd_rat hy).2]at h
 refine⟨Int.le_trans h.1 hx,?_⟩
 have:=h.2.1
 rw[absN_of (by have:=den_pos' ((x:Rat) / (y:Rat)); omega)]at this
 exact Int.le_trans this hy2
theorem absN_mul (x y:Int):absN (x*y)=absN x*absN y:=by unfold absN; rw[Int.natAbs_mul]; simp
theorem absN_mul_le {x y:Int} {i j:Nat} (hx:absN x≤bp i) (hy:absN y≤bp j):absN (x*y)≤bp (i+j):=by
 rw[absN_mul,bp_add]
 exact Int.mul_le_mul hx hy (absN_nonneg y) (by have:=bp_pos i; omega)
theorem absN_add_le {x y:Int} {i:Nat} (hx:absN x≤bp i) (hy:absN y≤bp i):absN (x+y)≤bp (i+1):=by
 have h:=bp_succ i
 have h1:=bp_pos i
 have h2:absN (x+y)≤absN x+absN y:=by unfold absN; omega
 omega
theorem absN_neg (x:Int):absN (-x)=absN x:=by unfold absN; omega
theorem den_abs (r:Rat):absN (r.den:Int)=r.den:=absN_of (by have:=den_pos' r; omega)
theorem fits_bp {z:Int} {k:Nat} (h:absN z≤bp k) (hk:k≤4095):fits z:=by
 unfold fits
 refine(limbs_length (absN_nonneg z) 4096).2 ?_
 have h1:=bp_mono hk
 have h2:bp 4096=4294967296*bp 4095:=bp_succ 4095
 have h3:=bp_pos 4095
 omega
theorem cast_den (r:Rat):((r.den:Int):Rat)=(r.den:Rat):=Rat.intCast_natCast _
theorem den_ne (r:Rat):(r.den:Rat)≠0:=fun h=>r.den_nz (Rat.natCast_eq_zero_iff.1 h)
theorem self_div (r:Rat):r=(r.num:Rat) / ((r.den:Int):Rat):=by rw[rat_frac,Rat.num_divInt_den]
theorem num_eq (r:Rat):(r.num:Rat)=r*(r.den:Rat):=by
 have:=self_div r
 rw[cast_den]at this
 have h:=Rat.div_mul_cancel (a:=(r.num:Rat)) (den_ne r)
 rw[← this]at h
 exact h.symm
theorem div_of_mul {x y z:Rat} (hy:y≠0) (h:x=z*y):x / y=z:=by rw[h]; exact Rat.mul_div_cancel hy
theorem mul_frac (r s:Rat):((r.num*s.num:Int):Rat) / ((r.den*s.den:Int):Rat)=r*s:=by
 refine div_of_mul ?_ ?_
 ·
  rw[Rat.intCast_mul,cast_den,cast_den]
  intro h
  rcases Rat.mul_eq_zero.1 h with h | h
  · exact den_ne r h
  · exact den_ne s h
 ·
  rw[Rat.intCast_mul,Rat.intCast_mul,cast_den,cast_den,num_eq r,num_eq s]
  grind
theorem add_frac (r s:Rat):((r.num*s.den+s.num*r.den:Int):Rat) / ((r.den*s.den:Int):Rat)=r+s:=by
 refine div_of_mul ?_ ?_
 ·
  rw[Rat.intCast_mul,cast_den,cast_den]
  intro h
  rcases Rat.mul_eq_zero.1 h with h | h
  · exact den_ne r h
  · exact den_ne s h
 ·
  rw[Rat.intCast_add,Rat.intCast_mul,Rat.intCast_mul,Rat.intCast_mul,cast_den,cast_den,num_eq r,num_eq s]
  grind
theorem sub_frac (r s:Rat):((r.num*s.den-s.num*r.den:Int):Rat) / ((r.den*s.den:Int):Rat)=r-s:=by
 refine div_of_mul ?_ ?_
 ·
  rw[Rat.intCast_mul,cast_den,cast_den]
  intro h
  rcases Rat.mul_eq_zero.1 h with h | h
  · exact den_ne r h
  · exact den_ne s h
 ·
  rw[Rat.intCast_sub,Rat.intCast_mul,Rat.intCast_mul,Rat.intCast_mul,cast_den,cast_den,num_eq r,num_eq s]
  grind
theorem num_ne {s:Rat} (h:s≠0):s.num≠0:=fun e=>h (Rat.num_eq_zero.1 e)
theorem div_frac (r:Rat) {s:Rat} (hs:s≠0):((r.num*s.den:Int):Rat) / ((r.den*s.num:Int):Rat)=r / s:=by
 have h1:=num_eq r
 have h2:=num_eq s
 have h3:=den_ne r
 have h4:=den_ne s
 refine div_of_mul ?_ ?_
 ·
  rw[Rat.intCast_mul,cast_den,h2]
  intro h
  rcases Rat.mul_eq_zero.1 h with h | h
  · exact h3 h
  ·
   rcases Rat.mul_eq_zero.1 h with h | h
   · exact hs h
   · exact h4 h
 ·
  rw[Rat.intCast_mul,Rat.intCast_mul,cast_den,cast_den,h1,h2]
  have e:=Rat.div_mul_cancel (a:=r) hs
  have e2:r / s*(↑r.den*(s*↑s.den))=(r / s*s)*(↑r.den*↑s.den):=by grind
  rw[e2,e]
  grind
theorem dens_ne (r s:Rat):(r.den*s.den:Int)≠0:=by
 have:=Int.mul_pos (den_pos' r) (den_pos' s)
 omega
theorem sz.mul {r s:Rat} {i j:Nat} (hr:sz r i) (hs:sz s j):sz (r*s) (i+j):=by
 rw[← mul_frac]
 exact sz_frac (dens_ne r s) (absN_mul_le hr.1 hs.1) (absN_mul_le (by rw[den_abs]; exact hr.2) (by rw[den_abs]; exact hs.2))
theorem sum_size {r s:Rat} {i j:Nat} (hr:sz r i) (hs:sz s j):absN (r.num*s.den)≤bp (i+j)∧absN (s.num*r.den)≤bp (i+j)∧absN (r.den*s.den:Int)≤bp (i+j):=by
 have d1:absN (r.den:Int)≤bp i:=by rw[den_abs]; exact hr.2
 have d2:absN (s.den:Int)≤bp j:=by rw[den_abs]; exact hs.2
 have h2:=absN_mul_le hs.1 d1
 rw[Nat.add_comm]at h2
 exact⟨absN_mul_le hr.1 d2,h2,absN_mul_le d1 d2⟩
theorem sz.add {r s:Rat} {i j:Nat} (hr:sz r i) (hs:sz s j):sz (r+s) (i+j+1):=by
 obtain⟨h1,h2,h3⟩:=sum_size hr hs
 rw[← add_frac]
 exact sz_frac (dens_ne r s) (absN_add_le h1 h2) (Int.le_trans h3 (bp_mono (by omega)))
theorem sz.sub {r s:Rat} {i j:Nat} (hr:sz r i) (hs:sz s j):sz (r-s) (i+j+1):=by
 obtain⟨h1,h2,h3⟩:=sum_size hr hs
 rw[← sub_frac,Int.sub_eq_add_neg]
 exact sz_frac (dens_ne r s) (absN_add_le h1 (by rw[absN_neg]; exact h2)) (Int.le_trans h3 (bp_mono (by omega)))
theorem sz.neg {r:Rat} {i:Nat} (hr:sz r i):sz (-r) i:=⟨by rw[Rat.neg_num,absN_neg]; exact hr.1,hr.2⟩
theorem dens_ne' (r:Rat) {s:Rat} (hs:s≠0):(r.den*s.num:Int)≠0:=by
 intro h
 rcases Int.mul_eq_zero.1 h with h | h
 · have:=den_pos' r; omega
 · exact num_ne hs h
theorem sz_int {x:Int} {k:Nat} (h:absN x≤bp k):sz (x:Rat) k:=⟨h,by have:=bp_pos k; simpa using this⟩
theorem sz.fits {r:Rat} {k:Nat} (h:sz r k) (hk:k≤4095):Go.Proofs.YtdkcffnmlllamaaGreat.fits r.num∧Go.Proofs.YtdkcffnmlllamaaGreat.fits (r.den:Int):=⟨fits_bp h.1 hk,fits_bp (by rw[den_abs]; exact h.2) hk⟩
def FR (w:World) (v:Value) (r:Rat):Prop:=Frc w v r.num r.den
theorem FR.steps {w w':World} {v:Value} {r:Rat} (h:FR w v r) (hs:Steps w w'):FR w' v r:=Frc.steps h hs
theorem Frc.fr {w:World} {v:Value} {p q:Int} (h:Frc w v p q):∃r:Rat,r.num=p∧(r.den:Int)=q∧FR w v r:=by
 have h':=h
 obtain⟨_,_,_,_,_,q0,hg,_,_⟩:=h'
 obtain⟨r,e1,e2⟩:=rat_of q0 hg
 refine⟨r,e1,e2,?_⟩
 unfold FR
 rw[e1,e2]
 exact h
theorem FR.of_rd {w:World} {v:Value} {x y:Int} (hy:y≠0) (h:Frc w v (rdP x y) (rdQ x y)):FR w v ((x:Rat) / (y:Rat)):=by
 unfold FR
 rw[← (rd_rat hy).1,← (rd_rat hy).2]
 exact h
theorem FR.only {w w':World} {v:Value} {q:Rat} {r:Nat} {t:TypeId} {cs:Array Value} (h:FR w v q) (hb:Blk w r t cs) (hn:noU32 cs=true) (ho:Only r w w'):FR w' v q:=Frc.only h hb hn ho
theorem FR.alloc_ {w:World} {v:Value} {q:Rat} (h:FR w v q) (o:Obj):FR (w.alloc o) v q:=Frc.alloc_ h o
end Go.Proofs.YtdkcffnmlllamaaGreat
/- What reads as limbs goes on to do so: 'Keeps'; drawn regions whose calls yield numbers and fractions. -/
namespace Go.Proofs.YtdkcffnmlllamaaGreat
open Go.RowKit
theorem Blk.four {w:World} {g:Nat} {t:TypeId} {a b c d x y z u:Value} (h:Blk w g t #[a,b,c,d]) :
  Blk ((((w.setCell ⟨g,0,none⟩ x).setCell ⟨g,1,none⟩ y).setCell ⟨g,2,none⟩ z).setCell ⟨g,3,none⟩ u) g t #[x,y,z,u]:=(((h.set_ 0 x).set_ 1 y).set_ 2 z).set_ 3 u
theorem Blk.at0 {w:World} {g:Nat} {t:TypeId} {a b c d x:Value} (h:Blk w g t #[a,b,c,d]):Blk (w.setCell ⟨g,0,none⟩ x) g t #[x,b,c,d]:=h.set_ 0 x
theorem ownK {w:World} {g:Nat} {t:TypeId} {cs:Array Value} (h:Blk w g t cs:=by (repeat' first | with_reducible assumption | (with_reducible refine Blk.new' ?_; first | with_reducible rfl | (simp only[World.size_alloc,World.size_setCell,World.size_drew]; done)) | with_reducible refine Blk.alloc ?_ _ | with_reducible refine Blk.drew ?_ | with_reducible refine Blk.drewN ?_ _ | with_reducible apply Blk.both | with_reducible apply Blk.four | with_reducible apply Blk.at0 | with_reducible refine Blk.far' ?_ ?_ | (show _≠_; omega))):Blk w g t cs:=h
theorem Blk.stepsK {w w':World} {g:Nat} {t:TypeId} {cs:Array Value} (st:Steps w w') (h:Blk w g t cs:=by (repeat' first | with_reducible assumption | (with_reducible refine Blk.new' ?_; first | with_reducible rfl | (simp only[World.size_alloc,World.size_setCell,World.size_drew]; done)) | with_reducible refine Blk.alloc ?_ _ | with_reducible refine Blk.drew ?_ | with_reducible refine Blk.drewN ?_ _ | with_reducible apply Blk.both | with_reducible apply Blk.four | with_reducible apply Blk.at0 | with_reducible refine Blk.far' ?_ ?_ | (show _≠_; omega))):Blk w' g t cs:=h.steps st
theorem Blk.stp {w0 w w':World} {g:Nat} {t:TypeId} {cs:Array Value} (_o:Blk w0 g t cs) (st:Steps w w') (h:Blk w g t cs:=by (repeat' first | with_reducible assumption | (with_reducible refine Blk.new' ?_; first | with_reducible rfl | (simp only[World.size_alloc,World.size_setCell,World.size_drew]; done)) | with_reducible refine Blk.alloc ?_ _ | with_reducible refine Blk.drew ?_ | with_reducible refine Blk.drewN ?_ _ | with_reducible apply Blk.both | with_reducible apply Blk.four | with_reducible apply Blk.at0 | with_reducible refine Blk.far' ?_ ?_ | (show _≠_; omega))):Blk w' g t cs:=h.steps st
def Keeps (w w':World):Prop:=∀v l,Lim w v l→Lim w' v l
section
variable {w w' w'':World}
theorem Keeps.refl (w:World):Keeps w w:=fun _ _ h=>h
theorem Keeps.trans (h:Keeps w w') (h':Keeps w' w''):Keeps w w'':=fun v l x=>h' v l (h v l x)
theorem Keeps.steps (h:Steps w w'):Keeps w w':=fun _ _ x=>x.steps h
theorem Keeps.then_ (h:Keeps w w') (h':Steps w' w''):Keeps w w'':=h.trans (Keeps.steps h')
theorem Keeps.alloc (h:Keeps w w') (o:Obj):Keeps w (w'.alloc o):=h.then_ ((Below.refl _ _).alloc (Nat.le_refl _) _)
theorem Keeps.drew (h:Keeps w w'):Keeps w w'.drew:=fun v l x=>h v l x
theorem Keeps.drewN (h:Keeps w w') (n:Nat):Keeps w (w'.drewN n):=fun v l x=>h v l x
def NoU (w:World) (r:Nat):Prop:=∃t cs,Blk w r t cs∧noU32 cs=true
def plainV (v:Value):Bool:=match v with | .int .u32 _=>false | _=>true
theorem noU32_set {cs:Array Value} {i:Nat} {u:Value} (h:noU32 cs=true) (hu:plainV u=true):noU32 (cs.setIfInBounds i u)=true:=by
 unfold noU32 at *
 rw[List.all_eq_true]at *
 intro x hx
 rw[Array.toList_setIfInBounds]at hx
 rcases List.mem_or_eq_of_mem_set hx with g | g
 · exact h x g
 · subst g; exact hu
theorem NoU.of {r:Nat} {t:TypeId} {cs:Array Value} (h:Blk w r t cs) (hn:noU32 cs=true):NoU w r:=⟨t,cs,h,hn⟩
theorem NoU.alloc {r:Nat} (h:NoU w r) (o:Obj):NoU (w.alloc o) r:=by obtain⟨t,cs,h,e⟩:=h; exact⟨t,cs,h.alloc o,e⟩
theorem NoU.drew {r:Nat} (h:NoU w r):NoU w.drew r:=by obtain⟨t,cs,h,e⟩:=h; exact⟨t,cs,h.drew,e⟩
theorem NoU.drewN {r:Nat} (h:NoU w r) (n:Nat):NoU (w.drewN n) r:=by obtain⟨t,cs,h,e⟩:=h; exact⟨t,cs,h.drewN n,e⟩
theorem NoU.set {r b i:Nat} {u:Value} (h:NoU w r) (hu:plainV u=true):NoU (w.setCell ⟨b,i,none⟩ u) r:=by
 obtain⟨t,cs,h,e⟩:=h
 by_cases hb:r=b
 · subst hb; exact⟨t,_,h.set_ i u,noU32_set e hu⟩
 · exact⟨t,cs,h.far' hb,e⟩
theorem NoU.new {r:Nat} {t:TypeId} {cs:Array Value} (h:w.heap.size=r) (e:noU32 cs=true):NoU (w.alloc (.cells cs t)) r:=⟨t,cs,Blk.new' h,e⟩
theorem NoU.steps {r:Nat} (h:NoU w r) (st:Steps w w'):NoU w' r:=by obtain⟨t,cs,h,e⟩:=h; exact⟨t,cs,h.steps st,e⟩
theorem Keeps.set {r i:Nat} {u:Value} (h:Keeps w w') (hn:NoU w' r):Keeps w (w'.setCell ⟨r,i,none⟩ u):=by
 obtain⟨t,cs,hb,e⟩:=hn
 exact fun v l x=>(h v l x).only hb e ((Only.refl _ _).set)
theorem Keeps.only {r:Nat} {t:TypeId} {cs:Array Value} (hb:Blk w r t cs) (hn:noU32 cs=true) (ho:Only r w w'):Keeps w w':=fun _ _ x=>x.only hb hn ho
theorem Num.keeps {v:Value} {z:Int} (h:Num w v z) (k:Keeps w w'):Num w' v z:=by
 obtain⟨s,e,hl⟩:=h
 exact⟨s,e,k _ _ hl⟩
theorem Frc.keeps {v:Value} {p q:Int} (h:Frc w v p q) (k:Keeps w w'):Frc w' v p q:=by
 obtain⟨sp,sq,e,l1,l2,h⟩:=h
 exact⟨sp,sq,e,k _ _ l1,k _ _ l2,h⟩
theorem FR.keeps {v:Value} {r:Rat} (h:FR w v r) (k:Keeps w w'):FR w' v r:=Frc.keeps h k
theorem Lim.keeps {v:Value} {l:List Int} (h:Lim w v l) (k:Keeps w w'):Lim w' v l:=k _ _ h
theorem FR.shape {v:Value} {r:Rat} (h:FR w v r):∃a s n c b t m d,v = .agg #[.bool a,.slice s n c,.bool b,.slice t m d]:=Frc.shape h
theorem FR.nums {v:Value} {r:Rat} (h:FR w v r):∃ap np cp aq nq cq,v = .agg #[.bool (decide (r<0)),.slice ap np cp,.bool false,.slice aq nq cq]∧Num w (.agg #[.bool (decide (r<0)),.slice ap np cp]) r.num∧Num w (.agg #[.bool false,.slice aq nq cq]) (r.den:Int)∧(np=0↔r=0):=by
 have h2:=h
 obtain⟨sp,sq,rfl,lp,lq,q0,hg,fp,fq⟩:=h
 obtain⟨ap,cp,e1⟩:=lp.shape
 obtain⟨aq,cq,e2⟩:=lq.shape
 have e3:decide (r<0)=decide (r.num<0):=by
  have:r<0↔r.num<0:=by
   rw[← Rat.not_le,← Rat.num_nonneg]; omega
  simp[this]
 refine⟨ap,(limbs (absN r.num)).length,cp,aq,(limbs (r.den:Int)).length,cq,by rw[e1,e2,e3],⟨_,by rw[e3],by rw[← e1]; exact lp⟩,⟨_,by rw[decide_eq_false (by omega:¬(r.den:Int)<0)],by rw[absN_of (by omega),← e2]; exact lq⟩,?_⟩
 rw[List.length_eq_zero_iff,limbs_nil (absN_nonneg _),← Rat.num_eq_zero]
 unfold absN; omega
theorem FR.fit {v:Value} {r:Rat} (h:FR w v r):fits r.num∧fits (r.den:Int):=by
 obtain⟨_,_,_,_,_,q0,_,fp,fq⟩:=h
 exact⟨fp,fq⟩
end
theorem keepsB {w W:World} (h:Keeps w W:=by (repeat' first | with_reducible assumption | with_reducible exact Keeps.refl _ | with_reducible refine Keeps.alloc ?_ _ | with_reducible refine Keeps.drew ?_ | with_reducible refine Keeps.drewN ?_ _ | with_reducible refine Keeps.set ?_ ?_ | ((with_reducible apply NoU.of); (with_reducible assumption); exact Eq.refl true) | with_reducible refine NoU.alloc ?_ _ | with_reducible refine NoU.drew ?_ | with_reducible refine NoU.drewN ?_ _ | refine NoU.set ?_ (Eq.refl true) | (refine NoU.new ?_ (Eq.refl true); first | with_reducible rfl | (simp only[World.size_alloc,World.size_setCell,World.size_drew]; done)))):Keeps w W:=h
def gw:List (Nat×(Value→World→Prop))→Nat→Value→World→Prop
 | [],_,_,_=>True
 | (i,e)::r,k,x,W=>if k=i then e x W else gw r k x W
theorem gw_keeps (l:List (Nat×(Value→World→Prop))) (h:∀p∈l,∀x W W',Keeps W W'→p.2 x W→p.2 x W') {k:Nat} {x:Value} {W W':World} (hk:Keeps W W') (hg:gw l k x W):gw l k x W':=by
 induction l with
 | nil=>exact hg
 | cons p r ih=>
  obtain⟨i,e⟩:=p
  unfold gw at hg⊢
  by_cases hi:k=i
  · rw[if_pos hi]at hg⊢; exact h _ (.head _) x W W' hk hg
  · rw[if_neg hi]at hg⊢; exact ih (fun p hp=>h p (.tail _ hp)) hg
def IsFr (x:Value):Prop:=∃a s n c b t m d,x = .agg #[.bool a,.slice s n c,.bool b,.slice t m d]
def IsFrE (e:Int) (x:Value):Prop:=∃a s n c b t m d,x = .tuple #[.agg #[.bool a,.slice s n c,.bool b,.slice t m d],.int .i64 e]
def IsNu (x:Value):Prop:=∃a s n c,x = .agg #[.bool a,.slice s n c]
def IsNuE (e:Int) (x:Value):Prop:=∃a s n c,x = .tuple #[.agg #[.bool a,.slice s n c],.int .i64 e]
def Reg.cat (l:List (Array Value)):Array Value:=(l.flatMap Array.toList).toArray
def IsLi (x:Value):Prop:=∃s n c,x = .slice s n c
def GLi (p:List Int→Prop) (x:Value) (W:World):Prop:=∃l,p l∧Lim W x l
theorem GLi.keeps {p:List Int→Prop} (x:Value) (W W':World) (k:Keeps W W') (h:GLi p x W):GLi p x W':=by obtain⟨l,h1,h2⟩:=h; exact⟨l,h1,k _ _ h2⟩
theorem GLi.shape {p:List Int→Prop} {x:Value} {W:World} (h:GLi p x W):∃s n c,x = .slice s n c:=by obtain⟨l,_,h2⟩:=h; obtain⟨s,c,e⟩:=h2.shape; exact⟨s,_,c,e⟩
def IsPtr (x:Value):Prop:=∃g:Nat,x = .pointer (some ⟨g,0,none⟩)
def GFr (r:Rat) (x:Value) (W:World):Prop:=FR W x r
def GFrE (r:Rat) (e:Int) (x:Value) (W:World):Prop:=∃v,x = .tuple #[v,.int .i64 e]∧FR W v r
def GNu (z:Int) (x:Value) (W:World):Prop:=Num W x z
def GNuE (z e:Int) (x:Value) (W:World):Prop:=∃v,x = .tuple #[v,.int .i64 e]∧Num W v z
def GNo (_:Value) (_:World):Prop:=True
theorem GFr.keeps {r:Rat} (x:Value) (W W':World) (k:Keeps W W') (h:GFr r x W):GFr r x W':=FR.keeps h k
theorem GFrE.keeps {r:Rat} {e:Int} (x:Value) (W W':World) (k:Keeps W W') (h:GFrE r e x W):GFrE r e x W':=by obtain⟨v,h1,h2⟩:=h; exact⟨v,h1,h2.keeps k⟩
theorem GNu.keeps {z:Int} (x:Value) (W W':World) (k:Keeps W W') (h:GNu z x W):GNu z x W':=Num.keeps h k
theorem GNuE.keeps {z e:Int} (x:Value) (W W':World) (k:Keeps W W') (h:GNuE z e x W):GNuE z e x W':=by obtain⟨v,h1,h2⟩:=h; exact⟨v,h1,h2.keeps k⟩
theorem GNo.keeps (x:Value) (W W':World) (_:Keeps W W') (_:GNo x W):GNo x W':=trivial
theorem GFrE.get {r:Rat} {e:Int} {v:Value} {W:World} (h:GFrE r e (.tuple #[v,.int .i64 e]) W):FR W v r:=by
 obtain⟨u,h1,h2⟩:=h
 simp only[Value.tuple.injEq,Array.mk.injEq,List.cons.injEq,and_true]at h1
 rw[h1]; exact h2
theorem GNuE.get {z e:Int} {v:Value} {W:World} (h:GNuE z e (.tuple #[v,.int .i64 e]) W):Num W v z:=by
 obtain⟨u,h1,h2⟩:=h
 simp only[Value.tuple.injEq,Array.mk.injEq,List.cons.injEq,and_true]at h1
 rw[h1]; exact h2
theorem Reg.gvA (l:List (Nat×(Value→Prop))) (h:∀p∈l,∃x,p.2 x:=by (repeat' refine List.forall_mem_cons.2 ⟨?_,?_⟩)<;>first | exact⟨_,rfl⟩ | exact⟨_,0,rfl⟩ | exact⟨_,none,0,0,rfl⟩ | exact⟨_,false,none,0,0,rfl⟩ | exact⟨_,false,none,0,0,false,none,0,0,rfl⟩ | (intro p hp; cases hp)):∀k,∃x,Reg.gv l k x:=Reg.gv_some l h
theorem jst {a W W2:World} (h:Below a.heap.size a W) (hs:Steps W W2):Below a.heap.size a W2:=below_steps h (Nat.le_refl _) hs
theorem jsz {n:Nat} {W W2:World} (h:n≤W.heap.size) (hs:Steps W W2):n≤W2.heap.size:=Nat.le_trans h hs.size
theorem tlt {x n:Nat} (h:Nat.ble (x+1) n=true):∀t,some x=some t→t<n:=by intro t ht; cases ht; exact Nat.le_of_ble_eq_true h
theorem kB (w:World) {W W':World} (st:Steps W W') (h:Keeps w W:=by (repeat' first | with_reducible assumption | with_reducible exact Keeps.refl _ | with_reducible refine Keeps.alloc ?_ _ | with_reducible refine Keeps.drew ?_ | with_reducible refine Keeps.drewN ?_ _ | with_reducible refine Keeps.set ?_ ?_ | ((with_reducible apply NoU.of); (with_reducible assumption); exact Eq.refl true) | with_reducible refine NoU.alloc ?_ _ | with_reducible refine NoU.drew ?_ | with_reducible refine NoU.drewN ?_ _ | refine NoU.set ?_ (Eq.refl true) | (refine NoU.new ?_ (Eq.refl true); first | with_reducible rfl | (simp only[World.size_alloc,World.size_setCell,World.size_drew]; done)))):Keeps w W':=Keeps.then_ h st
theorem Reg.RCv {P:Program} {ops:Array Oper} {Q:Exit→Act→World→Prop} {J:(Nat→Bool)→(Nat→Value)→World→Prop} {isC:Nat→Bool} {V:Nat→Value→Prop} {G:Nat→Value→World→Prop} {Sx:Nat→World→World→Prop} {Pan:List PanicEntry→World→Prop} {pre:Nat→List (Nat×Option Tmp)} {post:Nat→List Nat} {k:Nat} {o:Oper} {rest:List Oper} {a:Act} {f:FuncId} {args:Array Value} {val:Value} (hC:∀D v W,J D v W→Calls P f args W fun e w2=>e = .returned val∧Steps W w2) (hr:Reg.RC P ops Q J isC V G Sx Pan pre post (k+1) rest (a.put o.dst val)) (hc:isC k=true:=by exact rfl) (hb:∀t,o.dst=some t→t<a.tmps.size:=by exact tlt rfl) (hw:Region.wanted o (yielded ops a.tmps)=true:=by exact rfl)
  (js:∀D v D' v' W W2,J D v W→Steps W W2→J D' v' W2:=by (intro D v D' v' W W2 hj hs; first | exact⟨jst hj.1 hs,hj.2.1.then_ hs,jsz hj.2.2 hs⟩ | (refine⟨jst hj.1 hs,hj.2.1.then_ hs,jsz hj.2.2.1 hs,?_⟩; replace hj:=hj.2.2.2; repeat (first | exact Blk.steps hj hs | (refine⟨Blk.steps hj.1 hs,?_⟩; replace hj:=hj.2))))) (sx:∀W W2,Steps W W2→Sx k W W2:=by exact fun _ _ hs=>Keeps.steps hs) (hg:∀W,G k (Reg.dv o val) W:=by exact fun _=>trivial) (vk:V k (Reg.dv o val):=by exact rfl) (hv:∀x,V k x→x=val:=by exact fun _ h=>h)
  (h:∀W,(Calls P f args W fun e w2=>e = .returned val∧Steps W w2)→∀K:Act→World→Prop,Hid (∀W2,Steps W W2→K (a.put o.dst val) W2)→o.wp P a W K (fun e _ W'=>match e with | .panic c=>Pan c W' | _=>False):=by (intro W' hC K hK; go_step; refine hC.mono ?_; rintro e W2 ⟨rfl,hs⟩; exact hK.out W2 hs)):Reg.RC P ops Q J isC V G Sx Pan pre post k (o::rest) a:=
 Reg.RC_call hc hb hw (fun D v W _ hj _ K hK=>h W (hC D v W hj) K (Hid.mk_ fun W2 hs=>hK.out val W2 (sx W W2 hs) (js _ _ _ _ W W2 hj hs) (hg W2) vk)) (fun x hx=>hv x hx▸hr)
theorem Reg.RCw {P:Program} {ops:Array Oper} {Q:Exit→Act→World→Prop} {J:(Nat→Bool)→(Nat→Value)→World→Prop} {isC:Nat→Bool} {V:Nat→Value→Prop} {G:Nat→Value→World→Prop} {Sx:Nat→World→World→Prop} {Pan:List PanicEntry→World→Prop} {pre:Nat→List (Nat×Option Tmp)} {post:Nat→List Nat} {k:Nat} {o:Oper} {rest:List Oper} {a:Act} {f:FuncId} {args:Array Value} {val:Value} {L:Array Oper} (hL:ops=L) (hC:∀D v W,J D v W→Calls P f args W fun e w2=>e = .returned val∧Steps W w2) (hr:Reg.RC P ops Q J isC V G Sx Pan pre post (k+1) rest (a.put o.dst val)) (hc:isC k=true:=by exact rfl) (hb:∀t,o.dst=some t→t<a.tmps.size:=by exact tlt rfl) (hw:Region.wanted o (yielded L a.tmps)=true:=by exact rfl)
  (js:∀D v D' v' W W2,J D v W→Steps W W2→J D' v' W2:=by (intro D v D' v' W W2 hj hs; first | exact⟨jst hj.1 hs,hj.2.1.then_ hs,jsz hj.2.2 hs⟩ | (refine⟨jst hj.1 hs,hj.2.1.then_ hs,jsz hj.2.2.1 hs,?_⟩; replace hj:=hj.2.2.2; repeat (first | exact Blk.steps hj hs | (refine⟨Blk.steps hj.1 hs,?_⟩; replace hj:=hj.2))))) (sx:∀W W2,Steps W W2→Sx k W W2:=by exact fun _ _ hs=>Keeps.steps hs) (hg:∀W,G k (Reg.dv o val) W:=by exact fun _=>trivial) (vk:V k (Reg.dv o val):=by exact rfl) (hv:∀x,V k x→x=val:=by exact fun _ h=>h)
  (h:∀W,(Calls P f args W fun e w2=>e = .returned val∧Steps W w2)→∀K:Act→World→Prop,Hid (∀W2,Steps W W2→K (a.put o.dst val) W2)→o.wp P a W K (fun e _ W'=>match e with | .panic c=>Pan c W' | _=>False):=by (intro W' hC K hK; go_step; refine hC.mono ?_; rintro e W2 ⟨rfl,hs⟩; exact hK.out W2 hs)):Reg.RC P ops Q J isC V G Sx Pan pre post k (o::rest) a:=
 Reg.RC_call hc hb (by rw[hL]; exact hw) (fun D v W _ hj _ K hK=>h W (hC D v W hj) K (Hid.mk_ fun W2 hs=>hK.out val W2 (sx W W2 hs) (js _ _ _ _ W W2 hj hs) (hg W2) vk)) (fun x hx=>hv x hx▸hr)
theorem jb1 {a b W W2:World} {n:Nat} {g0:Nat} {t0:TypeId} {c0:Array Value} (h:Below a.heap.size a W∧Keeps b W∧n≤W.heap.size∧Blk W g0 t0 c0) (s:Steps W W2):Below a.heap.size a W2∧Keeps b W2∧n≤W2.heap.size∧Blk W2 g0 t0 c0:=⟨jst h.1 s,h.2.1.then_ s,jsz h.2.2.1 s,h.2.2.2.steps s⟩
theorem jb2 {a b W W2:World} {n:Nat} {g0:Nat} {t0:TypeId} {c0:Array Value} {g1:Nat} {t1:TypeId} {c1:Array Value} (h:Below a.heap.size a W∧Keeps b W∧n≤W.heap.size∧Blk W g0 t0 c0∧Blk W g1 t1 c1) (s:Steps W W2):Below a.heap.size a W2∧Keeps b W2∧n≤W2.heap.size∧Blk W2 g0 t0 c0∧Blk W2 g1 t1 c1:=⟨jst h.1 s,h.2.1.then_ s,jsz h.2.2.1 s,h.2.2.2.1.steps s,h.2.2.2.2.steps s⟩
theorem jb5 {a b W W2:World} {n:Nat} {g0:Nat} {t0:TypeId} {c0:Array Value} {g1:Nat} {t1:TypeId} {c1:Array Value} {g2:Nat} {t2:TypeId} {c2:Array Value} {g3:Nat} {t3:TypeId} {c3:Array Value} {g4:Nat} {t4:TypeId} {c4:Array Value} (h:Below a.heap.size a W∧Keeps b W∧n≤W.heap.size∧Blk W g0 t0 c0∧Blk W g1 t1 c1∧Blk W g2 t2 c2∧Blk W g3 t3 c3∧Blk W g4 t4 c4) (s:Steps W W2):Below a.heap.size a W2∧Keeps b W2∧n≤W2.heap.size∧Blk W2 g0 t0 c0∧Blk W2 g1 t1 c1∧Blk W2 g2 t2 c2∧Blk W2 g3 t3 c3∧Blk W2 g4 t4 c4:=⟨jst h.1 s,h.2.1.then_ s,jsz h.2.2.1 s,h.2.2.2.1.steps s,h.2.2.2.2.1.steps s,h.2.2.2.2.2.1.steps s,h.2.2.2.2.2.2.1.steps s,h.2.2.2.2.2.2.2.steps s⟩
theorem leD {n:Nat} {W:World} (h:Hid (n=W.heap.size)):n≤W.drew.heap.size:=Nat.le_of_eq h.out
/-- cells of one block written -/
structure Wr (r:Nat) (w w':World):Prop where
 os:w'.os=w.os
 tape:w'.tape=w.tape
 output:w'.output=w.output
 only:Only r w w'
theorem Wr.refl (r:Nat) (w:World):Wr r w w:=⟨rfl,rfl,rfl,Only.refl r w⟩
theorem Wr.set {r i:Nat} {w w':World} {u:Value} (h:Wr r w w'):Wr r w (w'.setCell ⟨r,i,none⟩ u):=⟨h.os,h.tape,h.output,h.only.set⟩
theorem Wr.b {r n:Nat} {a w w':World} (h:Wr r w w') (j:Below n a w) (hr:n≤r:=by omega):Below n a w':=j.trans ⟨h.os,h.tape,h.output,Nat.le_of_eq h.only.1.symm,fun k hk=>h.only.2 k (by omega)⟩
theorem Wr.n {r n:Nat} {w w':World} (h:Wr r w w') (j:n≤w.heap.size):n≤w'.heap.size:=h.only.1▸j
theorem Wr.k {r:Nat} {t:TypeId} {cs:Array Value} {w w':World} (h:Wr r w w') (hb:Blk w r t cs) (hn:noU32 cs=true:=by exact rfl):Keeps w w':=Keeps.only hb hn h.only
theorem Wr.f {r g:Nat} {t:TypeId} {cs:Array Value} {w w':World} (h:Wr r w w') (b:Blk w g t cs) (hne:g≠r:=by omega):Blk w' g t cs:=(h.only.2 g hne).trans b
theorem Blk.st {g i:Nat} {t:TypeId} {cs:Array Value} {w:World} {u:Value} (h:Blk w g t cs):Blk (w.setCell ⟨g,i,none⟩ u) g t (cs.setIfInBounds i u):=h.set_ i u
theorem Reg.chn {P:Program} {ops:Array Oper} {Q:Exit→Act→World→Prop} {id:Nat} {base:Act} {w:World} (J:Nat→(Nat→Bool)→(Nat→Value)→World→Prop) (cs:List Nat) (vs:List (Nat×(Value→Prop))) (gs:List (Nat×(Value→World→Prop))) (ps:List (Nat×List (Nat×Option Tmp))) (qs:List (Nat×List Nat))
  (h:∀n0,Hid (n0=w.heap.size)→(∀v,J n0 (fun _=>false) v w.drew)∧(∀D v v' W,(∀j,D j=true→v j=v' j)→J n0 D v W→J n0 D v' W)∧
   ∀ops' Q',ops'=ops→(∀a W,Q .normal a W→Q' .normal a W)→Reg.RC P ops' Q' (J n0) (Reg.inl cs) (Reg.gv vs) (gw gs) (fun _=>Keeps) (fun _ _=>False) (Reg.pl ps) (Reg.pl qs) 0 ops.toList base)
  (hm:P.follows .mixedOrders=true:=by kernel_rfl) (ht:Reg.tidy ops base.tmps.size=true:=by kernel_rfl) (hsub:Reg.subs ops (Reg.inl cs) (Reg.pl ps) (Reg.pl qs)=true:=by kernel_rfl)
  (hv:∀p∈vs,∃x,p.2 x:=by ((repeat' refine List.forall_mem_cons.2 ⟨?_,?_⟩)<;>first | exact⟨_,rfl⟩ | exact⟨_,0,rfl⟩ | exact⟨_,none,0,rfl⟩ | exact⟨_,none,0,0,rfl⟩ | exact⟨_,false,none,0,0,rfl⟩ | exact⟨_,false,none,0,0,false,none,0,0,rfl⟩ | (intro p hp; cases hp))) (hg:∀p∈gs,∀x W W',Keeps W W'→p.2 x W→p.2 x W':=by ((repeat' refine List.forall_mem_cons.2 ⟨?_,?_⟩)<;>first | exact GFr.keeps | exact GFrE.keeps | exact GNu.keeps | exact GNuE.keeps | exact GLi.keeps | (intro p hp; cases hp))):(Code.region id ops true).wp P Q base w:=
 Reg.wp_chain_n J (Reg.inl cs) (Reg.gv vs) (gw gs) (fun _=>Keeps) (fun _ _=>False) (Reg.pl ps) (Reg.pl qs) hm ht hsub (Reg.gv_some vs hv) fun n0 hn=>let ⟨h1,h2,h3⟩:=h n0 hn; ⟨h1,h2,fun _ _ _ _ _ _ _ _ _ _ _ hk hx=>gw_keeps gs hg hk hx,fun _ _ _ _ h=>h.elim,h3⟩
theorem wr1 {r i0:Nat} {u0:Value} {w:World} : Wr r w (World.setCell w ⟨r,i0,none⟩ u0):=(Wr.refl r w).set
theorem wr2 {r i0 i1:Nat} {u0 u1:Value} {w:World} : Wr r w (World.setCell (World.setCell w ⟨r,i0,none⟩ u0) ⟨r,i1,none⟩ u1):=(Wr.refl r w).set.set
theorem dS {p q r:Prop} {E:Array Value→Prop} {g:Nat} {t:TypeId} {c:Array Value} {W W2:World} (h:(p→Blk W g t c)∧(q→r∧∃cs,E cs∧Blk W g t cs)) (s:Steps W W2):(p→Blk W2 g t c)∧(q→r∧∃cs,E cs∧Blk W2 g t cs):=
 ⟨fun x=>(h.1 x).steps s,fun x=>let ⟨d,cs,e,hb⟩:=h.2 x; ⟨d,cs,e,hb.steps s⟩⟩
end Go.Proofs.YtdkcffnmlllamaaGreat
/- Great values stored and loaded whole: one step each. -/
namespace Go.Proofs.YtdkcffnmlllamaaGreat
open Go.RowKit
theorem ownD_ {w:World} {g:Nat} {t:TypeId} {cs cs':Array Value} (h:Blk w g t cs) (e:cs=cs'):Blk w g t cs':=e▸h
theorem ownD {w:World} {g:Nat} {t:TypeId} {cs:Array Value} (h:Blk w g t cs:=by (apply ownD_; (focus (repeat' first | with_reducible assumption | with_reducible apply Blk.alloc | with_reducible apply Blk.drew | with_reducible apply Blk.drewN | with_reducible apply Blk.set_ | with_reducible apply Blk.far' | (show _≠_; omega))); rfl)):Blk w g t cs:=h
structure RowTo (g:Nat) (t:TypeId) (old cs:Array Value) (w w':World):Prop where
 blk:Blk w' g t cs
 was:Blk w g t old
 is:w'=w.setRow g cs
theorem RowTo.mk_ {g:Nat} {t:TypeId} {old cs:Array Value} {w:World} (h:Blk w g t old):RowTo g t old cs w (w.setRow g cs):=by
 refine⟨?_,h,rfl⟩
 unfold Blk at *
 simp[World.setRow,Array.getElem?_modify,h]
theorem RowTo.far {g:Nat} {t:TypeId} {old cs:Array Value} {w w':World} (h:RowTo g t old cs w w') {g':Nat} {t':TypeId} {cs':Array Value} (hb:Blk w g' t' cs') (hne:g'≠g):Blk w' g' t' cs':=by
 obtain⟨_,_,rfl⟩:=h
 unfold Blk at *
 simp only[World.setRow,Array.getElem?_modify]
 rw[if_neg (Ne.symm hne)]; exact hb
theorem RowTo.only {g:Nat} {t:TypeId} {old cs:Array Value} {w w':World} (h:RowTo g t old cs w w'):Only g w w':=by
 obtain⟨_,_,rfl⟩:=h
 refine⟨by simp[World.setRow],fun k hk=> ?_⟩
 simp only[World.setRow,Array.getElem?_modify]
 rw[if_neg (Ne.symm hk)]
theorem RowTo.keeps {g:Nat} {t:TypeId} {old cs:Array Value} {w w':World} (h:RowTo g t old cs w w') (hn:noU32 old=true):Keeps w w':=Keeps.only h.was hn h.only
theorem RowTo.below {n:Nat} {w0:World} {g:Nat} {t:TypeId} {old cs:Array Value} {w w':World} (h:RowTo g t old cs w w') (hb:Below n w0 w) (hg:n≤g):Below n w0 w':=by
 have ho:=h.only
 obtain⟨_,_,rfl⟩:=h
 refine⟨hb.os,hb.tape,hb.output,by rw[ho.1]; exact hb.size,fun k hk=> ?_⟩
 rw[ho.2 k (by omega)]; exact hb.block k hk
theorem RowTo.steps {w0:World} {g:Nat} {t:TypeId} {old cs:Array Value} {w w':World} (h:RowTo g t old cs w w') (hb:Steps w0 w) (hg:w0.heap.size≤g):Steps w0 w':=h.below hb hg
section
variable {P:Program} {ops:Array Oper} {rest:List Oper} {o:Oper} {a:Act} {w:World} {Q:Exit→Act→World→Prop}
end
theorem results_row2 {P:Program} {fn:Func} {p q:Tmp} {ty:TypeId} (h:fn.results=#[.cell p ty,.tmp q]) (tmps:Array Value) (w:World) (g:Nat) {t:TypeId} {cs:Array Value} {d:TypeDesc}
  (hp:tmps.getD p undef = .pointer (some ⟨g,0,none⟩)) (hg:Blk w g t cs)
  (hu:P.underlying ty=some d) (hd:(match d with | .struct _ | .array _ _=>true | _=>false)=true) (hi:(P.info? ty).map (·.size)=some cs.size) :
  (results fn tmps).run P w = .ok (.tuple #[.agg cs,tmps.getD q undef]) w:=by
 have hp':tmps[p]?.getD undef = .pointer (some ⟨g,0,none⟩):=by simpa using hp
 simp[results,h,hp',asAddr,run_loadVar_row w g t ty cs (0,0) d hg hu hd hi]
theorem rnegN {va:Value} {x:Int} (w:World) (ha:Num w va x) (fx:fits x) :
  Calls Tryz.prog 126 #[va] w fun e w'=>∃v,e = .returned (.tuple #[v,.int .i64 0])∧Num w' v (-x)∧Steps w w':=by
 have fn:=fits_neg fx
 obtain⟨aa,ca,rfl,pa⟩:=ha.parts
 have ck:∀w',Steps w w'→Calls Tryz.prog 94 #[.agg #[.bool (decide (x<0)),.slice aa (limbs (absN x)).length ca]] w' fun e w2=>e = .returned (.int .i64 0)∧Steps w' w2:=fun w' h=>by
  have:=rcheckN (decide (x<0)) w' (pa.steps h)
  rw[show errC (valid (decide (x<0)) (limbs (absN x)))=0 from if_pos (valid_of fx)]at this
  exact this
 have mk:∀w',Steps w w'→Calls Tryz.prog 97 #[.bool (!decide (x<0)),.slice aa (limbs (absN x)).length ca] w' fun e w2=>∃v',e = .returned (.tuple #[v',.int .i64 0])∧Num w2 v' (-x)∧Steps w' w2:=fun w' h=>by
  have:=rmadeN (!decide (x<0)) w' (pa.steps h) (by unfold fits at fx; unfold few; omega)
  rw[lval_limbs (absN_nonneg x),zv_not,errN_fits fn,clipN_fits fn]at this
  exact this
 obtain⟨n,hn⟩:∃n,(limbs (absN x)).length=n:=⟨_,rfl⟩
 obtain⟨gx,hgx⟩:∃b,decide (x<0)=b:=⟨_,rfl⟩
 rw[hn,hgx]at ck mk⊢
 clear ha pa hn hgx fx fn
 go_enter Tryz.func126,Tryz.ntmps126
 go_wp2_with fail
 refine(ck _ belowB).mono ?_
 rintro e w1 ⟨rfl,st⟩
 have Bn:=bA w st
 have oa:Blk w1 (w.heap.size) 30 #[.bool gx,.slice aa n ca]:=Blk.stepsA st
 have or:Blk w1 (w.heap.size+1) 30 #[.bool false,.slice none 0 0]:=Blk.stepsA st
 clear st
 have B:=Bn
 clear Bn
 obtain⟨ca0,ca1,fa,la⟩:=oa.s1
 obtain⟨cr0,cr1,fr,lr⟩:=or.s1
 clear ck
 go_wp2_with fail
 refine(mk _ B).mono ?_
 rintro e w2 ⟨v2,rfl,hn2,st⟩
 have Bn:=bA w st
 have na:=oa.stq st
 have nr:=or.stq st
 clear B oa or ca0 ca1 fa la cr0 cr1 fr lr
 clear st
 have B:=Bn
 clear Bn
 have oa:=na
 clear na
 obtain⟨ca0,ca1,fa,la⟩:=oa.s1
 have or:=nr
 clear nr
 obtain⟨cr0,cr1,fr,lr⟩:=or.s1
 clear mk
 obtain⟨bb,ao,k,c,rfl⟩:=hn2.shape
 have HV:=Hid.mk_ hn2
 clear hn2
 go_wp2
 refine bodyPost_ret (by simp[results,Tryz.results126,go_sem,ca0,ca1,fa,la,cr0,cr1,fr,lr]; rfl) rfl ?_
 exact⟨_,rfl,HV.out.put2 or,belowB⟩
theorem rreduced {va vb:Value} {x y:Int} (w:World) (ha:Num w va x) (hb:Num w vb y) (fx:fits x) (fy:fits y) (hy:y≠0) :
  Calls Tryz.prog 96 #[va,vb] w fun e w'=>∃v,e = .returned v∧Frc w' v (rdP x y) (rdQ x y)∧Steps w w':=by
 have RA:=rd_abs (x:=x) hy
 have fP:fits (rdP x y):=fits_le RA.1 fx
 have fQ:fits (rdQ x y):=fits_le RA.2.1 fy
 have fG:fits (rg x y):=fits_le RA.2.2 fy
 have g0:=rg_ne (x:=x) hy
 have gc:=fun(w':World) (h:Steps w w')=>rgcd w' (ha.steps h) (hb.steps h) fx fy
 have d1:∀w' v,Steps w w'→Num w' v (rg x y)→Calls Tryz.prog 91 #[va,v] w' fun e w2=>∃q r,e = .returned (.tuple #[q,r,.int .i64 0])∧Num w2 q (rdP x y)∧Num w2 r (modF x (rg x y))∧Steps w' w2:=fun w' v h hv=>rdivmod w' (ha.steps h) hv fx fG g0
 have d2:∀w' v,Steps w w'→Num w' v (rg x y)→Calls Tryz.prog 91 #[vb,v] w' fun e w2=>∃q r,e = .returned (.tuple #[q,r,.int .i64 0])∧Num w2 q (rdQ x y)∧Num w2 r (modF y (rg x y))∧Steps w' w2:=fun w' v h hv=>rdivmod w' (hb.steps h) hv fy fG g0
 have MK:=Hid.mk_ (And.intro (rdQ_pos (x:=x) hy) (And.intro (rd_gcd (x:=x) hy) (And.intro fP fQ)))
 have fg:fits (gcdI x y):=by
  unfold rg at fG
  split at fG
  · have:=fits_neg fG; rwa[Int.neg_neg]at this
  · exact fG
 obtain⟨aa,ca,rfl,-⟩:=ha.parts
 obtain⟨ab,cb,rfl,-⟩:=hb.parts
 obtain⟨n,hn⟩:∃n,(limbs (absN x)).length=n:=⟨_,rfl⟩
 obtain⟨m,hm⟩:∃m,(limbs (absN y)).length=m:=⟨_,rfl⟩
 rw[hn]at gc d1⊢
 rw[hm]at gc d2⊢
 obtain⟨gx,hgx⟩:∃b,decide (x<0)=b:=⟨_,rfl⟩
 rw[hgx]at gc d1⊢
 clear ha hb hn hm hgx RA fP fQ fG g0 fx fy
 by_cases hs:y<0
 focus
  have e:=decide_eq_true hs
  rw[e]at gc d2⊢
  have HG:rg x y = -gcdI x y:=if_pos hs
  rw[HG]at d1 d2
  have ng:∀w' v,Num w' v (gcdI x y)→Calls Tryz.prog 126 #[v] w' fun e w2=>∃v',e = .returned (.tuple #[v',.int .i64 0])∧Num w2 v' (-gcdI x y)∧Steps w' w2:=fun w' v h=>rnegN w' h fg
  clear hs e HG fg hy
  go_enter Tryz.func96,Tryz.ntmps96
  go_wp2_with fail
  refine(gc _ belowB).mono ?_
  rintro e w1 ⟨vg,rfl,hg,fg,hb1⟩
  have st:Steps _ w1:=hb1
  have Bn:=bA w st
  have oa:Blk w1 (w.heap.size) 30 #[.bool gx,.slice aa n ca]:=Blk.stepsA st
  have ob:Blk w1 (w.heap.size+1) 30 #[.bool true,.slice ab m cb]:=Blk.stepsA st
  have or:Blk w1 (w.heap.size+1+1) 32 #[.bool false,.slice none 0 0,.bool false,.slice none 0 0]:=Blk.stepsA st
  clear st
  have B:=Bn
  clear Bn
  obtain⟨ca0,ca1,fa,la⟩:=oa.s1
  obtain⟨cb0,cb1,fb,lb⟩:=ob.s1
  obtain⟨cr0,cr1,cr2,cr3,fr,lr⟩:=or.s3
  clear gc fg
  obtain⟨bg,ag,ng_,cg,rfl⟩:=hg.shape
  have NG:=Hid.mk_ hg
  clear hg
  have z1:w.heap.size+1+1<w1.heap.size:=or.lt
  go_wp2_with fail
  refine(ng _ _ (NG.out.alloc_ _)).mono ?_
  rintro e w2 ⟨vh,rfl,hh,hb2⟩
  have st:Steps _ w2:=hb2
  have Bn:=bA w st
  have na:=oa.stq st
  have nb:=ob.stq st
  have nr:=or.stq st
  have og:Blk w2 (w1.heap.size) 30 #[.bool bg,.slice ag ng_ cg]:=Blk.stepsA st
  clear B oa ob or ca0 ca1 fa la cb0 cb1 fb lb cr0 cr1 cr2 cr3 fr lr
  clear st
  have B:=Bn
  clear Bn
  have oa:=na
  clear na
  obtain⟨ca0,ca1,fa,la⟩:=oa.s1
  have ob:=nb
  clear nb
  obtain⟨cb0,cb1,fb,lb⟩:=ob.s1
  have or:=nr
  clear nr
  obtain⟨cr0,cr1,cr2,cr3,fr,lr⟩:=or.s3
  obtain⟨cg0,cg1,fg,lg⟩:=og.s1
  clear ng NG
  obtain⟨bh,ah,nh,ch,rfl⟩:=hh.shape
  have NH:=Hid.mk_ hh
  clear hh
  have og':=og
  go_wp2_with fail
  refine(d1 _ _ belowB (NH.out.put2 og')).mono ?_
  rintro e w3 ⟨vp,vr,rfl,hp,hr,hb3⟩
  have st:Steps _ w3:=hb3
  have Bn:=bA w st
  have na:=oa.stq st
  have nb:=ob.stq st
  have nr:=or.stq st
  replace og:Blk w3 (w1.heap.size) 30 #[.bool bh,.slice ah nh ch]:=Blk.stepsA st
  clear B oa ob or ca0 ca1 fa la cb0 cb1 fb lb cr0 cr1 cr2 cr3 fr lr cg0 cg1 fg lg
  clear st
  have B:=Bn
  clear Bn
  have oa:=na
  clear na
  obtain⟨ca0,ca1,fa,la⟩:=oa.s1
  have ob:=nb
  clear nb
  obtain⟨cb0,cb1,fb,lb⟩:=ob.s1
  have or:=nr
  clear nr
  obtain⟨cr0,cr1,cr2,cr3,fr,lr⟩:=or.s3
  obtain⟨cg0,cg1,fg,lg⟩:=og.s1
  clear d1
  have NG2:=Hid.mk_ ((NH.out.put2 og').steps hb3)
  clear NH og'
 rotate_left
 focus
  have e:=decide_eq_false hs
  rw[e]at gc d2⊢
  have HG:rg x y=gcdI x y:=if_neg hs
  rw[HG]at d1 d2
  clear hs e HG fg hy
  go_enter Tryz.func96,Tryz.ntmps96
  go_wp2_with fail
  refine(gc _ belowB).mono ?_
  rintro e w1 ⟨vg,rfl,hg,fg,hb1⟩
  have st:Steps _ w1:=hb1
  have Bn:=bA w st
  have oa:Blk w1 (w.heap.size) 30 #[.bool gx,.slice aa n ca]:=Blk.stepsA st
  have ob:Blk w1 (w.heap.size+1) 30 #[.bool false,.slice ab m cb]:=Blk.stepsA st
  have or:Blk w1 (w.heap.size+1+1) 32 #[.bool false,.slice none 0 0,.bool false,.slice none 0 0]:=Blk.stepsA st
  clear st
  have B:=Bn
  clear Bn
  obtain⟨ca0,ca1,fa,la⟩:=oa.s1
  obtain⟨cb0,cb1,fb,lb⟩:=ob.s1
  obtain⟨cr0,cr1,cr2,cr3,fr,lr⟩:=or.s3
  clear gc fg
  obtain⟨bg,ag,ng_,cg,rfl⟩:=hg.shape
  have NG:=Hid.mk_ hg
  clear hg
  have z1:w.heap.size+1+1<w1.heap.size:=or.lt
  go_wp2_with fail
  refine(d1 _ _ belowB (NG.out.alloc_ _)).mono ?_
  rintro e w3 ⟨vp,vr,rfl,hp,hr,hb2⟩
  have st:Steps _ w3:=hb2
  have Bn:=bA w st
  have na:=oa.stq st
  have nb:=ob.stq st
  have nr:=or.stq st
  have og:Blk w3 (w1.heap.size) 30 #[.bool bg,.slice ag ng_ cg]:=Blk.stepsA st
  clear B oa ob or ca0 ca1 fa la cb0 cb1 fb lb cr0 cr1 cr2 cr3 fr lr
  clear st
  have B:=Bn
  clear Bn
  have oa:=na
  clear na
  obtain⟨ca0,ca1,fa,la⟩:=oa.s1
  have ob:=nb
  clear nb
  obtain⟨cb0,cb1,fb,lb⟩:=ob.s1
  have or:=nr
  clear nr
  obtain⟨cr0,cr1,cr2,cr3,fr,lr⟩:=or.s3
  obtain⟨cg0,cg1,fg,lg⟩:=og.s1
  clear d1
  have NG2:=Hid.mk_ ((NG.out.alloc_ _).steps hb2)
  clear NG
 rotate_left
 all_goals
  obtain⟨bp_,ap,np,cp,rfl⟩:=hp.shape
  have NP:=Hid.mk_ hp
  clear hp
  obtain⟨br,ar,nr_,cr,rfl⟩:=hr.shape
  clear hr
  have z2:w1.heap.size<w3.heap.size:=og.lt
  go_wp2_with fail
  refine(d2 _ _ belowB ((NG2.out.alloc_ _).alloc_ _)).mono ?_
  rintro e w4 ⟨vq,vt,rfl,hq,ht,hb4⟩
  have st:Steps _ w4:=hb4
  have Bn:=bA w st
  have na:=oa.stq st
  have nb:=ob.stq st
  have nr:=or.stq st
  have ng:=og.stq st
  have op:Blk w4 (w3.heap.size) 30 #[.bool bp_,.slice ap np cp]:=Blk.stepsA st
  have os:Blk w4 (w3.heap.size+1) 30 #[.bool br,.slice ar nr_ cr]:=Blk.stepsA st
  clear B oa ob or og ca0 ca1 fa la cb0 cb1 fb lb cr0 cr1 cr2 cr3 fr lr cg0 cg1 fg lg
  clear st
  have B:=Bn
  clear Bn
  have oa:=na
  clear na
  obtain⟨ca0,ca1,fa,la⟩:=oa.s1
  have ob:=nb
  clear nb
  obtain⟨cb0,cb1,fb,lb⟩:=ob.s1
  have or:=nr
  clear nr
  obtain⟨cr0,cr1,cr2,cr3,fr,lr⟩:=or.s3
  have og:=ng
  clear ng
  obtain⟨cg0,cg1,fg,lg⟩:=og.s1
  obtain⟨cp0,cp1,fp,lp⟩:=op.s1
  obtain⟨cs0,cs1,fs,ls⟩:=os.s1
  clear d2
  have NP2:=Hid.mk_ (((NP.out.alloc_ (.cells #[.bool bp_,.slice ap np cp] 30)).alloc_ (.cells #[.bool br,.slice ar nr_ cr] 30)).steps hb4)
  clear NP NG2
  obtain⟨bq,aq,nq,cq,rfl⟩:=hq.shape
  have NQ:=Hid.mk_ hq
  clear hq
  obtain⟨bt,at_',nt_,ct,rfl⟩:=ht.shape
  clear ht
  dsimp only; repeat' (first | go_values | go_skip | go_guarded | go_step | go_upon)
  refine bodyPost_ret (by simp[results,Tryz.results96,go_sem,ca0,ca1,fa,la,cb0,cb1,fb,lb,cr0,cr1,cr2,cr3,fr,lr,cg0,cg1,fg,lg,cp0,cp1,fp,lp,cs0,cs1,fs,ls]; rfl) rfl ?_
  refine⟨_,rfl,?_,belowB⟩
  have HM:=MK.out
  exact(((Frc.mk' NP2.out NQ.out HM.1 HM.2.1 HM.2.2.1 HM.2.2.2).only or rfl ((Only.refl _ _).set.set.set.set)).alloc_ _).alloc_ _
theorem rmake {va vb:Value} {x y:Int} (w:World) (ha:Num w va x) (hb:Num w vb y) (fx:fits x) (fy:fits y) (hy:y≠0) :
  Calls Tryz.prog 64 #[va,vb] w fun e w'=>∃v,e = .returned (.tuple #[v,.int .i64 0])∧Frc w' v (rdP x y) (rdQ x y)∧Steps w w':=by
 have cka:∀w',Steps w w'→Calls Tryz.prog 94 #[va] w' fun e w2=>e = .returned (.int .i64 0)∧Steps w' w2:=fun w' h=>by
  obtain⟨sa,rfl,la⟩:=ha
  have:=rcheckN (decide (x<0)) w' (la.steps h)
  rw[show errC (valid (decide (x<0)) (limbs (absN x)))=0 from if_pos (valid_of fx)]at this
  exact this
 have ckb:∀w',Steps w w'→Calls Tryz.prog 94 #[vb] w' fun e w2=>e = .returned (.int .i64 0)∧Steps w' w2:=fun w' h=>by
  obtain⟨sb,rfl,lb⟩:=hb
  have:=rcheckN (decide (y<0)) w' (lb.steps h)
  rw[show errC (valid (decide (y<0)) (limbs (absN y)))=0 from if_pos (valid_of fy)]at this
  exact this
 have rd:=fun(w':World) (h:Steps w w')=>rreduced w' (ha.steps h) (hb.steps h) fx fy hy
 have y0:0<(limbs (absN y)).length:=List.length_pos_iff.2 (fun e=>by have:=(limbs_nil (absN_nonneg y)).1 e; unfold absN at this; omega)
 obtain⟨aa,ca,rfl,-⟩:=ha.parts
 obtain⟨ab,cb,rfl,-⟩:=hb.parts
 obtain⟨n,hn⟩:∃n,(limbs (absN x)).length=n:=⟨_,rfl⟩
 obtain⟨m,hm⟩:∃m,(limbs (absN y)).length=m:=⟨_,rfl⟩
 rw[hn]at cka rd⊢
 rw[hm]at ckb rd y0⊢
 obtain⟨gx,hgx⟩:∃b,decide (x<0)=b:=⟨_,rfl⟩
 obtain⟨gy,hgy⟩:∃b,decide (y<0)=b:=⟨_,rfl⟩
 rw[hgx]at cka rd⊢
 rw[hgy]at ckb rd⊢
 clear ha hb hn hm hgx hgy fx fy hy
 go_enter Tryz.func64,Tryz.ntmps64
 go_wp2_with fail
 refine(cka _ belowB).mono ?_
 rintro e w1 ⟨rfl,st⟩
 have Bn:=bA w st
 have oa:Blk w1 (w.heap.size) 30 #[.bool gx,.slice aa n ca]:=Blk.stepsA st
 have ob:Blk w1 (w.heap.size+1) 30 #[.bool gy,.slice ab m cb]:=Blk.stepsA st
 have or:Blk w1 (w.heap.size+1+1) 32 #[.bool false,.slice none 0 0,.bool false,.slice none 0 0]:=Blk.stepsA st
 clear st
 have B:=Bn
 clear Bn
 obtain⟨ca0,ca1,fa,la⟩:=oa.s1
 obtain⟨cb0,cb1,fb,lb⟩:=ob.s1
 obtain⟨cr0,cr1,cr2,cr3,fr,lr⟩:=or.s3
 clear cka
 go_wp2_with fail
 refine(ckb _ B).mono ?_
 rintro e w2 ⟨rfl,st⟩
 have Bn:=bA w st
 have na:=oa.stq st
 have nb:=ob.stq st
 have nr:=or.stq st
 clear B oa ob or ca0 ca1 fa la cb0 cb1 fb lb cr0 cr1 cr2 cr3 fr lr
 clear st
 have B:=Bn
 clear Bn
 have oa:=na
 clear na
 obtain⟨ca0,ca1,fa,la⟩:=oa.s1
 have ob:=nb
 clear nb
 obtain⟨cb0,cb1,fb,lb⟩:=ob.s1
 have or:=nr
 clear nr
 obtain⟨cr0,cr1,cr2,cr3,fr,lr⟩:=or.s3
 clear ckb
 go_wp2_with fail
 refine(rd _ B).mono ?_
 rintro e w3 ⟨v3,rfl,hf,st⟩
 have Bn:=bA w st
 have na:=oa.stq st
 have nb:=ob.stq st
 have nr:=or.stq st
 clear B oa ob or ca0 ca1 fa la cb0 cb1 fb lb cr0 cr1 cr2 cr3 fr lr
 clear st
 have B:=Bn
 clear Bn
 have oa:=na
 clear na
 obtain⟨ca0,ca1,fa,la⟩:=oa.s1
 have ob:=nb
 clear nb
 obtain⟨cb0,cb1,fb,lb⟩:=ob.s1
 have or:=nr
 clear nr
 obtain⟨cr0,cr1,cr2,cr3,fr,lr⟩:=or.s3
 clear rd
 obtain⟨k1,k2,k3,k4,k5,k6,k7,k8,rfl⟩:=hf.shape
 have HF:=Hid.mk_ hf
 clear hf
 go_wp2
 refine bodyPost_ret (by simp[results,Tryz.results64,go_sem,ca0,ca1,fa,la,cb0,cb1,fb,lb,cr0,cr1,cr2,cr3,fr,lr]; rfl) rfl ?_
 exact⟨_,rfl,HF.out.only or rfl ((Only.refl _ _).set.set.set.set),belowB⟩
theorem rof (x y:Int) (w:World) (x0 : -9223372036854775808≤x) (x1:x≤9223372036854775807) (y0 : -9223372036854775808≤y) (y1:y≤9223372036854775807) (hy:y≠0) :
  Calls Tryz.prog 45 #[.int .i64 x,.int .i64 y] w fun e w'=>∃v,e = .returned (.tuple #[v,.int .i64 0])∧Frc w' v (rdP x y) (rdQ x y)∧Steps w w':=by
 have fx:fits x:=fits_small (by unfold absN; omega)
 have fy:fits y:=fits_small (by unfold absN; omega)
 go_enter Tryz.func45,Tryz.ntmps45
 go_wp2_with fail
 refine(rfrom x _ x0 x1).mono ?_
 rintro e w1 ⟨va,rfl,na,st⟩
 have Bn:=bA w st
 have or:Blk w1 (w.heap.size) 32 #[.bool false,.slice none 0 0,.bool false,.slice none 0 0]:=Blk.stepsA st
 clear st
 have B:=Bn
 clear Bn
 obtain⟨cr0,cr1,cr2,cr3,fr,lr⟩:=or.s3
 go_wp2_with fail
 refine(rfrom y _ y0 y1).mono ?_
 rintro e w2 ⟨vb,rfl,nb,hb2⟩
 have st:Steps _ w2:=hb2
 have Bn:=bA w st
 have nr:=or.stq st
 clear B or cr0 cr1 cr2 cr3 fr lr
 clear st
 have B:=Bn
 clear Bn
 have or:=nr
 clear nr
 obtain⟨cr0,cr1,cr2,cr3,fr,lr⟩:=or.s3
 have na2:=na.steps hb2
 clear na
 go_wp2_with fail
 refine(rmake _ na2 nb fx fy hy).mono ?_
 rintro e w3 ⟨v3,rfl,hf,st⟩
 have Bn:=bA w st
 have nr:=or.stq st
 clear B or cr0 cr1 cr2 cr3 fr lr
 clear st
 have B:=Bn
 clear Bn
 have or:=nr
 clear nr
 obtain⟨cr0,cr1,cr2,cr3,fr,lr⟩:=or.s3
 clear na2 nb
 obtain⟨k1,k2,k3,k4,k5,k6,k7,k8,rfl⟩:=hf.shape
 have HF:=Hid.mk_ hf
 clear hf
 go_wp2
 refine bodyPost_ret (by simp[results,Tryz.results45,go_sem,cr0,cr1,cr2,cr3,fr,lr]; rfl) rfl ?_
 exact⟨_,rfl,HF.out.only or rfl ((Only.refl _ _).set.set.set.set),belowB⟩
end Go.Proofs.YtdkcffnmlllamaaGreat
/- Four points: the arrangement that comes before all others (plain Lean). -/
namespace Go.Proofs.YtdkcffnmlllamaaGreat
def cmpL:List Int→List Int→Int
 | x::xs,y::ys=>if x=y then cmpL xs ys else if x<y then -1 else 1
 | _,_=>0
structure Arr where
 k0:Int
 k1:Int
 k2:Int
 k3:Int
 a1:Int
 a2:Int
 b1:Int
 b2:Int
 n:Int
deriving DecidableEq
def Arr.key (a:Arr):List Int:= [a.a1+a.b1,a.a1,a.a2,a.b1,a.b2,a.k0,a.k1,a.k2,a.k3]
def cmpA (a b:Arr):Int:=cmpL a.key b.key
def noArr:Arr:=⟨0,0,0,0,0,0,0,0,0⟩
def Arr.beats (a b:Arr):Bool:=decide (b.n<a.n)||(a.n==b.n&&(decide (0<a.n)&&decide (cmpA a b<0)))
def best (l:List Arr):Arr:=l.foldl (fun b a=>if a.beats b then a else b) noArr
def bestR (N:Int) (l:List Arr):Option Arr:=l.foldl (fun b a=>if a.n=N then(match b with | none=>some a | some c=>if cmpA a c<0 then some a else some c)else b) none
abbrev P4:=Nat×Nat×Nat×Nat
def perms4:List P4:=(List.range 4).flatMap fun a=>(List.range 4).flatMap fun b=>(List.range 4).filterMap fun c=>if a≠b∧a≠c∧b≠c then some (a,b,c,6-a-b-c)else none
def upto4 (a b c:Nat):List P4:=perms4.filter fun p=>decide (16*p.1+4*p.2.1+p.2.2.1<16*a+4*b+c)
end Go.Proofs.YtdkcffnmlllamaaGreat
/- Four points: the arrangements' numbers (plain Lean). -/
namespace Go.Proofs.YtdkcffnmlllamaaGreat
def cre (ux uy vx vy:Int):Int:=vx*ux+vy*uy
def cim (ux uy vx vy:Int):Int:=vy*ux-vx*uy
def csq (ux uy:Int):Int:=ux*ux+uy*uy
def at4 (k0 k1 k2 k3 i:Nat):Nat:=match i with | 0=>k0 | 1=>k1 | 2=>k2 | _=>k3
abbrev PL:=List (Int×Int)
def pt (l:PL) (k:Nat):Int×Int:=l.getD k (0,0)
def sqd (p q:Int×Int):Int:=csq (q.1-p.1) (q.2-p.2)
theorem csq_nonneg (x y:Int):0≤csq x y:=by
 unfold csq
 have h1:0≤x*x:=by rcases Int.le_total 0 x with h | h; exact Int.mul_nonneg h h; exact Int.mul_nonneg_of_nonpos_of_nonpos h h
 have h2:0≤y*y:=by rcases Int.le_total 0 y with h | h; exact Int.mul_nonneg h h; exact Int.mul_nonneg_of_nonpos_of_nonpos h h
 omega
def arr4 (k0 k1 k2 k3:Nat) (p0 p1 p2 p3:Int×Int):Arr:=
 ⟨k0,k1,k2,k3,cre (p1.1-p0.1) (p1.2-p0.2) (p2.1-p0.1) (p2.2-p0.2),cim (p1.1-p0.1) (p1.2-p0.2) (p2.1-p0.1) (p2.2-p0.2),
  cre (p1.1-p0.1) (p1.2-p0.2) (p3.1-p0.1) (p3.2-p0.2),cim (p1.1-p0.1) (p1.2-p0.2) (p3.1-p0.1) (p3.2-p0.2),sqd p0 p1⟩
def arrOf (l:PL) (K:Nat→Nat) (p:P4):Arr:=arr4 (K p.1) (K p.2.1) (K p.2.2.1) (K p.2.2.2) (pt l (K p.1)) (pt l (K p.2.1)) (pt l (K p.2.2.1)) (pt l (K p.2.2.2))
def dst (l:PL) (K:Nat→Nat) (i k:Nat):Int:=sqd (pt l (K i)) (pt l (K k))
def wid (l:PL) (K:Nat→Nat):Int:=
 max (max (max (max (max (max 0 (dst l K 1 0)) (dst l K 2 0)) (dst l K 2 1)) (dst l K 3 0)) (dst l K 3 1)) (dst l K 3 2)
def arrs (l:PL) (K:Nat→Nat):List Arr:=perms4.map (arrOf l K)
def bestOf (l:PL) (K:Nat→Nat):Arr:=best (arrs l K)
end Go.Proofs.YtdkcffnmlllamaaGreat
/- A region in the text's order in a round of a range over a function: walked by the plain words; what a round leaves as it lay. -/
namespace Go.Proofs.YtdkcffnmlllamaaGreat
open Go.RowKit
theorem list_round {P:Program} {ops:Array Oper} {Q:Exit→Act→World→Prop} {l n:Nat} (hd:noDefer ops=true):∀ (rest:List Oper) (_:∀o∈rest,∃i:Nat,ops[i]? = some o) (a:Act) (w:World),
  wpList P ops (strict Q) rest a w→wpListIn (Fence.wide.inRound l) n P ops Q rest a w:=by
 intro rest
 induction rest with
 | nil=>intro _ a w h; exact h
 | cons o rest ih=>
  intro hs a w h
  unfold wpList at h
  unfold wpListIn
  obtain⟨i,hi⟩:=hs o (.head _)
  have ih':=ih (fun o' h'=>hs o' (.tail _ h'))
  by_cases hw:Region.wanted o (yielded ops a.tmps)=true
  ·
   rw[if_pos hw]at h⊢
   rcases h with h | ⟨_,h⟩
   · exact oper_round (noDefer_spec hd hi) h (fun a w=>ih' a w)
   · exact(strict_out Q h).elim
  ·
   rw[if_neg hw]at h⊢
   exact⟨fun _ _=>trivial,ih' _ _ h⟩
theorem region_round {P:Program} {l:List Oper} {Q:Exit→Act→World→Prop} {r n id:Nat} {a:Act} {w:World} (hd:noDefer l.toArray=true) (h:wpList P l.toArray (strict Q) l a w) :
  (Code.region id l.toArray false).wpIn (Fence.wide.inRound r) n P Q a w:=
 wpIn_region_lit (list_round hd l (fun o ho=>by obtain⟨i,hi,e⟩:=List.getElem_of_mem ho; exact⟨i,by simp[hi,e]⟩) a w h)
structure Al (n₀ Bs:Nat) (W W':World):Prop where
 others:KeepsOthers W W'
 kd:KD n₀ Bs W W'
theorem Al.refl (n₀ Bs:Nat) (W:World):Al n₀ Bs W W:=⟨KeepsOthers.refl _,KD.refl _ _ _⟩
theorem Al.trans {n₀ Bs:Nat} {A B C:World} (h:Al n₀ Bs A B) (k:Al n₀ Bs B C):Al n₀ Bs A C:=⟨h.others.trans k.others,h.kd.trans k.kd⟩
theorem Al.steps {n₀ Bs:Nat} {W W':World} (h:Steps W W') (h0:n₀≤W.heap.size) (h1:Bs<W.heap.size):Al n₀ Bs W W':=
 ⟨⟨h.size,fun k o hk _=>(h.block k (Array.getElem?_eq_some_iff.1 hk).1).trans hk⟩,⟨h.mono h0,h.block Bs h1⟩⟩
theorem Al.row {n₀ Bs g:Nat} {t:TypeId} {old cs:Array Value} {W W':World} (h:RowTo g t old cs W W') (h0:n₀≤g) (h1:Bs≠g):Al n₀ Bs W W':=by
 have ho:=h.only
 have hb:=h.was
 refine⟨⟨Nat.le_of_eq ho.1.symm,fun k o hk hc=>(ho.2 k ?_).trans hk⟩,⟨h.below (Below.refl _ _) h0,ho.2 Bs h1⟩⟩
 rintro rfl
 unfold Blk at hb
 rw[hb]at hk
 injection hk with hk
 subst hk
 cases hc
theorem Al.set {n₀ Bs g i:Nat} {u:Value} {W:World} (h0:n₀≤g) (h1:Bs≠g):Al n₀ Bs W (W.setCell ⟨g,i,none⟩ u):=
 ⟨KeepsOthers.setCell _ _ _,⟨(Below.refl _ _).setCell (p:=⟨g,i,none⟩) h0 _,Below.heap_setCell _ _ _ _ h1⟩⟩
theorem Al.alloc {n₀ Bs:Nat} {W:World} (o:Obj) (h0:n₀≤W.heap.size) (h1:Bs<W.heap.size):Al n₀ Bs W (W.alloc o):=Al.steps ((Below.refl _ _).alloc (Nat.le_refl _) _) h0 h1
theorem Al.drewN {n₀ Bs:Nat} {W:World} (m:Nat):Al n₀ Bs W (W.drewN m):=⟨⟨Nat.le_refl _,fun _ _ h _=>h⟩,⟨⟨rfl,rfl,rfl,Nat.le_refl _,fun _ _=>rfl⟩,rfl⟩⟩
end Go.Proofs.YtdkcffnmlllamaaGreat
/- Four points: other orders of the indices, and moved points (plain Lean). -/
namespace Go.Proofs.YtdkcffnmlllamaaGreat
def K' (K:Nat→Nat) (i:Nat):Nat:=K (at4 2 0 3 1 i)
def Arr.scale (s:Int) (a:Arr):Arr:=⟨a.k0,a.k1,a.k2,a.k3,s*a.a1,s*a.a2,s*a.b1,s*a.b2,s*a.n⟩
def mv (re im dx dy:Int) (p:Int×Int):Int×Int:=(p.1*re-p.2*im+dx,p.1*im+p.2*re+dy)
end Go.Proofs.YtdkcffnmlllamaaGreat
/- Four points: the code of the best arrangement lies within its bounds (plain Lean). -/
namespace Go.Proofs.YtdkcffnmlllamaaGreat
theorem sq_nonneg' (x:Int):0≤x*x:=by
 rcases Int.le_total 0 x with h | h
 · exact Int.mul_nonneg h h
 · exact Int.mul_nonneg_of_nonpos_of_nonpos h h
theorem sq_lt' {x y:Int} (h0:0≤x) (h:x<y):x*x<y*y:=by
 have h1:0<(y-x)*(y+x):=Int.mul_pos (by omega) (by omega)
 simp only[Int.sub_mul,Int.mul_add]at h1
 have h2:x*y=y*x:=Int.mul_comm x y
 omega
theorem abs_of_sq {x n:Int} (hn:0≤n) (h:x*x≤n*n) : -n≤x∧x≤n:=by
 constructor
 ·
  rcases(show x < -n∨-n≤x by omega)with g | g
  ·
   have:=sq_lt' hn (show n < -x by omega)
   rw[Int.neg_mul_neg]at this
   omega
  · exact g
 ·
  rcases(show n<x∨x≤n by omega)with g | g
  ·
   have:=sq_lt' hn g
   omega
  · exact g
theorem within {ux uy vx vy:Int} (h1:csq vx vy≤csq ux uy) (h2:csq (vx-ux) (vy-uy)≤csq ux uy) :
  (0≤cre ux uy vx vy∧cre ux uy vx vy≤csq ux uy)∧(-csq ux uy≤cim ux uy vx vy∧cim ux uy vx vy≤csq ux uy):=by
 have n0:=csq_nonneg ux uy
 have v0:=csq_nonneg vx vy
 have d0:=csq_nonneg (vx-ux) (vy-uy)
 have e:csq (vx-ux) (vy-uy)=csq vx vy-2*cre ux uy vx vy+csq ux uy:=by
  unfold csq cre; simp only[Int.sub_mul,Int.mul_sub]; simp only[Int.mul_comm ux vx,Int.mul_comm uy vy]; omega
 have q:cre ux uy vx vy*cre ux uy vx vy+cim ux uy vx vy*cim ux uy vx vy=csq ux uy*csq vx vy:=by
  unfold csq cre cim; simp only[Int.sub_mul,Int.mul_sub,Int.add_mul,Int.mul_add]; simp only[Int.mul_comm,Int.mul_left_comm,Int.mul_assoc]; omega
 have m:=Int.mul_le_mul_of_nonneg_left h1 n0
 have s1:=sq_nonneg' (cre ux uy vx vy)
 have s2:=sq_nonneg' (cim ux uy vx vy)
 have a:=abs_of_sq (x:=cre ux uy vx vy) n0 (by omega)
 have b:=abs_of_sq (x:=cim ux uy vx vy) n0 (by omega)
 exact⟨⟨by omega,a.2⟩,b⟩
end Go.Proofs.YtdkcffnmlllamaaGreat
