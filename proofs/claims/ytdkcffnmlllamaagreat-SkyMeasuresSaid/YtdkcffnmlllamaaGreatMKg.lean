import Derived.Test.YtdkcffnmlllamaaGreatMKd
import Derived.Test.YtdkcffnmlllamaaGreatMCh
import Derived.Test.YtdkcffnmlllamaaGreatMEd
import Derived.Test.YtdkcffnmlllamaaGreatMTp
set_option linter.unusedVariables false
set_option linter.unusedSimpArgs false
namespace Go.Proofs.YtdkcffnmlllamaaGreat
open Go.RowKit
theorem rnd_between {r:Rat} {a b:Int} (h1:(a:Rat)≤r) (h2:r≤(b:Rat)):a≤rndQ r∧rndQ r≤b:=by
 rw[Rat.le_iff]at h1 h2
 simp only[Rat.num_intCast,Rat.den_intCast,Int.natCast_one,Int.mul_one]at h1 h2
 have d0:(0:Int)<r.den:=den_pos' r
 have hm:=modF_pos (x:=r.num) d0
 have e:modF r.num r.den=r.num-r.den*divF r.num r.den:=rfl
 unfold rndQ rndB
 have hc:0≤rndC r→0<modF r.num r.den:=fun h=>by
  unfold rndC at h
  have:=(not_congr cmpI_neg).1 (show ¬cmpI (2*modF r.num r.den) r.den<0 by omega)
  omega
 generalize rndC r=c at *
 generalize divF r.num r.den=q at *
 generalize modF r.num r.den=m at *
 generalize (r.den:Int)=d at *
 generalize r.num=n at *
 have q1:a≤q:=by
  rcases Int.lt_or_le q a with g | g
  ·
   have:=Int.mul_le_mul_of_nonneg_right (show q+1≤a by omega) (show 0≤d by omega)
   rw[Int.add_mul,Int.one_mul,Int.mul_comm q d]at this
   omega
  · exact g
 have q2:q≤b:=by
  rcases Int.lt_or_le b q with g | g
  ·
   have:=Int.mul_le_mul_of_nonneg_right (show b+1≤q by omega) (show 0≤d by omega)
   rw[Int.add_mul,Int.one_mul,Int.mul_comm q d]at this
   omega
  · exact g
 split
 ·
  rename_i hb
  have c0:0≤c:=by
   rcases Int.lt_or_le c 0 with g | g
   · rw[decide_eq_false (show ¬0<c by omega),decide_eq_false (show ¬c=0 by omega)]at hb; cases hb
   · exact g
  have m1:=hc c0
  refine⟨by omega,?_⟩
  rcases Int.lt_or_le q b with g | g
  · omega
  ·
   obtain rfl:q=b:=by omega
   rw[Int.mul_comm q d]at h2
   omega
 · exact⟨q1,q2⟩
theorem med_range {l:List Int} (h0:l≠ []) (hv:valL l) : -4294967296≤rndQ (medQ l)∧rndQ (medQ l)≤4294967296:=by
 have m:=med_between h0
 have hp:=List.length_pos_iff.2 h0
 have r1:=hv.2 _ ((srt_perm l).mem_iff.1 (getD_mem (l:=srt l) (i:=(l.length-1) / 2) (by rw[srt_len]; omega)))
 have r2:=hv.2 _ ((srt_perm l).mem_iff.1 (getD_mem (l:=srt l) (i:=l.length / 2) (by rw[srt_len]; omega)))
 have:=rnd_between m.1 m.2
 omega
theorem med_sz {l:List Int} (h0:l≠ []) (hv:valL l):sz (medQ l) 2:=by
 have:=tw_val h0 hv
 exact sz_frac (by decide) (by rw[bp_two]; unfold absN; omega) (by decide)
def keptL (l:List Int) (k:Rat):List Int:=pick l (clipR l k).1
def valS (l:List Int) (k:Rat):Int:=rndQ (medQ (keptL l k))
theorem kept_ok {l:List Int} {k:Rat} (hv:valL l) (h0:l≠ []) (hk:1≤k) (hn:l.length≤100):valL (keptL l k)∧keptL l k≠ []∧(keptL l k).length≤100:=by
 have h1:(clipR l k).1.length≤l.length:=by have:=(clipR_spec l k).2.2.1; omega
 exact⟨pick_val hv (fun i hi=>clipR_lt hi) (by omega),pick_ne (clipR_ne hk h0),by unfold keptL; rw[pick_len]; omega⟩
set_option maxHeartbeats 6400000 in
set_option maxRecDepth 1000000 in
theorem svalue {vl vk:Value} {l:List Int} {k:Rat} (w:World) (hl:IntsR w vl l) (hk:FR w vk k) (zk:sz k 4) (ha:askV l=0) (hf:facB (some k)=true) (hn:l.length≤100) :
  Calls Tryz.prog 34 #[vl,vk] w fun e w'=>e = .returned (.tuple #[.int .i64 (valS l k),.int .i64 0])∧Steps w w':=by
 obtain⟨hv,h0⟩:=askV_val ha
 have k1_:1≤k:=by obtain⟨r,e,h1,h2⟩:=facB_ok hf; cases e; exact h1
 obtain⟨m1,m2,m3⟩:=kept_ok hv h0 k1_ hn
 have eS:clipS l (some k)=((clipR l k).1,(clipR l k).2,0):=by unfold clipS; rw[if_pos ha,hf]; rfl
 have CL:∀w',Steps w w'→Calls Tryz.prog 30 #[vl,vk] w' fun e w2=>∃v,e = .returned (.tuple #[v,.int .i64 ((clipR l k).2:Nat),.int .i64 0])∧IntsR w2 v (inI (clipR l k).1)∧Steps w' w2:=fun w' s=>by
  have:=vClip (o:=some k) w' (hl.steps s) (by omega) (show FB w' vk (some k) from hk.steps s) (fun r e=>by cases e; exact zk)
  rwa[eS]at this
 have am:askV (keptL l k)=0:=askV_of m2 m1
 have MD:∀w' v,IntsR w' v (keptL l k)→Calls Tryz.prog 49 #[v] w' fun e w2=>∃u,e = .returned (.tuple #[u,.int .i64 0])∧FR w2 u (medQ (keptL l k))∧Steps w' w2:=fun w' v h=>by
  have:=vMedian w' h (by omega) (fun _=>m3)
  rw[am]at this
  refine this.mono ?_
  rintro e w2 ⟨u,rfl,hu,hs⟩
  exact⟨u,rfl,by unfold FE at hu; rwa[if_pos rfl]at hu,hs⟩
 have RD:∀w' v,FR w' v (medQ (keptL l k))→Calls Tryz.prog 50 #[v] w' fun e w2=>∃u,e = .returned (.tuple #[u,.int .i64 0])∧Num w2 u (valS l k)∧Steps w' w2:=fun w' v h=>fround w' h (med_sz m2 m1) (by omega)
 have IN:∀w' v,Num w' v (valS l k)→Calls Tryz.prog 51 #[v] w' fun e w2=>e = .returned (.tuple #[.int .i64 (valS l k),.int .i64 0])∧Steps w' w2:=fun w' v h=>by
  have r:=med_range m2 m1
  have e1:valS l k=rndQ (medQ (keptL l k)):=rfl
  have:=wInt w' h (fits_small64 (by omega) (by omega))
  rwa[show intI (valS l k)=valS l k from if_pos (by omega),show errI (valS l k)=0 from if_pos (by omega)]at this
 have hi:∀i∈(clipR l k).1,i<l.length:=fun i hi=>clipR_lt hi
 have hix:(clipR l k).1.length≤100:=by have:=(clipR_spec l k).2.2.1; omega
 have PE:pick l ((clipR l k).1.take (clipR l k).1.length)=keptL l k:=by rw[List.take_length]; rfl
 generalize keptL l k=kl at *
 generalize valS l k=VV at *
 generalize medQ kl=MQ at *
 generalize (clipR l k).2=rr at *
 generalize (clipR l k).1=ix at *
 have PS:∀t,t<ix.length→pick l (ix.take (t+1))=pick l (ix.take t) ++ [l.getD (ix.getD t 0) 0]:=fun t ht=>by rw[takeN_step ht,pick_snoc]
 have PL:∀t,t≤ix.length→(pick l (ix.take t)).length=t:=fun t ht=>by rw[pick_len,List.length_take]; omega
 have P0:pick l (ix.take 0) = []:=rfl
 have KL:∀t,t<ix.length→ix.getD t 0<l.length:=fun t ht=>hi _ (getN_mem ht)
 have KG:∀t,t<ix.length→(inI ix).getD t 0=((ix.getD t 0:Nat):Int):=fun t ht=>inI_get ix ht
 obtain⟨PP,hPP⟩:∃f:Nat→List Int,∀t,pick l (ix.take t)=f t:=⟨_,fun _=>rfl⟩
 obtain⟨KK,hKK⟩:∃f:Nat→Nat,∀t,ix.getD t 0=f t:=⟨_,fun _=>rfl⟩
 rw[hPP]at PE
 simp only[hPP,hKK]at PS PL P0 KL KG
 obtain⟨la,lc,rfl⟩:=hl.shape
 obtain⟨k1,k2,k3,k4,k5,k6,k7,k8,rfl⟩:=hk.shape
 have HL:=Hid.mk_ hl
 have HI:=Hid.mk_ (inI_len ix)
 obtain⟨n,hN⟩:∃n,ix.length=n:=⟨_,rfl⟩
 have HN:=Hid.mk_ hN
 rw[hN]at PS PL KL KG HI hix PE
 have PS':=Hid.mk_ PS
 have PL':=Hid.mk_ PL
 have KG':=Hid.mk_ KG
 have KL':=Hid.mk_ KL
 have P0':=Hid.mk_ P0
 have PE':=Hid.mk_ PE
 clear hl hk zk ha hf hv h0 k1_ m1 m2 m3 eS am hi hN PE hPP hKK PS PL KG KL P0
 go_enter Tryz.func34,Tryz.ntmps34
 go_wp2_with fail
 refine(CL _ belowB).mono ?_
 rintro e w1 ⟨v,rfl,hv,hs⟩
 obtain⟨va,vc,rfl⟩:=hv.shape
 have HA:=Hid.mk_ hv
 have HW1:=bA w hs
 have HL1:=Hid.mk_ (HL.out.steps HW1)
 have HW:=Hid.mk_ HW1
 rw[HI.out]at HA⊢
 clear hv hs CL HL HW1
 dsimp only
 go_wp2_with fail
 go_loopw [26,9] (fun kk oo wr=>∃ (t:Nat) (ow:Value),ow=oo∧t≤n∧kk = .int .i64 t∧RowU wr w1.heap.size 2 1 ow t (ints (PP t))∧Below w1.heap.size w1 wr) (fun kk _ _=>n-(intOf kk).toNat)
 case atStart=>exact⟨0,_,rfl,Nat.zero_le _,rfl,by rw[P0'.out]; exact RowU.nil _ _ _ _,belowB⟩
 case round=>
  obtain⟨t,ow,rfl,ht,rfl,hr,B⟩:=hrel
  obtain⟨oa,ocap,rfl⟩:=hr.len
  have HR:=Hid.mk_ hr
  clear hr
  rcases Nat.lt_or_ge t n with tn | tn
  ·
   have hlt:decide ((t:Int)<(n:Int))=true:=decide_eq_true (by omega)
   obtain⟨bA,oA,rfl,hbA,hA0⟩:=HA.out.at' (t:=t) (by have:=HI.out; omega)
   rw[KG'.out t tn]at hA0
   obtain⟨b,of,rfl,hbl,hx0⟩:=HL1.out.at' (t:=KK t) (KL'.out t tn)
   have kl:=KL'.out t tn
   have hps:=Hid.mk_ (PS'.out t tn)
   have hpl:=PL'.out t ht
   obtain⟨x,hxx⟩:∃x,l.getD (KK t) 0=x:=⟨_,rfl⟩
   rw[hxx]at hx0 hps
   obtain⟨k,hk⟩:∃k,KK t=k:=⟨_,rfl⟩
   rw[hk]at hA0 hx0 kl
   have c0:wr.cell? ⟨bA,oA+t,none⟩=some (.int .i64 (k:Int)):=(B.cell (p:=⟨bA,_,none⟩) hbA).trans hA0
   have c1:wr.cell? ⟨b,of+k,none⟩=some (.int .i64 x):=(B.cell (p:=⟨b,_,none⟩) hbl).trans hx0
   have zz:=B.size
   clear hA0 hx0 hxx hk
   repeat' (first | ((with_reducible show wpList _ _ _ (⟨some 36,_,_,_,_,_⟩::_) _ _); refine app_i64 rfl (.tmp 30) (.tmp 35) rfl w1.heap.size t (.slice oa t ocap) (PP t) rfl (HR.out.alloc _) wr.heap.size x rfl (Blk.new _ _ _) (by omega) (by rw[World.size_alloc]; omega) (fun v' w7 hr7 hg7=> ?_)) | go_values | go_skip | go_guarded | go_step | go_upon)
   obtain⟨oa',ocap',rfl⟩:=hr7.len
   have r6:=HR.out.alloc (.cells #[.int .i64 x] 2)
   have B7:=r6.below hg7 (B.alloc B.size _) (Nat.le_refl _)
   have HR7:=Hid.mk_ hr7
   clear r6 hg7 hr7 HR B
   go_wp2_with fail
   go_roundw
   case rel=>exact⟨t+1,_,rfl,by omega,by go_num,by rw[hps.out]; exact HR7.out,B7⟩
   case measure=>simp[intOf]; omega
  ·
   obtain rfl:t=n:=by omega
   have hlt:decide ((t:Int)<(t:Int))=false:=decide_eq_false (by omega)
   have hpl:=PL'.out t (Nat.le_refl _)
   have HF:IntsR wr (.slice oa t ocap) kl:=by have h9:=HR.out; rw[PE'.out]at h9 hpl; rw[← hpl]at h9⊢; exact h9.ints
   have HF':=Hid.mk_ HF
   have MD':=fun w' (s:Steps wr w')=>MD w' _ (HF'.out.steps s)
   have BB:=Hid.mk_ (below_steps HW.out (Nat.le_refl _) B)
   clear HF hpl HR MD HA HL1 HI HN PS' PL' KG' KL' P0' PE' HW
   have B0:=B
   clear B
   have B:=Below.refl wr.heap.size wr
   have kk:=Keeps.refl wr
   go_wp2_with fail
   refine(MD' _ belowB).mono ?_
   rintro e w11 ⟨va,rfl,hva,st⟩
   have B:=bA wr st
   have kp:=kB wr st
   replace kk:=kk.trans kp
   clear kp
   clear st
   obtain⟨a1,a2,a3,a4,a5,a6,a7,a8,rfl⟩:=hva.shape
   have Fa:=Hid.mk_ hva
   clear hva
   have zz11:=B.size
   go_wp2_with fail
   refine(RD _ _ (Fa.out.keeps keepsB)).mono ?_
   rintro e w12 ⟨vb,rfl,hvb,st⟩
   have sk:=bA w11 st
   replace B:=bS B sk
   have ov:Blk w12 (w11.heap.size) 32 #[.bool a1,.slice a2 a3 a4,.bool a5,.slice a6 a7 a8]:=Blk.stepsK st
   replace Fa:=Hid.mk_ (Fa.out.steps sk)
   replace kk:=kk.then_ sk
   clear st sk
   obtain⟨b1,b2,b3,b4,rfl⟩:=hvb.shape
   have Fb:=Hid.mk_ hvb
   clear hvb
   have zv_12:w11.heap.size<w12.heap.size:=ov.lt
   have zz12:=B.size
   go_wp2_with fail
   refine(IN _ _ (Fb.out.keeps keepsB)).mono ?_
   rintro e w13 ⟨rfl,st⟩
   have sk:=bA w12 st
   replace B:=bS B sk
   have ou:Blk w13 (w12.heap.size) 30 #[.bool b1,.slice b2 b3 b4]:=Blk.stepsK st
   replace ov:=ov.steps sk
   replace Fa:=Hid.mk_ (Fa.out.steps sk)
   replace Fb:=Hid.mk_ (Fb.out.steps sk)
   replace kk:=kk.then_ sk
   clear st sk
   go_wp2_with fail
   refine bodyPost_ret (by simp[results,Tryz.results34,go_sem,]; rfl) rfl ?_
   exact⟨rfl,below_steps BB.out (Nat.le_refl _) belowB⟩
end Go.Proofs.YtdkcffnmlllamaaGreat
