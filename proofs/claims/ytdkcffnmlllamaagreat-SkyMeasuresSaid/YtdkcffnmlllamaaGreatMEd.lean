import Derived.Test.YtdkcffnmlllamaaGreatMCh
import Derived.Deep.RegionLaw
set_option linter.unusedVariables false
set_option linter.unusedSimpArgs false
set_option maxHeartbeats 6400000
set_option maxRecDepth 1000000
namespace Go.Proofs.YtdkcffnmlllamaaGreat
open Go.RowKit
def RowO (w:World) (base g n cap:Nat) (f:Nat→Int):Prop:=base≤g∧n≤cap∧cap≤maxLen∧∃cs,Blk w g 2 cs∧cs.size=cap∧noU32 cs=true∧∀i,i<n→cs[i]? = some (.int .i64 (f i))
theorem RowO.s {w:World} {base g n cap:Nat} {f:Nat→Int} (h:RowO w base g n cap f):RowS w g n f:=by
 obtain⟨h1,h2,h3,cs,h4,h5,h6,h7⟩:=h
 exact⟨cs,h4,by omega,h6,h7⟩
theorem RowO.steps {w w':World} {base g n cap:Nat} {f:Nat→Int} (h:RowO w base g n cap f) (s:Steps w w'):RowO w' base g n cap f:=by
 obtain⟨h1,h2,h3,cs,h4,h5⟩:=h
 exact⟨h1,h2,h3,cs,h4.steps s,h5⟩
theorem RowO.drew {w:World} {base g n cap:Nat} {f:Nat→Int} (h:RowO w base g n cap f):RowO w.drew base g n cap f:=by
 obtain⟨h1,h2,h3,cs,h4,h5⟩:=h
 exact⟨h1,h2,h3,cs,h4.drew,h5⟩
theorem RowO.put {w:World} {base g n cap:Nat} {f:Nat→Int} (h:RowO w base g n cap f) {i:Nat} (hi:i<n) (x:Int):RowO (w.setCell ⟨g,i,none⟩ (.int .i64 x)) base g n cap (fun k=>if k=i then x else f k):=by
 obtain⟨h1,h2,h3,cs,hb,hs,hu,hc⟩:=h
 refine⟨h1,h2,h3,_,hb.set_ i _,by rw[Array.size_setIfInBounds]; exact hs,noU_set hu i x,fun k hk=> ?_⟩
 by_cases e:k=i
 ·
  subst e
  rw[Array.getElem?_setIfInBounds_self_of_lt (by omega)]; dsimp only; rw[if_pos rfl]
 ·
  rw[Array.getElem?_setIfInBounds_ne (fun h=>e h.symm)]; dsimp only; rw[if_neg e]
  exact hc k hk
theorem RowO.swap {w:World} {base g n cap:Nat} {f:Nat→Int} (h:RowO w base g n cap f) {i j:Nat} (hi:i<n) (hj:j<n) :
  RowO ((w.setCell ⟨g,i,none⟩ (.int .i64 (f j))).setCell ⟨g,j,none⟩ (.int .i64 (f i))) base g n cap (swp f i j):=by
 obtain⟨h1,h2,h3,cs,h4,h5,h6,h7⟩:=(h.put hi (f j)).put hj (f i)
 refine⟨h1,h2,h3,cs,h4,h5,h6,fun k hk=> ?_⟩
 rw[h7 k hk]
 unfold swp
 by_cases e1:k=i
 ·
  by_cases e2:k=j
  · subst e1; subst e2; simp
  · simp[e1,e2,if_neg (fun e=>e2 (e1.trans e))]
 · simp[e1]
theorem rowO_of {w:World} {base n:Nat} {v:Value} {l:List Int} (h:RowU w base 2 1 v n (ints l)) (hl:l.length=n) (h0:0<n):∃g cap,v = .slice (some ⟨g,0,none⟩) n cap∧RowO w base g n cap (fun i=>l.getD i 0):=by
 rcases h.own.2 with⟨rfl,e⟩ | ⟨g,cap,cur,rfl,h1,h2,h3,h4,h5,h6⟩
 · omega
 ·
  rw[Nat.mul_one]at h6 h5
  exact⟨g,cap,rfl,h1,h3,h4,cur,h2,h5,h.noU g cur rfl h2,fun i hi=>cur_get hl h6 hi⟩
theorem RowO.toU {w:World} {base g n cap:Nat} {f:Nat→Int} (h:RowO w base g n cap f):RowU w base 2 1 (.slice (some ⟨g,0,none⟩) n cap) n (ints ((List.range n).map f)):=by
 obtain⟨h1,h2,h3,cs,hb,hs,hu,hc⟩:=h
 refine⟨⟨by simp[ints],.inr ⟨g,cap,cs,rfl,h1,hb,h2,h3,by omega,?_⟩⟩,fun g' cur e hh=> ?_⟩
 ·
  rw[Nat.mul_one]
  apply List.ext_getElem?
  intro i
  rw[List.getElem?_take]
  by_cases hi:i<n
  ·
   rw[if_pos hi,Array.getElem?_toList,hc i hi]
   simp[ints,hi]
  · rw[if_neg hi,List.getElem?_eq_none (by simp[ints]; omega)]
 ·
  injection e with e
  have e2:g=g':=e
  subst e2
  have hh2:w.heap[g]? = some (.cells cs 2 (0,0)):=hb
  rw[hh2]at hh
  injection hh with hh
  injection hh with hh
  rw[← hh]; exact hu
theorem srt_snoc (a:List Int) (x:Int):srt (srt a ++ [x])=srt (a ++ [x]):=srt_perm_eq ((srt_perm a).append_right [x])
theorem srt_nil:srt [] = []:=List.eq_nil_of_length_eq_zero (by rw[srt_len]; rfl)
theorem up_app {s:List Int} {x:Int} {t:Nat} (h:Asc s) (hl:s.length=t):Up (fun i=>(s ++ [x]).getD i 0) 0 t:=fun i j _ h2 h3=>by
 have e:∀k,k<t→(s ++ [x]).getD k 0=s.getD k 0:=fun k hk=>by simp[List.getD,List.getElem?_append_left (show k<s.length by omega)]
 show (s ++ [x]).getD i 0≤(s ++ [x]).getD j 0
 rw[e i (by omega),e j h3]
 exact asc_get h h2 (by omega)
theorem sorted_step {l:List Int} {t n:Nat} {f':Nat→Int} (ht:t<l.length) (hn:t+1=n) (hs:SP 0 n (fun i=>(srt (l.take t) ++ [l.getD t 0]).getD i 0) f') (hu:Up f' 0 n):(List.range n).map f'=srt (l.take (t+1)):=by
 rw[up_srt hs hu]
 have e:(List.range n).map (fun i=>(srt (l.take t) ++ [l.getD t 0]).getD i 0)=srt (l.take t) ++ [l.getD t 0]:=by
  have h2:(srt (l.take t) ++ [l.getD t 0]).length=n:=by rw[List.length_append,srt_len,List.length_take]; simp; omega
  rw[← h2]; exact map_getD _
 rw[e,srt_snoc,take_step ht]
theorem swp_comm (f:Nat→Int) (i j:Nat):swp f i j=swp f j i:=by
 funext k
 unfold swp
 by_cases h1:k=i
 ·
  by_cases h2:k=j
  · rw[if_pos h1,if_pos h2,← h1,← h2]
  · rw[if_pos h1,if_neg h2,if_pos h1]
 ·
  by_cases h2:k=j
  · rw[if_neg h1,if_pos h2,if_pos h2]
  · rw[if_neg h1,if_neg h2,if_neg h2,if_neg h1]
theorem RowU.ints_len {w:World} {base n:Nat} {v:Value} {l:List Int} (h:RowU w base 2 1 v n (Go.Proofs.YtdkcffnmlllamaaGreat.ints l)) (hl:l.length=n):IntsR w v l:=by
 subst hl; exact h.ints
theorem prsorted {vl:Value} {l:List Int} (w:World) (hl:IntsR w vl l) (hn:l.length≤100) :
  Calls Tryz.prog 20 #[vl] w fun e w'=>∃v,e = .returned v∧IntsR w' v (srt l)∧Steps w w':=by
 obtain⟨la,lc,rfl⟩:=hl.shape
 have HL:=Hid.mk_ hl
 obtain⟨N,hN⟩:∃n,l.length=n:=⟨_,rfl⟩
 have HN:=Hid.mk_ hN
 rw[hN]at hn HL⊢
 clear hl hN
 go_enter Tryz.func20,Tryz.ntmps20
 go_wp2_with fail
 go_loopw [4,3] (fun kk oo wr=>∃ (t:Nat) (ow:Value),ow=oo∧t≤N∧kk = .int .i64 t∧RowU wr w.heap.size 2 1 ow t (ints (srt (l.take t)))∧Below w.heap.size w wr) (fun kk _ _=>N-(intOf kk).toNat)
 case atStart=>exact⟨0,_,rfl,Nat.zero_le _,rfl,by rw[show srt (l.take 0) = [] from srt_nil]; exact RowU.nil _ _ _ _,belowB⟩
 case round=>
  obtain⟨t,ow,rfl,ht,rfl,hr,B⟩:=hrel
  obtain⟨oa,ocap,rfl⟩:=hr.len
  have HR:=Hid.mk_ hr
  clear hr
  rcases Nat.lt_or_ge t N with tn | tn
  ·
   have hlt:decide ((t:Int)<(N:Int))=true:=decide_eq_true (by omega)
   obtain⟨b,of,rfl,hbl,hx0⟩:=HL.out.at' (t:=t) (by have:=HN.out; omega)
   obtain⟨x,hxx⟩:∃x,l.getD t 0=x:=⟨_,rfl⟩
   rw[hxx]at hx0
   have HX:=Hid.mk_ hxx
   have c1:wr.cell? ⟨b,of+t,none⟩=some (.int .i64 x):=(B.cell (p:=⟨b,_,none⟩) hbl).trans hx0
   have zz:=B.size
   clear hx0 hxx
   repeat' (first | ((with_reducible show wpList _ _ _ (⟨some 18,_,_,_,_,_⟩::_) _ _); refine app_i64 rfl (.tmp 12) (.tmp 17) rfl w.heap.size t (.slice oa t ocap) (srt (l.take t)) rfl (HR.out.alloc _) wr.heap.size x rfl (Blk.new _ _ _) (by omega) (by rw[World.size_alloc]; omega) (fun v' w7 hr7 hg7=> ?_)) | go_values | go_skip | go_guarded | go_step | go_upon)
   have r6:=HR.out.alloc (.cells #[.int .i64 x] 2)
   have B7:=r6.below hg7 (B.alloc B.size _) (Nat.le_refl _)
   obtain⟨n,hn1⟩:∃z,t+1=z:=⟨_,rfl⟩
   rw[hn1]at hr7
   have sl:(srt (l.take t)).length=t:=by rw[srt_len,List.length_take]; have:=HN.out; omega
   obtain⟨g,cap,rfl,ro⟩:=rowO_of hr7 (by rw[List.length_append,sl]; exact hn1) (by omega)
   have HU:=Hid.mk_ (up_app (x:=x) (srt_asc (l.take t)) sl)
   have RO:=Hid.mk_ ro
   have HN1:=Hid.mk_ hn1
   have tn1:t<n:=by omega
   have n25:n≤100:=by omega
   obtain⟨f1,hf1⟩:∃f:Nat→Int,(fun i=>(srt (l.take t) ++ [x]).getD i 0)=f:=⟨_,rfl⟩
   rw[hf1]at RO HU
   have HF:=Hid.mk_ hf1
   have wg:w.heap.size≤g:=ro.1
   clear r6 hg7 hr7 HR B ro sl hf1 hn1 c1
   go_wp2_with fail
   go_loopw [5] (fun kk wq=>∃ (k:Nat) (f':Nat→Int),k≤t∧kk = .int .i64 k∧RowO wq w.heap.size g n cap f'∧SP 0 n f1 f'∧Ins f' 0 k t∧Below w.heap.size w wq) (fun kk _=>(intOf kk).toNat)
   case atStart=>exact⟨t,f1,Nat.le_refl _,rfl,RO.out,SP.refl f1,Ins.start HU.out,B7⟩
   case round=>
    rename World=>wq
    clear B7 RO
    obtain⟨k,f2,kt,rfl,ro,sp2,in2,Bq⟩:=hrel
    have gq:=ro.s.lt
    have HR2:=Hid.mk_ ro
    have HS2:=Hid.mk_ (And.intro sp2 in2)
    clear ro sp2 in2
    have kn:k<n:=by omega
    rcases Nat.lt_or_ge 0 k with k0 | k0
    ·
     have hgt:decide ((0:Int)<(k:Int))=true:=decide_eq_true (by omega)
     obtain⟨r,hv⟩:∃z,k-1=z:=⟨_,rfl⟩
     have ev:(k:Int)-1=(r:Int):=by omega
     have vn:r<n:=by omega
     have kv:k≠r:=by omega
     have vk:r≠k:=by omega
     have hvt:r≤t:=by omega
     have hvlt:r<k:=by omega
     have ck:=HR2.out.s.c (i:=k) kn
     have cv:=HR2.out.s.c (i:=r) vn
     obtain⟨z,hz⟩:∃z,f2 k=z:=⟨_,rfl⟩
     obtain⟨y,hy⟩:∃y,f2 r=y:=⟨_,rfl⟩
     rw[hz]at ck
     rw[hy]at cv
     have HXY:=Hid.mk_ (And.intro hz (And.intro hy hv))
     clear hz hy hv
     by_cases lt:z<y
     ·
      have dlt:decide (z<y)=true:=decide_eq_true lt
      repeat' (first | go_values | go_skip | go_guarded | go_step | go_upon)
      refine Reg.wp_chain (fun D v W=>Below wq.heap.size wq W∧True) (Reg.inl []) (Reg.gv []) Reg.None_ (fun _=>Reg.Any) (fun _ _=>False) (Reg.pl []) (Reg.pl [])
       (by kernel_rfl) (by kernel_rfl) (by kernel_rfl) (Reg.gvA _) (fun _=>⟨belowB,trivial⟩) (fun _ _ _ _ _ h=>h) (fun _ _ _ _ _ _ _ _ _ _ _ _ _=>Reg.none_) (fun _ _ _ _ h=>h.elim) (fun ops' Q' hops hQ=> ?_)
      repeat refine Reg.RP0 _ ?_
      refine Reg.RPg hops 23 ?_
      refine Reg.RPg hops 24 ?_
      refine Reg.RPg hops 25 ?_
      refine Reg.RPg hops 26 ?_
      apply Reg.RP rfl rfl (by rw[hops]; rfl) 27 rfl rfl
      ·
       intro D v W hc hj hf K' hK'
       obtain⟨j0,_⟩:=hj
       have c0:W.cell? ⟨g,r,none⟩=some (.int .i64 y):=(j0.cell (p:=⟨g,_,none⟩) gq).trans cv
       go_step
       exact hK'.out
      · rfl
      refine Reg.RPg hops 28 ?_
      refine Reg.RPg hops 29 ?_
      refine Reg.RPg hops 30 ?_
      apply Reg.RP rfl rfl (by rw[hops]; rfl) 31 rfl rfl
      ·
       intro D v W hc hj hf K' hK'
       obtain⟨j0,_⟩:=hj
       have c0:W.cell? ⟨g,k,none⟩=some (.int .i64 z):=(j0.cell (p:=⟨g,_,none⟩) gq).trans ck
       go_step
       exact hK'.out
      · rfl
      refine Reg.RPg hops 32 ?_
      refine Reg.RP0 33 ?_
      refine Reg.RC_end (fun D v w9 hd hj hf=> ?_)
      obtain⟨st9,_⟩:=hj
      clear hd hf
      refine hQ _ _ ?_
      clear hQ hops Q' ops'
      have B9:=below_steps Bq (Nat.le_refl _) st9
      have hr9:=HR2.out.steps st9
      have ck9:w9.cell? ⟨g,k,none⟩=some (.int .i64 z):=(st9.cell (p:=⟨g,_,none⟩) gq).trans ck
      have cv9:w9.cell? ⟨g,r,none⟩=some (.int .i64 y):=(st9.cell (p:=⟨g,_,none⟩) gq).trans cv
      have fk:=hr9.s.fr k
      have fv:=hr9.s.fr r
      have gq9:=hr9.s.lt
      have HR9:=Hid.mk_ hr9
      clear hr9 ck cv gq st9
      go_upto_region 9 with fail
      go_region
      have e1:k-1=r:=HXY.out.2.2
      have lt2:f2 k<f2 (k-1):=by rw[e1,HXY.out.1,HXY.out.2.1]; exact lt
      have r2:RowO ((w9.setCell ⟨g,r,none⟩ (.int .i64 z)).setCell ⟨g,k,none⟩ (.int .i64 y)).drew w.heap.size g n cap (swp f2 k (k-1)):=by
       have:=(HR9.out.swap (i:=r) (j:=k) vn kn).drew
       rw[HXY.out.1,HXY.out.2.1]at this
       rw[e1,swp_comm]
       exact this
      have b2:Below w.heap.size w ((w9.setCell ⟨g,r,none⟩ (.int .i64 z)).setCell ⟨g,k,none⟩ (.int .i64 y)).drew:=(Below.setCell (p:=⟨g,k,none⟩) (Below.setCell (p:=⟨g,r,none⟩) B9 wg _) wg _).drew
      have HZ:=Hid.mk_ (And.intro r2 b2)
      have HI:=Hid.mk_ (Ins.step HS2.out.2 k0 kt lt2)
      have HP:=Hid.mk_ (HS2.out.1.swap (i:=k) (j:=k-1) (by omega) kn (by omega) (by omega))
      rw[e1]at HI HP HZ
      generalize ((w9.setCell ⟨g,r,none⟩ (.int .i64 z)).setCell ⟨g,k,none⟩ (.int .i64 y)).drew=w10 at *
      clear r2 b2 lt2 e1 ck9 cv9 fk fv gq9 HR9 HXY B9
      repeat' (first | go_values | go_skip | go_guarded | go_step | go_upon)
      go_roundw
      case rel=>exact⟨r,swp f2 k r,by omega,by go_num,HZ.out.1,HP.out,HI.out,HZ.out.2⟩
      case measure=>simp[intOf]; omega
     ·
      have dlt:decide (z<y)=false:=decide_eq_false lt
      have e1:k-1=r:=HXY.out.2.2
      have dn:=Hid.mk_ (Ins.done HS2.out.2 kt (.inr (by rw[e1,HXY.out.1,HXY.out.2.1]; exact lt)) (Nat.zero_le _))
      clear e1
      repeat' (first | go_values | go_skip | go_guarded | go_step | go_upon)
      refine Reg.wp_chain (fun D v W=>Below wq.heap.size wq W∧True) (Reg.inl []) (Reg.gv []) Reg.None_ (fun _=>Reg.Any) (fun _ _=>False) (Reg.pl []) (Reg.pl [])
       (by kernel_rfl) (by kernel_rfl) (by kernel_rfl) (Reg.gvA _) (fun _=>⟨belowB,trivial⟩) (fun _ _ _ _ _ h=>h) (fun _ _ _ _ _ _ _ _ _ _ _ _ _=>Reg.none_) (fun _ _ _ _ h=>h.elim) (fun ops' Q' hops hQ=> ?_)
      repeat refine Reg.RP0 _ ?_
      refine Reg.RPg hops 23 ?_
      refine Reg.RPg hops 24 ?_
      refine Reg.RPg hops 25 ?_
      refine Reg.RPg hops 26 ?_
      apply Reg.RP rfl rfl (by rw[hops]; rfl) 27 rfl rfl
      ·
       intro D v W hc hj hf K' hK'
       obtain⟨j0,_⟩:=hj
       have c0:W.cell? ⟨g,r,none⟩=some (.int .i64 y):=(j0.cell (p:=⟨g,_,none⟩) gq).trans cv
       go_step
       exact hK'.out
      · rfl
      refine Reg.RPg hops 28 ?_
      refine Reg.RPg hops 29 ?_
      refine Reg.RPg hops 30 ?_
      apply Reg.RP rfl rfl (by rw[hops]; rfl) 31 rfl rfl
      ·
       intro D v W hc hj hf K' hK'
       obtain⟨j0,_⟩:=hj
       have c0:W.cell? ⟨g,k,none⟩=some (.int .i64 z):=(j0.cell (p:=⟨g,_,none⟩) gq).trans ck
       go_step
       exact hK'.out
      · rfl
      refine Reg.RPg hops 32 ?_
      refine Reg.RP0 33 ?_
      refine Reg.RC_end (fun D v w9 hd hj hf=> ?_)
      obtain⟨st9,_⟩:=hj
      clear hd hf
      refine hQ _ _ ?_
      clear hQ hops Q' ops'
      have B9:=below_steps Bq (Nat.le_refl _) st9
      have hr9:=Hid.mk_ (HR2.out.steps st9)
      clear st9 HR2
      repeat' (first | go_values | go_skip | go_guarded | go_step | go_upon)
      go_roundw
      case rel=>exact⟨t+1,_,rfl,by omega,by go_num,by have h1:=hr9.out.toU; have h2:=HF.out; have h3:=HS2.out.1; rw[← h2,← HX.out]at h3; rw[sorted_step (by have:=HN.out; omega) HN1.out h3 (by rw[← HN1.out]; exact dn.out)]at h1; rw[HN1.out]at h1⊢; exact h1,B9⟩
      case measure=>simp[intOf]; omega
    ·
     obtain rfl:k=0:=by omega
     have hgt:decide ((0:Int)<((0:Nat):Int))=false:=rfl
     have dn:=Hid.mk_ (Ins.done HS2.out.2 kt (.inl rfl) (Nat.zero_le _))
     repeat' (first | go_values | go_skip | go_guarded | go_step | go_upon)
     refine Reg.wp_chain (fun D v W=>Below wq.heap.size wq W∧True) (Reg.inl []) (Reg.gv []) Reg.None_ (fun _=>Reg.Any) (fun _ _=>False) (Reg.pl []) (Reg.pl [])
      (by kernel_rfl) (by kernel_rfl) (by kernel_rfl) (Reg.gvA _) (fun _=>⟨belowB,trivial⟩) (fun _ _ _ _ _ h=>h) (fun _ _ _ _ _ _ _ _ _ _ _ _ _=>Reg.none_) (fun _ _ _ _ h=>h.elim) (fun ops' Q' hops hQ=> ?_)
     repeat refine Reg.RP0 _ ?_
     refine Reg.sks hops 4 ?_ rfl
     refine Reg.at53 rfl ?_
     refine Reg.sks hops 4 ?_ rfl
     refine Reg.at53 rfl ?_
     refine Reg.sks hops 2 ?_ rfl
     refine Reg.at53 rfl ?_
     refine Reg.RP0 33 ?_
     refine Reg.RC_end (fun D v w9 hd hj hf=> ?_)
     obtain⟨st9,_⟩:=hj
     clear hd hf
     refine hQ _ _ ?_
     clear hQ hops Q' ops'
     have B9:=below_steps Bq (Nat.le_refl _) st9
     have hr9:=Hid.mk_ (HR2.out.steps st9)
     clear st9 HR2
     repeat' (first | go_values | go_skip | go_guarded | go_step | go_upon)
     go_roundw
     case rel=>exact⟨t+1,_,rfl,by omega,by go_num,by have h1:=hr9.out.toU; have h2:=HF.out; have h3:=HS2.out.1; rw[← h2,← HX.out]at h3; rw[sorted_step (by have:=HN.out; omega) HN1.out h3 (by rw[← HN1.out]; exact dn.out)]at h1; rw[HN1.out]at h1⊢; exact h1,B9⟩
     case measure=>simp[intOf]; omega
  ·
   obtain rfl:t=N:=by omega
   have hlt:decide ((t:Int)<(t:Int))=false:=decide_eq_false (by omega)
   go_wp2_with fail
   go_returns
   exact⟨_,rfl,by have:=HR.out; rw[show l.take t=l by rw[← HN.out,List.take_length]]at this; have h2:=this.ints_len (by rw[srt_len]; exact HN.out); exact h2,B⟩
theorem prtwice {vl:Value} {l:List Int} (w:World) (hl:IntsR w vl l) (h0:l≠ []) (hv:midL l) :
  Calls Tryz.prog 59 #[vl] w fun e w'=>e = .returned (.int .i64 (twI l))∧Steps w w':=by
 have hp:=List.length_pos_iff.2 h0
 have OR:=fun w' (s:Steps w w')=>prsorted w' (hl.steps s) hv.1
 have r1:=hv.srt (i:=(l.length-1) / 2) (by omega)
 have r2:=hv.srt (i:=l.length / 2) (by omega)
 have sl:(srt l).length=l.length:=srt_len l
 have hn:=hv.1
 unfold twI
 obtain⟨s,hs⟩:∃s,srt l=s:=⟨_,rfl⟩
 rw[hs]at OR r1 r2 sl⊢
 obtain⟨n,hN⟩:∃n,l.length=n:=⟨_,rfl⟩
 rw[hN]at hp r1 r2 sl hn⊢
 obtain⟨la,lc,rfl⟩:=hl.shape
 rw[hN]at OR⊢
 obtain⟨x,hx⟩:∃x,s.getD ((n-1) / 2) 0=x:=⟨_,rfl⟩
 obtain⟨y,hy⟩:∃y,s.getD (n / 2) 0=y:=⟨_,rfl⟩
 rw[hx]at r1⊢
 rw[hy]at r2⊢
 have HX:=Hid.mk_ (And.intro hx hy)
 clear hl h0 hv hs hN hx hy
 go_enter Tryz.func59,Tryz.ntmps59
 go_wp2_with fail
 refine(OR _ belowB).mono ?_
 rintro e w1 ⟨v,rfl,hv,hs1⟩
 obtain⟨va,vc,rfl⟩:=hv.shape
 obtain⟨b,o,rfl,hb,hx0⟩:=hv.at' (t:=(n-1) / 2) (by omega)
 obtain⟨b',o',e2,hb',hy0⟩:=hv.at' (t:=n / 2) (by omega)
 cases e2
 rw[sl]
 rw[HX.out.1]at hx0
 rw[HX.out.2]at hy0
 have B1:Below w.heap.size w w1:=belowA hs1
 have q1:((n:Int)-1).tdiv 2=(((n-1) / 2:Nat):Int):=by rw[show (n:Int)-1=((n-1:Nat):Int) by omega]; rfl
 have q2:(n:Int).tdiv 2=((n / 2:Nat):Int):=rfl
 have i1:(n-1) / 2<n:=by omega
 have i2:n / 2<n:=by omega
 obtain⟨i,hi⟩:∃i,(n-1) / 2=i:=⟨_,rfl⟩
 obtain⟨k,hk⟩:∃k,n / 2=k:=⟨_,rfl⟩
 rw[hi]at hx0 q1 i1
 rw[hk]at hy0 q2 i2
 clear hv hs1 OR HX hi hk sl
 dsimp only
 repeat' (first | go_values | go_skip | go_guarded | go_step | go_upon)
 refine Reg.wp_chain (fun D v W=>Below w1.heap.size w1 W∧True) (Reg.inl []) (Reg.gv []) Reg.None_ (fun _=>Reg.Any) (fun _ _=>False) (Reg.pl []) (Reg.pl [])
  (by kernel_rfl) (by kernel_rfl) (by kernel_rfl) (Reg.gvA _) (fun _=>⟨belowB,trivial⟩) (fun _ _ _ _ _ h=>h) (fun _ _ _ _ _ _ _ _ _ _ _ _ _=>Reg.none_) (fun _ _ _ _ h=>h.elim) (fun ops' Q' hops hQ=> ?_)
 repeat refine Reg.RP0 _ ?_
 apply Reg.RP rfl rfl rfl 14 rfl rfl
 ·
  intro D v W hc hj hf K' hK'
  obtain⟨j0,_⟩:=hj
  have c0:W.cell? ⟨b,o+i,none⟩=some (.int .i64 x):=(j0.cell (p:=⟨b,_,none⟩) hb).trans hx0
  go_step
  exact hK'.out
 · rfl
 repeat refine Reg.RP0 _ ?_
 apply Reg.RP rfl rfl rfl 19 rfl rfl
 ·
  intro D v W hc hj hf K' hK'
  obtain⟨j0,_⟩:=hj
  have c0:W.cell? ⟨b,o+k,none⟩=some (.int .i64 y):=(j0.cell (p:=⟨b,_,none⟩) hb).trans hy0
  go_step
  exact hK'.out
 · rfl
 repeat refine Reg.RP0 _ ?_
 refine Reg.RC_end (fun D v w9 hd hj hf=> ?_)
 obtain⟨B,_⟩:=hj
 clear hd hf
 refine hQ _ _ ?_
 clear hQ hops Q' ops'
 repeat' (first | go_values | go_skip | go_guarded | go_step | go_upon)
 go_returns
 exact⟨rfl,below_steps B1 (Nat.le_refl _) B⟩
theorem prMedian {vl:Value} {l:List Int} (w:World) (hl:IntsR w vl l) (hn:l.length≤100000) (h20:askV l=0→l.length≤100) :
  Calls Tryz.prog 38 #[vl] w fun e w'=>∃v,e = .returned (.tuple #[v,.int .i64 (askV l)])∧FE w' v (askV l) (medQ l)∧Steps w w':=by
 have CS:∀w',Steps w w'→Calls Tryz.prog 54 #[vl] w' fun e w2=>e = .returned (.int .i64 (askV l))∧Steps w' w2:=fun w' s=>pvasked w' (hl.steps s) hn
 by_cases hk:askV l=0
 ·
  rw[hk]at CS⊢
  obtain⟨hv,h0⟩:=askV_val hk
  have md:=hv.mid (h20 hk)
  have TW:∀w',Steps w w'→Calls Tryz.prog 59 #[vl] w' fun e w2=>e = .returned (.int .i64 (twI l))∧Steps w' w2:=fun w' s=>prtwice w' (hl.steps s) h0 md
  have tr:=tw_range h0 md
  have OF:∀w',Calls Tryz.prog 45 #[.int .i64 (twI l),.int .i64 2] w' fun e w2=>∃v,e = .returned (.tuple #[v,.int .i64 0])∧FR w2 v (medQ l)∧Steps w' w2:=fun w'=>by
   unfold medQ
   exact rofF (twI l) 2 w' (by omega) (by omega) (by decide) (by decide) (by decide)
  obtain⟨la,lc,rfl⟩:=hl.shape
  generalize medQ l=mq at *
  generalize twI l=tw at *
  clear hl hn hk hv h0 md h20 tr
  go_enter Tryz.func38,Tryz.ntmps38
  go_wp2_with fail
  refine(CS _ belowB).mono ?_
  rintro e w1 ⟨rfl,hb1⟩
  have st:Steps _ w1:=hb1
  have B:=bA w st
  have or:Blk w1 (w.heap.size) 32 #[.bool false,.slice none 0 0,.bool false,.slice none 0 0]:=Blk.stepsK st
  clear st
  go_wp2_with fail
  refine(TW _ belowB).mono ?_
  rintro e w2 ⟨rfl,st⟩
  have sk:=bA w1 st
  replace B:=bS B sk
  replace or:=or.steps sk
  clear st sk
  go_wp2_with fail
  refine(OF _).mono ?_
  rintro e w3 ⟨vq,rfl,hvq,st⟩
  have sk:=bA w2 st
  replace B:=bS B sk
  replace or:=or.steps sk
  clear st sk
  obtain⟨cr0,cr1,cr2,cr3,fr,lr⟩:=or.s3
  obtain⟨q1,q2,q3,q4,q5,q6,q7,q8,rfl⟩:=hvq.shape
  have Fq:=Hid.mk_ hvq
  clear hvq
  have zr_3:w.heap.size<w3.heap.size:=or.lt
  have zz3:=B.size
  go_wp2_with fail
  refine bodyPost_ret (by simp[results,Tryz.results38,go_sem,cr0,cr1,cr2,cr3,fr,lr]; rfl) rfl ?_
  exact⟨_,rfl,FE.ok (Fq.out.keeps keepsB),belowB⟩
 ·
  obtain⟨la,lc,rfl⟩:=hl.shape
  generalize medQ l=mq at *
  generalize askV l=c at *
  have h3:(c==0)=false:=by simpa using hk
  have h4:(c != 0)=true:=by simpa using hk
  have HK:=Hid.mk_ hk
  clear hl hn hk h20
  go_enter Tryz.func38,Tryz.ntmps38
  go_wp2_with fail
  refine(CS _ belowB).mono ?_
  rintro e w1 ⟨rfl,hb1⟩
  have st:Steps _ w1:=hb1
  have B:=bA w st
  have or:Blk w1 (w.heap.size) 32 #[.bool false,.slice none 0 0,.bool false,.slice none 0 0]:=Blk.stepsK st
  clear st
  obtain⟨cr0,cr1,cr2,cr3,fr,lr⟩:=or.s3
  go_wp2_with fail
  refine bodyPost_ret (by simp[results,Tryz.results38,go_sem,cr0,cr1,cr2,cr3,fr,lr]; rfl) rfl ?_
  exact⟨_,rfl,FE.bad HK.out,belowB⟩
end Go.Proofs.YtdkcffnmlllamaaGreat
