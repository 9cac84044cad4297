import Derived.Test.YtdkcffnmlllamaaGreatMKc
import Derived.Test.YtdkcffnmlllamaaGreatMCh
set_option linter.unusedVariables false
set_option linter.unusedSimpArgs false
namespace Go.Proofs.YtdkcffnmlllamaaGreat
open Go.RowKit
def BoolsR (w:World) (v:Value) (l:List Bool):Prop:=∃ao cap,v = .slice ao l.length cap∧l.length≤cap∧(l≠ []→∃b o,ao=some ⟨b,o,none⟩∧b<w.heap.size∧∀t,t<l.length→w.cell? ⟨b,o+t,none⟩=some (.bool (l.getD t false)))
theorem BoolsR.steps {w w':World} {v:Value} {l:List Bool} (h:BoolsR w v l) (s:Steps w w'):BoolsR w' v l:=by
 obtain⟨ao,cap,e,hc,h2⟩:=h
 exact⟨ao,cap,e,hc,fun hne=>by obtain⟨b,o,e,hb,h3⟩:=h2 hne; exact⟨b,o,e,Nat.lt_of_lt_of_le hb s.size,fun t ht=>(s.cell (p:=⟨b,_,none⟩) hb).trans (h3 t ht)⟩⟩
theorem BoolsR.shape {w:World} {v:Value} {l:List Bool} (h:BoolsR w v l):∃ao cap,v = .slice ao l.length cap:=by obtain⟨ao,cap,e,_⟩:=h; exact⟨ao,cap,e⟩
theorem BoolsR.at' {w:World} {ao:Option Addr} {n cap:Nat} {l:List Bool} (h:BoolsR w (.slice ao n cap) l) {t:Nat} (ht:t<l.length):∃b o,ao=some ⟨b,o,none⟩∧b<w.heap.size∧w.cell? ⟨b,o+t,none⟩=some (.bool (l.getD t false)):=by
 obtain⟨ao',cap',e,_,h2⟩:=h
 injection e with e1 e2 e3
 subst e1
 obtain⟨b,o,e,hb,hc⟩:=h2 (fun e=>by rw[e]at ht; cases ht)
 exact⟨b,o,e,hb,hc t ht⟩
def rowC (g:Nat→Bool) (f:Nat→Int) (p:Nat):Nat→List Int
 | 0=> []
 | k+1=>rowC g f p k++(if g (p+k)then []else [f (p+k)])
def rowsC (g:Nat→Bool) (f:Nat→Int) (W x0 na y0:Nat):Nat→List Int
 | 0=> []
 | k+1=>rowsC g f W x0 na y0 k++rowC g f ((y0+k)*W+x0) na
theorem rowC_len {g:Nat→Bool} {f:Nat→Int} {p:Nat} : ∀k,(rowC g f p k).length≤k
 | 0=>Nat.le_refl _
 | k+1=>by
  unfold rowC
  have:=rowC_len (g:=g) (f:=f) (p:=p) k
  split<;>simp<;>omega
theorem rowsC_len {g:Nat→Bool} {f:Nat→Int} {W x0 na y0:Nat} : ∀k,(rowsC g f W x0 na y0 k).length≤k*na
 | 0=>by simp[rowsC]
 | k+1=>by
  unfold rowsC
  have h1:=rowsC_len (g:=g) (f:=f) (W:=W) (x0:=x0) (na:=na) (y0:=y0) k
  have h2:=rowC_len (g:=g) (f:=f) (p:=(y0+k)*W+x0) na
  rw[List.length_append,Nat.succ_mul]
  omega
def cellC (g:Nat→Bool) (f:Nat→Int) (W H S i j:Nat):List Int:=rowsC g f W (i*S) (min W ((i+1)*S)-i*S) (j*S) (min H ((j+1)*S)-j*S)
theorem mem_rowC {g:Nat→Bool} {f:Nat→Int} {p:Nat} {x:Int} : ∀k,x∈rowC g f p k→∃t,t<k∧g (p+t)=false∧x=f (p+t)
 | 0,h=>by cases h
 | k+1,h=>by
  unfold rowC at h
  rcases List.mem_append.1 h with h | h
  ·
   obtain⟨t,h1,h2⟩:=mem_rowC k h
   exact⟨t,by omega,h2⟩
  ·
   cases hg:g (p+k)with
   | true=>rw[hg]at h; cases h
   | false=>rw[hg]at h; exact⟨k,by omega,hg,by simpa using h⟩
theorem mem_rowsC {g:Nat→Bool} {f:Nat→Int} {W x0 na y0:Nat} {x:Int} : ∀k,x∈rowsC g f W x0 na y0 k→∃s t,s<k∧t<na∧g ((y0+s)*W+x0+t)=false∧x=f ((y0+s)*W+x0+t)
 | 0,h=>by cases h
 | k+1,h=>by
  unfold rowsC at h
  rcases List.mem_append.1 h with h | h
  ·
   obtain⟨s,t,h1,h2⟩:=mem_rowsC k h
   exact⟨s,t,by omega,h2⟩
  ·
   obtain⟨t,h1,h2⟩:=mem_rowC na h
   exact⟨k,t,by omega,h1,h2⟩
theorem idx_lt {W H y x:Nat} (hy:y<H) (hx:x<W):y*W+x<W*H:=by
 have:=Nat.mul_le_mul_right W (show y+1≤H by omega)
 rw[Nat.succ_mul,Nat.mul_comm H W]at this
 omega
theorem cell_ends {n S i:Nat} (hS:1≤S) (hi:i*S<n):0<min n ((i+1)*S)-i*S∧i*S+(min n ((i+1)*S)-i*S)=min n ((i+1)*S):=by
 have:(i+1)*S=i*S+S:=Nat.succ_mul i S
 omega
set_option maxHeartbeats 6400000 in
set_option maxRecDepth 1000000 in
theorem pinside {ao bo:Option Addr} {n cap bcap:Nat} {X Y S i j:Nat} {l:List Int} {bl:List Bool} (w:World) (h:IntsR w (.slice ao n cap) l) (hb:BoolsR w (.slice bo n bcap) bl) (hl:l.length=n) (hbl:bl.length=n) (hn:X*Y=n)
  (x1:1≤X) (x2:X≤100) (y1:1≤Y) (y2:Y≤100) (s1:1≤S) (s2:S≤30) (hi:i*S<X) (hj:j*S<Y) :
  Calls Tryz.prog 36 #[.agg #[.int .i64 (X:Int),.int .i64 (Y:Int),.slice ao n cap],.slice bo n bcap,.int .i64 (S:Int),.int .i64 (i:Int),.int .i64 (j:Int)] w fun e w'=>∃v,e = .returned v∧IntsR w' v (cellC (fun t=>bl.getD t false) (fun t=>l.getD t 0) X Y S i j)∧Steps w w':=by
 have HP:=Hid.mk_ h
 have HB:=Hid.mk_ hb
 have i9:i≤100:=by have:=Nat.le_mul_of_pos_right i s1; omega
 have j9:j≤100:=by have:=Nat.le_mul_of_pos_right j s1; omega
 obtain⟨n1,n2⟩:=cell_ends s1 hi
 obtain⟨m1,m2⟩:=cell_ends s1 hj
 have z1:(i+1)*S≤4000:=Nat.le_trans (Nat.mul_le_mul (show i+1≤101 by omega) s2) (by omega)
 have z2:(j+1)*S≤4000:=Nat.le_trans (Nat.mul_le_mul (show j+1≤101 by omega) s2) (by omega)
 have wx0:IntKind.i64.wrap ((i:Int)*(S:Int))=((i*S:Nat):Int):=by rw[← Int.natCast_mul,IntKind.wrap_i64]; omega
 have wy0:IntKind.i64.wrap ((j:Int)*(S:Int))=((j*S:Nat):Int):=by rw[← Int.natCast_mul,IntKind.wrap_i64]; omega
 have wx1:IntKind.i64.wrap (((i:Int)+1)*(S:Int))=(((i+1)*S:Nat):Int):=by
  rw[show ((i:Int)+1)*(S:Int)=(((i+1)*S:Nat):Int) by rw[Int.natCast_mul]; rfl,IntKind.wrap_i64]; omega
 have wy1:IntKind.i64.wrap (((j:Int)+1)*(S:Int))=(((j+1)*S:Nat):Int):=by
  rw[show ((j:Int)+1)*(S:Int)=(((j+1)*S:Nat):Int) by rw[Int.natCast_mul]; rfl,IntKind.wrap_i64]; omega
 unfold cellC
 obtain⟨gg,hgg⟩:∃g:Nat→Bool,∀t,bl.getD t false=g t:=⟨_,fun _=>rfl⟩
 obtain⟨ff,hff⟩:∃f:Nat→Int,∀t,l.getD t 0=f t:=⟨_,fun _=>rfl⟩
 simp only[hgg,hff]
 have Hg:=Hid.mk_ hgg
 have Hf:=Hid.mk_ hff
 generalize hna:min X ((i+1)*S)-i*S=na at *
 generalize hnb:min Y ((j+1)*S)-j*S=nb at *
 generalize (i+1)*S=xe at *
 generalize (j+1)*S=ye at *
 generalize i*S=x0 at *
 generalize j*S=y0 at *
 have HL:=Hid.mk_ (And.intro hl hbl)
 have HN:=Hid.mk_ hn
 have nb1:n≤10000:=by rw[← hn]; exact Nat.mul_le_mul x2 y2
 have R0:=Hid.mk_ (show rowsC gg ff X x0 na y0 0 = [] from rfl)
 have RS:=Hid.mk_ (show ∀k,rowsC gg ff X x0 na y0 (k+1)=rowsC gg ff X x0 na y0 k++rowC gg ff ((y0+k)*X+x0) na from fun k=>rfl)
 have RL:=Hid.mk_ (fun k=>rowsC_len (g:=gg) (f:=ff) (W:=X) (x0:=x0) (na:=na) (y0:=y0) k)
 generalize rowsC gg ff X x0 na y0=RR at *
 clear h hb hl hbl hn hgg hff hna hnb
 go_enter Tryz.func36,Tryz.ntmps36
 go_wp2_with fail
 go_loopw [12,11] (fun ky oo wr=>∃ (t y L:Nat) (ow:Value),y=y0+t∧t≤nb∧ky = .int .i64 (y:Int)∧ow=oo∧L=(RR t).length∧RowU wr (w.heap.size+1) 2 1 ow L (ints (RR t))∧Blk wr w.heap.size 26 #[.int .i64 (X:Int),.int .i64 (Y:Int),.slice ao n cap]∧Below w.heap.size w wr) (fun ky _ _=>4000-(intOf ky).toNat)
 case atStart=>exact⟨0,y0,0,_,rfl,Nat.zero_le _,rfl,rfl,by rw[R0.out]; rfl,by rw[R0.out]; exact RowU.nil _ _ _ _,ownK,belowB⟩
 case round=>
  rename World=>wo
  obtain⟨t,y,L,ow,hy,ht,rfl,rfl,hL,hr,of,B⟩:=hrel
  obtain⟨cf0,cf1⟩:=of.r1
  have HR:=Hid.mk_ (And.intro hL hr)
  have Hy:=Hid.mk_ hy
  obtain⟨oa,oc,rfl⟩:=hr.len
  rcases Nat.lt_or_ge t nb with tn | tn
  ·
   have dy1:decide ((y:Int)<(Y:Int))=true:=decide_eq_true (by omega)
   have dy1N:decide (y<Y)=true:=decide_eq_true (by omega)
   have dy2:decide ((y:Int)<(ye:Int))=true:=decide_eq_true (by omega)
   have dy2N:decide (y<ye)=true:=decide_eq_true (by omega)
   have yY:y<Y:=by omega
   have yX:=idx_lt (W:=X) (H:=Y) (y:=y) (x:=0) (by omega) (by omega)
   rw[HN.out]at yX
   have HQ:∀x,x<X→y*X+x<n:=fun x hx=>by rw[← HN.out]; exact idx_lt (by omega) hx
   obtain⟨q,hq⟩:∃q,y*X=q:=⟨_,rfl⟩
   rw[hq]at yX HQ
   have Hq:=Hid.mk_ hq
   have wq:IntKind.i64.wrap ((y:Int)*(X:Int))=(q:Int):=by rw[← Int.natCast_mul,hq,IntKind.wrap_i64]; omega
   have C0:=Hid.mk_ (show rowC gg ff (q+x0) 0 = [] from rfl)
   have CS:=Hid.mk_ (show ∀k,rowC gg ff (q+x0) (k+1)=rowC gg ff (q+x0) k++(if gg (q+x0+k)then []else [ff (q+x0+k)]) from fun k=>rfl)
   have CL:=Hid.mk_ (fun k=>rowC_len (g:=gg) (f:=ff) (p:=q+x0) k)
   have CE:=Hid.mk_ (show RR (t+1)=RR t++rowC gg ff (q+x0) na by rw[RS.out t,← hy,hq])
   have LB:(RR t).length≤10000:=Nat.le_trans (RL.out t) (Nat.le_trans (Nat.mul_le_mul (show t≤100 by omega) (show na≤100 by omega)) (by omega))
   generalize rowC gg ff (q+x0)=CC at *
   clear hy hL hr hq
   go_wp2_with fail
   clear cf0 cf1
   go_loopw [13,11] (fun kx oo wr=>∃ (s x M:Nat) (ow:Value),x=x0+s∧s≤na∧kx = .int .i64 (x:Int)∧ow=oo∧M=(RR t++CC s).length∧RowU wr (w.heap.size+1) 2 1 ow M (ints (RR t++CC s))∧Blk wr w.heap.size 26 #[.int .i64 (X:Int),.int .i64 (Y:Int),.slice ao n cap]∧Below w.heap.size w wr) (fun kx _ _=>4000-(intOf kx).toNat)
   case atStart=>exact⟨0,x0,L,_,rfl,Nat.zero_le _,rfl,rfl,by rw[C0.out,List.append_nil]; exact HR.out.1,by rw[C0.out,List.append_nil]; exact HR.out.2,of,B⟩
   case round=>
    clear HR of B
    obtain⟨s,x,M,ow,hx,hs,rfl,rfl,hM,hr,of,B⟩:=hrel
    have cf0:=of.q0
    have cf2:=of.q2
    obtain⟨oa',oc',rfl⟩:=hr.len
    have HR:=Hid.mk_ (And.intro hM hr)
    have MB:M≤20000:=by rw[hM,List.length_append]; have:=CL.out s; omega
    rcases Nat.lt_or_ge s na with sn | sn
    ·
     have dx1:decide ((x:Int)<(X:Int))=true:=decide_eq_true (by omega)
     have dx1N:decide (x<X)=true:=decide_eq_true (by omega)
     have dx2:decide ((x:Int)<(xe:Int))=true:=decide_eq_true (by omega)
     have dx2N:decide (x<xe)=true:=decide_eq_true (by omega)
     have xX:x<X:=by omega
     have zN:=HQ x xX
     obtain⟨z,hz⟩:∃z,q+x=z:=⟨_,rfl⟩
     rw[hz]at zN
     have HZ:=Hid.mk_ (show q+x0+s=z by omega)
     have ez:(q:Int)+(x:Int)=(z:Int):=by omega
     obtain⟨bb,bof,rfl,hbb,hb0⟩:=HB.out.at' (t:=z) (by have:=HL.out.2; omega)
     rw[Hg.out]at hb0
     obtain⟨pb,pof,rfl,hpb,hp0⟩:=HP.out.at' (t:=z) (by have:=HL.out.1; omega)
     rw[Hf.out]at hp0
     have c0:wr.cell? ⟨bb,bof+z,none⟩=some (.bool (gg z)):=(B.cell (p:=⟨bb,_,none⟩) hbb).trans hb0
     have c1:wr.cell? ⟨pb,pof+z,none⟩=some (.int .i64 (ff z)):=(B.cell (p:=⟨pb,_,none⟩) hpb).trans hp0
     have CZ:=Hid.mk_ (CS.out s)
     rw[HZ.out]at CZ
     have hx':=Hid.mk_ hx
     clear hb0 hp0 hx hM hr hz
     cases hg:gg z with
     | true=>
      rw[hg]at c0 CZ
      go_wp2_with fail
      go_roundw
      case rel=>exact⟨s+1,x+1,M,_,by have:=hx'.out; omega,by omega,by go_num,rfl,by rw[CZ.out]; simpa using HR.out.1,by rw[CZ.out]; simpa using HR.out.2,of,B⟩
      case measure=>simp[intOf]; omega
     | false=>
      rw[hg]at c0 CZ
      generalize ff z=u at *
      have lf:=of.lt
      have zz:=B.size
      repeat' (first | ((with_reducible show wpList _ _ _ (⟨some 70,_,_,_,_,_⟩::_) _ _); refine app_i64 rfl (.tmp 58) (.tmp 69) rfl (w.heap.size+1) M (.slice oa' M oc') (RR t++CC s) rfl (HR.out.2.alloc _) wr.heap.size u rfl (Blk.new _ _ _) (by omega) (by rw[World.size_alloc]; omega) (fun v' w7 hr7 hg7=> ?_)) | go_values | go_skip | go_guarded | go_step | go_upon)
      obtain⟨oa3,oc3,rfl⟩:=hr7.len
      have r6:=HR.out.2.alloc (.cells #[.int .i64 u] 2)
      have of7:=r6.blk hg7 (of.alloc _) (by omega)
      have B7:=r6.below hg7 (B.alloc B.size _) (by omega)
      have HR7:=Hid.mk_ hr7
      clear r6 hg7 hr7 of B
      go_wp2_with fail
      go_roundw
      case rel=>exact⟨s+1,x+1,M+1,_,by have:=hx'.out; omega,by omega,by go_num,rfl,by rw[CZ.out,← List.append_assoc,List.length_append,← HR.out.1]; rfl,by rw[CZ.out,← List.append_assoc]; exact HR7.out,of7,B7⟩
      case measure=>simp[intOf]; omega
    ·
     obtain rfl:s=na:=by omega
     have e1:=CE.out
     have HR2:Hid (M=(RR (t+1)).length∧RowU wr (w.heap.size+1) 2 1 (.slice oa' M oc') M (ints (RR (t+1)))):=by rw[e1]; exact HR
     have Hx:=Hid.mk_ hx
     have hxx:x=X∨(x<X∧x=xe):=by omega
     clear hM hr HR e1 CE hx HQ
     rcases hxx with hxx | ⟨hxx,hxe⟩
     ·
      have dx1:decide ((x:Int)<(X:Int))=false:=decide_eq_false (by omega)
      have dx1N:decide (x<X)=false:=decide_eq_false (by omega)
      go_wp2_with fail
      go_roundw
      case rel=>exact⟨t+1,y+1,M,_,by have:=Hy.out; omega,by omega,by go_num,rfl,HR2.out.1,HR2.out.2,of,B⟩
      case measure=>simp[intOf]; omega
     ·
      have dx1:decide ((x:Int)<(X:Int))=true:=decide_eq_true (by omega)
      have dx1N:decide (x<X)=true:=decide_eq_true (by omega)
      have dx2:decide ((x:Int)<(xe:Int))=false:=decide_eq_false (by omega)
      have dx2N:decide (x<xe)=false:=decide_eq_false (by omega)
      go_wp2_with fail
      go_roundw
      case rel=>exact⟨t+1,y+1,M,_,by have:=Hy.out; omega,by omega,by go_num,rfl,HR2.out.1,HR2.out.2,of,B⟩
      case measure=>simp[intOf]; omega
  ·
   obtain rfl:t=nb:=by omega
   have hyy:y=Y∨(y<Y∧y=ye):=by omega
   clear hy hL hr
   rcases hyy with hyy | ⟨hyy,hye⟩
   ·
    have dy1:decide ((y:Int)<(Y:Int))=false:=decide_eq_false (by omega)
    have dy1N:decide (y<Y)=false:=decide_eq_false (by omega)
    go_wp2_with fail
    go_returns
    exact⟨_,rfl,by obtain⟨e9,h9⟩:=HR.out; subst e9; exact h9.ints,B⟩
   ·
    have dy1:decide ((y:Int)<(Y:Int))=true:=decide_eq_true (by omega)
    have dy1N:decide (y<Y)=true:=decide_eq_true (by omega)
    have dy2:decide ((y:Int)<(ye:Int))=false:=decide_eq_false (by omega)
    have dy2N:decide (y<ye)=false:=decide_eq_false (by omega)
    go_wp2_with fail
    go_returns
    exact⟨_,rfl,by obtain⟨e9,h9⟩:=HR.out; subst e9; exact h9.ints,B⟩
end Go.Proofs.YtdkcffnmlllamaaGreat
