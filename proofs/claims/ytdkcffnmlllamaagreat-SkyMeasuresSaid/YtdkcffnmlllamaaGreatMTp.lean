import Derived.Test.YtdkcffnmlllamaaGreatMTl
import Derived.Test.YtdkcffnmlllamaaGreatMNe
set_option linter.unusedVariables false
set_option linter.unusedSimpArgs false
set_option maxHeartbeats 6400000
set_option maxRecDepth 1000000
namespace Go.Proofs.YtdkcffnmlllamaaGreat
open Go.RowKit
theorem wto {va vb:Value} {x y:Int} (w:World) (ha:Num w va x) (hb:Num w vb y) (fx:fits x) (fy:fits y) :
  Calls Tryz.prog 116 #[va,vb] w fun e w'=>e = .returned (.int .i64 (cmpI x y))∧Steps w w':=by
 obtain⟨aa,ca,rfl,pa⟩:=ha.parts
 obtain⟨ab,cb,rfl,pb⟩:=hb.parts
 unfold fits at fx fy
 have nx:(limbs (absN x)).length≤few:=by unfold few; omega
 have ny:(limbs (absN y)).length≤few:=by unfold few; omega
 obtain⟨n,hn⟩:∃n,(limbs (absN x)).length=n:=⟨_,rfl⟩
 obtain⟨m,hm⟩:∃m,(limbs (absN y)).length=m:=⟨_,rfl⟩
 rw[hn]at pa⊢
 rw[hm]at pb⊢
 clear ha hb
 rcases Int.lt_or_le x 0 with h1 | h1
 ·
  have e1:decide (x<0)=true:=by simp[h1]
  rcases Int.lt_or_le y 0 with h2 | h2
  ·
   have e2:decide (y<0)=true:=by simp[h2]
   have E:=Hid.mk_ (cmpN_neg x y h1 h2)
   rw[e1,e2]
   clear hn hm e1 e2 h1 h2
   go_enter Tryz.func116,Tryz.ntmps116
   go_wp2_with fail
   refine(wcompare _ (pb.steps belowB) (pa.steps belowB) (absN_nonneg _) (absN_nonneg _) ny nx).mono ?_
   rintro e w1 ⟨rfl,hs1⟩
   go_wp2
   go_returns
   exact⟨retI E.out,(show Below _ _ _ from belowB).trans (hs1.mono (by simp only[World.size_alloc]; omega))⟩
  ·
   have e2:decide (y<0)=false:=by simp; omega
   have E:Hid (cmpI x y = -1):=by show cmpI x y = -1; unfold cmpI; rw[if_neg (by omega),if_pos (by omega)]
   rw[e1,e2]
   clear hn hm e1 e2 h1 h2
   go_enter Tryz.func116,Tryz.ntmps116
   go_wp2
   go_returns
   exact⟨retI E.out.symm,belowB⟩
 ·
  have e1:decide (x<0)=false:=by simp; omega
  rcases Int.lt_or_le y 0 with h2 | h2
  ·
   have e2:decide (y<0)=true:=by simp[h2]
   have E:Hid (cmpI x y=1):=by show cmpI x y=1; unfold cmpI; rw[if_neg (by omega),if_neg (by omega)]
   rw[e1,e2]
   clear hn hm e1 e2 h1 h2
   go_enter Tryz.func116,Tryz.ntmps116
   go_wp2
   go_returns
   exact⟨retI E.out.symm,belowB⟩
  ·
   have e2:decide (y<0)=false:=by simp; omega
   have E:=Hid.mk_ (cmpN_pos x y h1 h2)
   rw[e1,e2]
   clear hn hm e1 e2 h1 h2
   go_enter Tryz.func116,Tryz.ntmps116
   go_wp2_with fail
   refine(wcompare _ (pa.steps belowB) (pb.steps belowB) (absN_nonneg _) (absN_nonneg _) nx ny).mono ?_
   rintro e w1 ⟨rfl,hs1⟩
   go_wp2
   go_returns
   exact⟨retI E.out,(show Below _ _ _ from belowB).trans (hs1.mono (by simp only[World.size_alloc]; omega))⟩
theorem fzero {va:Value} {x:Int} (w:World) (ha:Num w va x):Calls Tryz.prog 79 #[va] w fun e w'=>e = .returned (.bool (decide (x=0)))∧Steps w w':=by
 obtain⟨aa,ca,rfl,pa⟩:=ha.parts
 have h0:=limbs_nil (absN_nonneg x)
 obtain⟨n,hn⟩:∃n,(limbs (absN x)).length=n:=⟨_,rfl⟩
 rw[hn]
 have E:Hid (((n:Int)==0)=decide (x=0)):=by
  show ((n:Int)==0)=decide (x=0)
  have h1:n=0↔x=0:=by
   rw[← hn,List.length_eq_zero_iff,h0]; unfold absN; omega
  by_cases h:x=0
  · rw[decide_eq_true h,h1.2 h]; rfl
  ·
   have:¬n=0:=fun e=>h (h1.1 e)
   rw[decide_eq_false h]; simp[this]
 clear hn h0 ha pa
 go_enter Tryz.func79,Tryz.ntmps79
 go_wp2
 go_returns
 exact⟨retB E.out,(show Below _ _ _ from(Below.refl _ _).alloc (Nat.le_refl _) _)⟩
theorem errC_eq {p:Prop} [Decidable p]:errC p=if p then 0 else 8:=rfl
theorem wcheck {n B cap:Nat} {ng:Nat→Bool} {sv:Nat→Value} {ls:Nat→List Int} (w:World) (hn:n≤1000) (hB:B<w.heap.size)
  (hc:∀k,k<n→w.cell? ⟨B,k*2,none⟩=some (.bool (ng k))∧w.cell? ⟨B,k*2+1,none⟩=some (sv k)∧Lim w (sv k) (ls k)) :
  Calls Tryz.prog 81 #[.slice (some ⟨B,0,none⟩) n cap] w fun e w'=>(e = .returned (.int .i64 0)∧(∀k,k<n→valid (ng k) (ls k))∨e = .returned (.int .i64 8)∧∃k,k<n∧¬valid (ng k) (ls k))∧Steps w w':=by
 go_enter Tryz.func81,Tryz.ntmps81
 go_wp2
 go_loopw [4,5,8] (fun p l kk wr=>∃k:Nat,k≤n∧kk = .int .i64 k∧(∀i,i<k→valid (ng i) (ls i))∧Below w.heap.size w wr) (fun _ _ k _=>n-(intOf k).toNat)
 case atStart=>exact⟨0,Nat.zero_le _,rfl,fun i h=>absurd h (Nat.not_lt_zero i),Below.refl _ _⟩
 case round=>
  obtain⟨k,hk,rfl,hv,hnx⟩:=hrel
  have Z:=hnx.size
  rcases Nat.lt_or_ge k n with h1 | h1
  ·
   obtain⟨c1,c2,hL⟩:=hc k h1
   have c1':=(hnx.cell (p:=⟨B,k*2,none⟩) hB).trans c1
   have c2':=(hnx.cell (p:=⟨B,k*2+1,none⟩) hB).trans c2
   obtain⟨g,hg⟩:∃g,ng k=g:=⟨_,rfl⟩
   obtain⟨l,hl⟩:∃l,ls k=l:=⟨_,rfl⟩
   rw[hl]at hL
   obtain⟨ao,lc,hsv⟩:=hL.shape
   rw[hsv]at hL c2'
   rw[hg]at c1'
   obtain⟨ok,-,lcap,fc⟩:=hL.cells
   obtain⟨len,hlen⟩:∃m,l.length=m:=⟨_,rfl⟩
   rw[hlen]at c2' lcap fc
   have bad:¬valid g l→∃k,k<n∧¬valid (ng k) (ls k):=fun h=>⟨k,h1,by rw[hg,hl]; exact h⟩
   have good:valid g l→∀i,i<k+1→valid (ng i) (ls i):=fun h i hi=>by
    rcases Nat.lt_or_ge i k with q | q
    · exact hv i q
    ·
     obtain rfl:i=k:=by omega
     rw[hg,hl]; exact h
   have HGd:=Hid.mk_ good
   have HBd:=Hid.mk_ bad
   have HN:=Hid.mk_ hnx
   clear c1 c2 hc hL hsv hg hl good bad hv
   rcases Nat.lt_or_ge 4096 len with q1 | q1
   ·
    have hX:=Hid.mk_ (HBd.out (fun h=>by have:=h.1; omega))
    clear fc
    go_wp2
    go_returns
    exact⟨Or.inr ⟨rfl,hX.out⟩,HN.out.alloc Z _⟩
   ·
    match len,hlen with
    | 0,hlen=>
     obtain rfl:=List.eq_nil_of_length_eq_zero hlen
     clear fc
     cases g
     ·
      have hX:=Hid.mk_ (HGd.out ⟨by simp,rfl,fun _=>rfl⟩)
      go_wp2
      go_roundw
      case rel=>exact⟨k+1,by omega,by go_num,hX.out,HN.out.alloc Z _⟩
      case measure=>simp[intOf]; omega
     ·
      have hX:=Hid.mk_ (HBd.out (fun h=>by have:=h.2.2 rfl; cases this))
      go_wp2
      go_returns
      exact⟨Or.inr ⟨rfl,hX.out⟩,HN.out.alloc Z _⟩
    | j+1,hlen=>
     obtain⟨b,o,rfl,hb,hcc⟩:=fc (by omega)
     have hi:=ltrim_iff hlen
     have g:=hcc j (by omega)
     obtain⟨x,hx⟩:∃x,l.getD j 0=x:=⟨_,rfl⟩
     rw[hx]at g hi
     have g1:=(hnx.cell (p:=⟨b,o+j,none⟩) hb).trans g
     have hbr:b<wr.heap.size:=Nat.lt_of_lt_of_le hb Z
     have hne:l≠ []:=by rintro rfl; cases hlen
     have g2:=Hid.mk_ g1
     have g3:∀os:Obj,(wr.alloc os).cell? ⟨b,o+j,none⟩=some (.int .u32 x):=fun os=>by
      rw[← g1]; exact World.cell?_of_block (Below.heap_alloc _ _ _ hbr)
     clear hcc fc g
     rcases Int.decEq x 0 with h2 | h2
     ·
      have hx0:(x==0)=false:=by simp[h2]
      have hX:=Hid.mk_ (HGd.out ⟨by omega,hi.2 h2,fun e=>absurd e hne⟩)
      clear hi hx
      go_wp2
      go_roundw
      case rel=>exact⟨k+1,by omega,by go_num,hX.out,HN.out.alloc Z _⟩
      case measure=>simp[intOf]; omega
     ·
      have hX:=Hid.mk_ (HBd.out (fun h=>hi.1 h.2.1 h2))
      clear hi hx
      subst h2
      go_wp2
      go_returns
      exact⟨Or.inr ⟨rfl,hX.out⟩,HN.out.alloc Z _⟩
  ·
   have hkn:k=n:=by omega
   subst hkn
   have HV:=Hid.mk_ hv
   clear hv hc
   go_wp2
   go_returns
   exact⟨Or.inl ⟨rfl,HV.out⟩,hnx⟩
theorem wcheck2 {B:Nat} {T:TypeId} {na nb:Bool} {sa sb:Value} {la lb:List Int} (w:World) (hb:Blk w B T #[.bool na,sa,.bool nb,sb]) (h1:Lim w sa la) (h2:Lim w sb lb) :
  Calls Tryz.prog 81 #[.slice (some ⟨B,0,none⟩) 2 2] w fun e w'=>e = .returned (.int .i64 (errC (valid na la∧valid nb lb)))∧Steps w w':=by
 have C:=wcheck (n:=2) (B:=B) (cap:=2) (ng:=fun k=>if k=0 then na else nb) (sv:=fun k=>if k=0 then sa else sb) (ls:=fun k=>if k=0 then la else lb) w (by omega) hb.lt (fun k hk=>by
  match k,hk with
  | 0,_=>exact⟨hb.c 0 rfl,hb.c 1 rfl,h1⟩
  | 1,_=>exact⟨hb.c 2 rfl,hb.c 3 rfl,h2⟩)
 refine C.mono ?_
 rintro e w' ⟨⟨rfl,hv⟩ | ⟨rfl,k,hk,hv⟩,hs⟩
 · exact⟨retI (show (0:Int)=errC _ from(if_pos ⟨hv 0 (by omega),hv 1 (by omega)⟩).symm),hs⟩
 ·
  refine⟨retI (show (8:Int)=errC _ from(if_neg (fun h=> ?_)).symm),hs⟩
  match k,hk,hv with
  | 0,_,hv=>exact hv h.1
  | 1,_,hv=>exact hv h.2
theorem wcheck1 {B:Nat} {T:TypeId} {na:Bool} {sa:Value} {la:List Int} (w:World) (hb:Blk w B T #[.bool na,sa]) (h1:Lim w sa la) :
  Calls Tryz.prog 81 #[.slice (some ⟨B,0,none⟩) 1 1] w fun e w'=>e = .returned (.int .i64 (errC (valid na la)))∧Steps w w':=by
 have C:=wcheck (n:=1) (B:=B) (cap:=1) (ng:=fun _=>na) (sv:=fun _=>sa) (ls:=fun _=>la) w (by omega) hb.lt (fun k hk=>by
  match k,hk with
  | 0,_=>exact⟨hb.c 0 rfl,hb.c 1 rfl,h1⟩)
 refine C.mono ?_
 rintro e w' ⟨⟨rfl,hv⟩ | ⟨rfl,k,hk,hv⟩,hs⟩
 · exact⟨retI (show (0:Int)=errC _ from(if_pos (hv 0 (by omega))).symm),hs⟩
 · exact⟨retI (show (8:Int)=errC _ from(if_neg (fun h=>hv h)).symm),hs⟩
theorem wcheck2_ok {B:Nat} {T:TypeId} {sa sb:Value} {x y:Int} (w:World) (hb:Blk w B T #[.bool (decide (x<0)),sa,.bool (decide (y<0)),sb]) (h1:Lim w sa (limbs (absN x))) (h2:Lim w sb (limbs (absN y))) (fx:fits x) (fy:fits y) :
  Calls Tryz.prog 81 #[.slice (some ⟨B,0,none⟩) 2 2] w fun e w'=>e = .returned (.int .i64 0)∧Steps w w':=by
 have:=wcheck2 w hb h1 h2
 rw[show errC (valid (decide (x<0)) (limbs (absN x))∧valid (decide (y<0)) (limbs (absN y)))=0 from if_pos ⟨valid_of fx,valid_of fy⟩]at this
 exact this
theorem wAdd {va vb:Value} {x y:Int} (w:World) (ha:Num w va x) (hb:Num w vb y) (fx:fits x) (fy:fits y) :
  Calls Tryz.prog 78 #[va,vb] w fun e w'=>∃v,e = .returned (.tuple #[v,.int .i64 (errN (x+y))])∧Num w' v (clipN (x+y))∧Steps w w':=by
 have ck:∀ (w':World) (q:Nat) (aa ab:Option Addr) (ca cb:Nat),Blk w' q 30 #[.bool (decide (x<0)),.slice aa (limbs (absN x)).length ca,.bool (decide (y<0)),.slice ab (limbs (absN y)).length cb]→Lim w' (.slice aa (limbs (absN x)).length ca) (limbs (absN x))→Lim w' (.slice ab (limbs (absN y)).length cb) (limbs (absN y))→
   Calls Tryz.prog 81 #[.slice (some ⟨q,0,none⟩) 2 2] w' fun e w2=>e = .returned (.int .i64 0)∧Steps w' w2:=fun w' q aa ab ca cb hb h1 h2=>wcheck2_ok w' hb h1 h2 fx fy
 have ad:=fun(w':World) (h:Steps w w')=>wadd w' (ha.steps h) (hb.steps h) fx fy
 obtain⟨aa,ca,rfl,pa⟩:=ha.parts
 obtain⟨ab,cb,rfl,pb⟩:=hb.parts
 have ck':=fun(w':World) (q:Nat)=>ck w' q aa ab ca cb
 obtain⟨n,hn⟩:∃n,(limbs (absN x)).length=n:=⟨_,rfl⟩
 obtain⟨m,hm⟩:∃m,(limbs (absN y)).length=m:=⟨_,rfl⟩
 rw[hn]at pa ad⊢
 rw[hm]at pb ad⊢
 simp only[hn,hm]at ck'
 obtain⟨gx,hgx⟩:∃b,decide (x<0)=b:=⟨_,rfl⟩
 obtain⟨gy,hgy⟩:∃b,decide (y<0)=b:=⟨_,rfl⟩
 rw[hgx,hgy]at ad⊢
 simp only[hgx,hgy]at ck'
 clear ha hb hn hm hgx hgy fx fy ck
 go_enter Tryz.func78,Tryz.ntmps78
 go_wp2_with fail
 refine(ck' _ _ ownB (pa.steps belowB) (pb.steps belowB)).mono ?_
 rintro e w1 ⟨rfl,st⟩
 have Bn:=bA w st
 have oa:Blk w1 (w.heap.size) 30 #[.bool gx,.slice aa n ca]:=Blk.stepsA st
 have ob:Blk w1 (w.heap.size+1) 30 #[.bool gy,.slice ab m cb]:=Blk.stepsA st
 have or:Blk w1 (w.heap.size+1+1) 30 #[.bool false,.slice none 0 0]:=Blk.stepsA st
 clear st
 have B:=Bn
 clear Bn
 obtain⟨ca0,ca1,fa,la⟩:=oa.s1
 obtain⟨cb0,cb1,fb,lb⟩:=ob.s1
 obtain⟨cr0,cr1,fr,lr⟩:=or.s1
 clear ck'
 go_wp2_with fail
 refine(ad _ B).mono ?_
 rintro e w2 ⟨v2,rfl,hn2,st⟩
 have Bn:=bA w st
 have na:=oa.stq st
 have nb:=ob.stq st
 have nr:=or.stq st
 clear B oa ob or ca0 ca1 fa la cb0 cb1 fb lb cr0 cr1 fr lr
 clear st
 have B:=Bn
 clear Bn
 have oa:=na
 clear na
 obtain⟨ca0,ca1,fa,la⟩:=oa.s1
 have ob:=nb
 clear nb
 obtain⟨cb0,cb1,fb,lb⟩:=ob.s1
 have or:=nr
 clear nr
 obtain⟨cr0,cr1,fr,lr⟩:=or.s1
 clear ad
 obtain⟨bb,ao,k,c,rfl⟩:=hn2.shape
 have HV:=Hid.mk_ hn2
 clear hn2
 go_wp2
 refine bodyPost_ret (by simp[results,Tryz.results78,go_sem,ca0,ca1,fa,la,cb0,cb1,fb,lb,cr0,cr1,fr,lr]; rfl) rfl ?_
 exact⟨_,rfl,HV.out.put2 or,belowB⟩
theorem wCmp {va vb:Value} {x y:Int} (w:World) (ha:Num w va x) (hb:Num w vb y) (fx:fits x) (fy:fits y) :
  Calls Tryz.prog 76 #[va,vb] w fun e w'=>e = .returned (.tuple #[.int .i64 (cmpI x y),.int .i64 0])∧Steps w w':=by
 have ck:∀ (w':World) (q:Nat) (aa ab:Option Addr) (ca cb:Nat),Blk w' q 30 #[.bool (decide (x<0)),.slice aa (limbs (absN x)).length ca,.bool (decide (y<0)),.slice ab (limbs (absN y)).length cb]→Lim w' (.slice aa (limbs (absN x)).length ca) (limbs (absN x))→Lim w' (.slice ab (limbs (absN y)).length cb) (limbs (absN y))→
   Calls Tryz.prog 81 #[.slice (some ⟨q,0,none⟩) 2 2] w' fun e w2=>e = .returned (.int .i64 0)∧Steps w' w2:=fun w' q aa ab ca cb hb h1 h2=>wcheck2_ok w' hb h1 h2 fx fy
 have ad:=fun(w':World) (h:Steps w w')=>wto w' (ha.steps h) (hb.steps h) fx fy
 obtain⟨aa,ca,rfl,pa⟩:=ha.parts
 obtain⟨ab,cb,rfl,pb⟩:=hb.parts
 have ck':=fun(w':World) (q:Nat)=>ck w' q aa ab ca cb
 obtain⟨n,hn⟩:∃n,(limbs (absN x)).length=n:=⟨_,rfl⟩
 obtain⟨m,hm⟩:∃m,(limbs (absN y)).length=m:=⟨_,rfl⟩
 rw[hn]at pa ad⊢
 rw[hm]at pb ad⊢
 simp only[hn,hm]at ck'
 obtain⟨gx,hgx⟩:∃b,decide (x<0)=b:=⟨_,rfl⟩
 obtain⟨gy,hgy⟩:∃b,decide (y<0)=b:=⟨_,rfl⟩
 rw[hgx,hgy]at ad⊢
 simp only[hgx,hgy]at ck'
 clear ha hb hn hm hgx hgy fx fy ck
 go_enter Tryz.func76,Tryz.ntmps76
 go_wp2_with fail
 refine(ck' _ _ ownB (pa.steps belowB) (pb.steps belowB)).mono ?_
 rintro e w1 ⟨rfl,st⟩
 have Bn:=bA w st
 have oa:Blk w1 (w.heap.size) 30 #[.bool gx,.slice aa n ca]:=Blk.stepsA st
 have ob:Blk w1 (w.heap.size+1) 30 #[.bool gy,.slice ab m cb]:=Blk.stepsA st
 clear st
 have B:=Bn
 clear Bn
 obtain⟨ca0,ca1,fa,la⟩:=oa.s1
 obtain⟨cb0,cb1,fb,lb⟩:=ob.s1
 clear ck'
 go_wp2_with fail
 refine(ad _ B).mono ?_
 rintro e w2 ⟨rfl,st⟩
 have Bn:=bA w st
 have na:=oa.stq st
 have nb:=ob.stq st
 clear B oa ob ca0 ca1 fa la cb0 cb1 fb lb
 clear st
 have B:=Bn
 clear Bn
 have oa:=na
 clear na
 obtain⟨ca0,ca1,fa,la⟩:=oa.s1
 have ob:=nb
 clear nb
 obtain⟨cb0,cb1,fb,lb⟩:=ob.s1
 clear ad
 go_wp2
 go_returns
 exact⟨rfl,belowB⟩
theorem fsame {va vb:Value} {x y:Int} (w:World) (ha:Num w va x) (hb:Num w vb y) (fx:fits x) (fy:fits y) :
  Calls Tryz.prog 111 #[va,vb] w fun e w'=>e = .returned (.bool (decide (x=y)))∧Steps w w':=by
 have ad:=fun(w':World) (h:Steps w w')=>wCmp w' (ha.steps h) (hb.steps h) fx fy
 obtain⟨c,hc⟩:∃c,cmpI x y=c:=⟨_,rfl⟩
 have E:Hid ((c==0)=decide (x=y)):=by
  show (c==0)=decide (x=y)
  have:=cmpI_cases x y
  rw[hc]at this
  by_cases h:x=y
  · rw[decide_eq_true h,show c=0 by omega]; rfl
  · rw[decide_eq_false h]; simp; omega
 rw[hc]at ad
 obtain⟨aa,ca,rfl,pa⟩:=ha.parts
 obtain⟨ab,cb,rfl,pb⟩:=hb.parts
 obtain⟨n,hn⟩:∃n,(limbs (absN x)).length=n:=⟨_,rfl⟩
 obtain⟨m,hm⟩:∃m,(limbs (absN y)).length=m:=⟨_,rfl⟩
 rw[hn,hm]at ad⊢
 obtain⟨gx,hgx⟩:∃b,decide (x<0)=b:=⟨_,rfl⟩
 obtain⟨gy,hgy⟩:∃b,decide (y<0)=b:=⟨_,rfl⟩
 rw[hgx,hgy]at ad⊢
 clear ha hb hn hm hgx hgy fx fy pa pb hc
 go_enter Tryz.func111,Tryz.ntmps111
 go_wp2_with fail
 refine(ad _ belowB).mono ?_
 rintro e w1 ⟨rfl,st⟩
 have Bn:=bA w st
 have oa:Blk w1 (w.heap.size) 30 #[.bool gx,.slice aa n ca]:=Blk.stepsA st
 have ob:Blk w1 (w.heap.size+1) 30 #[.bool gy,.slice ab m cb]:=Blk.stepsA st
 clear st
 have B:=Bn
 clear Bn
 obtain⟨ca0,ca1,fa,la⟩:=oa.s1
 obtain⟨cb0,cb1,fb,lb⟩:=ob.s1
 clear ad
 go_wp2
 go_returns
 exact⟨retB E.out,belowB⟩
theorem fone (w:World):Calls Tryz.prog 80 #[] w fun e w'=>∃v,e = .returned v∧Num w' v 1∧Steps w w':=by
 go_enter Tryz.func80,Tryz.ntmps80
 go_wp2_with fail
 refine(wfrom 1 _ (by omega) (by omega)).mono ?_
 rintro e w1 ⟨v2,rfl,hn2,st⟩
 have Bn:=bA w st
 have or:Blk w1 (w.heap.size) 30 #[.bool false,.slice none 0 0]:=Blk.stepsA st
 clear st
 have B:=Bn
 clear Bn
 obtain⟨cr0,cr1,fr,lr⟩:=or.s1
 obtain⟨bb,ao,k,c,rfl⟩:=hn2.shape
 have HV:=Hid.mk_ hn2
 clear hn2
 go_wp2
 refine bodyPost_ret (by simp[results,Tryz.results80,go_sem,cr0,cr1,fr,lr]; rfl) rfl ?_
 exact⟨_,rfl,HV.out.put2 or,belowB⟩
theorem or_add {u v:Int} (u0:0≤u∧u<4294967296) (v0:0≤v∧v<4294967296):bits .or .u64 u (v*4294967296)=u+v*4294967296:=by
 have:=bits_or_add (a:=v) (b:=u) (s:=32) v0.1 u0.1 (by simpa using u0.2) (by have:=Int.mul_le_mul_of_nonneg_right (show v≤4294967295 by omega) (show (0:Int)≤4294967296 by omega); simp; omega)
 rw[bits_or_comm64,Int.add_comm]
 simpa using this
theorem or_zero {v:Int} (v0:0≤v∧v<4294967296):bits .or .u64 0 v=v:=by
 have:=bits_or_add (a:=0) (b:=v) (s:=32) (by omega) v0.1 (by simpa using v0.2) (by omega)
 simpa using this
theorem wInt {va:Value} {x:Int} (w:World) (ha:Num w va x) (fx:fits x) :
  Calls Tryz.prog 51 #[va] w fun e w'=>e = .returned (.tuple #[.int .i64 (intI x),.int .i64 (errI x)])∧Steps w w':=by
 obtain⟨aa,ca,rfl,pa⟩:=ha.parts
 have ck:∀w' q,Blk w' q 30 #[.bool (decide (x<0)),.slice aa (limbs (absN x)).length ca]→Steps w w'→Calls Tryz.prog 81 #[.slice (some ⟨q,0,none⟩) 1 1] w' fun e w2=>e = .returned (.int .i64 0)∧Steps w' w2:=fun w' q hq h=>by
  have:=wcheck1 w' hq (pa.steps h)
  rw[show errC (valid (decide (x<0)) (limbs (absN x)))=0 from if_pos (valid_of fx)]at this
  exact this
 obtain⟨L,hL⟩:∃L,limbs (absN x)=L:=⟨_,rfl⟩
 have vL:=lval_limbs (absN_nonneg x)
 rw[hL]at pa ck vL⊢
 unfold fits at fx
 rw[hL]at fx
 obtain⟨n,hn⟩:∃n,L.length=n:=⟨_,rfl⟩
 obtain⟨ok,-,-,fa'⟩:=pa.cells
 have big:2<n→Hid (intI x=0∧errI x=16):=fun h=>by
  have h1:¬absN x<bp 2:=fun g=>by
   have:=(limbs_length (absN_nonneg x) 2).2 g
   rw[hL]at this; omega
  rw[bp_two]at h1
  have X:=absN_cases x
  exact⟨if_neg (by omega),if_neg (by omega)⟩
 have HL:Hid (lval L=absN x∧L.length=n∧lok L):=⟨vL,hn,ok⟩
 rw[hn]at ck pa fx fa'⊢
 obtain⟨g,hg⟩:∃b,decide (x<0)=b:=⟨_,rfl⟩
 rw[hg]at ck⊢
 have HG:=Hid.mk_ hg
 clear ha hL vL hn hg
 go_enter Tryz.func51,Tryz.ntmps51
 go_wp2_with fail
 refine(ck _ _ ownB belowB).mono ?_
 rintro e w1 ⟨rfl,st⟩
 have Bn:=bA w st
 have oa:Blk w1 (w.heap.size) 30 #[.bool g,.slice aa n ca]:=Blk.stepsA st
 clear st
 have B:=Bn
 clear Bn
 obtain⟨ca0,ca1,fa,la⟩:=oa.s1
 clear ck
 rcases Nat.lt_or_ge 2 n with hn2 | hn2
 ·
  have R:=big hn2
  clear big fa' pa fx
  go_wp2
  go_returns
  exact⟨retII R.out.1.symm R.out.2.symm,belowB⟩
 go_wp2
 go_loopw [5,21] (fun u i wr=>∃ (k:Nat) (uv:Int),k≤n∧i = .int .i64 (k:Int)∧u = .int .u64 uv∧uv=lval (L.take k)∧wr=w1) (fun _ i _=>n-(intOf i).toNat)
 case atStart=>exact⟨0,0,Nat.zero_le _,rfl,rfl,rfl,rfl⟩
 case round=>
  obtain⟨k,uv,hk,rfl,rfl,hu,rfl⟩:=hrel
  rcases Nat.lt_or_ge k n with hp | hp
  ·
   obtain⟨ba,oa',rfl,hba,hca⟩:=fa' (by omega)
   have g1:=(B.cell (p:=⟨ba,oa'+k,none⟩) hba).trans (hca k (by have:=HL.out.2.1; omega))
   obtain⟨v,hv⟩:∃v,L.getD k 0=v:=⟨_,rfl⟩
   have v0:=lok_getD HL.out.2.2 k
   rw[hv]at g1 v0
   have S:Hid (lval (L.take (k+1))=uv+bp k*v):=by show _=_; rw[lval_take_succ L k,hv,← hu]
   have v1:=Int.mul_le_mul_of_nonneg_right (show v≤4294967295 by omega) (show (0:Int)≤4294967296 by omega)
   have v2:=Int.mul_nonneg v0.1 (show (0:Int)≤4294967296 by omega)
   rcases Nat.eq_zero_or_pos k with rfl | hk1
   ·
    have hu0:uv=0:=by rw[hu,List.take_zero]; rfl
    subst hu0
    have ho:=or_zero v0
    rw[Nat.add_zero]at g1
    clear big fa' pa fx hu hv hca
    go_wp2
    go_roundw
    case rel=>exact⟨1,v,by omega,rfl,rfl,by rw[S.out,bp_zero]; omega,by first | rfl | trivial⟩
    case measure=>simp[intOf]; omega
   ·
    obtain rfl:k=1:=by omega
    have u0:0≤uv∧uv<4294967296:=by
     have h2:=lval_lt (lok_take HL.out.2.2 1)
     have h3:=bp_mono (show (L.take 1).length≤1 by rw[List.length_take]; omega)
     have h4:bp 1=4294967296:=by rw[bp_succ,bp_zero]; rfl
     have:=lval_nonneg (lok_take HL.out.2.2 1)
     omega
    have ho:=or_add u0 v0
    clear big fa' pa fx hu hv hca
    go_wp2
    go_roundw
    case rel=>exact⟨2,uv+v*4294967296,by omega,rfl,rfl,by rw[S.out,show bp 1=4294967296 from by rw[bp_succ,bp_zero]; rfl]; omega,by first | rfl | trivial⟩
    case measure=>simp[intOf]; omega
  ·
   obtain rfl:k=n:=by omega
   rw[List.take_of_length_le (by have:=HL.out.2.1; omega),HL.out.1]at hu
   have ub:0≤uv∧uv<18446744073709551616:=by
    have h1:=(limbs_length (absN_nonneg x) 2)
    have h2:=lval_lt HL.out.2.2
    have h3:=bp_mono (show L.length≤2 by rw[HL.out.2.1]; omega)
    rw[bp_two]at h3
    rw[HL.out.1]at h2
    have:=absN_nonneg x
    omega
   have X:=absN_cases x
   have HU:=Hid.mk_ (And.intro hu X)
   have hgx:=HG.out
   clear hu X big fa' pa fx
   cases g
   ·
    have x0:0≤x:=by simpa using hgx
    have e:uv=x:=by have:=HU.out; omega
    clear hgx
    rcases Int.lt_or_le uv 9223372036854775808 with h1 | h1
    ·
     have R:Hid (intI x=x∧errI x=0):=⟨if_pos (by omega),if_pos (by omega)⟩
     have HE:=Hid.mk_ e
     clear e
     go_wp2
     go_returns
     exact⟨retII (by rw[R.out.1,HE.out]) R.out.2.symm,belowB⟩
    ·
     have R:Hid (intI x=0∧errI x=16):=⟨if_neg (by omega),if_neg (by omega)⟩
     clear e
     go_wp2
     go_returns
     exact⟨retII R.out.1.symm R.out.2.symm,belowB⟩
   ·
    have x0:x<0:=by simpa using hgx
    have e:uv = -x:=by have:=HU.out; omega
    clear hgx
    rcases Int.lt_or_le 9223372036854775808 uv with h1 | h1
    ·
     have R:Hid (intI x=0∧errI x=16):=⟨if_neg (by omega),if_neg (by omega)⟩
     clear e
     go_wp2
     go_returns
     exact⟨retII R.out.1.symm R.out.2.symm,belowB⟩
    ·
     have R:Hid (intI x=x∧errI x=0):=⟨if_pos (by omega),if_pos (by omega)⟩
     have hw:wrap64 (IntKind.u64.wrap (-uv))=x:=by rw[IntKind.wrap_u64]; unfold wrap64; omega
     clear e
     go_wp2
     go_returns
     exact⟨retII (by first | (rw[hw,R.out.1]) | exact R.out.1.symm) R.out.2.symm,belowB⟩
end Go.Proofs.YtdkcffnmlllamaaGreat
