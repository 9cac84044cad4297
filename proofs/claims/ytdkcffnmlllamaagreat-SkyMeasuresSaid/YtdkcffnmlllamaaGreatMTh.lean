import Derived.RangeFuncNested
import Derived.RangeFuncBox
import Derived.RangeFuncLeaves
import Derived.Shelf.Abstract
import Derived.WalkKit
import Derived.OwnWalkIn
import Derived.TacticsInMore
import Derived.LoopNIn
import Derived.LoopIn
import Derived.Test.YtdkcffnmlllamaaGreatMTf
/- 'for i, x := range down(l)': limbs from the highest one to the lowest one. -/
set_option linter.unusedVariables false
set_option linter.unusedSimpArgs false
set_option maxHeartbeats 6400000
set_option maxRecDepth 1000000
namespace Go.Proofs.YtdkcffnmlllamaaGreat
open Go.RowKit Go.Shelf
attribute [local go_sem] Oper.semAt_some
def falls (n:Nat):(k:Nat)→k≤n→List (Fin n)
 | 0,_=> []
 | k+1,h=>falls n k (Nat.le_of_succ_le h) ++ [⟨n-1-k,by omega⟩]
theorem falls_length (n k:Nat) (h:k≤n):(falls n k h).length=k:=by
 induction k with
 | zero=>rfl
 | succ k ih=>simp[falls,ih]
theorem down1_in (F:Fence) (n:Nat) (h8:F.fn 167) (hro:F.round=none) (hn:1≤n) (l Bs n₀ b off len cap:Nat) (zs:List Int) (hlen:zs.length=len) (hreach:len≤few) (hb:b<n₀) (J Jx:List (Fin len)→World→Prop)
  (hY:∀pre (x:Fin len) W,J pre W→pre.length<len→YieldAt F (n-1) Tryz.prog l #[.int .i64 ((x:Nat):Int),.int .u32 (zs.getD x 0)] W fun e W'=>
   (e = .returned (.bool true)∧J (pre ++ [x]) W'∧Below n₀ W W')∨(e = .returned (.bool false)∧Jx (pre ++ [x]) W'))
  (W:World) (hBs:W.cell? ⟨Bs,0,none⟩=some (.slice (some ⟨b,off,none⟩) len cap)) (hBn:Bs<n₀) (hc:Cells W b off zs) (h0:J [] W) :
  CallsIn F n Tryz.prog 167 #[.func (.yield l) #[] #[],.pointer (some ⟨Bs,0,none⟩)] W fun e W'=>(∃v,e = .returned v)∧
   ((∃ys,ys=falls len len (Nat.le_refl _)∧J ys W')∨(∃pre,(∃k,∃hk:k≤len,pre=falls len k hk)∧Jx pre W')):=by
 unfold few at hreach
 refine callsIn_of_wp Tryz.func167 rfl h8 ?_ hro
 simp only[Tryz.ntmps167,List.size_toArray,List.length_cons,List.length_nil,Nat.reduceAdd,Nat.reduceSub,Array.replicate_succ,Array.replicate_zero,List.push_toArray,List.append_toArray,List.nil_append,List.cons_append]
 gi_wp2
 gi_loopw [3] (fun i wr=>∃ (k:Nat) (hk:k≤len),i = .int .i64 ((len:Int)-1-k)∧J (falls len k hk) wr∧Below n₀ W wr)
  (fun i _=>(intOf i+1).toNat)
 case atStart=>exact⟨0,Nat.zero_le _,by go_num,h0,Below.refl _ _⟩
 case round=>
  obtain⟨k,hk,rfl,hJs,hnx⟩:=hrel
  have hB2:=(hnx.cell (p:=⟨Bs,0,none⟩) hBn).trans hBs
  rcases Nat.lt_or_ge k len with hlt | hge
  ·
   obtain⟨j,hj⟩:∃j,len-1-k=j:=⟨_,rfl⟩
   have hjl:j<len:=by omega
   have hcx:=(hnx.cell (p:=⟨b,off+j,none⟩) hb).trans (hc j (by omega))
   obtain⟨fn,tmps,assign,body,hy,hR⟩:=hY _ ⟨j,hjl⟩ wr hJs (by rw[falls_length]; exact hlt)
   dsimp only at hy
   obtain⟨v,hv⟩:∃v,zs.getD j 0=v:=⟨_,rfl⟩
   rw[hv]at hcx hy
   clear hv
   have hi:(len:Int)-1-k=(j:Int):=by omega
   rw[hi]
   have HD:Hid (falls len (k+1) hlt=falls len k hk ++ [⟨j,hjl⟩]):=by subst hj; rfl
   have hm:Hid (len-1-k=j∧k<len):=⟨hj,hlt⟩
   clear hj
   gi_wp2
   refine hR.mono ?_
   rintro e W3 (⟨rfl,hJ3,hk3⟩ | ⟨rfl,hJx3⟩)
   ·
    gi_wp2
    go_roundw
    case rel=>exact⟨k+1,hm.out.2,by go_num,by rw[HD.out]; exact hJ3,hnx.trans hk3⟩
    case measure=>simp[intOf]
   ·
    gi_wp2
    refine bodyPost_ret (results_none rfl _ _ _) rfl ?_
    exact⟨⟨_,rfl⟩,.inr ⟨_,⟨k+1,hm.out.2,HD.out.symm⟩,hJx3⟩⟩
  ·
   obtain rfl:k=len:=by omega
   gi_wp2
   go_end0
   exact⟨⟨_,rfl⟩,.inl ⟨_,rfl,hJs⟩⟩
theorem down0_in (F:Fence) (n:Nat) (h7:F.fn 167) (hro:F.round=none) (l Bs:Nat) (ao:Option Addr) (cap:Nat) (J:List (Fin 0)→World→Prop) (W:World) (hBs:W.cell? ⟨Bs,0,none⟩=some (.slice ao 0 cap)) (h0:J [] W) :
  CallsIn F n Tryz.prog 167 #[.func (.yield l) #[] #[],.pointer (some ⟨Bs,0,none⟩)] W fun e W'=>(∃v,e = .returned v)∧J [] W':=by
 refine callsIn_of_wp Tryz.func167 rfl h7 ?_ hro
 simp only[Tryz.ntmps167,List.size_toArray,List.length_cons,List.length_nil,Nat.reduceAdd,Nat.reduceSub,Array.replicate_succ,Array.replicate_zero,List.push_toArray,List.append_toArray,List.nil_append,List.cons_append]
 gi_wp2
 gi_loopw [3] (fun i wr=>i = .int .i64 (-1)∧J [] wr) (fun _ _=>0)
 case atStart=>exact⟨rfl,h0⟩
 case round=>
  obtain⟨rfl,hJs⟩:=hrel
  gi_wp2
  go_end0
  exact⟨⟨_,rfl⟩,hJs⟩
theorem down_in (F:Fence) (n:Nat) (h5:F.fn 159) (hro:F.round=none) (a:Option Addr) (len cap:Nat) (w:World) :
  CallsIn F n Tryz.prog 159 #[.slice a len cap] w fun e w'=>e = .returned (.func (.func 167) #[] #[.pointer (some ⟨w.heap.size,0,none⟩)])∧w'=w.alloc (.cells #[.slice a len cap] 28):=by
 refine callsIn_of_wp Tryz.func159 rfl h5 ?_ hro
 simp only[Tryz.ntmps159,List.size_toArray,List.length_cons,List.length_nil,Nat.reduceAdd,Nat.reduceSub,Array.replicate_succ,Array.replicate_zero,List.push_toArray,List.append_toArray,List.nil_append,List.cons_append]
 gi_wp2
 go_ret
 exact⟨rfl,rfl⟩
def downE (zs:List Int) (len:Nat) (x:Fin len):Array Value:=#[.int .i64 ((x:Nat):Int),.int .u32 (zs.getD x 0)]
theorem down_stops (F:Fence) (n:Nat) (h8:F.fn 167) (hro:F.round=none) (hn:1≤n) (Bs n₀:Nat) (ao:Option Addr) (cap len:Nat) (zs:List Int) (hlen:zs.length=len) (hreach:len≤few) (w:World) (hBs:Bs<w.heap.size) (hBn:Bs<n₀) (hn₀:n₀≤w.heap.size)
  (hc:w.cell? ⟨Bs,0,none⟩=some (.slice ao len cap)) (hI:0<len→∃b o,ao=some ⟨b,o,none⟩∧b<n₀∧Cells w b o zs) :
  SeqStopsK F n Tryz.prog 167 #[.pointer (some ⟨Bs,0,none⟩)] (downE zs len) (Below n₀) (fun ys=>ys=falls len len (Nat.le_refl _))
   (fun pre=>∃k,∃hk:k≤len,pre=falls len k hk) len w:=fun l J Jx W hW _ _ hY h0=>by
 have hc':=(hW.cell (p:=⟨Bs,0,none⟩) hBs).trans hc
 rcases Nat.eq_zero_or_pos len with h | h
 ·
  subst h
  exact(down0_in F n h8 hro l Bs ao cap J W hc' h0).mono fun e W' ⟨he,hj⟩=>⟨he,.inl ⟨_,rfl,hj⟩⟩
 ·
  obtain⟨b,o,rfl,hb,hcs⟩:=hI h
  exact down1_in F n h8 hro hn l Bs n₀ b o len cap zs hlen hreach hb J Jx hY W hc' hBn (hcs.below hW (Nat.lt_of_lt_of_le hb hn₀)) h0
theorem falls_eq {n:Nat} {A B:List Int} (hA:A.length=n) (hB:B.length=n):∀ (k:Nat) (hk:k≤n),(∀p∈falls n k hk,A.getD p 0=B.getD p 0)→lval (A.drop (n-k))=lval (B.drop (n-k)):=by
 intro k
 induction k with
 | zero=>intro hk _; rw[List.drop_of_length_le (by omega),List.drop_of_length_le (by omega)]
 | succ k ih=>
  intro hk h
  have h1:=ih (by omega) (fun p hp=>h p (by rw[falls]; exact List.mem_append_left _ hp))
  have h2:=h ⟨n-1-k,by omega⟩ (by rw[falls]; exact List.mem_append_right _ (List.mem_singleton.2 rfl))
  rw[lval_drop A,lval_drop B,show n-(k+1)+1=n-k by omega,h1,show n-(k+1)=n-1-k by omega]
  dsimp only at h2
  rw[h2]
end Go.Proofs.YtdkcffnmlllamaaGreat
namespace Go.Proofs.YtdkcffnmlllamaaGreat
open Go.RowKit Go.Shelf
attribute [local go_sem] Oper.semAt_some
theorem wcompare_eq {aa ab:Option Addr} {ca cb len:Nat} {A B:List Int} (w:World) (lA:A.length=len) (lB:B.length=len) (oA:lok A) (oB:lok B) (hreach:len≤few)
  (fA:0<len→∃b o,aa=some ⟨b,o,none⟩∧b<w.heap.size∧Cells w b o A) (fB:0<len→∃b o,ab=some ⟨b,o,none⟩∧b<w.heap.size∧Cells w b o B) :
  Calls Tryz.prog 140 #[.slice aa len ca,.slice ab len cb] w fun e W'=>e = .returned (.int .i64 (cmpI (lval A) (lval B)))∧Steps w W':=by
 have hro:Fence.wide.round=none:=rfl
 refine(callsIn_wide (n:=3)).1 ?_
 refine callsIn_of_wp_marks Tryz.func140 rfl trivial ?_ hro
 simp only[Tryz.ntmps140,List.size_toArray,List.length_cons,List.length_nil,Nat.reduceAdd,Nat.reduceSub,Array.replicate_succ,Array.replicate_zero,List.push_toArray,List.append_toArray,List.nil_append,List.cons_append]
 gi_wp2_with (refine⟨trivial,?_⟩; gi_at_call 159; refine(down_in Fence.wide 2 trivial hro _ _ _ _).mono ?_; rintro e w' ⟨rfl,rfl⟩)
 have bB:=Boxed.new w 28 (.slice ab len cb)
 have bR:=Boxed.new (w.alloc (.cells #[.slice ab len cb] 28)) 3 (.int .i64 0)
 have bN:=Boxed.new ((w.alloc (.cells #[.slice ab len cb] 28)).alloc (.cells #[.int .i64 0] 3)) 28 (.slice aa len ca)
 simp only[World.size_alloc]at bR bN
 have hB0:Below w.heap.size w (((w.alloc (.cells #[.slice ab len cb] 28)).alloc (.cells #[.int .i64 0] 3)).alloc (.cells #[.slice aa len ca] 28)):=(((Below.refl _ w).alloc (Nat.le_refl _) _).alloc (by simp) _).alloc (by simp; omega) _
 have fA':0<len→∃b o,aa=some ⟨b,o,none⟩∧b<w.heap.size+1+1+1∧Cells (((w.alloc (.cells #[.slice ab len cb] 28)).alloc (.cells #[.int .i64 0] 3)).alloc (.cells #[.slice aa len ca] 28)) b o A:=fun h=>by
  obtain⟨b,o,e,hb,hc⟩:=fA h
  exact⟨b,o,e,by omega,hc.below hB0 hb⟩
 refine wpIn_rangeFunc_ownG hro (show 1≤3 by omega) (gf:=167) (lb:=#[.pointer (some ⟨w.heap.size+1+1,0,none⟩)]) rfl trivial (enters_of Tryz.func167 (by kernel_rfl) rfl)
  (down_stops Fence.wide 2 trivial hro (by omega) (w.heap.size+1+1) (w.heap.size+1+1+1) aa ca len A lA hreach _ (by simp) (by omega) (by simp) bN.cell fA') belowK_t (belowK_b (by simp)) (Below.refl _ _) (fun _=>rfl)
  (fun(pre:List (Fin len)) W=>((∀p:Fin len,p∈pre→A.getD (p:Nat) 0=B.getD (p:Nat) 0)∧W.cell? ⟨w.heap.size,0,none⟩=some (.slice ab len cb)∧W.cell? ⟨w.heap.size+1,0,none⟩=some (.int .i64 0)∧W.frozen? ⟨w.heap.size+1,0,none⟩=false)∧Below w.heap.size w W)
  (fun c (pre:List (Fin len)) W=>(c = .ret∧∃ (ini:List (Fin len)) (last:Fin len),pre=ini ++ [last]∧(∀p:Fin len,p∈ini→A.getD (p:Nat) 0=B.getD (p:Nat) 0)∧((A.getD last 0<B.getD last 0∧W.cell? ⟨w.heap.size+1,0,none⟩=some (.int .i64 (-1)))∨(B.getD last 0<A.getD last 0∧W.cell? ⟨w.heap.size+1,0,none⟩=some (.int .i64 1))))∧Below w.heap.size w W)
  (OwnFrom.and (Own.from (fun s A B row hs hg hr=>⟨hs.1,cell_kept hs.2.1 hg hr,cell_kept hs.2.2.1 hg hr,(frozen_kept hs.2.2.1 hg hr).trans hs.2.2.2⟩) _) (ownFrom_below (Nat.le_refl _) (by simp; omega)))
  (fun c=>OwnFrom.and (Own.from (fun s A B row hs hg hr=>by
   obtain⟨hc,ini,last,e1,e2,e3⟩:=hs
   exact⟨hc,ini,last,e1,e2,e3.imp (fun h=>⟨h.1,cell_kept h.2 hg hr⟩) (fun h=>⟨h.1,cell_kept h.2 hg hr⟩)⟩) _) (ownFrom_below (Nat.le_refl _) (by simp; omega)))
  ⟨⟨by simp,((bB.alloc _).alloc _).cell,(bR.alloc _).cell,(bR.alloc _).frozen⟩,hB0⟩
  (fun x=>{ tmps:=#[.slice aa len ca,.slice ab len cb,undef,.pointer (some ⟨w.heap.size,0,none⟩),.pointer (some ⟨w.heap.size+1,0,none⟩),.int .i64 ((x:Nat):Int),.int .u32 (A.getD x 0),.slice aa len ca,.int .i64 len,.slice ab len cb,.int .i64 len,.bool false,undef,undef,undef,undef,undef,.slice aa len ca,.func (.func 167) #[] #[.pointer (some ⟨w.heap.size+1+1,0,none⟩)],.int .i64 ((x:Nat):Int),.int .u32 (A.getD x 0),undef,undef,undef,undef,undef,undef,undef,undef,undef,undef,undef,undef],defers:= [] }) ?assign ?body ?done ?stop
 case assign=>
  intro l x W K hK
  dsimp only[downE]
  obtain⟨u,hu⟩:∃u,A.getD (x:Nat) 0=u:=⟨_,rfl⟩
  simp only[hu]at hK⊢
  clear hu
  gi_wp2
  exact hK
 case body=>
  rintro l pre x W ⟨⟨hp,hcb,hcr,hfr⟩,hB⟩ _
  obtain⟨i,hi⟩:=x
  obtain⟨bb,ob,rfl,hbb,hcc⟩:=fB (by omega)
  have g1:=(hB.cell (p:=⟨bb,ob+i,none⟩) hbb).trans (hcc i (by omega))
  obtain⟨u,hu⟩:∃u,A.getD i 0=u:=⟨_,rfl⟩
  obtain⟨v,hv⟩:∃v,B.getD i 0=v:=⟨_,rfl⟩
  rw[hv]at g1
  have HU:=Hid.mk_ (And.intro hu hv)
  have HP:=Hid.mk_ hp
  dsimp only
  rw[hu]
  have z1:w.heap.size+1<W.heap.size:=by
   rcases Nat.lt_or_ge (w.heap.size+1) W.heap.size with h | h
   · exact h
   · simp[World.cell?,Array.getElem?_eq_none h]at hcr
  clear fA fB fA' hcc hu hv hp
  gi_wp2
  ·
   have hl:u<v:=by assumption
   exact⟨(KeepsOthers.setCell _ _ _).from _,⟨rfl,pre,⟨i,hi⟩,rfl,HP.out,Or.inl ⟨by dsimp only; rw[HU.out.1,HU.out.2]; exact hl,World.cell?_setCell_same' _ _ _ (by rw[hcr]; rfl)⟩⟩,hB.setCell (p:=⟨w.heap.size+1,0,none⟩) (Nat.le_succ _) _⟩
  ·
   have hl:v<u:=by assumption
   exact⟨(KeepsOthers.setCell _ _ _).from _,⟨rfl,pre,⟨i,hi⟩,rfl,HP.out,Or.inr ⟨by dsimp only; rw[HU.out.1,HU.out.2]; exact hl,World.cell?_setCell_same' _ _ _ (by rw[hcr]; rfl)⟩⟩,hB.setCell (p:=⟨w.heap.size+1,0,none⟩) (Nat.le_succ _) _⟩
  ·
   have he:u=v:=by omega
   exact⟨KeepsFrom.refl _ _,Below.refl _ _,⟨fun p hp'=>(List.mem_append.1 hp').elim (HP.out p) (fun e=>by
    rw[List.mem_singleton]at e; subst e; dsimp only; rw[HU.out.1,HU.out.2,he]),hcb,hcr,hfr⟩,hB⟩
 case done=>
  rintro D ys W hD rfl ⟨⟨hne,hcb,hcr,hfr⟩,hB⟩ hK
  have he:=falls_eq lA lB len (Nat.le_refl _) hne
  rw[Nat.sub_self,List.drop_zero,List.drop_zero]at he
  have H:Hid (cmpI (lval A) (lval B)=0):=by show cmpI _ _=0; unfold cmpI; rw[if_pos he]
  clear he hne
  gi_wp2
  have hK':=(KeepsOthers.setCell W ⟨w.heap.size+1,0,none⟩ (.int .i64 0)).same D _ hK rfl
  refine⟨by simp,.inl ⟨_,_,rfl,run_takeDeferred hK',?_⟩⟩
  have hc5:=cell_kept (World.cell?_setCell_same' W ⟨w.heap.size+1,0,none⟩ (.int .i64 0) (by rw[hcr]; rfl)) (grownBy_putObj' _ D (.deferred none)) (fun r e=>by cases e; exact⟨_,hK',rfl⟩)
  refine⟨.int .i64 0,?_,retI H.out.symm,(hB.setCell (p:=⟨w.heap.size+1,0,none⟩) (Nat.le_succ _) _).trans (belowK_b (w:=w) (Nat.le_refl _) _ D _ _ (by simp at hD; omega) hK' rfl rfl)⟩
  simp[results,Tryz.f140,go_sem,hc5]
 case stop=>
  rintro D c pre W hD ⟨k,hk,rfl⟩ ⟨⟨rfl,ini,last,e1,e2,e3⟩,hB⟩ hK
  obtain⟨k',rfl⟩:∃k',k=k'+1:=by
   cases k with
   | zero=>simp[falls]at e1
   | succ k'=>exact⟨k',rfl⟩
  rw[falls]at e1
  obtain⟨rfl,e5⟩:=List.append_inj' e1 rfl
  have e6:last=⟨len-1-k',by omega⟩:=by simpa using e5.symm
  subst e6
  have hd:=falls_eq lA lB k' (by omega) e2
  rw[show len-k'=len-1-k'+1 by omega]at hd
  dsimp only at e3
  obtain⟨r,hr,hH⟩:∃r:Int,W.cell? ⟨w.heap.size+1,0,none⟩=some (.int .i64 r)∧Hid (cmpI (lval A) (lval B)=r):=by
   rcases e3 with⟨h,hc⟩ | ⟨h,hc⟩
   ·
    have:=cmp_at oA oB (i:=len-1-k') (by omega) (by omega) hd h
    exact⟨-1,hc,by show cmpI _ _ = -1; unfold cmpI; rw[if_neg (by omega),if_pos this]⟩
   ·
    have:=cmp_at oB oA (i:=len-1-k') (by omega) (by omega) hd.symm h
    exact⟨1,hc,by show cmpI _ _=1; unfold cmpI; rw[if_neg (by omega),if_neg (by omega)]⟩
  clear e1 e2 e3 e5 hd
  gi_wp2
  refine⟨by simp,.inl ⟨_,_,rfl,run_takeDeferred hK,?_⟩⟩
  have hc5:=cell_kept hr (grownBy_putObj' _ D (.deferred none)) (fun r e=>by cases e; exact⟨_,hK,rfl⟩)
  refine⟨.int .i64 r,?_,retI hH.out.symm,hB.trans (belowK_b (w:=w) (Nat.le_refl _) W D _ _ (by simp at hD; omega) hK rfl rfl)⟩
  simp[results,Tryz.f140,go_sem,hc5]
end Go.Proofs.YtdkcffnmlllamaaGreat
namespace Go.Proofs.YtdkcffnmlllamaaGreat
open Go.RowKit Go.Shelf
attribute [local go_sem] Oper.semAt_some
theorem wcompare_ne {aa ab:Option Addr} {ca cb n m:Nat} (w:World) (h:n≠m) :
  Calls Tryz.prog 140 #[.slice aa n ca,.slice ab m cb] w fun e W'=>e = .returned (.int .i64 (if n<m then -1 else 1))∧Steps w W':=by
 have hro:Fence.wide.round=none:=rfl
 have hB:Below w.heap.size w ((w.alloc (.cells #[.slice ab m cb] 28)).alloc (.cells #[.int .i64 0] 3)):=((Below.refl _ w).alloc (Nat.le_refl _) _).alloc (by simp) _
 have bR:=Boxed.new (w.alloc (.cells #[.slice ab m cb] 28)) 3 (.int .i64 0)
 simp only[World.size_alloc]at bR
 refine(callsIn_wide (n:=3)).1 ?_
 refine callsIn_of_wp_marks Tryz.func140 rfl trivial ?_ hro
 simp only[Tryz.ntmps140,List.size_toArray,List.length_cons,List.length_nil,Nat.reduceAdd,Nat.reduceSub,Array.replicate_succ,Array.replicate_zero,List.push_toArray,List.append_toArray,List.nil_append,List.cons_append]
 rcases Nat.lt_or_ge n m with h1 | h1
 ·
  have H:Hid ((if n<m then -1 else 1:Int) = -1):=if_pos h1
  have hne:((n:Int) != (m:Int))=true:=by simp; omega
  have hlt:decide ((n:Int)<(m:Int))=true:=decide_eq_true (by omega)
  gi_wp2
  have bE:=Boxed.new (w.alloc (.cells #[.slice ab m cb] 28)) 3 (.int .i64 (-1))
  simp only[World.size_alloc]at bE
  have hc5:=bE.cell
  refine⟨.int .i64 (-1),?_,by first | rfl | exact retI H.out.symm,((Below.refl _ w).alloc (Nat.le_refl _) _).alloc (by simp) _⟩
  simp[results,Tryz.f140,go_sem,hc5]
 ·
  have H:Hid ((if n<m then -1 else 1:Int)=1):=if_neg (by omega)
  have hne:((n:Int) != (m:Int))=true:=by simp; omega
  have hlt:decide ((n:Int)<(m:Int))=false:=decide_eq_false (by omega)
  gi_wp2
  have bE:=Boxed.new (w.alloc (.cells #[.slice ab m cb] 28)) 3 (.int .i64 1)
  simp only[World.size_alloc]at bE
  have hc5:=bE.cell
  refine⟨.int .i64 1,?_,by first | rfl | exact retI H.out.symm,((Below.refl _ w).alloc (Nat.le_refl _) _).alloc (by simp) _⟩
  simp[results,Tryz.f140,go_sem,hc5]
theorem wcompare {a b:Value} {x y:Int} (w:World) (ha:Lim w a (limbs x)) (hb:Lim w b (limbs y)) (hx:0≤x) (hy:0≤y) (nx:(limbs x).length≤few) (ny:(limbs y).length≤few) :
  Calls Tryz.prog 140 #[a,b] w fun e w'=>e = .returned (.int .i64 (cmpI x y))∧Steps w w':=by
 obtain⟨aa,ca,rfl⟩:=ha.shape
 obtain⟨ab,cb,rfl⟩:=hb.shape
 by_cases h:(limbs x).length=(limbs y).length
 ·
  have C:=wcompare_eq (ca:=ca) (cb:=cb) (len:=(limbs x).length) w rfl h.symm (limbs_ok x) (limbs_ok y) nx ha.cells.2.2.2 (by have:=hb.cells.2.2.2; rw[h]; exact this)
  rw[lval_limbs hx,lval_limbs hy]at C
  rw[← h]
  exact C
 ·
  have C:=wcompare_ne (aa:=aa) (ab:=ab) (ca:=ca) (cb:=cb) w h
  have e:(if(limbs x).length<(limbs y).length then -1 else 1:Int)=cmpI x y:=by
   rcases Nat.lt_or_ge (limbs x).length (limbs y).length with g | g
   ·
    rw[if_pos g]
    have:=limbs_len_lt hx hy g
    unfold cmpI; rw[if_neg (by omega),if_pos this]
   ·
    rw[if_neg (by omega)]
    have:=limbs_len_lt hy hx (by omega)
    unfold cmpI; rw[if_neg (by omega),if_neg (by omega)]
  rw[e]at C
  exact C
end Go.Proofs.YtdkcffnmlllamaaGreat
