import Derived.Test.YtdkcffnmlllamaaGreatMTh
import Derived.Test.YtdkcffnmlllamaaGreatMRound
import Derived.Deep.RegionHeld3
import Derived.Deep.DeepMust
set_option linter.unusedVariables false
set_option linter.unusedSimpArgs false
set_option maxHeartbeats 6400000
set_option maxRecDepth 1000000
namespace Go.Proofs.YtdkcffnmlllamaaGreat
open Go.RowKit Go.Shelf
attribute [local go_sem] Oper.semAt_some
def KD (n₀ Bs:Nat) (W W':World):Prop:=Below n₀ W W'∧W'.heap[Bs]? = W.heap[Bs]?
theorem KD.refl (n₀ Bs:Nat) (W:World):KD n₀ Bs W W:=⟨Below.refl _ _,rfl⟩
theorem KD.trans {n₀ Bs:Nat} {A B C:World} (h:KD n₀ Bs A B) (k:KD n₀ Bs B C):KD n₀ Bs A C:=⟨h.1.trans k.1,k.2.trans h.2⟩
theorem KD_b {n₀ Bs:Nat} {w:World} (hn:n₀≤w.heap.size) (hB:Bs<w.heap.size) (W:World) (l:Nat) (o o':Obj) (hl:w.heap.size≤l) (h:W.heap[l]? = some o) (h1:o.isCells=false) (h2:o.isWalk=false):KD n₀ Bs W (W.putObj l o'):=
 ⟨belowK_b hn W l o o' hl h h1 h2,(grownBy_putObj' W l o').block Bs (by have:=(Array.getElem?_eq_some_iff.1 h).1; omega) (fun e=>by cases e; omega)⟩
theorem down1_inD (F:Fence) (n:Nat) (h8:F.fn 167) (hro:F.round=none) (hn:1≤n) (l Bs n₀ b off len cap:Nat) (zs:List Int) (hlen:zs.length=len) (hreach:len≤few) (hb:b<n₀) (J Jx:List (Fin len)→World→Prop)
  (hY:∀pre (x:Fin len) W,J pre W→pre.length<len→YieldAt F (n-1) Tryz.prog l #[.int .i64 ((x:Nat):Int),.int .u32 (zs.getD x 0)] W fun e W'=>
   (e = .returned (.bool true)∧J (pre ++ [x]) W'∧KD n₀ Bs W W')∨(e = .returned (.bool false)∧Jx (pre ++ [x]) W'))
  (W:World) (hBs:W.cell? ⟨Bs,0,none⟩=some (.slice (some ⟨b,off,none⟩) len cap)) (hc:Cells W b off zs) (h0:J [] W) :
  CallsIn F n Tryz.prog 167 #[.func (.yield l) #[] #[],.pointer (some ⟨Bs,0,none⟩)] W fun e W'=>(∃v,e = .returned v)∧
   ((∃ys,ys=falls len len (Nat.le_refl _)∧J ys W')∨(∃pre,(∃k,∃hk:k≤len,pre=falls len k hk)∧Jx pre W')):=by
 unfold few at hreach
 refine callsIn_of_wp Tryz.func167 rfl h8 ?_ hro
 simp only[Tryz.ntmps167,List.size_toArray,List.length_cons,List.length_nil,Nat.reduceAdd,Nat.reduceSub,Array.replicate_succ,Array.replicate_zero,List.push_toArray,List.append_toArray,List.nil_append,List.cons_append]
 gi_wp2
 gi_loopw [3] (fun i wr=>∃ (k:Nat) (hk:k≤len),i = .int .i64 ((len:Int)-1-k)∧J (falls len k hk) wr∧KD n₀ Bs W wr)
  (fun i _=>(intOf i+1).toNat)
 case atStart=>exact⟨0,Nat.zero_le _,by go_num,h0,KD.refl _ _ _⟩
 case round=>
  obtain⟨k,hk,rfl,hJs,hnx⟩:=hrel
  have hB2:=(World.cell?_of_block (a:=⟨Bs,0,none⟩) hnx.2).trans hBs
  rcases Nat.lt_or_ge k len with hlt | hge
  ·
   obtain⟨j,hj⟩:∃j,len-1-k=j:=⟨_,rfl⟩
   have hjl:j<len:=by omega
   have hcx:=(hnx.1.cell (p:=⟨b,off+j,none⟩) hb).trans (hc j (by omega))
   obtain⟨fn,tmps,assign,body,hy,hR⟩:=hY _ ⟨j,hjl⟩ wr hJs (by rw[falls_length]; exact hlt)
   dsimp only at hy
   obtain⟨v,hv⟩:∃v,zs.getD j 0=v:=⟨_,rfl⟩
   rw[hv]at hcx hy
   clear hv
   have hi:(len:Int)-1-k=(j:Int):=by omega
   rw[hi]
   have HD:Hid (falls len (k+1) hlt=falls len k hk ++ [⟨j,hjl⟩]):=by subst hj; rfl
   have hm:Hid (len-1-k=j∧k<len):=⟨hj,hlt⟩
   clear hj
   gi_wp2
   refine hR.mono ?_
   rintro e W3 (⟨rfl,hJ3,hk3⟩ | ⟨rfl,hJx3⟩)
   ·
    gi_wp2
    go_roundw
    case rel=>exact⟨k+1,hm.out.2,by go_num,by rw[HD.out]; exact hJ3,hnx.trans hk3⟩
    case measure=>simp[intOf]
   ·
    gi_wp2
    refine bodyPost_ret (results_none rfl _ _ _) rfl ?_
    exact⟨⟨_,rfl⟩,.inr ⟨_,⟨k+1,hm.out.2,HD.out.symm⟩,hJx3⟩⟩
  ·
   obtain rfl:k=len:=by omega
   gi_wp2
   go_end0
   exact⟨⟨_,rfl⟩,.inl ⟨_,rfl,hJs⟩⟩
theorem down_stopsD (F:Fence) (n:Nat) (h8:F.fn 167) (hro:F.round=none) (hn:1≤n) (Bs n₀:Nat) (ao:Option Addr) (cap len:Nat) (zs:List Int) (hlen:zs.length=len) (hreach:len≤few) (w:World) (hBs:Bs<w.heap.size) (hn₀:n₀≤w.heap.size)
  (hc:w.cell? ⟨Bs,0,none⟩=some (.slice ao len cap)) (hI:0<len→∃b o,ao=some ⟨b,o,none⟩∧b<n₀∧Cells w b o zs) :
  SeqStopsK F n Tryz.prog 167 #[.pointer (some ⟨Bs,0,none⟩)] (downE zs len) (KD n₀ Bs) (fun ys=>ys=falls len len (Nat.le_refl _))
   (fun pre=>∃k,∃hk:k≤len,pre=falls len k hk) len w:=fun l J Jx W hW _ _ hY h0=>by
 have hc':=(hW.cell (p:=⟨Bs,0,none⟩) hBs).trans hc
 rcases Nat.eq_zero_or_pos len with h | h
 ·
  subst h
  exact(down0_in F n h8 hro l Bs ao cap J W hc' h0).mono fun e W' ⟨he,hj⟩=>⟨he,.inl ⟨_,rfl,hj⟩⟩
 ·
  obtain⟨b,o,rfl,hb,hcs⟩:=hI h
  exact down1_inD F n h8 hro hn l Bs n₀ b o len cap zs hlen hreach hb J Jx hY W hc' (hcs.below hW (Nat.lt_of_lt_of_le hb hn₀)) h0
def sstep (d:Int) (A:List Int) {n:Nat} (s:List Int×Int) (i:Fin n):List Int×Int:=
 (s.1.set (i:Nat) ((s.2*4294967296+A.getD (i:Nat) 0) / d),(s.2*4294967296+A.getD (i:Nat) 0)%d)
def sst (d:Int) (A:List Int) (n:Nat) (pre:List (Fin n)):List Int×Int:=pre.foldl (sstep d A) (List.replicate n 0,0)
theorem sst_snoc (d:Int) (A:List Int) (n:Nat) (pre:List (Fin n)) (i:Fin n):sst d A n (pre ++ [i])=sstep d A (sst d A n pre) i:=by
 simp[sst,List.foldl_append]
theorem sst_ok {d:Int} {A:List Int} {n:Nat} (d0:1≤d) (d1:d<4294967296) (oA:lok A) (pre:List (Fin n)):(sst d A n pre).1.length=n∧lok (sst d A n pre).1∧0≤(sst d A n pre).2∧(sst d A n pre).2<d:=by
 suffices h:∀ (pre:List (Fin n)) (s:List Int×Int),(s.1.length=n∧lok s.1∧0≤s.2∧s.2<d)→
   ((pre.foldl (sstep d A) s).1.length=n∧lok (pre.foldl (sstep d A) s).1∧0≤(pre.foldl (sstep d A) s).2∧(pre.foldl (sstep d A) s).2<d) from
  h pre (List.replicate n 0,0) ⟨by simp,fun x hx=>by obtain rfl:=List.eq_of_mem_replicate hx; omega,by simp,by simp; omega⟩
 intro pre
 induction pre with
 | nil=>intro s h; exact h
 | cons i pre ih=>
  intro s h
  obtain⟨h1,h2,h3,h4⟩:=h
  refine ih _ ?_
  have u0:=lok_getD oA (i:Nat)
  have q0:0≤(s.2*4294967296+A.getD (i:Nat) 0) / d:=Int.ediv_nonneg (by omega) (by omega)
  have q1:(s.2*4294967296+A.getD (i:Nat) 0) / d<4294967296:=Int.ediv_lt_of_lt_mul (by omega) (by omega)
  exact⟨by simpa[sstep]using h1,lok_set h2 _ q0 q1,Int.emod_nonneg _ (by omega),Int.emod_lt_of_pos _ (by omega)⟩
theorem lval_replicate_set (j:Nat) (x:Int) (qs:List Int):(List.replicate (j+1) (0:Int)++qs).set j x=List.replicate j 0++x::qs:=by
 rw[List.replicate_succ',List.append_assoc,List.set_append_right _ _ (by simp)]
 simp
theorem sst_falls {d:Int} {A:List Int} {n:Nat} (hA:A.length=n) (d0:1≤d):∀ (k:Nat) (hk:k≤n),∃qs,(sst d A n (falls n k hk)).1=List.replicate (n-k) 0++qs∧qs.length=k∧lval (A.drop (n-k))=d*lval qs+(sst d A n (falls n k hk)).2:=by
 intro k
 induction k with
 | zero=>intro hk; exact⟨[],by simp[sst,falls],rfl,by rw[List.drop_of_length_le (by omega)]; simp[sst,falls,lval]⟩
 | succ k ih=>
  intro hk
  obtain⟨qs,h1,h2,h3⟩:=ih (by omega)
  rw[falls,sst_snoc]
  dsimp only[sstep]
  refine⟨((sst d A n (falls n k (Nat.le_of_succ_le hk))).2*4294967296+A.getD (n-1-k) 0) / d::qs,?_,by simp[h2],?_⟩
  · rw[h1,show n-k=(n-1-k)+1 by omega,lval_replicate_set,show n-(k+1)=n-1-k by omega]
  ·
   have S:=short_step (x:=A.getD (n-1-k) 0) h3
   rw[lval_drop A (n-(k+1)),show n-(k+1)+1=n-k by omega,show n-(k+1)=n-1-k by omega,S]
   simp only[lval]
theorem blk_kept {A B:World} {row:Option Nat} {g:Nat} {t:TypeId} {cs:Array Value} (h:Blk A g t cs) (hg:A.grownBy B row) (hr:∀r,row=some r→∃o:Obj,A.heap[r]? = some o∧o.isCells=false):Blk B g t cs:=by
 refine(hg.block g h.lt (fun e=> ?_)).trans h
 obtain⟨o,ho,hc⟩:=hr g e.symm
 unfold Blk at h
 rw[h]at ho
 cases ho
 cases hc
theorem lim_kept {A B:World} {row:Option Nat} {v:Value} {l:List Int} (h:Lim A v l) (hg:A.grownBy B row) (hr:∀r,row=some r→∃o:Obj,A.heap[r]? = some o∧o.isCells=false):Lim B v l:=by
 obtain⟨h0,ao,cap,e,h1,h3,h2⟩:=h
 refine⟨h0,ao,cap,e,h1,h3,fun hn=> ?_⟩
 obtain⟨b,o,e2,hb,hc⟩:=h2 hn
 exact⟨b,o,e2,Nat.lt_of_lt_of_le hb hg.size,fun t ht=>cell_kept (hc t ht) hg hr⟩
def ap2 (p q:Addr) (x y:Value) (b c:Bool) (W:World):World:=
 let V:=match b with | true=>W.setCell p x | false=>W
 match c with | true=>V.setCell q y | false=>V
theorem ap2_far {p q z:Addr} {x y:Value} {b c:Bool} {W:World} (hp:z.block≠p.block) (hq:z.block≠q.block):(ap2 p q x y b c W).cell? z=W.cell? z:=by
 cases b<;>cases c<;>simp only[ap2]
 · exact World.cell?_of_block (Below.heap_setCell _ _ _ _ hq)
 · exact World.cell?_of_block (Below.heap_setCell _ _ _ _ hp)
 · exact(World.cell?_of_block (Below.heap_setCell _ _ _ _ hq)).trans (World.cell?_of_block (Below.heap_setCell _ _ _ _ hp))
theorem ap2_first {p q z:Addr} {x y:Value} {b:Bool} {W:World} (hp:z.block≠p.block):(ap2 p q x y b false W).cell? z=W.cell? z∧(ap2 p q x y b false W).frozen? z=W.frozen? z:=by
 cases b
 · exact⟨rfl,rfl⟩
 · exact⟨World.cell?_of_block (Below.heap_setCell _ _ _ _ hp),World.frozen?_of_block (Below.heap_setCell _ _ _ _ hp)⟩
theorem wshort {a:Value} {A:List Int} {d:Int} (w:World) (ha:Lim w a A) (nA:A.length≤few) (d0:1≤d) (d1:d<4294967296) :
  Calls Tryz.prog 141 #[a,.int .u32 d] w fun e w'=>∃q,e = .returned (.tuple #[q,.int .u32 (lval A%d)])∧Lim w' q (limbs (lval A / d))∧Steps w w':=by
 obtain⟨aa,ca,rfl⟩:=ha.shape
 obtain⟨oa,-,la,fa⟩:=ha.cells
 obtain⟨len,hlen⟩:∃n,A.length=n:=⟨_,rfl⟩
 have HA:=Hid.mk_ ha
 rw[hlen]at la fa nA⊢
 have hmk:=make_row len (by unfold few at nA; omega)
 have hro:Fence.wide.round=none:=rfl
 refine(callsIn_wide (n:=3)).1 ?_
 refine callsIn_of_wp_marks Tryz.func141 rfl trivial ?_ hro
 simp only[Tryz.ntmps141,List.size_toArray,List.length_cons,List.length_nil,Nat.reduceAdd,Nat.reduceSub,Array.replicate_succ,Array.replicate_zero,List.push_toArray,List.append_toArray,List.nil_append,List.cons_append]
 gi_wp2_with (refine⟨trivial,?_⟩; gi_at_call 159; refine(down_in Fence.wide 2 trivial hro _ _ _ _).mono ?_; rintro e w' ⟨rfl,rfl⟩)
 have b1:=Boxed.new w 130 (.int .u32 d)
 have b2:Blk ((w.alloc (.cells #[.int .u32 d] 130)).alloc (.cells (madeCells #[.int .u32 0] len) 130)) (w.heap.size+1) 130 (u32s (List.replicate len 0)).toArray:=by
  have:=Blk.new1 w (.cells #[.int .u32 d] 130) 130 (madeCells #[.int .u32 0] len)
  rw[made_zeros]at this⊢
  exact this
 have b3:=Boxed.new ((w.alloc (.cells #[.int .u32 d] 130)).alloc (.cells (madeCells #[.int .u32 0] len) 130)) 28 (.slice (some ⟨w.heap.size+1,0,none⟩) len len)
 have b4:=Boxed.new (((w.alloc (.cells #[.int .u32 d] 130)).alloc (.cells (madeCells #[.int .u32 0] len) 130)).alloc (.cells #[.slice (some ⟨w.heap.size+1,0,none⟩) len len] 28)) 130 (.int .u32 0)
 have b5:=Boxed.new ((((w.alloc (.cells #[.int .u32 d] 130)).alloc (.cells (madeCells #[.int .u32 0] len) 130)).alloc (.cells #[.slice (some ⟨w.heap.size+1,0,none⟩) len len] 28)).alloc (.cells #[.int .u32 0] 130)) 28 (.slice aa len ca)
 simp only[World.size_alloc]at b3 b4 b5
 have hB0:Below w.heap.size w (((((w.alloc (.cells #[.int .u32 d] 130)).alloc (.cells (madeCells #[.int .u32 0] len) 130)).alloc (.cells #[.slice (some ⟨w.heap.size+1,0,none⟩) len len] 28)).alloc (.cells #[.int .u32 0] 130)).alloc (.cells #[.slice aa len ca] 28)):=(((((Below.refl _ w).alloc (Nat.le_refl _) _).alloc (by simp) _).alloc (by simp; omega) _).alloc (by simp; omega) _).alloc (by simp; omega) _
 have fA':0<len→∃b o,aa=some ⟨b,o,none⟩∧b<w.heap.size∧Cells (((((w.alloc (.cells #[.int .u32 d] 130)).alloc (.cells (madeCells #[.int .u32 0] len) 130)).alloc (.cells #[.slice (some ⟨w.heap.size+1,0,none⟩) len len] 28)).alloc (.cells #[.int .u32 0] 130)).alloc (.cells #[.slice aa len ca] 28)) b o A:=fun h=>by
  obtain⟨b,o,e,hb,hc⟩:=fa h
  exact⟨b,o,e,hb,hc.below hB0 hb⟩
 have SO:=fun pre=>sst_ok (n:=len) d0 d1 oa pre
 refine wpIn_rangeFunc_ownG hro (show 1≤3 by omega) (gf:=167) (lb:=#[.pointer (some ⟨w.heap.size+1+1+1+1,0,none⟩)]) rfl trivial (enters_of Tryz.func167 (by kernel_rfl) rfl)
  (down_stopsD Fence.wide 2 trivial hro (by omega) (w.heap.size+1+1+1+1) w.heap.size aa ca len A hlen nA _ (by simp) (by simp; omega) b5.cell fA') KD.trans (KD_b (by simp; omega) (by simp)) (Below.refl _ _) (fun _=>rfl)
  (fun(pre:List (Fin len)) W=>(Blk W (w.heap.size+1) 130 (u32s (sst d A len pre).1).toArray∧W.cell? ⟨w.heap.size,0,none⟩=some (.int .u32 d)∧W.cell? ⟨w.heap.size+1+1,0,none⟩=some (.slice (some ⟨w.heap.size+1,0,none⟩) len len)∧W.cell? ⟨w.heap.size+1+1+1,0,none⟩=some (.int .u32 (sst d A len pre).2)∧W.frozen? ⟨w.heap.size+1+1+1,0,none⟩=false)∧Below w.heap.size w W)
  (fun _ _ _=>False)
  (OwnFrom.and (Own.from (fun s A B row hs hg hr=>⟨blk_kept hs.1 hg hr,cell_kept hs.2.1 hg hr,cell_kept hs.2.2.1 hg hr,cell_kept hs.2.2.2.1 hg hr,(frozen_kept hs.2.2.2.1 hg hr).trans hs.2.2.2.2⟩) _) (ownFrom_below (Nat.le_refl _) (by simp; omega)))
  (fun _ _ _ _ _ hs _ _=>hs)
  ⟨⟨((b2.alloc _).alloc _).alloc _,(((((b1.alloc _).alloc _).alloc _).alloc _)).cell,((b3.alloc _).alloc _).cell,(b4.alloc _).cell,(b4.alloc _).frozen⟩,hB0⟩
  (fun x=>{ tmps:=#[.slice aa len ca,.int .u32 d,undef,.pointer (some ⟨w.heap.size,0,none⟩),.slice none 0 0,.int .u32 0,.pointer (some ⟨w.heap.size+1+1,0,none⟩),.pointer (some ⟨w.heap.size+1+1+1,0,none⟩),.int .i64 ((x:Nat):Int),.int .u32 (A.getD x 0),.slice aa len ca,.int .i64 len,.slice (some ⟨w.heap.size+1,0,none⟩) len len,.slice aa len ca,.func (.func 167) #[] #[.pointer (some ⟨w.heap.size+1+1+1+1,0,none⟩)],.int .i64 ((x:Nat):Int),.int .u32 (A.getD x 0),undef,undef,undef,undef,undef,undef,undef,undef,undef,undef,undef,undef,undef],defers:= [] }) ?assign ?body ?done ?stop
 case assign=>
  intro l x W K hK
  dsimp only[downE]
  obtain⟨u,hu⟩:∃u,A.getD (x:Nat) 0=u:=⟨_,rfl⟩
  simp only[hu]at hK⊢
  clear hu
  gi_wp2
  exact hK
 case body=>
  rintro l pre x W ⟨⟨hb,hcd,hcs,hcr,hfr⟩,hB⟩ _
  obtain⟨i,hi⟩:=x
  have S1:=SO pre
  obtain⟨u,hu⟩:∃u,A.getD i 0=u:=⟨_,rfl⟩
  obtain⟨r,hr⟩:∃r,(sst d A len pre).2=r:=⟨_,rfl⟩
  have u0:=lok_getD oa i
  rw[hu]at u0
  rw[hr]at hcr S1
  have r0:=S1.2.2.1
  have r1:=S1.2.2.2
  have hc2:W.cell? ⟨w.heap.size+1,i,none⟩=some (.int .u32 ((sst d A len pre).1.getD i 0)):=hb.c _ (by simpa using u32s_getD (sst d A len pre).1 i (by omega))
  obtain⟨v,hv⟩:∃v,(sst d A len pre).1.getD i 0=v:=⟨_,rfl⟩
  rw[hv]at hc2
  have hf2:W.frozen? ⟨w.heap.size+1,i,none⟩=false:=hb.fr _
  have z1:w.heap.size+1+1+1<W.heap.size:=by
   rcases Nat.lt_or_ge (w.heap.size+1+1+1) W.heap.size with h | h
   · exact h
   · simp[World.cell?,Array.getElem?_eq_none h]at hcr
  have HH:=Hid.mk_ (And.intro hb (And.intro hu hr))
  dsimp only
  rw[hu]
  clear hb hu hr hv fA' fa b1 b2 b3 b4 b5 hB0 hmk S1
  gi_wp2_with fail
  refine wpIn_chain (fun D _ W'=>∃m,W'=(ap2 ⟨w.heap.size+1,i,none⟩ ⟨w.heap.size+1+1+1,0,none⟩ (.int .u32 ((r*4294967296+u) / d)) (.int .u32 ((r*4294967296+u)%d)) (D 10) (D 11) W).drewN m)
   (Reg.inl [5,10,11]) (Reg.ge [(5,.tuple #[.int .u32 ((r*4294967296+u) / d),.int .u32 ((r*4294967296+u)%d)])]) Reg.None_ (fun _=>Reg.Any) (fun _ _=>False) (Reg.pl []) (Reg.pl [(2,[11]),(10,[11])])
   (by kernel_rfl) (by kernel_rfl) (by kernel_rfl) (by kernel_rfl) (Reg.ge_some _) (fun v=> ?_) (fun _ _ _ _ _ h=>h) (fun _ _ _ _ _ _ _ _ _ _ _ _ _=>Reg.none_) (fun _ _ _ _ h=>h.elim) (fun ops' Q' hops hQ=> ?_)
  · exact⟨1,rfl⟩
  apply Reg.RP rfl rfl rfl 18 rfl rfl
  ·
   intro D v' W' hc hj hf K hK
   obtain⟨m,rfl⟩:=hj
   have c1:=(ap2_far (p:=⟨w.heap.size+1,i,none⟩) (q:=⟨w.heap.size+1+1+1,0,none⟩) (x:= .int .u32 ((r*4294967296+u) / d)) (y:= .int .u32 ((r*4294967296+u)%d)) (b:=D 10) (c:=D 11) (W:=W) (z:=⟨w.heap.size+1+1,0,none⟩) (by dsimp only; omega) (by dsimp only; omega))
   rw[hcs]at c1
   go_step
   exact hK.out
  · rfl
  refine Reg.RP0 19 ?_
  apply Reg.RP rfl rfl rfl 20 rfl rfl
  ·
   intro D v' W' hc hj hf K hK
   obtain⟨m,rfl⟩:=hj
   have hs:D 11=false:=hc.2 11 (by decide)
   have c1:(ap2 ⟨w.heap.size+1,i,none⟩ ⟨w.heap.size+1+1+1,0,none⟩ (.int .u32 ((r*4294967296+u) / d)) (.int .u32 ((r*4294967296+u)%d)) (D 10) (D 11) W).cell? ⟨w.heap.size+1+1+1,0,none⟩=some (.int .u32 r):=by rw[hs]; exact(ap2_first (by dsimp only; omega)).1.trans hcr
   clear hs
   go_step
   exact hK.out
  · rfl
  refine Reg.RP0 21 ?_
  apply Reg.RP rfl rfl rfl 22 rfl rfl
  ·
   intro D v' W' hc hj hf K hK
   obtain⟨m,rfl⟩:=hj
   have c1:=(ap2_far (p:=⟨w.heap.size+1,i,none⟩) (q:=⟨w.heap.size+1+1+1,0,none⟩) (x:= .int .u32 ((r*4294967296+u) / d)) (y:= .int .u32 ((r*4294967296+u)%d)) (b:=D 10) (c:=D 11) (W:=W) (z:=⟨w.heap.size,0,none⟩) (by dsimp only; omega) (by dsimp only; omega))
   rw[hcd]at c1
   go_step
   exact hK.out
  · rfl
  refine Reg.RC_exact _ (fun _ h=>h) rfl (by intro t ht; cases ht; exact Nat.le_of_ble_eq_true rfl) rfl (fun D v' W' hc hj hf K hK=> ?_) (Reg.RC_at (b:=⟨#[_,_,_,_,_,_,_,_,_,_,_,_,_,_,_,_,_,_,_,_,_,_,_,_,_,_,_,_,_,_],[]⟩) rfl ?_)
  ·
   obtain⟨m,rfl⟩:=hj
   go_step
   refine(bdiv r u d _ r0 r1 u0 d1).mono ?_
   rintro e W2 ⟨rfl,n2,rfl⟩
   exact hK.out _ _ Reg.any ⟨m+n2,by rw[World.drewN_drewN]; rfl⟩ Reg.none_ rfl
  repeat refine Reg.RP0 _ ?_
  refine Reg.RCs (fun D v' W' hc hj hf K hK=> ?_) (fun _ _=>Reg.RC_at (b:=⟨_,[]⟩) rfl ?_)
  ·
   obtain⟨m,rfl⟩:=hj
   have hs:D 10=false:=hc.1
   have hs2:D 11=false:=hc.2 11 (by decide)
   rw[hs,hs2]
   have c1:((ap2 ⟨w.heap.size+1,i,none⟩ ⟨w.heap.size+1+1+1,0,none⟩ (.int .u32 ((r*4294967296+u) / d)) (.int .u32 ((r*4294967296+u)%d)) false false W).drewN m).cell? ⟨w.heap.size+1,i,none⟩=_:=hc2
   have c2:((ap2 ⟨w.heap.size+1,i,none⟩ ⟨w.heap.size+1+1+1,0,none⟩ (.int .u32 ((r*4294967296+u) / d)) (.int .u32 ((r*4294967296+u)%d)) false false W).drewN m).frozen? ⟨w.heap.size+1,i,none⟩=_:=hf2
   go_step
   exact hK.out undef _ Reg.any ⟨m,by show _=(ap2 ⟨w.heap.size+1,i,none⟩ ⟨w.heap.size+1+1+1,0,none⟩ (.int .u32 ((r*4294967296+u) / d)) (.int .u32 ((r*4294967296+u)%d)) true (D 11) W).drewN m; rw[hs2]; rfl⟩ Reg.none_ trivial
  refine Reg.RCs (fun D v' W' hc hj hf K hK=> ?_) (fun _ _=>Reg.RC_at (b:=⟨_,[]⟩) rfl ?_)
  ·
   obtain⟨m,rfl⟩:=hj
   have hs:D 11=false:=hc.1
   rw[hs]
   have c0:=ap2_first (p:=⟨w.heap.size+1,i,none⟩) (q:=⟨w.heap.size+1+1+1,0,none⟩) (x:= .int .u32 ((r*4294967296+u) / d)) (y:= .int .u32 ((r*4294967296+u)%d)) (b:=D 10) (W:=W) (z:=⟨w.heap.size+1+1+1,0,none⟩) (by dsimp only; omega)
   have c1:((ap2 ⟨w.heap.size+1,i,none⟩ ⟨w.heap.size+1+1+1,0,none⟩ (.int .u32 ((r*4294967296+u) / d)) (.int .u32 ((r*4294967296+u)%d)) (D 10) false W).drewN m).cell? ⟨w.heap.size+1+1+1,0,none⟩=_:=c0.1.trans hcr
   have c2:((ap2 ⟨w.heap.size+1,i,none⟩ ⟨w.heap.size+1+1+1,0,none⟩ (.int .u32 ((r*4294967296+u) / d)) (.int .u32 ((r*4294967296+u)%d)) (D 10) false W).drewN m).frozen? ⟨w.heap.size+1+1+1,0,none⟩=_:=c0.2.trans hfr
   go_step
   exact hK.out undef _ Reg.any ⟨m,rfl⟩ Reg.none_ trivial
  refine Reg.RC_end (fun D v' W' hd hj hf=> ?_)
  obtain⟨m,hW'⟩:=hj
  rw[hd 10 (by decide),hd 11 (by decide)]at hW'
  replace hW':W'=((W.setCell ⟨w.heap.size+1,i,none⟩ (.int .u32 ((r*4294967296+u) / d))).setCell ⟨w.heap.size+1+1+1,0,none⟩ (.int .u32 ((r*4294967296+u)%d))).drewN m:=hW'
  clear hd hf
  refine hQ _ _ ?_
  clear hQ hops Q' ops'
  gi_wp2
  have hlen2:=(SO pre).1
  have SN:=sst_snoc d A len pre ⟨i,hi⟩
  have HB2:=HH.out.1
  have k1:KeepsOthers W W':=by
   rw[hW']
   have k0:KeepsOthers W ((W.setCell ⟨w.heap.size+1,i,none⟩ (.int .u32 ((r*4294967296+u) / d))).setCell ⟨w.heap.size+1+1+1,0,none⟩ (.int .u32 ((r*4294967296+u)%d))):=(KeepsOthers.setCell W ⟨w.heap.size+1,i,none⟩ (.int .u32 ((r*4294967296+u) / d))).trans (KeepsOthers.setCell _ ⟨w.heap.size+1+1+1,0,none⟩ (.int .u32 ((r*4294967296+u)%d)))
   exact⟨k0.size,k0.same⟩
  have k3:∀k,k≠w.heap.size+1→k≠w.heap.size+1+1+1→W'.heap[k]? = W.heap[k]? :=fun k h1 h2=>by
   rw[hW']
   exact(Below.heap_setCell _ _ _ _ h2).trans (Below.heap_setCell _ _ _ _ h1)
  have k2:KD w.heap.size (w.heap.size+1+1+1+1) W W':=by
   refine⟨?_,k3 _ (by omega) (by omega)⟩
   rw[hW']
   exact belowN (((Below.refl w.heap.size W).setCell (p:=⟨w.heap.size+1,i,none⟩) (Nat.le_succ _) _).setCell (p:=⟨w.heap.size+1+1+1,0,none⟩) (show w.heap.size≤w.heap.size+1+1+1 by omega) _) m
  refine⟨k1.from _,k2,⟨?_,?_,?_,?_,?_⟩,hB.trans k2.1⟩
  ·
   rw[SN]
   have hb3:=HB2.set_ i (.int .u32 ((r*4294967296+u) / d))
   have hb4:=(hb3.far' (b:=w.heap.size+1+1+1) (i:=0) (u:= .int .u32 ((r*4294967296+u)%d)) (by omega)).drewN m
   rw[← hW']at hb4
   dsimp only[sstep]
   rw[HH.out.2.1,HH.out.2.2]
   rw[show (u32s (sst d A len pre).1).toArray.setIfInBounds i (.int .u32 ((r*4294967296+u) / d))=(u32s ((sst d A len pre).1.set i ((r*4294967296+u) / d))).toArray by simp[u32s,List.map_set]]at hb4
   exact hb4
  · exact(World.cell?_of_block (a:=⟨w.heap.size,0,none⟩) (k3 w.heap.size (by omega) (by omega))).trans hcd
  · exact(World.cell?_of_block (a:=⟨w.heap.size+1+1,0,none⟩) (k3 (w.heap.size+1+1) (by omega) (by omega))).trans hcs
  ·
   rw[SN,hW']
   dsimp only[sstep]
   rw[HH.out.2.1,HH.out.2.2]
   exact World.cell?_setCell_same' _ _ _ (by rw[show (W.setCell ⟨w.heap.size+1,i,none⟩ (.int .u32 ((r*4294967296+u) / d))).cell? ⟨w.heap.size+1+1+1,0,none⟩=W.cell? ⟨w.heap.size+1+1+1,0,none⟩ from World.cell?_of_block (Below.heap_setCell _ _ _ _ (by dsimp only; omega)),hcr]; rfl)
  ·
   rw[hW']
   show ((W.setCell ⟨w.heap.size+1,i,none⟩ (.int .u32 ((r*4294967296+u) / d))).setCell ⟨w.heap.size+1+1+1,0,none⟩ (.int .u32 ((r*4294967296+u)%d))).frozen? ⟨w.heap.size+1+1+1,0,none⟩=false
   rw[World.frozen?_setCell,World.frozen?_setCell]
   exact hfr
 case done=>
  rintro D ys W hD rfl ⟨⟨hb,hcd,hcs,hcr,hfr⟩,hB⟩ hK
  have hDl:D<W.heap.size:=(Array.getElem?_eq_some_iff.1 hK).1
  obtain⟨qs,f1,f2,f3⟩:=sst_falls (d:=d) hlen d0 len (Nat.le_refl _)
  rw[Nat.sub_self,List.replicate_zero,List.nil_append]at f1
  rw[Nat.sub_self,List.drop_zero]at f3
  have S1:=SO (falls len len (Nat.le_refl _))
  obtain⟨r,hr⟩:∃r,(sst d A len (falls len len (Nat.le_refl _))).2=r:=⟨_,rfl⟩
  rw[hr]at hcr f3 S1
  rw[f1]at hb S1
  have QR:=quot_of f3 S1.2.2.1 S1.2.2.2
  have LQ:Lim W (.slice (some ⟨w.heap.size+1,0,none⟩) len len) qs:=by
   have:=Lim.of_blk' hb S1.2.1
   rw[f2]at this
   exact this
  have HQ:=Hid.mk_ (And.intro QR (And.intro S1.2.1 f2))
  have HB:=Hid.mk_ hB
  have HK:=Hid.mk_ hK
  have lq:qs.length≤few:=by omega
  have z1:w.heap.size+1+1+1<W.heap.size:=by
   rcases Nat.lt_or_ge (w.heap.size+1+1+1) W.heap.size with h | h
   · exact h
   · simp[World.cell?,Array.getElem?_eq_none h]at hcr
  clear hb hr f1 f3 S1 QR hB hK fA' fa b1 b2 b3 b4 b5 hB0 hmk SO
  gi_wp2_with fail
  refine wpIn_wide.2 ?_
  go_wp2_with fail
  go_region_held3 (fun w'=>w'.cell? ⟨w.heap.size+1+1,0,none⟩=some (.slice (some ⟨w.heap.size+1,0,none⟩) len len)∧w'.cell? ⟨w.heap.size+1+1+1,0,none⟩=some (.int .u32 r))
   (first | exact⟨hcs,hcr⟩ | exact⟨hcs2,hcr2⟩)
   (first
    | ((go_at_call 142; refine(wtrim _ (show Lim W.drew _ _ from LQ) lq).mono ?_; rintro e wv ⟨v,rfl,hv,hs⟩; go_must (have hcs2:=(hs.cell (p:=⟨w.heap.size+1+1,0,none⟩) (show w.heap.size+1+1<W.heap.size by omega)).trans hcs; have hcr2:=(hs.cell (p:=⟨w.heap.size+1+1+1,0,none⟩) (show w.heap.size+1+1+1<W.heap.size by omega)).trans hcr))))
  go_wp2
  gi_wp2
  have hKv:wv.heap[D]? = some (.deferred (some [])):=(hs.block D hDl).trans HK.out
  refine⟨by simp,.inl ⟨_,_,rfl,run_takeDeferred hKv,?_⟩⟩
  refine⟨.tuple #[v,.int .u32 r],?_,v,?_,?_,?_⟩
  · simp[results,Tryz.f141,go_sem]
  · rw[HQ.out.1.2]
  ·
   rw[HQ.out.1.1,limbs_lval HQ.out.2.1]
   exact lim_kept hv (grownBy_putObj' _ D (.deferred none)) (fun r e=>by cases e; exact⟨_,hKv,rfl⟩)
  · exact(below_steps (W:=W.drew) HB.out.drew (Nat.le_refl _) hs).trans (belowK_b (w:=w) (Nat.le_refl _) _ D _ _ (by simp at hD; omega) hKv rfl rfl)
 case stop=>
  rintro D c pre W _ _ h _
  exact h.elim
end Go.Proofs.YtdkcffnmlllamaaGreat
