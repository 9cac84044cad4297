import Derived.Test.YtdkcffnmlllamaaGreatMTl
import Derived.Deep.QuietTactic
import Derived.BigQuiet
set_option linter.unusedVariables false
set_option linter.unusedSimpArgs false
set_option maxHeartbeats 6400000
set_option maxRecDepth 1000000
namespace Go.Proofs.YtdkcffnmlllamaaGreat
open Go.RowKit Go.Shelf
attribute [local go_sem] Oper.semAt_some
theorem bits_and_mask {t:Int} {s:Nat} (h0:0≤t) (h1:t<18446744073709551616) (hs:s≤31):bits .and .u64 t (((2^s:Nat):Int)-1)=t%((2^s:Nat):Int):=by
 obtain⟨n,rfl⟩:=Int.eq_ofNat_of_zero_le h0
 have p0:=Nat.one_le_two_pow (n:=s)
 have p1:=Nat.pow_le_pow_right (show 0<2 by omega) hs
 rw[show (((2^s:Nat):Int)-1)=((2^s-1:Nat):Int) by omega,bits_and_u64_nat _ _ (by omega) (by omega),Nat.and_two_pow_sub_one_eq_mod]
 rfl
theorem index0 (a:Option Addr) (c:Nat) (f:Value) (w:World):Calls Tryz.prog 168 #[.slice a 0 c,f] w fun e w'=>e = .returned (.int .i64 (-1))∧w'=w:=by
 go_enter Tryz.func168,Tryz.ntmps168
 go_wp2
 go_loopw [8] (fun i wr=>i = .int .i64 0∧wr=w) (fun _ _=>0)
 case atStart=>exact⟨rfl,rfl⟩
 case round=>
  obtain⟨rfl,rfl⟩:=hrel
  go_wp2
  go_returns
  exact⟨rfl,rfl⟩
theorem contains0 (a:Option Addr) (c:Nat) (f:Value) (w:World):Calls Tryz.prog 163 #[.slice a 0 c,f] w fun e w'=>e = .returned (.bool false)∧w'=w:=by
 go_enter Tryz.func163,Tryz.ntmps163
 go_wp2_with (go_at_call 168; refine(index0 _ _ _ _).mono ?_; rintro e w' ⟨rfl,rfl⟩)
 go_returns
 exact⟨rfl,rfl⟩
def ap1 (p:Addr) (x:Value) (b:Bool) (W:World):World:=match b with | true=>W.setCell p x | false=>W
theorem ap1_far {p z:Addr} {x:Value} {b:Bool} {W:World} (hp:z.block≠p.block):(ap1 p x b W).cell? z=W.cell? z:=by
 cases b
 · rfl
 · exact World.cell?_of_block (Below.heap_setCell _ _ _ _ hp)
theorem wright {a:Value} {A:List Int} {s:Nat} (w:World) (ha:Lim w a A) (nA:A.length≤few) (hs:s≤31) :
  Calls Tryz.prog 146 #[a,.int .i64 s] w fun e w'=>∃q qs,e = .returned (.tuple #[q,.bool (decide (0<lval A%(2^s:Nat)))])∧Lim w' q qs∧lval qs=lval A / (2^s:Nat)∧lok qs∧qs.length=A.length∧Steps w w':=by
 obtain⟨aa,ca,rfl⟩:=ha.shape
 obtain⟨oa,-,la,fa⟩:=ha.cells
 obtain⟨len,hlen⟩:∃n,A.length=n:=⟨_,rfl⟩
 have HA:=Hid.mk_ ha
 rw[hlen]at la fa nA⊢
 have hmk:=make_row len (by unfold few at nA; omega)
 have hro:Fence.wide.round=none:=rfl
 obtain⟨d,hd⟩:∃P,((2^s:Nat):Int)=P:=⟨_,rfl⟩
 have d0:1≤d:=by have:=Nat.one_le_two_pow (n:=s); omega
 have d1:d≤2147483648:=by have:=Nat.pow_le_pow_right (show 0<2 by omega) hs; simp at this; omega
 have HD:Hid (((2^s:Nat):Int)=d):=hd
 rw[hd]
 clear hd
 have hq:(s:Int).tdiv 32=0:=Int.tdiv_eq_zero_of_lt (by omega) (by omega)
 have hr:(s:Int).tmod 32=s:=Int.tmod_eq_of_lt (by omega) (by omega)
 have hq':(s:Int) / 32=0:=by omega
 have hr':(s:Int)%32=s:=by omega
 have hw6:wrap64 (len:Int)=len:=by unfold few at nA; unfold wrap64; omega
 refine(callsIn_wide (n:=3)).1 ?_
 refine callsIn_of_wp_marks Tryz.func146 rfl trivial ?_ hro
 simp only[Tryz.ntmps146,List.size_toArray,List.length_cons,List.length_nil,Nat.reduceAdd,Nat.reduceSub,Array.replicate_succ,Array.replicate_zero,List.push_toArray,List.append_toArray,List.nil_append,List.cons_append]
 gi_wp2_with (first
  | (refine⟨trivial,?_⟩; gi_at_call 163; refine(callsIn_wide.2 (contains0 _ _ _ _)).mono ?_; rintro e w' ⟨rfl,rfl⟩)
  | (refine⟨trivial,?_⟩; gi_at_call 159; refine(down_in Fence.wide 2 trivial hro _ _ _ _).mono ?_; rintro e w' ⟨rfl,rfl⟩))
 have b1:=Boxed.new w 3 (.int .i64 s)
 have b2:Blk ((w.alloc (.cells #[.int .i64 s] 3)).alloc (.cells (madeCells #[.int .u32 0] len) 130)) (w.heap.size+1) 130 (u32s (List.replicate len 0)).toArray:=by
  have:=Blk.new1 w (.cells #[.int .i64 s] 3) 130 (madeCells #[.int .u32 0] len)
  rw[made_zeros]at this⊢
  exact this
 have b3:=Boxed.new ((w.alloc (.cells #[.int .i64 s] 3)).alloc (.cells (madeCells #[.int .u32 0] len) 130)) 28 (.slice (some ⟨w.heap.size+1,0,none⟩) len len)
 have b4:=Boxed.new (((w.alloc (.cells #[.int .i64 s] 3)).alloc (.cells (madeCells #[.int .u32 0] len) 130)).alloc (.cells #[.slice (some ⟨w.heap.size+1,0,none⟩) len len] 28)) 133 (.int .u64 0)
 have b5:=Boxed.new ((((w.alloc (.cells #[.int .i64 s] 3)).alloc (.cells (madeCells #[.int .u32 0] len) 130)).alloc (.cells #[.slice (some ⟨w.heap.size+1,0,none⟩) len len] 28)).alloc (.cells #[.int .u64 0] 133)) 28 (.slice aa len ca)
 simp only[World.size_alloc]at b3 b4 b5
 have hB0:Below w.heap.size w (((((w.alloc (.cells #[.int .i64 s] 3)).alloc (.cells (madeCells #[.int .u32 0] len) 130)).alloc (.cells #[.slice (some ⟨w.heap.size+1,0,none⟩) len len] 28)).alloc (.cells #[.int .u64 0] 133)).alloc (.cells #[.slice aa len ca] 28)):=(((((Below.refl _ w).alloc (Nat.le_refl _) _).alloc (by simp) _).alloc (by simp; omega) _).alloc (by simp; omega) _).alloc (by simp; omega) _
 have fA':0<len→∃b o,aa=some ⟨b,o,none⟩∧b<w.heap.size∧Cells (((((w.alloc (.cells #[.int .i64 s] 3)).alloc (.cells (madeCells #[.int .u32 0] len) 130)).alloc (.cells #[.slice (some ⟨w.heap.size+1,0,none⟩) len len] 28)).alloc (.cells #[.int .u64 0] 133)).alloc (.cells #[.slice aa len ca] 28)) b o A:=fun h=>by
  obtain⟨b,o,e,hb,hc⟩:=fa h
  exact⟨b,o,e,hb,hc.below hB0 hb⟩
 have SO:=fun pre=>sst_ok (n:=len) d0 (show d<4294967296 by omega) oa pre
 refine wpIn_rangeFunc_ownG hro (show 1≤3 by omega) (gf:=167) (lb:=#[.pointer (some ⟨w.heap.size+1+1+1+1,0,none⟩)]) rfl trivial (enters_of Tryz.func167 (by kernel_rfl) rfl)
  (down_stopsD Fence.wide 2 trivial hro (by omega) (w.heap.size+1+1+1+1) w.heap.size aa ca len A hlen nA _ (by simp) (by simp; omega) b5.cell fA') KD.trans (KD_b (by simp; omega) (by simp)) (Below.refl _ _) (fun _=>rfl)
  (fun(pre:List (Fin len)) W=>(Blk W (w.heap.size+1) 130 (u32s (sst d A len pre).1).toArray∧W.cell? ⟨w.heap.size,0,none⟩=some (.int .i64 s)∧W.cell? ⟨w.heap.size+1+1,0,none⟩=some (.slice (some ⟨w.heap.size+1,0,none⟩) len len)∧W.cell? ⟨w.heap.size+1+1+1,0,none⟩=some (.int .u64 (sst d A len pre).2)∧W.frozen? ⟨w.heap.size+1+1+1,0,none⟩=false)∧Below w.heap.size w W)
  (fun _ _ _=>False)
  (OwnFrom.and (Own.from (fun s A B row hs hg hr=>⟨blk_kept hs.1 hg hr,cell_kept hs.2.1 hg hr,cell_kept hs.2.2.1 hg hr,cell_kept hs.2.2.2.1 hg hr,(frozen_kept hs.2.2.2.1 hg hr).trans hs.2.2.2.2⟩) _) (ownFrom_below (Nat.le_refl _) (by simp; omega)))
  (fun _ _ _ _ _ hs _ _=>hs)
  ⟨⟨((b2.alloc _).alloc _).alloc _,(((((b1.alloc _).alloc _).alloc _).alloc _)).cell,((b3.alloc _).alloc _).cell,(b4.alloc _).cell,(b4.alloc _).frozen⟩,hB0⟩
  (fun x=>{ tmps:=#[.slice aa len ca,.int .i64 s,undef,.pointer (some ⟨w.heap.size,0,none⟩),.slice none 0 0,.bool false,.int .i64 0,.bool false,.pointer (some ⟨w.heap.size+1+1,0,none⟩),.pointer (some ⟨w.heap.size+1+1+1,0,none⟩),.int .i64 ((x:Nat):Int),.int .u32 (A.getD x 0),.int .i64 s,.int .i64 0,.slice aa len ca,.int .i64 len,.int .i64 0,.slice aa len ca,.int .i64 0,.slice aa 0 ca,.bool false,.slice aa len ca,.int .i64 len,.int .i64 0,.int .i64 len,.slice (some ⟨w.heap.size+1,0,none⟩) len len,.slice aa len ca,.int .i64 0,.slice aa len ca,.func (.func 167) #[] #[.pointer (some ⟨w.heap.size+1+1+1+1,0,none⟩)],.int .i64 ((x:Nat):Int),.int .u32 (A.getD x 0),undef,undef,undef,undef,undef,undef,undef,undef,undef,undef,undef,undef,undef,undef,undef,undef,undef,undef,undef,undef,undef,undef,undef,undef,undef],defers:= [] }) ?assign ?body ?done ?stop
 case assign=>
  intro l x W K hK
  dsimp only[downE]
  obtain⟨u,hu⟩:∃u,A.getD (x:Nat) 0=u:=⟨_,rfl⟩
  simp only[hu]at hK⊢
  clear hu
  gi_wp2
  exact hK
 case body=>
  rintro l pre x W ⟨⟨hb,hcd,hcs,hcr,hfr⟩,hB⟩ _
  obtain⟨i,hi⟩:=x
  have S1:=SO pre
  obtain⟨u,hu⟩:∃u,A.getD i 0=u:=⟨_,rfl⟩
  obtain⟨r,hr⟩:∃r,(sst d A len pre).2=r:=⟨_,rfl⟩
  have u0:=lok_getD oa i
  rw[hu]at u0
  rw[hr]at hcr S1
  have r0:=S1.2.2.1
  have r1:=S1.2.2.2
  have hc2:W.cell? ⟨w.heap.size+1,i,none⟩=some (.int .u32 ((sst d A len pre).1.getD i 0)):=hb.c _ (by simpa using u32s_getD (sst d A len pre).1 i (by omega))
  obtain⟨v,hv⟩:∃v,(sst d A len pre).1.getD i 0=v:=⟨_,rfl⟩
  rw[hv]at hc2
  have hf2:W.frozen? ⟨w.heap.size+1,i,none⟩=false:=hb.fr _
  have z1:w.heap.size+1+1+1<W.heap.size:=by
   rcases Nat.lt_or_ge (w.heap.size+1+1+1) W.heap.size with h | h
   · exact h
   · simp[World.cell?,Array.getElem?_eq_none h]at hcr
  obtain⟨T,hT⟩:∃T,r*4294967296+u=T:=⟨_,rfl⟩
  have hor:bits .or .u64 (r*4294967296) u=T:=by rw[← hT]; exact bits_or_add (s:=32) r0 u0.1 (by simpa using u0.2) (by simp; omega)
  obtain⟨Q,hQ0⟩:∃Q,T / d=Q:=⟨_,rfl⟩
  obtain⟨R,hR0⟩:∃R,T%d=R:=⟨_,rfl⟩
  have hT0:0≤T∧T<9223372036854775808:=by
   have:=Int.mul_le_mul_of_nonneg_right (show r≤2147483647 by omega) (show (0:Int)≤4294967296 by omega)
   omega
  have Q0:0≤Q:=by rw[← hQ0]; exact Int.ediv_nonneg hT0.1 (by omega)
  have Q1:Q<4294967296:=by
   rw[← hQ0]
   refine Int.ediv_lt_of_lt_mul (by omega) ?_
   omega
  have hsh:T / 2^s=Q:=by rw[← hQ0,← HD.out]; simp
  have hand:bits .and .u64 T (d-1)=R:=by rw[← hR0,← HD.out]; exact bits_and_mask hT0.1 (by omega) hs
  have hpw:IntKind.u64.wrap (2^s:Int)=d:=by
   have e:(2^s:Int)=d:=by rw[← HD.out]; simp
   rw[e,wrap_u64 (by omega) (by omega)]
  have HH:=Hid.mk_ (And.intro hb (And.intro hu (And.intro hr (And.intro hT (And.intro hQ0 hR0)))))
  dsimp only
  rw[hu]
  clear hb hu hr hv fA' fa b1 b2 b3 b4 b5 hB0 hmk S1 hT hQ0 hR0
  gi_wp2_with fail
  have e1:(W.setCell ⟨w.heap.size+1+1+1,0,none⟩ (.int .u64 T)).cell? ⟨w.heap.size,0,none⟩=some (.int .i64 s):=(World.cell?_of_block (Below.heap_setCell _ _ _ _ (by dsimp only; omega))).trans hcd
  have e2:(W.setCell ⟨w.heap.size+1+1+1,0,none⟩ (.int .u64 T)).cell? ⟨w.heap.size+1+1,0,none⟩=some (.slice (some ⟨w.heap.size+1,0,none⟩) len len):=(World.cell?_of_block (Below.heap_setCell _ _ _ _ (by dsimp only; omega))).trans hcs
  have e3:(W.setCell ⟨w.heap.size+1+1+1,0,none⟩ (.int .u64 T)).cell? ⟨w.heap.size+1+1+1,0,none⟩=some (.int .u64 T):=World.cell?_setCell_same' _ _ _ (by rw[hcr]; rfl)
  have e4:(W.setCell ⟨w.heap.size+1+1+1,0,none⟩ (.int .u64 T)).cell? ⟨w.heap.size+1,i,none⟩=some (.int .u32 v):=(World.cell?_of_block (Below.heap_setCell _ _ _ _ (by dsimp only; omega))).trans hc2
  have e5:(W.setCell ⟨w.heap.size+1+1+1,0,none⟩ (.int .u64 T)).frozen? ⟨w.heap.size+1,i,none⟩=false:=(World.frozen?_setCell _ _ _ _).trans hf2
  have e6:(W.setCell ⟨w.heap.size+1+1+1,0,none⟩ (.int .u64 T)).frozen? ⟨w.heap.size+1+1+1,0,none⟩=false:=(World.frozen?_setCell _ _ _ _).trans hfr
  obtain⟨W1,hW1⟩:∃X,W.setCell ⟨w.heap.size+1+1+1,0,none⟩ (.int .u64 T)=X:=⟨_,rfl⟩
  rw[hW1]at e1 e2 e3 e4 e5 e6⊢
  have HW1:=Hid.mk_ hW1
  clear hW1
  refine wpIn_chain (fun D _ W'=>∃m,W'=(ap1 ⟨w.heap.size+1,i,none⟩ (.int .u32 Q) (D 8) W1).drewN m)
   (Reg.inl [8]) (Reg.ge []) Reg.None_ (fun _=>Reg.Any) (fun _ _=>False) (Reg.pl []) (Reg.pl [])
   (by kernel_rfl) (by kernel_rfl) (by kernel_rfl) (by kernel_rfl) (Reg.ge_some _) (fun v=> ?_) (fun _ _ _ _ _ h=>h) (fun _ _ _ _ _ _ _ _ _ _ _ _ _=>Reg.none_) (fun _ _ _ _ h=>h.elim) (fun ops' Q' hops hQ=> ?_)
  · exact⟨1,rfl⟩
  apply Reg.RP rfl rfl rfl 37 rfl rfl
  ·
   intro D v' W' hc hj hf K hK
   obtain⟨m,rfl⟩:=hj
   have c1:=(ap1_far (p:=⟨w.heap.size+1,i,none⟩) (x:=(.int .u32 Q)) (b:=D 8) (W:=W1) (z:=⟨w.heap.size+1+1,0,none⟩) (by dsimp only; omega))
   rw[e2]at c1
   go_step
   exact hK.out
  · rfl
  refine Reg.RP0 38 ?_
  apply Reg.RP rfl rfl rfl 39 rfl rfl
  ·
   intro D v' W' hc hj hf K hK
   obtain⟨m,rfl⟩:=hj
   have c1:=(ap1_far (p:=⟨w.heap.size+1,i,none⟩) (x:=(.int .u32 Q)) (b:=D 8) (W:=W1) (z:=⟨w.heap.size+1+1+1,0,none⟩) (by dsimp only; omega))
   rw[e3]at c1
   go_step
   exact hK.out
  · rfl
  apply Reg.RP rfl rfl rfl 40 rfl rfl
  ·
   intro D v' W' hc hj hf K hK
   obtain⟨m,rfl⟩:=hj
   have c1:=(ap1_far (p:=⟨w.heap.size+1,i,none⟩) (x:=(.int .u32 Q)) (b:=D 8) (W:=W1) (z:=⟨w.heap.size,0,none⟩) (by dsimp only; omega))
   rw[e1]at c1
   go_step
   exact hK.out
  · rfl
  repeat refine Reg.RP0 _ ?_
  refine Reg.RCs (fun D v' W' hc hj hf K hK=> ?_) (fun _ _=>Reg.RC_at (b:=⟨_,[]⟩) rfl ?_)
  ·
   obtain⟨m,rfl⟩:=hj
   have hs1:D 8=false:=hc.1
   rw[hs1]
   have c1:((ap1 ⟨w.heap.size+1,i,none⟩ (.int .u32 Q) false W1).drewN m).cell? ⟨w.heap.size+1,i,none⟩=_:=e4
   have c2:((ap1 ⟨w.heap.size+1,i,none⟩ (.int .u32 Q) false W1).drewN m).frozen? ⟨w.heap.size+1,i,none⟩=_:=e5
   go_step
   exact hK.out undef _ Reg.any ⟨m,rfl⟩ Reg.none_ trivial
  refine Reg.RC_end (fun D v' W' hd hj hf=> ?_)
  obtain⟨m,hW'⟩:=hj
  rw[hd 8 (by decide)]at hW'
  replace hW':W'=(W1.setCell ⟨w.heap.size+1,i,none⟩ (.int .u32 Q)).drewN m:=hW'
  clear hd hf
  refine hQ _ _ ?_
  clear hQ hops Q' ops'
  have f1:W'.cell? ⟨w.heap.size,0,none⟩=some (.int .i64 s):=by rw[hW']; exact(World.cell?_of_block (Below.heap_setCell _ _ _ _ (by dsimp only; omega))).trans e1
  have f3:W'.cell? ⟨w.heap.size+1+1+1,0,none⟩=some (.int .u64 T):=by rw[hW']; exact(World.cell?_of_block (Below.heap_setCell _ _ _ _ (by dsimp only; omega))).trans e3
  have f6:W'.frozen? ⟨w.heap.size+1+1+1,0,none⟩=false:=by rw[hW']; exact(World.frozen?_setCell _ _ _ _).trans e6
  have HW':=Hid.mk_ hW'
  clear hW' e1 e2 e3 e4 e5 e6
  gi_wp2_with fail
  refine wpIn_chain (fun D _ W2=>∃m,W2=(ap1 ⟨w.heap.size+1+1+1,0,none⟩ (.int .u64 R) (D 6) W').drewN m)
   (Reg.inl [6]) (Reg.ge []) Reg.None_ (fun _=>Reg.Any) (fun _ _=>False) (Reg.pl []) (Reg.pl [(0,[6])])
   (by kernel_rfl) (by kernel_rfl) (by kernel_rfl) (by kernel_rfl) (Reg.ge_some _) (fun v=> ?_) (fun _ _ _ _ _ h=>h) (fun _ _ _ _ _ _ _ _ _ _ _ _ _=>Reg.none_) (fun _ _ _ _ h=>h.elim) (fun ops' Q' hops hQ=> ?_)
  · exact⟨1,rfl⟩
  apply Reg.RP rfl rfl rfl 45 rfl rfl
  ·
   intro D v' W2 hc hj hf K hK
   obtain⟨m2,rfl⟩:=hj
   have hs2:D 6=false:=hc.2 6 (by decide)
   have c1:(ap1 ⟨w.heap.size+1+1+1,0,none⟩ (.int .u64 R) (D 6) W').cell? ⟨w.heap.size+1+1+1,0,none⟩=some (.int .u64 T):=by rw[hs2]; exact f3
   clear hs2
   go_step
   exact hK.out
  · rfl
  apply Reg.RP rfl rfl rfl 46 rfl rfl
  ·
   intro D v' W2 hc hj hf K hK
   obtain⟨m2,rfl⟩:=hj
   have c1:=(ap1_far (p:=⟨w.heap.size+1+1+1,0,none⟩) (x:=(.int .u64 R)) (b:=D 6) (W:=W') (z:=⟨w.heap.size,0,none⟩) (by dsimp only; omega))
   rw[f1]at c1
   go_step
   exact hK.out
  · rfl
  apply Reg.RP rfl rfl rfl 47 rfl rfl
  ·
   intro D v' W2 hc hj hf K hK
   obtain⟨m2,rfl⟩:=hj
   go_step
   exact hK.out
  · rfl
  apply Reg.RP rfl rfl rfl 48 rfl rfl
  ·
   intro D v' W2 hc hj hf K hK
   obtain⟨m2,rfl⟩:=hj
   go_step
   exact hK.out
  · rfl
  apply Reg.RP rfl rfl rfl 49 rfl rfl
  ·
   intro D v' W2 hc hj hf K hK
   obtain⟨m2,rfl⟩:=hj
   go_step
   exact hK.out
  · rfl
  apply Reg.RP rfl rfl rfl 50 rfl rfl
  ·
   intro D v' W2 hc hj hf K hK
   obtain⟨m2,rfl⟩:=hj
   go_step
   exact hK.out
  · rfl
  refine Reg.RC_call rfl (by intro t ht; cases ht) rfl (fun D v' W2 hc hj hf K hK=> ?_) (fun _ _=>Reg.RC_at (b:=⟨_,[]⟩) rfl ?_)
  ·
   obtain⟨m2,rfl⟩:=hj
   have hs1:D 6=false:=hc.1
   rw[hs1]
   have c1:((ap1 ⟨w.heap.size+1+1+1,0,none⟩ (.int .u64 R) false W').drewN m2).cell? ⟨w.heap.size+1+1+1,0,none⟩=_:=f3
   have c2:((ap1 ⟨w.heap.size+1+1+1,0,none⟩ (.int .u64 R) false W').drewN m2).frozen? ⟨w.heap.size+1+1+1,0,none⟩=_:=f6
   go_step
   exact hK.out undef _ Reg.any ⟨m2,rfl⟩ Reg.none_ trivial
  refine Reg.RC_end (fun D v' W2 hd hj hf=> ?_)
  obtain⟨m2,hW2⟩:=hj
  rw[hd 6 (by decide)]at hW2
  replace hW2:W2=(W'.setCell ⟨w.heap.size+1+1+1,0,none⟩ (.int .u64 R)).drewN m2:=hW2
  clear hd hf
  refine hQ _ _ ?_
  clear hQ hops Q' ops'
  gi_wp2
  obtain⟨HB2,hu,hr,hT,hQ0,hR0⟩:=HH.out
  have hlen2:=(SO pre).1
  have SN:=sst_snoc d A len pre ⟨i,hi⟩
  have K1:KeepsOthers W W1:=by rw[← HW1.out]; exact KeepsOthers.setCell W ⟨w.heap.size+1+1+1,0,none⟩ (.int .u64 T)
  have K2:KeepsOthers W1 W':=by
   rw[HW'.out]
   have:=KeepsOthers.setCell W1 ⟨w.heap.size+1,i,none⟩ (.int .u32 Q)
   exact⟨this.size,this.same⟩
  have K3:KeepsOthers W' W2:=by
   rw[hW2]
   have:=KeepsOthers.setCell W' ⟨w.heap.size+1+1+1,0,none⟩ (.int .u64 R)
   exact⟨this.size,this.same⟩
  have k1:KeepsOthers W W2:=(K1.trans K2).trans K3
  have q1:∀k,k≠w.heap.size+1+1+1→W1.heap[k]? = W.heap[k]? :=fun k h=>by rw[← HW1.out]; exact Below.heap_setCell _ _ _ _ h
  have q2:∀k,k≠w.heap.size+1→W'.heap[k]? = W1.heap[k]? :=fun k h=>by rw[HW'.out]; exact Below.heap_setCell _ _ _ _ h
  have q3:∀k,k≠w.heap.size+1+1+1→W2.heap[k]? = W'.heap[k]? :=fun k h=>by rw[hW2]; exact Below.heap_setCell _ _ _ _ h
  have k3:∀k,k≠w.heap.size+1→k≠w.heap.size+1+1+1→W2.heap[k]? = W.heap[k]? :=fun k h1 h2=>(q3 k h2).trans ((q2 k h1).trans (q1 k h2))
  have k2:KD w.heap.size (w.heap.size+1+1+1+1) W W2:=by
   refine⟨?_,k3 _ (by omega) (by omega)⟩
   rw[hW2]
   refine belowN (Below.setCell (p:=⟨w.heap.size+1+1+1,0,none⟩) ?_ (show w.heap.size≤w.heap.size+1+1+1 by omega) _) m2
   rw[HW'.out]
   refine belowN (Below.setCell (p:=⟨w.heap.size+1,i,none⟩) ?_ (show w.heap.size≤w.heap.size+1 by omega) _) m
   rw[← HW1.out]
   exact(Below.refl w.heap.size W).setCell (p:=⟨w.heap.size+1+1+1,0,none⟩) (show w.heap.size≤w.heap.size+1+1+1 by omega) _
  refine⟨k1.from _,k2,⟨?_,?_,?_,?_,?_⟩,hB.trans k2.1⟩
  ·
   rw[SN]
   have hb2:Blk W1 (w.heap.size+1) 130 (u32s (sst d A len pre).1).toArray:=(q1 _ (by omega)).trans HB2
   have hb3:=(hb2.set_ i (.int .u32 Q)).drewN m
   rw[← HW'.out]at hb3
   have hb4:Blk W2 (w.heap.size+1) 130 _:=(q3 _ (by omega)).trans hb3
   dsimp only[sstep]
   rw[hr,hu,hT,hQ0]
   rw[show (u32s (sst d A len pre).1).toArray.setIfInBounds i (.int .u32 Q)=(u32s ((sst d A len pre).1.set i Q)).toArray by simp[u32s,List.map_set]]at hb4
   exact hb4
  · exact(World.cell?_of_block (a:=⟨w.heap.size,0,none⟩) (k3 w.heap.size (by omega) (by omega))).trans hcd
  · exact(World.cell?_of_block (a:=⟨w.heap.size+1+1,0,none⟩) (k3 (w.heap.size+1+1) (by omega) (by omega))).trans hcs
  ·
   rw[SN,hW2]
   dsimp only[sstep]
   rw[hr,hu,hT,hR0]
   exact World.cell?_setCell_same' _ _ _ (by rw[f3]; rfl)
  ·
   rw[hW2]
   exact(World.frozen?_setCell _ _ _ _).trans f6
 case done=>
  rintro D ys W hD rfl ⟨⟨hb,hcd,hcs,hcr,hfr⟩,hB⟩ hK
  have hDl:D<W.heap.size:=(Array.getElem?_eq_some_iff.1 hK).1
  obtain⟨qs,f1,f2,f3⟩:=sst_falls (d:=d) hlen d0 len (Nat.le_refl _)
  rw[Nat.sub_self,List.replicate_zero,List.nil_append]at f1
  rw[Nat.sub_self,List.drop_zero]at f3
  have S1:=SO (falls len len (Nat.le_refl _))
  obtain⟨r,hr⟩:∃r,(sst d A len (falls len len (Nat.le_refl _))).2=r:=⟨_,rfl⟩
  rw[hr]at hcr f3 S1
  rw[f1]at hb S1
  have QR:=quot_of f3 S1.2.2.1 S1.2.2.2
  have LQ:Lim W (.slice (some ⟨w.heap.size+1,0,none⟩) len len) qs:=by
   have:=Lim.of_blk' hb S1.2.1
   rw[f2]at this
   exact this
  have HQ:=Hid.mk_ (And.intro QR (And.intro S1.2.1 f2))
  have HB:=Hid.mk_ hB
  have HK:=Hid.mk_ hK
  clear hb hr f1 f3 S1 QR hB hK fA' fa b1 b2 b3 b4 b5 hB0 hmk SO
  gi_wp2_with fail
  refine wpIn_wide.2 ?_
  go_wp2_with fail
  go_quiet (fail)
  gi_wp2
  have hKv:(W.drewN nq).heap[D]? = some (.deferred (some [])):=HK.out
  refine⟨by simp,.inl ⟨_,_,rfl,run_takeDeferred hKv,?_⟩⟩
  refine⟨.tuple #[.slice (some ⟨w.heap.size+1,0,none⟩) len len,.bool (decide (0<r))],?_,.slice (some ⟨w.heap.size+1,0,none⟩) len len,qs,?_,?_,?_,?_,?_,?_⟩
  · simp[results,Tryz.f146,go_sem]
  · rw[HQ.out.1.2]
  · exact lim_kept (A:=W.drewN nq) LQ (grownBy_putObj' _ D (.deferred none)) (fun r e=>by cases e; exact⟨_,hKv,rfl⟩)
  · exact HQ.out.1.1.symm
  · exact HQ.out.2.1
  · exact HQ.out.2.2
  · exact(below_steps (W:=W.drewN nq) (belowN HB.out nq) (Nat.le_refl _) (Below.refl _ _)).trans (belowK_b (w:=w) (Nat.le_refl _) _ D _ _ (by simp at hD; omega) hKv rfl rfl)
 case stop=>
  rintro D c pre W _ _ h _
  exact h.elim
end Go.Proofs.YtdkcffnmlllamaaGreat
namespace Go.Proofs.YtdkcffnmlllamaaGreat
open Go.RowKit
def RowAt (w1 W:World) (x:Value) (n:Nat) (P:Int):Prop:=∃g cap post L,x = .slice (some ⟨g,0,none⟩) n cap∧w1.heap.size≤g∧n≤cap∧lok L∧L.length=n∧lval L=P∧Blk W g 130 (seg [] L post)
theorem RowAt.steps {w1 W W':World} {x:Value} {n:Nat} {P:Int} (h:RowAt w1 W x n P) (hs:Steps W W'):RowAt w1 W' x n P:=by
 obtain⟨g,cap,post,L,h1,h2,h3,h4,h5,h6,h7⟩:=h
 exact⟨g,cap,post,L,h1,h2,h3,h4,h5,h6,h7.steps hs⟩
def blkOf:Value→Nat
 | .slice (some p) _ _=>p.block
 | _=>0
theorem RowAt.lt {w1 W:World} {x:Value} {n:Nat} {P:Int} (h:RowAt w1 W x n P):blkOf x<W.heap.size:=by
 obtain⟨g,cap,post,L,rfl,-,-,-,-,-,h7⟩:=h
 exact h7.lt
theorem RowAt.ge {w1 W:World} {x:Value} {n:Nat} {P:Int} (h:RowAt w1 W x n P):w1.heap.size≤blkOf x:=by
 obtain⟨g,cap,post,L,rfl,h,-⟩:=h
 exact h
def SlcN (n:Nat) (x:Value):Prop:=∃g cap,x = .slice (some ⟨g,0,none⟩) n cap∧n≤cap
theorem RowAt.slc {w1 W:World} {x:Value} {n:Nat} {P:Int} (h:RowAt w1 W x n P):SlcN n x:=by
 obtain⟨g,cap,post,L,rfl,-,h,-⟩:=h
 exact⟨g,cap,rfl,h⟩
theorem RowAt.mono {w0 w1 W:World} {x:Value} {n:Nat} {P:Int} (h:RowAt w1 W x n P) (hw:w0.heap.size≤w1.heap.size):RowAt w0 W x n P:=by
 obtain⟨g,cap,post,L,h1,h2,h3⟩:=h
 exact⟨g,cap,post,L,h1,Nat.le_trans hw h2,h3⟩
theorem wdivide_many {a d:Value} {A D:Int} {m:Nat} (w:World) (ha:Lim w a (limbs A)) (hd:Lim w d (limbs D)) (A0:0≤A) (D0:1≤D) (nA1:(limbs A).length≤1000000) (nD:(limbs D).length=m+2) (hlt:D≤A) :
  Calls Tryz.prog 112 #[a,d] w fun e w'=>∃q r,e = .returned (.tuple #[q,r])∧Lim w' q (limbs (A / D))∧Lim w' r (limbs (A%D))∧Steps w w':=by
 have nA:(limbs A).length≤few:=by unfold few; omega
 have nAm:m+2≤(limbs A).length:=by
  rcases Nat.lt_or_ge (limbs A).length (m+2)with h | h
  · have:=limbs_len_lt A0 (show 0≤D by omega) (by omega); omega
  · exact h
 obtain⟨K,hK⟩:∃K,(limbs A).length+1=K+(m+2):=⟨(limbs A).length+1-(m+2),by omega⟩
 obtain⟨c,hc⟩:∃c,cmpI A D=c:=⟨_,rfl⟩
 have c0:0≤c:=by
  rw[← hc]; unfold cmpI
  split
  · omega
  · rw[if_neg (by omega)]; omega
 have cc:Calls Tryz.prog 140 #[a,d] w fun e w'=>e = .returned (.int .i64 c)∧Steps w w':=by
  have:=wcompare w ha hd A0 (by omega) nA (by omega)
  rw[hc]at this
  exact this
 have vD:=lval_limbs (show 0≤D by omega)
 have vA:=lval_limbs A0
 have oD:=limbs_ok D
 have oA:=limbs_ok A
 have tD:=ltrim_top (limbs_canon D) nD
 obtain⟨Dl,hDl⟩:∃l,limbs D=l:=⟨_,rfl⟩
 obtain⟨Al,hAl⟩:∃l,limbs A=l:=⟨_,rfl⟩
 rw[hDl]at hd vD oD tD nD
 rw[hAl]at ha vA oA nA nA1 hK nAm
 obtain⟨t,ht⟩:∃t,Dl.getD (m+1) 0=t:=⟨_,rfl⟩
 have t0:=lok_getD oD (m+1)
 rw[ht]at t0 tD
 have la:=hd
 obtain⟨aa,ca,rfl⟩:=ha.shape
 obtain⟨ad,cd,rfl⟩:=hd.shape
 obtain⟨-,-,ld,fd⟩:=hd.cells
 obtain⟨bd,odd,rfl,hbd,hcd⟩:=fd (by omega)
 have g0:=hcd (m+1) (by omega)
 rw[ht]at g0
 have lz:=fun w'=>lz32 t w' (by omega) t0.2
 have s0:∀sv:Nat,2147483648≤t*((2^sv:Nat):Int)→t*((2^sv:Nat):Int)<4294967296→sv≤31→Hid (2147483648≤t*((2^sv:Nat):Int)∧t*((2^sv:Nat):Int)<4294967296):=fun _ h1 h2 _=>⟨h1,h2⟩
 have HA:=Hid.mk_ ha
 have HD:=Hid.mk_ hd
 obtain⟨nl,hnl⟩:∃n,Al.length=n:=⟨_,rfl⟩
 have HF:Hid (lval Dl=D∧lval Al=A∧lok Dl∧lok Al∧Dl.length=m+2∧Al.length=nl∧Dl.getD (m+1) 0=t):=⟨vD,vA,oD,oA,nD,hnl,ht⟩
 rw[hnl]at nA nA1 nAm hK cc HA⊢
 rw[nD]at ld cc HD⊢
 have HDl:=Hid.mk_ hDl
 clear la ha hd fd hcd vD vA oD oA nD hnl ht hDl hAl hc tD t0
 unfold few at nA
 go_enter Tryz.func112,Tryz.ntmps112
 go_wp2_with (first
  | (go_at_call 140; refine cc.mono ?_; rintro e w1 ⟨rfl,hs1⟩; have g1:=(hs1.cell (p:=⟨bd,odd+(m+1),none⟩) hbd).trans g0)
  | (go_at_call 143; refine(lz _).mono ?_; rintro e w2 ⟨sv,rfl,s1,s2,s3,rfl⟩; have HS0:=s0 sv s2 s3 s1; clear s2 s3 s0 lz))
 obtain⟨P,hP⟩:∃P,((2^sv:Nat):Int)=P:=⟨_,rfl⟩
 have P0:1≤P:=by have:=Nat.one_le_two_pow (n:=sv); omega
 have P1:P≤2147483648:=by have:=Nat.pow_le_pow_right (show 0<2 by omega) s1; simp at this; omega
 have PQ:P*((2^(32-sv):Nat):Int)=4294967296:=by
  rw[← hP,← Int.natCast_mul,← Nat.pow_add,show sv+(32-sv)=32 by omega]; decide
 have HN:=Hid.mk_ (fun(L:List Int) (oL:lok L) (lL:L.length=m+3) (hL:lval L=lval Dl*P)=>norm_top HF.out.2.2.1 HF.out.2.2.2.2.1 oL lL hL P0 PQ (by rw[HF.out.2.2.2.2.2.2,← hP]; exact HS0.out.1) (by rw[HF.out.2.2.2.2.2.2,← hP]; exact HS0.out.2))
 have HP:=Hid.mk_ (And.intro hP PQ)
 have cl1:∀w2,Steps w1 w2→Calls Tryz.prog 144 #[.slice (some ⟨bd,odd,none⟩) (m+2) cd,.int .i64 sv] w2 fun e w'=>∃x,e = .returned x∧RowAt w2 w' x (m+3) (lval Dl*P)∧Steps w2 w':=fun w2 hs=>by
  refine(wleft w2 ((HD.out.steps hs1).steps hs) (by have:=HF.out.2.2.2.2.1; unfold few; omega) s1).mono ?_
  rintro e w' ⟨v,L,rfl,h1,h2,h3,h4,h5⟩
  rw[HF.out.2.2.2.2.1]at h3 h4
  obtain⟨g,cap,post,rfl,k1,k2,k3⟩:=own_blk h4 (by omega)
  exact⟨_,rfl,⟨g,cap,post,L,rfl,k1,k2,h1.ok,h3,by rw[h2,hP],k3⟩,h5⟩
 have cl2:∀w2,Steps w1 w2→Calls Tryz.prog 144 #[.slice aa nl ca,.int .i64 sv] w2 fun e w'=>∃x,e = .returned x∧RowAt w2 w' x (K+(m+2)) (lval Al*P)∧Steps w2 w':=fun w2 hs=>by
  refine(wleft w2 ((HA.out.steps hs1).steps hs) (by have:=HF.out.2.2.2.2.2.1; unfold few; omega) s1).mono ?_
  rintro e w' ⟨v,L,rfl,h1,h2,h3,h4,h5⟩
  rw[HF.out.2.2.2.2.2.1]at h3 h4
  rw[hK]at h3 h4
  obtain⟨g,cap,post,rfl,k1,k2,k3⟩:=own_blk h4 (by omega)
  exact⟨_,rfl,⟨g,cap,post,L,rfl,k1,k2,h1.ok,h3,by rw[h2,hP],k3⟩,h5⟩
 have hmk:=make_row K (by omega)
 clear hP PQ HS0 g0 g1 cc
 refine Reg.wp_chain (fun D v W=>Steps w1 W∧(D 2=true→RowAt w1 W (v 2) (m+3) (lval Dl*P))∧(D 7=true→RowAt w1 W (v 7) (K+(m+2)) (lval Al*P))∧(D 2=true→D 7=true→blkOf (v 2)≠blkOf (v 7)))
  (Reg.inl [2,7]) (Reg.gv [(2,SlcN (m+3)),(7,SlcN (K+(m+2)))]) Reg.None_ (fun _=>Reg.Any) (fun _ _=>False) (Reg.pl [(10,[(2,some 43),(7,some 48)])]) (Reg.pl [])
  (by kernel_rfl) (by kernel_rfl) (by kernel_rfl) (Reg.gv_some _ (by intro p hp; simp only[List.mem_cons,List.not_mem_nil,or_false]at hp; rcases hp with rfl | rfl<;>exact⟨_,0,_,rfl,Nat.le_refl _⟩)) (fun v=> ?_) (fun D v v' W hv hj=> ?_) (fun _ _ _ _ _ _ _ _ _ _ _ _ _=>Reg.none_) (fun _ _ _ _ h=>h.elim) (fun ops' Q' hops hQ=> ?_)
 · exact⟨(Below.refl _ w1).drew,fun h=>Bool.noConfusion h,fun h=>Bool.noConfusion h,fun h=>Bool.noConfusion h⟩
 ·
  refine⟨hj.1,fun h=> ?_,fun h=> ?_,fun h h'=> ?_⟩
  · rw[← hv 2 h]; exact hj.2.1 h
  · rw[← hv 7 h]; exact hj.2.2.1 h
  · rw[← hv 2 h,← hv 7 h']; exact hj.2.2.2 h h'
 repeat refine Reg.RP0 _ ?_
 refine Reg.RC_call rfl (by intro t ht; cases ht; exact Nat.le_of_ble_eq_true rfl) rfl (fun D v' W' hc hj hf K hK=> ?_) ?_
 ·
  have hs1:D 2=false:=hc.1
  go_step
  refine(cl1 W' hj.1).mono ?_
  rintro e W2 ⟨x,rfl,hr,hs⟩
  refine hK.out x W2 Reg.any ⟨hj.1.trans (hs.mono hj.1.size),?_,?_,?_⟩ Reg.none_ hr.slc
  · intro _; exact hr.mono hj.1.size
  · intro h; exact(hj.2.2.1 h).steps hs
  · intro _ h; have:=(hj.2.2.1 h).lt; have:=hr.ge; exact fun e=>by have e':blkOf x=blkOf (v' 7):=e; omega
 rintro _ ⟨g2,cap2,rfl,hcap2⟩
 refine Reg.RC_at (b:=⟨#[_,_,_,_,_,_,_,_,_,_,_,_,_,_,_,_,_,_,_,_,_,_,_,_,_,_,_,_,_,_,_,_,_,_,_,_,_,_,_,_,_,_,_,_,_,_,_,_,_,_,_,_,_,_,_,_,_,_,_,_,_,_,_,_,_,_,_,_,_,_,_,_,_,_,_,_,_,_,_,_,_,_,_,_],[]⟩) rfl ?_
 repeat refine Reg.RP0 _ ?_
 refine Reg.RC_call rfl (by intro t ht; cases ht; exact Nat.le_of_ble_eq_true rfl) rfl (fun D v' W' hc hj hf K hK=> ?_) ?_
 ·
  have hs1:D 7=false:=hc.1
  go_step
  refine(cl2 W' hj.1).mono ?_
  rintro e W2 ⟨x,rfl,hr,hs⟩
  refine hK.out x W2 Reg.any ⟨hj.1.trans (hs.mono hj.1.size),?_,?_,?_⟩ Reg.none_ hr.slc
  · intro h; exact(hj.2.1 h).steps hs
  · intro _; exact hr.mono hj.1.size
  · intro h _; have:=(hj.2.1 h).lt; have:=hr.ge; exact fun e=>by have e':blkOf (v' 2)=blkOf x:=e; omega
 rintro _ ⟨g7,cap7,rfl,hcap7⟩
 refine Reg.RC_at (b:=⟨#[_,_,_,_,_,_,_,_,_,_,_,_,_,_,_,_,_,_,_,_,_,_,_,_,_,_,_,_,_,_,_,_,_,_,_,_,_,_,_,_,_,_,_,_,_,_,_,_,_,_,_,_,_,_,_,_,_,_,_,_,_,_,_,_,_,_,_,_,_,_,_,_,_,_,_,_,_,_,_,_,_,_,_,_],[]⟩) rfl ?_
 repeat refine Reg.RP0 _ ?_
 refine Reg.RC_end (fun Dn v' W' hd hj hf=> ?_)
 obtain⟨hB1,hr2,hr7,hne⟩:=hj
 replace hr2:=hr2 (hd 2 (by decide))
 replace hr7:=hr7 (hd 7 (by decide))
 replace hne:=hne (hd 2 (by decide)) (hd 7 (by decide))
 have e2:v' 2 = .slice (some ⟨g2,0,none⟩) (m+3) cap2:=(hf (2,some 43) (by show (2,some 43)∈ [(2,some 43),(7,some 48)]; simp) rfl).2.1
 have e7:v' 7 = .slice (some ⟨g7,0,none⟩) (K+(m+2)) cap7:=(hf (7,some 48) (by show (7,some 48)∈ [(2,some 43),(7,some 48)]; simp) rfl).2.1
 rw[e2]at hr2 hne
 rw[e7]at hr7 hne
 replace hne:g2≠g7:=hne
 clear hf hd e2 e7
 obtain⟨gv,capv,postv,Lv,hx,gv0,gv1,ov,lv,vv,bv⟩:=hr2
 obtain⟨rfl⟩:g2=gv∧True:=by simp only[Value.slice.injEq,Option.some.injEq,Addr.mk.injEq]at hx; exact⟨hx.1.1,trivial⟩
 clear hx
 obtain⟨gu,capu,postu,Lu,hx,gu0,gu1,ou,lu,vu,bu⟩:=hr7
 obtain⟨rfl⟩:g7=gu∧True:=by simp only[Value.slice.injEq,Option.some.injEq,Addr.mk.injEq]at hx; exact⟨hx.1.1,trivial⟩
 clear hx gv1 gu1
 refine hQ _ _ ?_
 clear hQ hops Q' ops' cl1 cl2
 have NT:=HN.out Lv ov lv vv
 obtain⟨V',hV'⟩:∃l,Lv.take (m+2)=l:=⟨_,rfl⟩
 rw[hV']at NT
 have okV:lok V':=by rw[← hV']; exact lok_take ov _
 have lV:V'.length=m+2:=by rw[← hV',List.length_take]; omega
 have cV3:Cells W' g2 0 V':=fun t ht=>by
  rw[lV]at ht
  rw[bv.cell,seg_get (j:=0) rfl (by omega),← hV']
  simp[List.getD,List.getElem?_take,ht]
 have hgv:g2<W'.heap.size:=bv.lt
 have hgu:g7<W'.heap.size:=bu.lt
 have vV:lval V'<bp (m+2):=by have:=lval_lt okV; rwa[lV]at this
 have start:lval (Lu.drop K)<lval V':=by
  refine over_start (la:=nl) (A:=A) (P:=P) ou lu hK (by rw[vu,HF.out.2.1]) ?_ A0 P0 P1 (by rw[NT.1]; exact NT.2.2)
  have:=lval_lt HF.out.2.2.2.1
  rw[HF.out.2.1,HF.out.2.2.2.2.2.1]at this
  exact this
 have hB:Below w.heap.size w W':=below_steps hs1 (Nat.le_refl _) hB1
 have HS:=Hid.mk_ (And.intro NT (And.intro vu (And.intro okV (And.intro lV vV))))
 have HS0:=Hid.mk_ lu
 have z1:=hs1.size
 clear hV' bv NT lv lu vv vu HN ov okV lV vV hB1 hs1
 go_wp2_with fail
 obtain⟨W3,hW3⟩:∃W,W'.alloc (.cells (madeCells #[.int .u32 0] K) 130)=W:=⟨_,rfl⟩
 have SW:Steps W' W3:=by rw[← hW3]; exact(Below.refl _ _).alloc (Nat.le_refl _) _
 have K0:Blk W3 W'.heap.size 130 (u32s (List.replicate K 0 ++ [])).toArray:=by
  have:=Blk.new W' 130 (madeCells #[.int .u32 0] K)
  rw[hW3,made_zeros,← List.append_nil (List.replicate K (0:Int))]at this
  exact this
 have bu3:Blk W3 g7 130 (seg [] Lu postu):=bu.steps SW
 have cV4:Cells W3 g2 0 V':=cV3.below SW hgv
 have BW:Below w.heap.size w W3:=below_steps hB (Nat.le_refl _) SW
 have gq:W'.heap.size<W3.heap.size:=K0.lt
 rw[hW3]
 have z2:=hB.size
 clear hmk bu hW3 SW cV3 hB
 go_loopw [12] (fun jv wr=>∃ (k:Nat) (Uc qs:List Int),k≤K∧jv = .int .i64 ((k:Int)-1)∧lok Uc∧Uc.length=K+(m+2)∧lok qs∧qs.length+k=K∧lval Uc+lval V'*(bp k*lval qs)=lval Al*P∧lval (Uc.drop k)<lval V'∧
   Blk wr g7 130 (seg [] Uc postu)∧Blk wr W'.heap.size 130 (u32s (List.replicate k 0++qs)).toArray∧Cells wr g2 0 V'∧Below w.heap.size w wr) (fun j _=>(intOf j+1).toNat)
 case atStart=>exact⟨K,Lu,[],Nat.le_refl _,by go_num,ou,HS0.out,lok_nil,by simp,by simp[lval]; exact HS.out.2.1,start,bu3,K0,cV4,BW⟩
 case round=>
  obtain⟨k,Uc,qs,hk,hjv,oU,lU,oq,lq,vq,dq,hbu,hbq,hcv,hnx⟩:=hrel
  clear start bu3 K0 cV4 BW
  rcases Nat.eq_zero_or_pos k with rfl | hp
  ·
   rename World=>w4
   have hjv':=hjv.trans (show Value.int .i64 (((0:Nat):Int)-1)=Value.int .i64 (-1) from rfl)
   clear hjv
   subst hjv'
   have lq0:qs.length=K:=by omega
   rw[bp_zero,Int.one_mul]at vq
   rw[List.drop_zero]at dq
   have hq0:Lim w4 (.slice (some ⟨W'.heap.size,0,none⟩) K K) qs:=by
    have:=Lim.of_blk' hbq oq
    rw[List.replicate_zero,List.nil_append,lq0]at this
    exact this
   have hu0:Lim w4 (.slice (some ⟨g7,0,none⟩) (K+(m+2)) cap7) Uc:=by
    have:=Lim.of_blk (w:=w4) (g:=g7) (cs:=u32s Uc++postu) (cap:=cap7) (o:=0) (l:=Uc) (by have h:=hbu; unfold seg at h; exact h) oU (fun t ht=>by rw[Nat.zero_add,List.getElem?_append_left (by rw[u32s_length]; exact ht)]; exact u32s_getD _ _ ht) (by omega)
    rw[lU]at this
    exact this
   have e0:=lval_nonneg oU
   have DP:lval V'=D*P:=by rw[HS.out.1.1,HF.out.1]
   have hP:=HP.out
   obtain⟨W,hW⟩:∃W,A%D=W:=⟨_,rfl⟩
   have QR:A / D=lval qs∧lval Uc=W*P:=by
    have h1:=quot_of (A:=A*P) (D:=D*P) (q:=lval qs) (r:=lval Uc) (by rw[← DP]; rw[HF.out.2.1]at vq; omega) e0 (by rw[← DP]; exact dq)
    rw[Int.mul_ediv_mul_of_pos_left _ _ (by omega)]at h1
    have h2:=Int.mul_ediv_add_emod A D
    have h3:A*P=(D*(A / D)+A%D)*P:=by rw[h2]
    rw[Int.add_mul,Int.mul_right_comm,hW,h1.1]at h3
    rw[HF.out.2.1,DP]at vq
    exact⟨h1.1,by omega⟩
   have tv:lval (ltrim Uc) / ((2^sv:Nat):Int)=W:=by
    rw[lval_ltrim,QR.2,HP.out.1,Int.mul_ediv_cancel _ (by omega)]
   have tl:(ltrim Uc).length≤few:=by have:=ltrim_le Uc; unfold few; omega
   have lq:qs.length≤few:=by unfold few; omega
   have HE:=Hid.mk_ (And.intro QR.1 (And.intro oq (And.intro tv hW)))
   have HU:=Hid.mk_ lU
   have HQ0:=Hid.mk_ lq0
   clear oU lU oq lq0 vq dq hbu hbq hcv QR DP e0 HS HS0 hP tv hW
   go_wp2_with (first
    | (go_at_call 142; refine(wtrim _ hu0 (by have:=HU.out; unfold few; omega)).mono ?_; clear hu0; rintro e w5 ⟨v5,rfl,hv5,hs5⟩; have Lq5:=hq0.steps hs5; clear hq0)
    | (go_at_call 146; refine(wright _ hv5 tl s1).mono ?_; clear hv5; rintro e w6 ⟨v6,l6,rfl,hv6,hl6,ok6,ll6,hs6⟩; rw[HE.out.2.2.1]at hl6; have Lq6:=Lq5.steps hs6; clear Lq5; have HL6:=Hid.mk_ (And.intro hl6 ok6); have HL7:Hid (l6.length≤few):=Nat.le_trans (Nat.le_of_eq ll6) tl; clear hl6 ok6 ll6)
    | (go_at_call 142; refine(wtrim _ Lq6 lq).mono ?_; clear Lq6; rintro e w7 ⟨v7,rfl,hv7,hs7⟩; have Lr7:=hv6.steps hs7; clear hv6)
    | (go_at_call 142; refine(wtrim _ Lr7 HL7.out).mono ?_; clear Lr7; rintro e w8 ⟨v8,rfl,hv8,hs8⟩))
   go_returns
   have HE':=HE.out
   refine⟨_,_,rfl,?_,?_,below_steps (below_steps (below_steps (below_steps hnx (Nat.le_refl _) hs5) (Nat.le_refl _) hs6) (Nat.le_refl _) hs7) (Nat.le_refl _) hs8⟩
   ·
    rw[HE'.1,limbs_lval HE'.2.1]
    exact hv7.steps hs8
   ·
    rw[HE'.2.2.2]
    have:=limbs_lval HL6.out.2
    rw[HL6.out.1]at this
    rw[this]
    exact hv8
  ·
   obtain⟨j,rfl⟩:∃j,k=j+1:=⟨k-1,by omega⟩
   subst hjv
   have hcj:¬cap7=j:=by omega
   have HU:=Hid.mk_ (And.intro oU (And.intro lU (And.intro oq (And.intro lq (And.intro vq dq)))))
   clear oU lU oq lq vq dq
   have dc:Calls Tryz.prog 145 #[.slice (some ⟨g7,j,none⟩) (j+(m+2)+1-j) (cap7-j),.slice (some ⟨g2,0,none⟩) (m+2) cap2] wr fun e w'=>∃ (x:Int) (Un:List Int),e = .returned (.int .u32 x)∧0≤x∧x<4294967296∧
     Hid (lok Un∧Un.length=K+(m+2)∧lval Un+lval V'*(bp j*lval (x::qs))=lval Al*P∧lval (Un.drop j)<lval V')∧
     Blk w' g7 130 (seg [] Un postu)∧wr.grownBy w' (some g7):=by
    obtain⟨o1,o2,o3,o4,o5,o6⟩:=HU.out
    have S:=over_step (m:=m) o1 (by omega) HS.out.2.2.2.2 o6
    have lT:(Uc.take j).length=j:=by rw[List.length_take]; omega
    have top:=HS.out.1.2.1
    have C:=wstep (m:=m) (pre:=u32s (Uc.take j)) (post:=u32s (Uc.drop (j+(m+3)))++postu) (U:=(Uc.drop j).take (m+3)) (V:=V') (g:=g7) (j:=j) (b:=g2) (o:=0) (capu:=cap7-j) (capv:=cap2) wr
     (by rw[← seg_split]; exact hbu) (by rw[u32s_length]; exact lT) (by rw[List.length_take,List.length_drop]; omega) (lok_take (lok_drop o1 _) _) (by omega) hcv HS.out.2.2.2.1 HS.out.2.2.1 (Nat.lt_trans (by omega) hbq.lt) (by omega) (by unfold few; omega) top S.1
    rw[show j+(m+2)+1-j=m+3 by omega]
    refine C.mono ?_
    rintro e w' ⟨U',rfl,k1,k2,k3,k4,k5⟩
    rw[S.2.1]at k3⊢
    have p1:=bp_pos (m+1)
    have hVp:0<lval V':=by rw[HS.out.1.1]; have:=HS.out.1.2.2; omega
    have e0:=Int.mul_ediv_add_emod (lval (Uc.drop j)) (lval V')
    have n0:=lval_nonneg (lok_drop o1 j)
    have q0:0≤lval (Uc.drop j) / lval V':=Int.ediv_nonneg n0 (by omega)
    have q1:lval (Uc.drop j) / lval V'<4294967296:=Int.ediv_lt_of_lt_mul hVp (by have:=S.1; rw[S.2.1,Int.mul_comm]at this; exact this)
    have m1:=Int.emod_lt_of_pos (lval (Uc.drop j)) hVp
    have N:=over_next (m:=m) (j:=j) (U:=Uc) (S:=U') (qs:=qs) (q:=lval (Uc.drop j) / lval V') (V:=lval V') k1 (by omega) S.2.2 o5 (by rw[k3,Int.mul_comm (lval (Uc.drop j) / lval V')]; omega) (by rw[k3]; exact m1)
    refine⟨_,Uc.take j++(U'++Uc.drop (j+(m+3))),rfl,q0,q1,⟨?_,?_,N.1,N.2⟩,?_,k5⟩
    · exact lok_append.2 ⟨lok_take o1 _,lok_append.2 ⟨k2,lok_drop o1 _⟩⟩
    · rw[List.length_append,List.length_append,lT,k1,List.length_drop]; omega
    · rw[← seg_join]; exact k4
   go_wp2_with (go_at_call 145; refine dc.mono ?_; clear dc; rintro e wd ⟨x,Un,rfl,x0,x1,HN,hbu',hgr⟩; have hbq':Blk wd W'.heap.size 130 (u32s (List.replicate (j+1) 0++qs)).toArray:=(hgr.block _ hbq.lt (fun e=>by have:=Option.some.inj e; omega)).trans hbq; have g2:wd.cell? ⟨W'.heap.size,j,none⟩=some (.int .u32 0):=hbq'.c _ (by simp[u32s,List.getElem?_append,List.getElem?_replicate]); have g3:wd.frozen? ⟨W'.heap.size,j,none⟩=false:=hbq'.fr _)
   go_roundw
   case rel=>
    obtain⟨o1,o2,o3,o4,o5,o6⟩:=HU.out
    refine⟨j,Un,x::qs,by omega,rfl,HN.out.1,HN.out.2.1,lok_cons.2 ⟨⟨x0,x1⟩,o3⟩,by rw[List.length_cons]; omega,HN.out.2.2.1,HN.out.2.2.2,hbu'.far' (by omega),hbq'.set2 (set_down j _ qs),(hcv.grown hgr (Nat.lt_trans (by omega) hbq.lt) (by omega)).set (by omega),?_⟩
    exact(hnx.grown hgr hnx.size (fun k hk=>by have:=Option.some.inj hk; omega)).setCell (p:=⟨W'.heap.size,j,none⟩) (show w.heap.size≤W'.heap.size by omega) _
   case measure=>simp[intOf]
end Go.Proofs.YtdkcffnmlllamaaGreat
