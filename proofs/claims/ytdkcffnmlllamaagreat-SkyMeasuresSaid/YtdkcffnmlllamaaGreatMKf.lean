import Derived.RangeFuncNested
import Derived.RangeFuncBox
import Derived.RangeFuncLeaves
import Derived.Shelf.Abstract
import Derived.WalkKit
import Derived.OwnWalkIn
import Derived.TacticsInMore
import Derived.LoopNIn
import Derived.LoopIn
import Derived.Test.YtdkcffnmlllamaaGreatMKe
set_option linter.unusedVariables false
set_option linter.unusedSimpArgs false
set_option maxHeartbeats 6400000
set_option maxRecDepth 1000000
namespace Go.Proofs.YtdkcffnmlllamaaGreat
open Go.RowKit Go.Shelf
attribute [local go_sem] Oper.semAt_some
def KT (n₀:Nat) (W W':World):Prop:=Below n₀ W W'∧∀g t cs,Blk W g t cs→t≠2→t≠22→Blk W' g t cs
theorem KT.refl (n₀:Nat) (W:World):KT n₀ W W:=⟨Below.refl _ _,fun _ _ _ h _ _=>h⟩
theorem KT.trans {n₀:Nat} {A B C:World} (h:KT n₀ A B) (k:KT n₀ B C):KT n₀ A C:=⟨h.1.trans k.1,fun g t cs b h1 h2=>k.2 g t cs (h.2 g t cs b h1 h2) h1 h2⟩
theorem KT_b {n₀:Nat} {w:World} (hn:n₀≤w.heap.size) (W:World) (l:Nat) (o o':Obj) (hl:w.heap.size≤l) (h:W.heap[l]? = some o) (h1:o.isCells=false) (h2:o.isWalk=false):KT n₀ W (W.putObj l o'):=
 ⟨belowK_b hn W l o o' hl h h1 h2,fun g t cs b _ _=>blk_kept b (grownBy_putObj' W l o') (fun r e=>by cases e; exact⟨o,h,h1⟩)⟩
theorem KT.steps {n₀:Nat} {W W':World} (h:Steps W W') (hn:n₀≤W.heap.size):KT n₀ W W':=⟨h.mono hn,fun _ _ _ b _ _=>b.steps h⟩
theorem steps_grown {W W':World} (h:Steps W W'):W.grownBy W' none:=⟨h.os,h.tape,h.output,h.size,fun k hk _=>h.block k hk⟩
theorem BoolsR.below {n:Nat} {w w':World} {v:Value} {l:List Bool} (h:BoolsR w v l) (s:Below w.heap.size w w'):BoolsR w' v l:=h.steps s
theorem send {n s i xe:Nat} (w:World) (n1:n≤100) (s1:s≤30) (i1:i≤100) (hx:(i+1)*s=xe) :
  Calls Tryz.prog 48 #[.agg #[.int .i64 (n:Int),.int .i64 (s:Int)],.int .i64 (i:Int)] w fun e w'=>e = .returned (.int .i64 ((min n xe:Nat):Int))∧Steps w w':=by
 have xm:xe≤4000:=by rw[← hx]; exact Nat.le_trans (Nat.mul_le_mul (show i+1≤101 by omega) s1) (by omega)
 have w1:IntKind.i64.wrap (((i:Int)+1)*(s:Int))=(xe:Int):=by
  rw[show ((i:Int)+1)*(s:Int)=(((i+1)*s:Nat):Int) by rw[Int.natCast_mul]; rfl,hx,IntKind.wrap_i64]; omega
 have mn:=fun ts ty W=>run_min2B (P:=Tryz.prog) ts ty (n:Int) (xe:Int) W
 have em:min (n:Int) (xe:Int)=((min n xe:Nat):Int):=by omega
 rw[em]at mn
 generalize min n xe=m at *
 clear hx em
 go_enter Tryz.func48,Tryz.ntmps48
 go_wp2_with fail
 go_returns
 exact⟨rfl,belowB⟩
theorem scell_in (F:Fence) (n:Nat) (h5:F.fn 33) (hro:F.round=none) (X Y S i j:Int) (ao bo:Option Addr) (m c m' c':Nat) (w:World) :
  CallsIn F n Tryz.prog 33 #[.agg #[.int .i64 X,.int .i64 Y,.slice ao m c],.slice bo m' c',.int .i64 S,.int .i64 i,.int .i64 j] w fun e w'=>e = .returned (.func (.func 47) #[] #[.pointer (some ⟨w.heap.size,0,none⟩),.pointer (some ⟨w.heap.size+1+1,0,none⟩),.pointer (some ⟨w.heap.size+1+1+1+1,0,none⟩),.pointer (some ⟨w.heap.size+1+1+1,0,none⟩),.pointer (some ⟨w.heap.size+1,0,none⟩)])∧
   w'=((((w.alloc (.cells #[.int .i64 X,.int .i64 Y,.slice ao m c] 26)).alloc (.cells #[.slice bo m' c'] 27)).alloc (.cells #[.int .i64 S] 3)).alloc (.cells #[.int .i64 i] 3)).alloc (.cells #[.int .i64 j] 3):=by
 refine callsIn_of_wp Tryz.func33 rfl h5 ?_ hro
 simp only[Tryz.ntmps33,List.size_toArray,List.length_cons,List.length_nil,Nat.reduceAdd,Nat.reduceSub,Array.replicate_succ,Array.replicate_zero,List.push_toArray,List.append_toArray,List.nil_append,List.cons_append]
 gi_wp2
 go_ret
 exact⟨rfl,rfl⟩
def pixE1 (x:Int):Array Value:=#[.int .i64 x]
theorem scell1_in (n l bf bs bj bi bb:Nat) {ao bo:Option Addr} {N cap bcap X Y S i j:Nat} {ps:List Int} {bl:List Bool} (w0:World) (hP:IntsR w0 (.slice ao N cap) ps) (hB:BoolsR w0 (.slice bo N bcap) bl) (hl:ps.length=N) (hbl:bl.length=N) (hn:X*Y=N)
  (x1:1≤X) (x2:X≤100) (y1:1≤Y) (y2:Y≤100) (s1:1≤S) (s2:S≤30) (hi:i*S<X) (hj:j*S<Y) (J Jx:List Int→World→Prop) (B0:Nat) (hJ:AbidesFrom B0 J)
  (hY:∀pre (x:Int) w,J pre w→pre.length<20000→YieldAt Fence.wide (n-1) Tryz.prog l (pixE1 x) w fun e W'=>
   (e = .returned (.bool true)∧J (pre ++ [x]) W'∧KT w0.heap.size w W')∨(e = .returned (.bool false)∧Jx (pre ++ [x]) W'))
  (w:World) (hW:Below w0.heap.size w0 w) (of:Blk w bf 26 #[.int .i64 (X:Int),.int .i64 (Y:Int),.slice ao N cap]) (os:Blk w bs 3 #[.int .i64 (S:Int)]) (oj:Blk w bj 3 #[.int .i64 (j:Int)]) (oi:Blk w bi 3 #[.int .i64 (i:Int)]) (ob:Blk w bb 27 #[.slice bo N bcap]) (h0:J [] w) :
  CallsIn Fence.wide n Tryz.prog 47 #[.func (.yield l) #[] #[],.pointer (some ⟨bf,0,none⟩),.pointer (some ⟨bs,0,none⟩),.pointer (some ⟨bj,0,none⟩),.pointer (some ⟨bi,0,none⟩),.pointer (some ⟨bb,0,none⟩)] w fun e W'=>(∃v,e = .returned v)∧
   ((∃ys,ys=cellC (fun t=>bl.getD t false) (fun t=>ps.getD t 0) X Y S i j∧J ys W')∨(∃pre:List Int,True∧Jx pre W')):=by
 have hro:Fence.wide.round=none:=rfl
 have HP:=Hid.mk_ hP
 have HB:=Hid.mk_ hB
 have i9:i≤100:=by have:=Nat.le_mul_of_pos_right i s1; omega
 have j9:j≤100:=by have:=Nat.le_mul_of_pos_right j s1; omega
 obtain⟨n1,n2⟩:=cell_ends s1 hi
 obtain⟨m1,m2⟩:=cell_ends s1 hj
 have SX:=Hid.mk_ (fun w'=>send (n:=X) (s:=S) (i:=i) (xe:=(i+1)*S) w' x2 s2 i9 rfl)
 have SY:=Hid.mk_ (fun w'=>send (n:=Y) (s:=S) (i:=j) (xe:=(j+1)*S) w' y2 s2 j9 rfl)
 have wx0:IntKind.i64.wrap ((i:Int)*(S:Int))=((i*S:Nat):Int):=by rw[← Int.natCast_mul,IntKind.wrap_i64]; omega
 have wy0:IntKind.i64.wrap ((j:Int)*(S:Int))=((j*S:Nat):Int):=by rw[← Int.natCast_mul,IntKind.wrap_i64]; omega
 unfold cellC
 obtain⟨gg,hgg⟩:∃g:Nat→Bool,∀t,bl.getD t false=g t:=⟨_,fun _=>rfl⟩
 obtain⟨ff,hff⟩:∃f:Nat→Int,∀t,ps.getD t 0=f t:=⟨_,fun _=>rfl⟩
 simp only[hgg,hff]
 have Hg:=Hid.mk_ hgg
 have Hf:=Hid.mk_ hff
 generalize hna:min X ((i+1)*S)-i*S=na at *
 generalize hnb:min Y ((j+1)*S)-j*S=nb at *
 have nX:min X ((i+1)*S)≤X:=Nat.min_le_left _ _
 have nY:min Y ((j+1)*S)≤Y:=Nat.min_le_left _ _
 generalize min X ((i+1)*S)=ex at *
 generalize min Y ((j+1)*S)=ey at *
 generalize i*S=x0 at *
 generalize j*S=y0 at *
 have HL:=Hid.mk_ (And.intro hl hbl)
 have HN:=Hid.mk_ hn
 have nb1:N≤10000:=by rw[← hn]; exact Nat.mul_le_mul x2 y2
 have R0:=Hid.mk_ (show rowsC gg ff X x0 na y0 0 = [] from rfl)
 have RS:=Hid.mk_ (show ∀k,rowsC gg ff X x0 na y0 (k+1)=rowsC gg ff X x0 na y0 k++rowC gg ff ((y0+k)*X+x0) na from fun k=>rfl)
 have RL:=Hid.mk_ (fun k=>rowsC_len (g:=gg) (f:=ff) (W:=X) (x0:=x0) (na:=na) (y0:=y0) k)
 generalize rowsC gg ff X x0 na y0=RR at *
 have HJ:=Hid.mk_ hJ
 have HY:=Hid.mk_ hY
 have H0:=Hid.mk_ h0
 have HO:=Hid.mk_ (And.intro of (And.intro os (And.intro oj (And.intro oi ob))))
 have HW:=Hid.mk_ hW
 obtain⟨cf0,cf1⟩:=of.r1
 have cs0:=os.q0
 have cj0:=oj.q0
 have lf:=of.lt
 have ls:=os.lt
 have lj:=oj.lt
 have li:=oi.lt
 have lb:=ob.lt
 clear hP hB hl hbl hn hgg hff hna hnb hJ hY h0 of os oj oi ob hW
 refine callsIn_of_wp Tryz.func47 rfl trivial ?_ hro
 simp only[Tryz.ntmps47,List.size_toArray,List.length_cons,List.length_nil,Nat.reduceAdd,Nat.reduceSub,Array.replicate_succ,Array.replicate_zero,List.push_toArray,List.append_toArray,List.nil_append,List.cons_append]
 gi_wp2_with fail
 refine wpIn_wide.2 ?_
 go_upto_region 0 with fail
 refine Reg.chn (fun N0 D v W=>Below w.heap.size w W∧Keeps w W∧N0≤W.heap.size∧(D 8=true→∃g:Nat,v 8 = .pointer (some ⟨g,0,none⟩)∧N0≤g∧g<W.heap.size∧(D 10=false→Blk W g 65 #[.int .i64 0,.int .i64 0])∧(D 10=true→Blk W g 65 #[.int .i64 (X:Int),.int .i64 (S:Int)]))∧(D 9=true→∃g:Nat,v 9 = .pointer (some ⟨g,0,none⟩)∧N0≤g∧g<W.heap.size∧(D 11=false→Blk W g 65 #[.int .i64 0,.int .i64 0])∧(D 11=true→Blk W g 65 #[.int .i64 (Y:Int),.int .i64 (S:Int)]))∧(D 8=true→D 9=true→v 8≠v 9)) [8,9,10,11] [(8,IsPtr),(9,IsPtr)] [] [(10,[(8,some 7)]),(11,[(9,some 8)]),(12,[(8,some 7),(9,some 8)])] [(8,[10]),(9,[11])] (fun N0 hN0=>⟨fun v=> ?_,fun D v v' W hv hj=> ?_,fun ops' Q' hops hQ=> ?_⟩)
 · exact⟨belowB,keepsB,leD hN0,(fun h=>Bool.noConfusion h),(fun h=>Bool.noConfusion h),(fun h=>Bool.noConfusion h)⟩
 ·
  obtain⟨j0,jk,jn,a_8,a_9,q_8_9⟩:=hj
  exact⟨j0,jk,jn,fun h=>by obtain⟨g,e1,e2,e3,e4,e5⟩:=a_8 h; exact⟨g,(hv 8 h)▸e1,e2,e3,e4,e5⟩,fun h=>by obtain⟨g,e1,e2,e3,e4,e5⟩:=a_9 h; exact⟨g,(hv 9 h)▸e1,e2,e3,e4,e5⟩,fun h h'=>(hv 8 h)▸(hv 9 h')▸q_8_9 h h'⟩
 have eN:=hN0.out
 try simp only[World.size_alloc,World.size_setCell,World.size_drew,World.heap_drewN]at eN
 have iw:w.heap.size≤N0:=by first | omega | (have h:=B.size; omega)
 clear hN0 eN
 refine Reg.RP0 12 ?_
 apply Reg.RP rfl rfl rfl 13 rfl rfl
 ·
  intro D v' W' hc hj hf K hK
  obtain⟨j0,jk,jn,a_8,a_9,q_8_9⟩:=hj
  have x0_:W'.cell? ⟨bf,0,none⟩=some (.int .i64 (X:Int)):=(j0.cell (p:=⟨bf,0,none⟩) lf).trans cf0
  have x1_:W'.cell? ⟨bf,1,none⟩=some (.int .i64 (Y:Int)):=(j0.cell (p:=⟨bf,1,none⟩) lf).trans cf1
  have x2_:W'.cell? ⟨bs,0,none⟩=some (.int .i64 (S:Int)):=(j0.cell (p:=⟨bs,0,none⟩) ls).trans cs0
  go_step
  exact hK.out
 · rfl
 apply Reg.RP rfl rfl rfl 14 rfl rfl
 ·
  intro D v' W' hc hj hf K hK
  obtain⟨j0,jk,jn,a_8,a_9,q_8_9⟩:=hj
  have x0_:W'.cell? ⟨bf,0,none⟩=some (.int .i64 (X:Int)):=(j0.cell (p:=⟨bf,0,none⟩) lf).trans cf0
  have x1_:W'.cell? ⟨bf,1,none⟩=some (.int .i64 (Y:Int)):=(j0.cell (p:=⟨bf,1,none⟩) lf).trans cf1
  have x2_:W'.cell? ⟨bs,0,none⟩=some (.int .i64 (S:Int)):=(j0.cell (p:=⟨bs,0,none⟩) ls).trans cs0
  go_step
  exact hK.out
 · rfl
 repeat refine Reg.RP0 _ ?_
 apply Reg.RP rfl rfl rfl 17 rfl rfl
 ·
  intro D v' W' hc hj hf K hK
  obtain⟨j0,jk,jn,a_8,a_9,q_8_9⟩:=hj
  have x0_:W'.cell? ⟨bf,0,none⟩=some (.int .i64 (X:Int)):=(j0.cell (p:=⟨bf,0,none⟩) lf).trans cf0
  have x1_:W'.cell? ⟨bf,1,none⟩=some (.int .i64 (Y:Int)):=(j0.cell (p:=⟨bf,1,none⟩) lf).trans cf1
  have x2_:W'.cell? ⟨bs,0,none⟩=some (.int .i64 (S:Int)):=(j0.cell (p:=⟨bs,0,none⟩) ls).trans cs0
  go_step
  exact hK.out
 · rfl
 apply Reg.RP rfl rfl rfl 18 rfl rfl
 ·
  intro D v' W' hc hj hf K hK
  obtain⟨j0,jk,jn,a_8,a_9,q_8_9⟩:=hj
  have x0_:W'.cell? ⟨bf,0,none⟩=some (.int .i64 (X:Int)):=(j0.cell (p:=⟨bf,0,none⟩) lf).trans cf0
  have x1_:W'.cell? ⟨bf,1,none⟩=some (.int .i64 (Y:Int)):=(j0.cell (p:=⟨bf,1,none⟩) lf).trans cf1
  have x2_:W'.cell? ⟨bs,0,none⟩=some (.int .i64 (S:Int)):=(j0.cell (p:=⟨bs,0,none⟩) ls).trans cs0
  go_step
  exact hK.out
 · rfl
 refine Reg.RP0 19 ?_
 refine Reg.RC_call rfl (tlt rfl) rfl (fun D v' W' hc hj hf K hK=> ?_) ?_
 ·
  obtain⟨j0,jk,jn,a_8,a_9,q_8_9⟩:=hj
  go_step
  have hs:∀o:Obj,Steps W' (W'.alloc o):=fun o=>(Below.refl _ _).alloc (Nat.le_refl _) o
  exact hK.out _ _ (Keeps.steps (hs _)) ⟨jst j0 (hs _),jk.then_ (hs _),jsz jn (hs _),fun _=>⟨W'.heap.size,rfl,jn,by rw[World.size_alloc]; omega,fun _=>Blk.new _ _ _,fun h=>Bool.noConfusion ((hc.2 10 (by decide)).symm.trans h)⟩,fun h=>by obtain⟨g,e1,e2,e3,e4,e5⟩:=a_9 h; exact⟨g,e1,e2,Nat.lt_of_lt_of_le e3 ((hs _)).size,fun h=>(e4 h).steps (hs _),fun h=>(e5 h).steps (hs _)⟩,fun _ h'=>by obtain⟨g,e1,e2,e3,e4,e5⟩:=a_9 h'; exact fun e=>Reg.ptr_ne e3 (e.trans e1)⟩ trivial ⟨_,rfl⟩
 rintro _ ⟨p7,rfl⟩
 refine Reg.RC_at (b:=⟨#[_,_,_,_,_,_,_,_,_,_,_,_,_,_,_,_,_,_,_,_,_,_,_,_,_,_,_,_,_,_,_,_,_,_,_,_,_,_,_,_,_,_,_,_,_,_,_,_,_,_,_,_,_,_,_,_,_,_,_,_,_],_⟩) rfl ?_
 refine Reg.RC_call rfl (tlt rfl) rfl (fun D v' W' hc hj hf K hK=> ?_) ?_
 ·
  obtain⟨j0,jk,jn,a_8,a_9,q_8_9⟩:=hj
  go_step
  have hs:∀o:Obj,Steps W' (W'.alloc o):=fun o=>(Below.refl _ _).alloc (Nat.le_refl _) o
  exact hK.out _ _ (Keeps.steps (hs _)) ⟨jst j0 (hs _),jk.then_ (hs _),jsz jn (hs _),fun h=>by obtain⟨g,e1,e2,e3,e4,e5⟩:=a_8 h; exact⟨g,e1,e2,Nat.lt_of_lt_of_le e3 ((hs _)).size,fun h=>(e4 h).steps (hs _),fun h=>(e5 h).steps (hs _)⟩,fun _=>⟨W'.heap.size,rfl,jn,by rw[World.size_alloc]; omega,fun _=>Blk.new _ _ _,fun h=>Bool.noConfusion ((hc.2 11 (by decide)).symm.trans h)⟩,fun h _=>by obtain⟨g,e1,e2,e3,e4,e5⟩:=a_8 h; exact fun e=>Reg.ptr_ne e3 (e.symm.trans e1)⟩ trivial ⟨_,rfl⟩
 rintro _ ⟨p8,rfl⟩
 refine Reg.RC_at (b:=⟨#[_,_,_,_,_,_,_,_,_,_,_,_,_,_,_,_,_,_,_,_,_,_,_,_,_,_,_,_,_,_,_,_,_,_,_,_,_,_,_,_,_,_,_,_,_,_,_,_,_,_,_,_,_,_,_,_,_,_,_,_,_],_⟩) rfl ?_
 refine Reg.RCs (fun D v' W' hc hj hf K hK=> ?_) (fun _ _=>Reg.RC_at (b:=⟨_,_⟩) rfl ?_)
 ·
  obtain⟨j0,jk,jn,a_8,a_9,q_8_9⟩:=hj
  have f:=hf (8,some 7) (.head _) rfl
  have e6:v' 8 = .pointer (some ⟨p7,0,none⟩):=f.2.1
  obtain⟨g,e1,e2,e3,e4,e5⟩:=a_8 f.1
  obtain rfl:p7=g:=Reg.ptr_eq (e6.symm.trans e1)
  have hb:=e4 hc.1
  clear e4 e5
  have ff:=hb.fr
  obtain⟨cc0,cc1⟩:=hb.r1
  go_step
  exact hK.out undef _ (wr2.k hb) ⟨(wr2.b j0),jk.trans (wr2.k hb),wr2.n jn,fun _=>⟨p7,e1,e2,by simpa using e3,fun h=>Bool.noConfusion h,fun _=>(Blk.st (i:=1) (Blk.st (i:=0) hb))⟩,fun h=>by obtain⟨g,k1,k2,k3,k4,k5⟩:=a_9 h; have hne:g≠p7:=fun e=>(q_8_9 f.1 h) (by rw[e6,k1,e]); exact⟨g,k1,k2,by simpa using k3,fun h=>((k4 h).far' hne).far' hne,fun h=>((k5 h).far' hne).far' hne⟩,q_8_9⟩ trivial trivial
 refine Reg.RCs (fun D v' W' hc hj hf K hK=> ?_) (fun _ _=>Reg.RC_at (b:=⟨_,_⟩) rfl ?_)
 ·
  obtain⟨j0,jk,jn,a_8,a_9,q_8_9⟩:=hj
  have f:=hf (9,some 8) (.head _) rfl
  have e6:v' 9 = .pointer (some ⟨p8,0,none⟩):=f.2.1
  obtain⟨g,e1,e2,e3,e4,e5⟩:=a_9 f.1
  obtain rfl:p8=g:=Reg.ptr_eq (e6.symm.trans e1)
  have hb:=e4 hc.1
  clear e4 e5
  have ff:=hb.fr
  obtain⟨cc0,cc1⟩:=hb.r1
  go_step
  exact hK.out undef _ (wr2.k hb) ⟨(wr2.b j0),jk.trans (wr2.k hb),wr2.n jn,fun h=>by obtain⟨g,k1,k2,k3,k4,k5⟩:=a_8 h; have hne:g≠p8:=fun e=>(q_8_9 h f.1) (by rw[e6,k1,e]); exact⟨g,k1,k2,by simpa using k3,fun h=>((k4 h).far' hne).far' hne,fun h=>((k5 h).far' hne).far' hne⟩,fun _=>⟨p8,e1,e2,by simpa using e3,fun h=>Bool.noConfusion h,fun _=>(Blk.st (i:=1) (Blk.st (i:=0) hb))⟩,q_8_9⟩ trivial trivial
 refine Reg.RC_end (fun Dn v' w1 hd hj hf=> ?_)
 obtain⟨B,jk,jn,a_8,a_9,q_8_9⟩:=hj
 have f:=hf (8,some 7) (.head _) rfl
 have e6_:v' 8 = .pointer (some ⟨p7,0,none⟩):=f.2.1
 obtain⟨g,e1_,za,-,-,e5_⟩:=a_8 f.1
 obtain rfl:p7=g:=Reg.ptr_eq (e6_.symm.trans e1_)
 have oa:Blk w1 p7 65 #[.int .i64 (X:Int),.int .i64 (S:Int)]:=e5_ (hd 10 (Nat.le_of_ble_eq_true rfl))
 clear f e5_ e1_ e6_
 have f:=hf (9,some 8) (.tail _ (.head _)) rfl
 have e6_:v' 9 = .pointer (some ⟨p8,0,none⟩):=f.2.1
 obtain⟨g,e1_,zc,-,-,e5_⟩:=a_9 f.1
 obtain rfl:p8=g:=Reg.ptr_eq (e6_.symm.trans e1_)
 have oc:Blk w1 p8 65 #[.int .i64 (Y:Int),.int .i64 (S:Int)]:=e5_ (hd 11 (Nat.le_of_ble_eq_true rfl))
 clear f e5_ e1_ e6_
 have y_8_9:p7≠p8:=fun e=>q_8_9 (hf (8,some 7) (.head _) rfl).1 (hf (9,some 8) (.tail _ (.head _)) rfl).1 (by have h1:=(hf (8,some 7) (.head _) rfl).2.1; have h2:=(hf (9,some 8) (.tail _ (.head _)) rfl).2.1; rw[h1,h2]; show Value.pointer _ = .pointer _; rw[e])
 clear hd hf jk q_8_9
 refine hQ _ _ ?_
 clear hQ hops Q' ops'
 have st:=B
 have hb1:Below w0.heap.size w0 w1:=below_steps HW.out (Nat.le_refl _) st
 have hsz:w0.heap.size≤w1.heap.size:=hb1.size
 have J0:=Hid.mk_ (HJ.out _ _ _ none H0.out (steps_grown st) (fun r e=>by cases e))
 have HO1:=Hid.mk_ (And.intro (HO.out.1.steps st) (And.intro (HO.out.2.1.steps st) (And.intro (HO.out.2.2.1.steps st) (And.intro (HO.out.2.2.2.1.steps st) (And.intro (HO.out.2.2.2.2.steps st) (And.intro oa oc))))))
 have Hw1:=Hid.mk_ hb1
 have HO2:Hid (∀W',KT w0.heap.size w1 W'→Blk W' bf 26 #[.int .i64 (X:Int),.int .i64 (Y:Int),.slice ao N cap]∧Blk W' bs 3 #[.int .i64 (S:Int)]∧Blk W' bj 3 #[.int .i64 (j:Int)]∧Blk W' bi 3 #[.int .i64 (i:Int)]∧Blk W' bb 27 #[.slice bo N bcap]∧Blk W' p7 65 #[.int .i64 (X:Int),.int .i64 (S:Int)]∧Blk W' p8 65 #[.int .i64 (Y:Int),.int .i64 (S:Int)]):=
  Hid.mk_ (fun W' k=>⟨k.2 _ _ _ HO1.out.1 (by decide) (by decide),k.2 _ _ _ HO1.out.2.1 (by decide) (by decide),k.2 _ _ _ HO1.out.2.2.1 (by decide) (by decide),k.2 _ _ _ HO1.out.2.2.2.1 (by decide) (by decide),k.2 _ _ _ HO1.out.2.2.2.2.1 (by decide) (by decide),k.2 _ _ _ HO1.out.2.2.2.2.2.1 (by decide) (by decide),k.2 _ _ _ HO1.out.2.2.2.2.2.2 (by decide) (by decide)⟩)
 clear cf0 cf1 cs0 cj0 st oa oc hb1 H0 HO HW
 obtain⟨of,os,oj,oi,ob,oa,oc⟩:=HO2.out w1 (KT.refl _ _)
 have cs0:=os.q0
 have cj0:=oj.q0
 clear of os oj oi ob oa oc HO1
 gi_wp2_with fail
 clear cs0 cj0
 gi_loopw [9] (fun ky wr=>∃ (t y:Nat),y=y0+t∧t≤nb∧ky = .int .i64 (y:Int)∧J (RR t) wr∧KT w0.heap.size w1 wr) (fun ky _=>4000-(intOf ky).toNat)
 case atStart=>exact⟨0,y0,rfl,Nat.zero_le _,rfl,by rw[R0.out]; exact J0.out,KT.refl _ _⟩
 case round=>
  rename World=>wo
  obtain⟨t,y,hy,ht,rfl,hj0,hk⟩:=hrel
  have HJ0:=Hid.mk_ (And.intro hj0 hk)
  have Hy:=Hid.mk_ hy
  obtain⟨of,os,oj,oi,ob,oa,oc⟩:=HO2.out wo hk
  obtain⟨co0,co1⟩:=oc.r1
  have cj0:=oj.q0
  have zo:=hk.1.size
  clear of os oj oi ob oa oc hj0 hk
  gi_wp2_with fail
  refine⟨trivial,fun h=>(by cases h),?_⟩
  refine(callsIn_wide.2 (SY.out wo)).mono ?_
  rintro e w3 ⟨rfl,st1⟩
  have hk1:KT w0.heap.size w1 w3:=HJ0.out.2.trans (KT.steps st1 (by omega))
  have hj1:J (RR t) w3:=HJ.out _ _ _ none HJ0.out.1 (steps_grown st1) (fun r e=>by cases e)
  have HJ1:=Hid.mk_ (And.intro hj1 hk1)
  obtain⟨of,os,oj,oi,ob,oa,oc⟩:=HO2.out w3 hk1
  have cs1:=os.q0
  have ci1:=oi.q0
  clear of os oj oi ob oa oc hj1 hk1 co0 co1 cj0 st1 HJ0 zo
  dsimp only
  rcases Nat.lt_or_ge t nb with tn | tn
  ·
   have dy1:decide ((y:Int)<(ey:Int))=true:=decide_eq_true (by omega)
   have dy1N:decide (y<ey)=true:=decide_eq_true (by omega)
   have yY:y<Y:=by omega
   have yX:=idx_lt (W:=X) (H:=Y) (y:=y) (x:=0) yY (by omega)
   rw[HN.out]at yX
   have HQ:∀x,x<X→y*X+x<N:=fun x hx=>by rw[← HN.out]; exact idx_lt yY hx
   obtain⟨q,hq⟩:∃q,y*X=q:=⟨_,rfl⟩
   rw[hq]at yX HQ
   have Hq:=Hid.mk_ hq
   have wq:IntKind.i64.wrap ((y:Int)*(X:Int))=(q:Int):=by rw[← Int.natCast_mul,hq,IntKind.wrap_i64]; omega
   have C0:=Hid.mk_ (show rowC gg ff (q+x0) 0 = [] from rfl)
   have CS:=Hid.mk_ (show ∀k,rowC gg ff (q+x0) (k+1)=rowC gg ff (q+x0) k++(if gg (q+x0+k)then []else [ff (q+x0+k)]) from fun k=>rfl)
   have CL:=Hid.mk_ (fun k=>rowC_len (g:=gg) (f:=ff) (p:=q+x0) k)
   have CE:=Hid.mk_ (show RR (t+1)=RR t++rowC gg ff (q+x0) na by rw[RS.out t,← hy,hq])
   have LB:(RR t).length≤10000:=Nat.le_trans (RL.out t) (Nat.le_trans (Nat.mul_le_mul (show t≤100 by omega) (show na≤100 by omega)) (by omega))
   generalize rowC gg ff (q+x0)=CC at *
   clear hy hq
   gi_wp2_with fail
   clear cs1 ci1
   gi_loopw [10] (fun kx wr=>∃ (s x:Nat),x=x0+s∧s≤na∧kx = .int .i64 (x:Int)∧J (RR t++CC s) wr∧KT w0.heap.size w1 wr) (fun kx _=>4000-(intOf kx).toNat)
   case atStart=>exact⟨0,x0,rfl,Nat.zero_le _,rfl,by rw[C0.out,List.append_nil]; exact HJ1.out.1,HJ1.out.2⟩
   case round=>
    rename World=>wi
    clear HJ1
    obtain⟨s,x,hx,hs,rfl,hj0,hk⟩:=hrel
    have HJ0:=Hid.mk_ (And.intro hj0 hk)
    have Hx:=Hid.mk_ hx
    obtain⟨of,os,oj,oi,ob,oa,oc⟩:=HO2.out wi hk
    obtain⟨ca0,ca1⟩:=oa.r1
    have ci0:=oi.q0
    have zo:=hk.1.size
    clear of os oj oi ob oa oc hj0 hk
    gi_wp2_with fail
    refine⟨trivial,fun h=>(by cases h),?_⟩
    refine(callsIn_wide.2 (SX.out wi)).mono ?_
    rintro e w2 ⟨rfl,st2⟩
    have hk2:KT w0.heap.size w1 w2:=HJ0.out.2.trans (KT.steps st2 (by omega))
    have hj2:J (RR t++CC s) w2:=HJ.out _ _ _ none HJ0.out.1 (steps_grown st2) (fun r e=>by cases e)
    have hb2:Below w0.heap.size w0 w2:=Hw1.out.trans hk2.1
    have HJ2:=Hid.mk_ (And.intro hj2 hk2)
    obtain⟨of,os,oj,oi,ob,oa,oc⟩:=HO2.out w2 hk2
    have cf2:=of.q0
    have cf3:=of.q2
    have cb2:=ob.q0
    clear of os oj oi ob oa oc hj2 hk2 ca0 ca1 ci0 st2 HJ0 zo
    dsimp only
    rcases Nat.lt_or_ge s na with sn | sn
    ·
     have dx1:decide ((x:Int)<(ex:Int))=true:=decide_eq_true (by omega)
     have dx1N:decide (x<ex)=true:=decide_eq_true (by omega)
     have xX:x<X:=by omega
     have zN:=HQ x xX
     obtain⟨z,hz⟩:∃z,q+x=z:=⟨_,rfl⟩
     rw[hz]at zN
     have HZ:=Hid.mk_ (show q+x0+s=z by omega)
     have ez:(q:Int)+(x:Int)=(z:Int):=by omega
     obtain⟨b2,bof,rfl,hbb,hb0⟩:=HB.out.at' (t:=z) (by have:=HL.out.2; omega)
     rw[Hg.out]at hb0
     obtain⟨pb,pof,rfl,hpb,hp0⟩:=HP.out.at' (t:=z) (by have:=HL.out.1; omega)
     rw[Hf.out]at hp0
     have c0:w2.cell? ⟨b2,bof+z,none⟩=some (.bool (gg z)):=(hb2.cell (p:=⟨b2,_,none⟩) hbb).trans hb0
     have c1:w2.cell? ⟨pb,pof+z,none⟩=some (.int .i64 (ff z)):=(hb2.cell (p:=⟨pb,_,none⟩) hpb).trans hp0
     have CZ:=Hid.mk_ (CS.out s)
     rw[HZ.out]at CZ
     clear hb0 hp0 hx hz hb2
     cases hg:gg z with
     | true=>
      rw[hg]at c0 CZ
      gi_wp2_with fail
      repeat ((refine⟨fun f h=>(by cases h),?_⟩); gi_wp2_with fail)
      go_roundw
      case rel=>exact⟨s+1,x+1,by have:=Hx.out; omega,by omega,by go_num,by rw[CZ.out]; simpa using HJ2.out.1,HJ2.out.2⟩
      case measure=>simp[intOf]; omega
     | false=>
      rw[hg]at c0 CZ
      have LL:(RR t++CC s).length<20000:=by rw[List.length_append]; have:=CL.out s; omega
      obtain⟨u,hu⟩:∃u,ff z=u:=⟨_,rfl⟩
      rw[hu]at c1 CZ
      obtain⟨fn,tmps,assign,body,hy,hR⟩:=HY.out _ u w2 HJ2.out.1 LL
      unfold pixE1 at hy
      clear hu
      gi_wp2
      refine⟨fun h=>(by cases h),hR.mono ?_⟩
      rintro e W3 (⟨rfl,hJ3,hk3⟩ | ⟨rfl,hJx3⟩)
      ·
       gi_wp2
       go_roundw
       case rel=>exact⟨s+1,x+1,by have:=Hx.out; omega,by omega,by go_num,by rw[CZ.out,← List.append_assoc]; exact hJ3,HJ2.out.2.trans hk3⟩
       case measure=>simp[intOf]; omega
      ·
       gi_wp2
       refine bodyPost_ret (results_none rfl _ _ _) rfl ?_
       exact⟨⟨_,rfl⟩,.inr ⟨_,trivial,hJx3⟩⟩
    ·
     obtain rfl:s=na:=by omega
     have dx1:decide ((x:Int)<(ex:Int))=false:=decide_eq_false (by omega)
     have dx1N:decide (x<ex)=false:=decide_eq_false (by omega)
     have e1:=CE.out
     have HJ3:Hid (J (RR (t+1)) w2∧KT w0.heap.size w1 w2):=by rw[e1]; exact HJ2
     clear HJ2 e1 hx cf2 cf3 cb2 HQ
     gi_wp2_with fail
     go_roundw
     case rel=>exact⟨t+1,y+1,by have:=Hy.out; omega,by omega,by go_num,HJ3.out.1,HJ3.out.2⟩
     case measure=>simp[intOf]; omega
  ·
   obtain rfl:t=nb:=by omega
   have dy1:decide ((y:Int)<(ey:Int))=false:=decide_eq_false (by omega)
   have dy1N:decide (y<ey)=false:=decide_eq_false (by omega)
   clear hy cs1 ci1
   gi_wp2_with fail
   go_end0
   exact⟨⟨_,rfl⟩,.inl ⟨_,rfl,HJ1.out.1⟩⟩
end Go.Proofs.YtdkcffnmlllamaaGreat
