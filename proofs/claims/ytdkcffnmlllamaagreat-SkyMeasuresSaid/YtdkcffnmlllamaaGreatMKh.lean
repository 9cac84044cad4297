import Derived.RangeFuncNested
import Derived.RangeFuncBox
import Derived.RangeFuncLeaves
import Derived.Shelf.Abstract
import Derived.WalkKit
import Derived.OwnWalkIn
import Derived.TacticsInMore
import Derived.LoopNIn
import Derived.LoopIn
import Derived.Test.YtdkcffnmlllamaaGreatMKf
import Derived.Test.YtdkcffnmlllamaaGreatMKg
set_option linter.unusedVariables false
set_option linter.unusedSimpArgs false
set_option maxHeartbeats 6400000
set_option maxRecDepth 1000000
namespace Go.Proofs.YtdkcffnmlllamaaGreat
open Go.RowKit Go.Shelf
def Marks (b:Nat) (W:World):List Deferred→Prop
 | []=>True
 | d::ds=>(∃D,d = { target:= .collected D,args:=#[] }∧b≤D∧W.heap[D]? = some (.deferred (some []))∧∀d'∈ds,d'≠d)∧Marks b W ds
theorem Marks.keep {b:Nat} {W W':World} {ds:List Deferred} (h:Marks b W ds) (k:∀D,b≤D→{ target:= .collected D,args:=#[] }∈ds→W.heap[D]? = some (.deferred (some []))→W'.heap[D]? = some (.deferred (some []))):Marks b W' ds:=by
 induction ds with
 | nil=>trivial
 | cons d ds ih=>
  obtain⟨⟨D,rfl,hb,hD,hn⟩,hr⟩:=h
  exact⟨⟨D,rfl,hb,k D hb (List.mem_cons_self ..) hD,hn⟩,ih hr fun D' h1 h2 h3=>k D' h1 (List.mem_cons_of_mem _ h2) h3⟩
theorem Marks.steps {b:Nat} {W W':World} {ds:List Deferred} (h:Marks b W ds) (s:Steps W W'):Marks b W' ds:=h.keep fun D _ _ hD=>(s.block D (Array.getElem?_eq_some_iff.1 hD).1).trans hD
structure SameC (b:Nat) (W W':World):Prop where
 below:Below b W W'
 blk:∀ (g:Nat) (o:Obj),W.heap[g]? = some o→o.isCells=true→W'.heap[g]? = some o
theorem SameC.refl (b:Nat) (W:World):SameC b W W:=⟨Below.refl _ _,fun _ _ h _=>h⟩
theorem SameC.trans {b:Nat} {A B C:World} (h:SameC b A B) (k:SameC b B C):SameC b A C:=⟨h.below.trans k.below,fun g o x y=>k.blk g o (h.blk g o x y) y⟩
theorem SameC.blk' {b:Nat} {W W':World} (h:SameC b W W') {g:Nat} {t:TypeId} {cs:Array Value} (k:Blk W g t cs):Blk W' g t cs:=h.blk g _ k rfl
theorem SameC.row {b:Nat} {W W':World} (h:SameC b W W') {base:Nat} {e:TypeId} {size n:Nat} {v:Value} {xs:List Value} (k:RowU W base e size v n xs):RowU W' base e size v n xs:=by
 refine k.keep fun g hg=> ?_
 rcases k.own.2 with⟨rfl,_⟩ | ⟨g',cap,cur,rfl,hbg,hh,_⟩
 · cases hg
 · cases hg; exact(h.blk _ _ hh rfl).trans hh.symm
theorem Marks.others {b:Nat} {W W':World} {ds:List Deferred} (h:Marks b W ds) (k:KeepsOthers W W'):Marks b W' ds:=h.keep fun D _ _ hD=>k.same D _ hD rfl
theorem Marks.lt {b:Nat} {W:World} {ds:List Deferred} {D:Nat} (h:Marks b W ds) (hD:W.heap.size≤D):∀d'∈ds,d'≠{ target:= .collected D,args:=#[] }:=by
 induction ds with
 | nil=>intro d' h; cases h
 | cons d ds ih=>
  obtain⟨⟨E,rfl,hb,hE,hn⟩,hr⟩:=h
  intro d' hd
  rcases List.mem_cons.1 hd with rfl | hd
  · intro e; have:=(Array.getElem?_eq_some_iff.1 hE).1; cases e; omega
  · exact ih hr d' hd
theorem sameC_put {b D:Nat} {W:World} (o':Obj) (hb:b≤D) (h:W.heap[D]? = some (.deferred (some []))):SameC b W (W.putObj D o'):=
 ⟨(Below.refl b W).grown (grownBy_putObj' W D o') (by have:=(Array.getElem?_eq_some_iff.1 h).1; omega) (fun k e=>by cases e; exact hb),fun g o x y=>(World.putObj_heap_other (fun e=>by subst e; rw[h]at x; cases x; cases y)).trans x⟩
theorem leaves_marks {F:Fence} {n:Nat} {P:Program} {fn:Func} {tmps:Array Value} {R:Ending→World→Prop} {b:Nat} : ∀ (ds:List Deferred) (W:World),Marks b W ds→(∀W',SameC b W W'→LeavesIn F n P fn tmps R [] .returning W')→LeavesInM F n P fn tmps R ds .returning W
 | [],W,_,h=>h W (SameC.refl _ _)
 | d::ds,W,⟨⟨D,hd,hb,hD,hn⟩,hr⟩,h=>by
  refine⟨by simp,.inl ⟨D,_,by rw[hd],run_takeDeferred hD,?_⟩⟩
  have s:=sameC_put (b:=b) (.deferred none) hb hD
  refine leaves_marks ds _ (hr.keep fun D' _ h2 h3=> ?_) (fun W' k=>h W' (s.trans k))
  have hne:D≠D':=fun e=>hn _ h2 (by rw[hd,e])
  exact(World.putObj_heap_other (Ne.symm hne)).trans h3
theorem RowU.cells {w:World} {base:Nat} {e:TypeId} {size n:Nat} {v:Value} {xs:List Value} (h:RowU w base e size v n xs):∀ (j:Nat) (o:Obj),v.ownBlock=some j→w.heap[j]? = some o→o.isCells=true:=by
 intro j o hj ho
 rcases h.own.2 with⟨rfl,_⟩ | ⟨g',cap,cur,rfl,hbg,hh,_⟩
 · cases hj
 · cases hj; rw[hh]at ho; cases ho; rfl
theorem RowU.ty_ne {w:World} {base:Nat} {e:TypeId} {size n:Nat} {v:Value} {xs:List Value} (h:RowU w base e size v n xs) {g:Nat} {t:TypeId} {cs:Array Value} (k:Blk w g t cs) (hne:t≠e):v.ownBlock≠some g:=by
 intro hj
 rcases h.own.2 with⟨rfl,_⟩ | ⟨g',cap,cur,rfl,hbg,hh,_⟩
 · cases hj
 · cases hj; unfold Blk at k; rw[hh]at k; cases k; exact hne rfl
theorem RowU.setr {w:World} {base g i:Nat} {e:TypeId} {size n:Nat} {v u:Value} {xs:List Value} (h:RowU w base e size v n xs) (hb:g<base):RowU (w.setCell ⟨g,i,none⟩ u) base e size v n xs:=
 h.keep fun k hk=>Below.heap_setCell w ⟨g,i,none⟩ u k (by have:=(h.lt k hk).1; show k≠g; omega)
theorem push_post {n₀ L i base n:Nat} {t e:TypeId} {W w7:World} {vl v' y:Value} {cs cs':Array Value} {xs ys:List Value} (hL:n₀≤L) (hLb:L<base) (hb:n₀≤base) (bl:Blk W L t cs) (rl:RowU W base e 1 vl n xs) (hr:RowU w7 base e 1 v' (n+1) ys) (hg:(W.alloc (.cells #[y] e)).grownBy w7 vl.ownBlock) (hc:cs.setIfInBounds i v'=cs') :
  KeepsOthers W (w7.setCell ⟨L,i,none⟩ v')∧Below n₀ W (w7.setCell ⟨L,i,none⟩ v')∧Blk (w7.setCell ⟨L,i,none⟩ v') L t cs'∧RowU (w7.setCell ⟨L,i,none⟩ v') base e 1 v' (n+1) ys∧(∀g t' ds,Blk W g t' ds→g≠L→t'≠e→Blk (w7.setCell ⟨L,i,none⟩ v') g t' ds):=by
 have ra:=rl.alloc (.cells #[y] e)
 have hbx:Blk w7 L t cs:=(hg.block L (by have:=bl.lt; rw[World.size_alloc]; omega) (fun e'=>by have:=(rl.lt L e'.symm).1; omega)).trans (bl.alloc _)
 refine⟨(KeepsOthers.alloc _ _).trans ((KeepsOthers.of_grownBy hg ra.cells).trans (KeepsOthers.setCell _ _ _)),?_,Blk.set2 hbx hc,hr.setr hLb,fun g t' ds h h1 h2=> ?_⟩
 ·
  have hW:n₀≤W.heap.size:=by have:=bl.lt; omega
  exact Below.setCell (p:=⟨L,i,none⟩) (((Below.refl n₀ W).alloc hW _).grown hg (by rw[World.size_alloc]; omega) (fun k e'=>by have:=(rl.lt k e').1; omega)) hL _
 · exact Blk.far' ((hg.block g (by have:=h.lt; rw[World.size_alloc]; omega) (fun e'=>rl.ty_ne h h2 e'.symm)).trans (h.alloc _)) h1
theorem box_post {L base n:Nat} {t e:TypeId} {W w7:World} {vl y:Value} {cs:Array Value} {xs:List Value} (hLb:L<base) (bl:Blk W L t cs) (rl:RowU W base e 1 vl n xs) (hg:(W.alloc (.cells #[y] e)).grownBy w7 vl.ownBlock):Blk w7 L t cs:=
 (hg.block L (by have:=bl.lt; rw[World.size_alloc]; omega) (fun e'=>by have:=(rl.lt L e'.symm).1; omega)).trans (bl.alloc _)
def rowI (L:Nat) (pre:List Int) (W:World):Prop:=∃vl,Blk W L 22 #[vl]∧RowU W (L+1) 2 1 vl pre.length (ints pre)
theorem own_rowI (L:Nat):Own (rowI L):=by
 rintro s W W' row ⟨vl,b,r⟩ hg hr
 refine⟨vl,blk_kept b hg hr,r.keep fun g h=>hg.block g (r.lt g h).2 (fun e=> ?_)⟩
 obtain⟨o,ho,hc⟩:=hr g e.symm
 rw[r.cells g o h ho]at hc
 cases hc
theorem rowI_push {L n₀:Nat} {W w7:World} {vl v':Value} {x:Int} {pre:List Int} (hL:n₀≤L) (bl:Blk W L 22 #[vl]) (rl:RowU W (L+1) 2 1 vl pre.length (ints pre)) (hr:RowU w7 (L+1) 2 1 v' (pre.length+1) (ints (pre ++ [x]))) (hg:(W.alloc (.cells #[.int .i64 x] 2)).grownBy w7 vl.ownBlock) :
  KeepsOthers W (w7.setCell ⟨L,0,none⟩ v')∧KT n₀ W (w7.setCell ⟨L,0,none⟩ v')∧rowI L (pre ++ [x]) (w7.setCell ⟨L,0,none⟩ v'):=by
 obtain⟨h1,h2,h3,h4,h5⟩:=push_post (i:=0) (cs':=#[v']) hL (Nat.lt_succ_self L) (by omega) bl rl hr hg rfl
 refine⟨h1,⟨h2,fun g t cs b t1 t2=>h5 g t cs b (fun e=> ?_) t1⟩,⟨v',h3,by rw[List.length_append]; exact h4⟩⟩
 subst e
 exact Blk.ne_ b bl t2 rfl
theorem scell_stops (n bf bs bj bi bb:Nat) {ao bo:Option Addr} {N cap bcap X Y S i j:Nat} {ps:List Int} {bl:List Bool} (w0 W2:World) (hP:IntsR w0 (.slice ao N cap) ps) (hB:BoolsR w0 (.slice bo N bcap) bl) (hl:ps.length=N) (hbl:bl.length=N) (hn:X*Y=N)
  (x1:1≤X) (x2:X≤100) (y1:1≤Y) (y2:Y≤100) (s1:1≤S) (s2:S≤30) (hi:i*S<X) (hj:j*S<Y) (hW:Below w0.heap.size w0 W2)
  (of:Blk W2 bf 26 #[.int .i64 (X:Int),.int .i64 (Y:Int),.slice ao N cap]) (os:Blk W2 bs 3 #[.int .i64 (S:Int)]) (oj:Blk W2 bj 3 #[.int .i64 (j:Int)]) (oi:Blk W2 bi 3 #[.int .i64 (i:Int)]) (ob:Blk W2 bb 27 #[.slice bo N bcap]) :
  SeqStopsK Fence.wide n Tryz.prog 47 #[.pointer (some ⟨bf,0,none⟩),.pointer (some ⟨bs,0,none⟩),.pointer (some ⟨bj,0,none⟩),.pointer (some ⟨bi,0,none⟩),.pointer (some ⟨bb,0,none⟩)] pixE1 (KT w0.heap.size) (fun ys=>ys=cellC (fun t=>bl.getD t false) (fun t=>ps.getD t 0) X Y S i j) (fun _=>True) 20000 W2:=
 fun l J Jx W hb hJ _ hY h0=>scell1_in n l bf bs bj bi bb w0 hP hB hl hbl hn x1 x2 y1 y2 s1 s2 hi hj J Jx W.heap.size hJ hY W (hW.trans (hb.mono hW.size)) (of.steps hb) (os.steps hb) (oj.steps hb) (oi.steps hb) (ob.steps hb) h0
theorem scell_c (X Y S i j:Int) (ao bo:Option Addr) (m c m' c':Nat) (w:World) :
  Calls Tryz.prog 33 #[.agg #[.int .i64 X,.int .i64 Y,.slice ao m c],.slice bo m' c',.int .i64 S,.int .i64 i,.int .i64 j] w fun e w'=>∃b1 b2 b3 b4 b5,e = .returned (.func (.func 47) #[] #[.pointer (some ⟨b1,0,none⟩),.pointer (some ⟨b2,0,none⟩),.pointer (some ⟨b3,0,none⟩),.pointer (some ⟨b4,0,none⟩),.pointer (some ⟨b5,0,none⟩)])∧
   Blk w' b1 26 #[.int .i64 X,.int .i64 Y,.slice ao m c]∧Blk w' b2 3 #[.int .i64 S]∧Blk w' b3 3 #[.int .i64 j]∧Blk w' b4 3 #[.int .i64 i]∧Blk w' b5 27 #[.slice bo m' c']∧Steps w w':=by
 refine((callsIn_wide (n:=3)).1 (scell_in Fence.wide 3 trivial rfl X Y S i j ao bo m c m' c' w)).mono ?_
 rintro e w' ⟨rfl,rfl⟩
 refine⟨_,_,_,_,_,rfl,ownB,ownB,ownB,ownB,ownB,?_⟩
 show Below w.heap.size w _
 exact belowB
def cNn (n s:Nat):Nat:=(n+s-1) / s
theorem cN_nat {n s:Nat} (h1:1≤n) (h2:1≤s):cN (n:Int) (s:Int)=((cNn n s:Nat):Int):=by
 unfold cN cNn
 rw[show (n:Int)+(s:Int)-1=((n+s-1:Nat):Int) by omega]
 rfl
theorem cNn_lt {n s i:Nat} (h1:1≤n) (h2:1≤s):i<cNn n s↔i*s<n:=by
 unfold cNn
 rw[Nat.lt_div_iff_mul_lt (by omega)]
 omega
def cellN (g:Nat→Bool) (f:Nat→Int) (X Y S c:Nat):List Int:=cellC g f X Y S (c%cNn X S) (c / cNn X S)
theorem cellN_at {g:Nat→Bool} {f:Nat→Int} {X Y S i j:Nat} (h:i<cNn X S):cellN g f X Y S (j*cNn X S+i)=cellC g f X Y S i j:=by
 unfold cellN
 rw[Nat.mul_comm,Nat.mul_add_mod,Nat.mod_eq_of_lt h,Nat.mul_add_div (by omega),Nat.div_eq_of_lt h,Nat.add_zero]
def mvals (g:Nat→Bool) (f:Nat→Int) (X Y S:Nat) (k:Rat) (c:Nat):List Int:=(List.range c).map fun t=>valS (cellN g f X Y S t) k
theorem mvals_succ {g:Nat→Bool} {f:Nat→Int} {X Y S:Nat} {k:Rat} {c:Nat} : mvals g f X Y S k (c+1)=mvals g f X Y S k c ++ [valS (cellN g f X Y S c) k]:=by
 unfold mvals; rw[List.range_succ,List.map_append]; rfl
theorem mvals_len {g:Nat→Bool} {f:Nat→Int} {X Y S:Nat} {k:Rat} {c:Nat} : (mvals g f X Y S k c).length=c:=by unfold mvals; simp
def fullC (g:Nat→Bool) (f:Nat→Int) (X Y S:Nat):Prop:=∀c,c<cNn X S*cNn Y S→cellN g f X Y S c≠ []
open Classical in
noncomputable def measS (g:Nat→Bool) (f:Nat→Int) (X Y S:Nat) (k:Rat):Option (List Int):=if fullC g f X Y S then some (mvals g f X Y S k (cNn X S*cNn Y S))else none
def MeasR (w:World) (e:Ending) (w':World) (X Y S:Nat):Option (List Int)→Prop
 | none=>e = .returned (.tuple #[.agg #[.int .i64 0,.int .i64 0,.int .i64 0,.slice none 0 0],.int .i64 22])∧Steps w w'
 | some l=>∃v,e = .returned (.tuple #[.agg #[.int .i64 (X:Int),.int .i64 (Y:Int),.int .i64 (S:Int),v],.int .i64 0])∧IntsR w' v l∧Steps w w'
theorem cell_ok {g:Nat→Bool} {f:Nat→Int} {X Y S i j N:Nat} (hS:1≤S) (hi:i*S<X) (hj:j*S<Y) (hn:X*Y=N) (hN:N≤100) (hv:∀t,t<N→-4294967296≤f t∧f t≤4294967296):(cellC g f X Y S i j).length≤100∧valL (cellC g f X Y S i j):=by
 obtain⟨n1,n2⟩:=cell_ends hS hi
 obtain⟨m1,m2⟩:=cell_ends hS hj
 have hl:(cellC g f X Y S i j).length≤100:=by
  unfold cellC
  refine Nat.le_trans (rowsC_len _) (Nat.le_trans (Nat.mul_le_mul (show min Y ((j+1)*S)-j*S≤Y by omega) (show min X ((i+1)*S)-i*S≤X by omega)) ?_)
  rw[Nat.mul_comm]; omega
 refine⟨hl,by omega,fun x hx=> ?_⟩
 unfold cellC at hx
 obtain⟨s,t,h1,h2,h3,rfl⟩:=mem_rowsC _ hx
 refine hv _ ?_
 rw[← hn,Nat.add_assoc]
 exact idx_lt (by omega) (by omega)
theorem smeasure_ok {k1 k5:Bool} {k2 k6:Option Addr} {p k4 q k8:Nat} {ao bo:Option Addr} {N cap bcap X Y S:Nat} {ps:List Int} {bl:List Bool} {k:Rat} (w:World) (hP:IntsR w (.slice ao N cap) ps) (hB:BoolsR w (.slice bo N bcap) bl) (hk:FR w (.agg #[.bool k1,.slice k2 p k4,.bool k5,.slice k6 q k8]) k) (zk:sz k 4) (hf:facB (some k)=true)
  (hl:ps.length=N) (hbl:bl.length=N) (hn:X*Y=N) (hN:N≤100) (hok:okV ps N=true) (x1:1≤X) (x2:X≤100) (y1:1≤Y) (y2:Y≤100) (s1:1≤S) (s2:S≤30) :
  Calls Tryz.prog 12 #[.agg #[.int .i64 (X:Int),.int .i64 (Y:Int),.slice ao N cap],.slice bo N bcap,.int .i64 (S:Int),.agg #[.bool k1,.slice k2 p k4,.bool k5,.slice k6 q k8]] w fun e w'=>MeasR w e w' X Y S (measS (fun t=>bl.getD t false) (fun t=>ps.getD t 0) X Y S k):=by
 have hro:Fence.wide.round=none:=rfl
 have HP:=Hid.mk_ hP
 have HB:=Hid.mk_ hB
 have hv:∀t,t<N→-4294967296≤ps.getD t 0∧ps.getD t 0≤4294967296:=fun t ht=>okV_get hok t ht
 have Cfc:∀w',Steps w w'→Calls Tryz.prog 29 #[.agg #[.int .i64 (X:Int),.int .i64 (Y:Int),.slice ao N cap]] w' fun e w2=>e = .returned (.int .i64 0)∧Steps w' w2:=fun w' s=>by
  have:=cfcheck (W:=(X:Int)) (H:=(Y:Int)) w' (hP.steps s) (by omega)
  rwa[fchk_ok (by omega) (by omega) (by omega) (by omega) (by rw[hl,← hn]; exact Int.natCast_mul X Y) (by rw[hl]; exact hok)]at this
 have CLP:∀w' g,Keeps w w'→Blk w' g 2 #[.int .i64 0]→Calls Tryz.prog 30 #[.slice (some ⟨g,0,none⟩) 1 1,.agg #[.bool k1,.slice k2 p k4,.bool k5,.slice k6 q k8]] w' fun e w2=>∃v z,e = .returned (.tuple #[v,.int .i64 z,.int .i64 0])∧Steps w' w2:=fun w' g kk hg=>by
  have h1:IntsR w' (.slice (some ⟨g,0,none⟩) 1 1) [0]:=⟨_,_,rfl,Nat.le_refl _,fun _=>⟨g,0,rfl,hg.lt,fun t ht=>by obtain rfl:t=0:=(by simp at ht; omega); exact hg.c 0 rfl⟩⟩
  have:=vClip (o:=some k) w' h1 (by simp) (show FB w' _ (some k) from hk.keeps kk) (fun r e=>by cases e; exact zk)
  rw[show clipS [0] (some k)=((clipR [0] k).1,(clipR [0] k).2,0) by unfold clipS; rw[if_pos (by decide),hf]; rfl]at this
  refine this.mono ?_
  rintro e w2 ⟨v,rfl,-,hs⟩
  exact⟨v,_,rfl,hs⟩
 have AX:∀w',Calls Tryz.prog 31 #[.agg #[.int .i64 (X:Int),.int .i64 (Y:Int),.int .i64 (S:Int),.slice none 0 0]] w' fun e w2=>e = .returned (.tuple #[.agg #[.int .i64 (X:Int),.int .i64 (S:Int)],.agg #[.int .i64 (Y:Int),.int .i64 (S:Int)]])∧Steps w' w2:=fun w'=>saxes w'
 have CY:∀w',Calls Tryz.prog 32 #[.agg #[.int .i64 (Y:Int),.int .i64 (S:Int)]] w' fun e w2=>e = .returned (.int .i64 ((cNn Y S:Nat):Int))∧Steps w' w2:=fun w'=>by
  have:=scells (n:=(Y:Int)) (s:=(S:Int)) w' (by omega) (by omega) (by omega) (by omega)
  rwa[cN_nat y1 s1]at this
 have CX:∀w',Calls Tryz.prog 32 #[.agg #[.int .i64 (X:Int),.int .i64 (S:Int)]] w' fun e w2=>e = .returned (.int .i64 ((cNn X S:Nat):Int))∧Steps w' w2:=fun w'=>by
  have:=scells (n:=(X:Int)) (s:=(S:Int)) w' (by omega) (by omega) (by omega) (by omega)
  rwa[cN_nat x1 s1]at this
 have HX0:=Hid.mk_ (fun i=>cNn_lt (i:=i) x1 s1)
 have HY0:=Hid.mk_ (fun j=>cNn_lt (i:=j) y1 s1)
 have hx100:cNn X S≤100:=by
  have h9:=(HX0.out 100)
  rcases Nat.lt_or_ge 100 (cNn X S)with g | g
  ·
   have:=h9.1 g
   have:=Nat.le_mul_of_pos_right 100 s1
   omega
  · exact g
 have hy100:cNn Y S≤100:=by
  have h9:=(HY0.out 100)
  rcases Nat.lt_or_ge 100 (cNn Y S)with g | g
  ·
   have:=h9.1 g
   have:=Nat.le_mul_of_pos_right 100 s1
   omega
  · exact g
 obtain⟨gg,hgg⟩:∃g:Nat→Bool,(fun t=>bl.getD t false)=g:=⟨_,rfl⟩
 obtain⟨ff,hff⟩:∃f:Nat→Int,(fun t=>ps.getD t 0)=f:=⟨_,rfl⟩
 have hvf:∀t,t<N→-4294967296≤ff t∧ff t≤4294967296:=fun t ht=>by rw[← hff]; exact hv t ht
 have COK:=fun i j (h1:i<cNn X S) (h2:j<cNn Y S)=>cell_ok (g:=gg) (f:=ff) s1 ((HX0.out i).1 h1) ((HY0.out j).1 h2) hn hN hvf
 have CAT:=fun i j (h1:i<cNn X S)=>cellN_at (g:=gg) (f:=ff) (X:=X) (Y:=Y) (S:=S) (j:=j) h1
 have hMS:measS gg ff X Y S k=measS gg ff X Y S k:=rfl
 rw[hgg,hff]
 have HMF:(∀c,c<cNn X S*cNn Y S→cellN gg ff X Y S c≠ [])→measS gg ff X Y S k=some (mvals gg ff X Y S k (cNn X S*cNn Y S)):=fun h=>if_pos h
 have HMN:(∃c,c<cNn X S*cNn Y S∧cellN gg ff X Y S c = [])→measS gg ff X Y S k=none:=fun⟨c,h1,h2⟩=>if_neg fun h=>h c h1 h2
 have MVS:∀c,mvals gg ff X Y S k (c+1)=mvals gg ff X Y S k c ++ [valS (cellN gg ff X Y S c) k]:=fun c=>mvals_succ
 have MVL:∀c,(mvals gg ff X Y S k c).length=c:=fun c=>mvals_len
 have MV0:mvals gg ff X Y S k 0 = []:=rfl
 generalize measS gg ff X Y S k=RES at *
 generalize hMV:mvals gg ff X Y S k=MV at *
 generalize hCEL:cellN gg ff X Y S=CEL at *
 generalize hNX:cNn X S=NX at *
 generalize hNY:cNn Y S=NY at *
 have HF:=Hid.mk_ HMF
 have HN_:=Hid.mk_ HMN
 have HS:=Hid.mk_ MVS
 have HLen:=Hid.mk_ MVL
 have HCO:=Hid.mk_ COK
 have HCA:=Hid.mk_ CAT
 have Hg:=Hid.mk_ hgg
 have Hff:=Hid.mk_ hff
 have HLL:=Hid.mk_ (And.intro hl hbl)
 have HK:=Hid.mk_ hk
 clear HMF HMN MVS MVL COK CAT hgg hff hvf hMS hv hMV hCEL hP hB hk hok hl hbl
 refine(callsIn_wide (n:=3)).1 ?_
 refine callsIn_of_wp_marks Tryz.func12 rfl trivial ?_ hro
 refine wpIn_wide.2 ?_
 simp only[Tryz.ntmps12,List.size_toArray,List.length_cons,List.length_nil,Nat.reduceAdd,Nat.reduceSub,Array.replicate_succ,Array.replicate_zero,List.push_toArray,List.append_toArray,List.nil_append,List.cons_append]
 have kk:=Keeps.refl w
 have nn:((N:Int) != (N:Int))=false:=by simp
 go_wp2_with fail
 refine(Cfc _ belowB).mono ?_
 rintro e w1 ⟨rfl,st⟩
 have B:=bA w st
 have kp:=kB w st
 replace kk:=kk.trans kp
 have of:Blk w1 (w.heap.size) 26 #[.int .i64 (X:Int),.int .i64 (Y:Int),.slice ao N cap]:=Blk.stepsK st
 have ok:Blk w1 (w.heap.size+1) 32 #[.bool k1,.slice k2 p k4,.bool k5,.slice k6 q k8]:=Blk.stepsK st
 have or:Blk w1 (w.heap.size+1+1) 24 #[.int .i64 0,.int .i64 0,.int .i64 0,.slice none 0 0]:=Blk.stepsK st
 clear kp
 clear st
 have lf:=of.lt
 obtain⟨ck0,ck1,ck2,ck3⟩:=ok.r3
 have lk:=ok.lt
 have lr:=or.lt
 have zr_1:w.heap.size+1+1<w1.heap.size:=or.lt
 have zz1:=B.size
 go_wp2_with fail
 refine(CLP _ _ (kk.trans keepsB) ownK).mono ?_
 rintro e w2 ⟨vz,z9,rfl,st⟩
 have sk:=bA w1 st
 replace B:=bS B sk
 replace of:=of.steps sk
 replace ok:=ok.steps sk
 replace or:=or.steps sk
 replace kk:=kk.then_ sk
 clear st sk lf ck0 ck1 ck2 ck3 lk lr
 obtain⟨cf0,cf1,cf2⟩:=of.r2
 have lf:=of.lt
 have lk:=ok.lt
 have lr:=or.lt
 have zr_2:w.heap.size+1+1<w2.heap.size:=or.lt
 have zz2:=B.size
 go_wp2_with fail
 refine(AX _).mono ?_
 rintro e w3 ⟨rfl,st⟩
 have sk:=bA w2 st
 replace B:=bS B sk
 have om:Blk w3 (w2.heap.size) 24 #[.int .i64 (X:Int),.int .i64 (Y:Int),.int .i64 (S:Int),.slice none 0 0]:=Blk.stepsK st
 replace of:=of.steps sk
 replace ok:=ok.steps sk
 replace or:=or.steps sk
 replace kk:=kk.then_ sk
 clear st sk cf0 cf1 cf2 lf lk lr
 have zm_3:w2.heap.size<w3.heap.size:=om.lt
 have zz3:=B.size
 go_wp2_with fail
 refine(CY _).mono ?_
 rintro e w4 ⟨rfl,hb4⟩
 have st:Steps _ w4:=hb4
 have sk:=bA w3 st
 replace B:=bS B sk
 have ox:Blk w4 (w3.heap.size) 65 #[.int .i64 (X:Int),.int .i64 (S:Int)]:=Blk.stepsK st
 have oy:Blk w4 (w3.heap.size+1) 65 #[.int .i64 (Y:Int),.int .i64 (S:Int)]:=Blk.stepsK st
 replace of:=of.steps sk
 replace ok:=ok.steps sk
 replace or:=or.steps sk
 replace om:=om.steps sk
 replace kk:=kk.then_ sk
 clear st sk
 go_wp2_with fail
 have hb4:Below w.heap.size w w4:=B
 have Hw4:=Hid.mk_ hb4
 have lm:=om.lt
 have lx:=ox.lt
 have ly:=oy.lt
 refine wp_loop (fun a wr=>∃ (j C:Nat) (vV:Value) (ds:List Deferred) (sj:Value) (u0 u3 u5 u6 u9 u10 u11 u12 u13 u17 u18 u19 u20 u21 u22 u23 u24 u25 u26 u27 u28 u29 u30 u31 u32 u33 u34 u35 u36 u37 u38 u39 u40 u41 u42 u43 u44 u45 u46 u47 u48 u49 u50 u51 u52 u53 u54 u55 u56 u57 u58 u59 u60 u61 u62 u63 u64 u65 u66 u69 u70 u71 u72 u73 u74 u75 u76 u77 u78 u79 u80 u81 u82 u83 u84 u85 u86 u87 u88 u89 u90 u91 u92 u93 u94 u95 u96 u97 u98 u99 u100 u101 u102 u103 u104 u105 u106 u107 u108 u109:Value),(a = { tmps:=#[u0,.slice bo N bcap,.int .i64 (S:Int),u3,.pointer (some ⟨w.heap.size,0,none⟩),u5,u6,.pointer (some ⟨w.heap.size+1,0,none⟩),.pointer (some ⟨w.heap.size+1+1,0,none⟩),u9,u10,u11,u12,u13,.pointer (some ⟨w2.heap.size,0,none⟩),.pointer (some ⟨w3.heap.size,0,none⟩),.pointer (some ⟨w3.heap.size+1,0,none⟩),u17,u18,u19,u20,u21,u22,u23,u24,u25,u26,u27,u28,u29,u30,u31,u32,u33,u34,u35,u36,u37,u38,u39,u40,u41,u42,u43,u44,u45,u46,u47,u48,u49,u50,u51,u52,u53,u54,u55,u56,u57,u58,u59,u60,u61,u62,u63,u64,u65,u66,.int .i64 (NY:Int),sj,u69,u70,u71,u72,u73,u74,u75,u76,u77,u78,u79,u80,u81,u82,u83,u84,u85,u86,u87,u88,u89,u90,u91,u92,u93,u94,u95,u96,u97,u98,u99,u100,u101,u102,u103,u104,u105,u106,u107,u108,u109],defers:=ds }∧(sj = .int .i64 (j:Int)∧C=j*NX∧j≤NY∧(∀c,c<C→CEL c≠ [])∧w4.heap.size≤wr.heap.size)∧(Blk wr (w.heap.size) 26 #[.int .i64 (X:Int),.int .i64 (Y:Int),.slice ao N cap]∧Blk wr (w.heap.size+1) 32 #[.bool k1,.slice k2 p k4,.bool k5,.slice k6 q k8]∧Blk wr (w.heap.size+1+1) 24 #[.int .i64 0,.int .i64 0,.int .i64 0,.slice none 0 0]∧Blk wr (w2.heap.size) 24 #[.int .i64 (X:Int),.int .i64 (Y:Int),.int .i64 (S:Int),vV]∧Blk wr (w3.heap.size) 65 #[.int .i64 (X:Int),.int .i64 (S:Int)]∧Blk wr (w3.heap.size+1) 65 #[.int .i64 (Y:Int),.int .i64 (S:Int)])∧RowU wr w4.heap.size 2 1 vV C (ints (MV C))∧Marks w.heap.size wr ds∧Below w.heap.size w wr)) (fun a _=>NY-(intOf (a.tmps.getD 68 undef)).toNat) ?_ ?_
 ·
  refine⟨0,0,.slice none 0 0,[],_,_,_,_,_,_,_,_,_,_,_,_,_,_,_,_,_,_,_,_,_,_,_,_,_,_,_,_,_,_,_,_,_,_,_,_,_,_,_,_,_,_,_,_,_,_,_,_,_,_,_,_,_,_,_,_,_,_,_,_,_,_,_,_,_,_,_,_,_,_,_,_,_,_,_,_,_,_,_,_,_,_,_,_,_,_,_,_,_,_,_,_,_,_,_,_,_,_,_,_,_,rfl,?_,?_,?_,?_,?_⟩
  · exact⟨rfl,by omega,by omega,fun c h=>absurd h (Nat.not_lt_zero _),Nat.le_refl _⟩
  · exact⟨ownK,ownK,ownK,ownK,ownK,ownK⟩
  · rw[MV0]; exact RowU.nil _ _ _ _
  · trivial
  · exact belowB
 intro a wo hinv
 obtain⟨j,C,vV,ds,sj,u0,u3,u5,u6,u9,u10,u11,hinv⟩:=hinv
 obtain⟨u12,u13,u17,u18,u19,u20,u21,u22,u23,u24,u25,u26,hinv⟩:=hinv
 obtain⟨u27,u28,u29,u30,u31,u32,u33,u34,u35,u36,u37,u38,hinv⟩:=hinv
 obtain⟨u39,u40,u41,u42,u43,u44,u45,u46,u47,u48,u49,u50,hinv⟩:=hinv
 obtain⟨u51,u52,u53,u54,u55,u56,u57,u58,u59,u60,u61,u62,hinv⟩:=hinv
 obtain⟨u63,u64,u65,u66,u69,u70,u71,u72,u73,u74,u75,u76,hinv⟩:=hinv
 obtain⟨u77,u78,u79,u80,u81,u82,u83,u84,u85,u86,u87,u88,hinv⟩:=hinv
 obtain⟨u89,u90,u91,u92,u93,u94,u95,u96,u97,u98,u99,u100,hinv⟩:=hinv
 obtain⟨u101,u102,u103,u104,u105,u106,u107,u108,u109,hinv⟩:=hinv
 obtain⟨ha,⟨rfl,hC,hj,hfull,hz4⟩,⟨of,ok,or,om,ox,oy⟩,hV,hM,B⟩:=hinv
 subst ha
 try dsimp only
 obtain⟨cm0,cm1,cm2,cm3⟩:=om.r3
 obtain⟨cx0,cx1⟩:=ox.r1
 obtain⟨cr0,cr1,cr2,cr3⟩:=or.r3
 have fr:=or.fr
 obtain⟨va,vc,rfl⟩:=hV.len
 rcases Nat.lt_or_ge j NY with jn | jn
 ·
  have dj:decide ((j:Int)<(NY:Int))=true:=decide_eq_true (by omega)
  have djN:decide (j<NY)=true:=decide_eq_true (by omega)
  have HV:=Hid.mk_ hV
  have HM:=Hid.mk_ hM
  have HB0:=Hid.mk_ (And.intro of (And.intro ok (And.intro or (And.intro om (And.intro ox oy)))))
  have hsz:=B.size
  go_wp2_with fail
  refine(CX _).mono ?_
  rintro e wp ⟨rfl,st⟩
  have HV1:=Hid.mk_ (HV.out.steps st)
  have HM1:=Hid.mk_ (HM.out.steps st)
  have HB1:=Hid.mk_ (And.intro (HB0.out.1.steps st) (And.intro (HB0.out.2.1.steps st) (And.intro (HB0.out.2.2.1.steps st) (And.intro (HB0.out.2.2.2.1.steps st) (And.intro (HB0.out.2.2.2.2.1.steps st) (HB0.out.2.2.2.2.2.steps st))))))
  have B1:Below w.heap.size w wp:=bS B st
  have HBW:=Hid.mk_ B1
  have hzp:=Nat.le_trans hz4 st.size
  clear of ok or om ox oy hV hM B cm0 cm1 cm2 cm3 cx0 cx1 cr0 cr1 cr2 cr3 fr HV HM HB0 hsz st
  dsimp only
  go_wp2_with fail
  refine wp_loop (fun a wr=>∃ (i C:Nat) (vV:Value) (ds:List Deferred) (si:Value) (u0 u3 u5 u6 u9 u10 u11 u12 u13 u18 u19 u20 u21 u22 u23 u24 u25 u26 u27 u28 u29 u30 u31 u32 u33 u34 u35 u36 u37 u38 u39 u40 u41 u42 u43 u44 u45 u46 u47 u48 u49 u50 u51 u52 u53 u54 u55 u56 u57 u58 u59 u60 u61 u62 u63 u64 u65 u66 u69 u70 u71 u74 u75 u76 u77 u78 u79 u80 u81 u82 u83 u84 u85 u86 u87 u88 u89 u90 u91 u92 u93 u94 u95 u96 u97 u98 u99 u100 u101 u102 u103 u104 u105 u106 u107 u108 u109:Value),(a = { tmps:=#[u0,.slice bo N bcap,.int .i64 (S:Int),u3,.pointer (some ⟨w.heap.size,0,none⟩),u5,u6,.pointer (some ⟨w.heap.size+1,0,none⟩),.pointer (some ⟨w.heap.size+1+1,0,none⟩),u9,u10,u11,u12,u13,.pointer (some ⟨w2.heap.size,0,none⟩),.pointer (some ⟨w3.heap.size,0,none⟩),.pointer (some ⟨w3.heap.size+1,0,none⟩),.int .i64 (j:Int),u18,u19,u20,u21,u22,u23,u24,u25,u26,u27,u28,u29,u30,u31,u32,u33,u34,u35,u36,u37,u38,u39,u40,u41,u42,u43,u44,u45,u46,u47,u48,u49,u50,u51,u52,u53,u54,u55,u56,u57,u58,u59,u60,u61,u62,u63,u64,u65,u66,.int .i64 (NY:Int),.int .i64 (j:Int),u69,u70,u71,.int .i64 (NX:Int),si,u74,u75,u76,u77,u78,u79,u80,u81,u82,u83,u84,u85,u86,u87,u88,u89,u90,u91,u92,u93,u94,u95,u96,u97,u98,u99,u100,u101,u102,u103,u104,u105,u106,u107,u108,u109],defers:=ds }∧(si = .int .i64 (i:Int)∧C=j*NX+i∧i≤NX∧(∀c,c<C→CEL c≠ [])∧w4.heap.size≤wr.heap.size)∧(Blk wr (w.heap.size) 26 #[.int .i64 (X:Int),.int .i64 (Y:Int),.slice ao N cap]∧Blk wr (w.heap.size+1) 32 #[.bool k1,.slice k2 p k4,.bool k5,.slice k6 q k8]∧Blk wr (w.heap.size+1+1) 24 #[.int .i64 0,.int .i64 0,.int .i64 0,.slice none 0 0]∧Blk wr (w2.heap.size) 24 #[.int .i64 (X:Int),.int .i64 (Y:Int),.int .i64 (S:Int),vV]∧Blk wr (w3.heap.size) 65 #[.int .i64 (X:Int),.int .i64 (S:Int)]∧Blk wr (w3.heap.size+1) 65 #[.int .i64 (Y:Int),.int .i64 (S:Int)])∧RowU wr w4.heap.size 2 1 vV C (ints (MV C))∧Marks w.heap.size wr ds∧Below w.heap.size w wr)) (fun a _=>NX-(intOf (a.tmps.getD 73 undef)).toNat) ?_ ?_
  ·
   refine⟨0,C,_,ds,_,_,_,_,_,_,_,_,_,_,_,_,_,_,_,_,_,_,_,_,_,_,_,_,_,_,_,_,_,_,_,_,_,_,_,_,_,_,_,_,_,_,_,_,_,_,_,_,_,_,_,_,_,_,_,_,_,_,_,_,_,_,_,_,_,_,_,_,_,_,_,_,_,_,_,_,_,_,_,_,_,_,_,_,_,_,_,_,_,_,_,_,_,_,_,_,_,_,rfl,?_,?_,HV1.out,HM1.out,HBW.out⟩
   · exact⟨rfl,by omega,by omega,hfull,hzp⟩
   · exact⟨HB1.out.1,HB1.out.2.1,HB1.out.2.2.1,HB1.out.2.2.2.1,HB1.out.2.2.2.2.1,HB1.out.2.2.2.2.2⟩
  intro a wi hinv
  clear HV1 HM1 HB1 HBW B1 hfull
  obtain⟨i,C',vV',ds',si,x0,x3,x5,x6,x9,x10,x11,hinv⟩:=hinv
  obtain⟨x12,x13,x18,x19,x20,x21,x22,x23,x24,x25,x26,x27,hinv⟩:=hinv
  obtain⟨x28,x29,x30,x31,x32,x33,x34,x35,x36,x37,x38,x39,hinv⟩:=hinv
  obtain⟨x40,x41,x42,x43,x44,x45,x46,x47,x48,x49,x50,x51,hinv⟩:=hinv
  obtain⟨x52,x53,x54,x55,x56,x57,x58,x59,x60,x61,x62,x63,hinv⟩:=hinv
  obtain⟨x64,x65,x66,x69,x70,x71,x74,x75,x76,x77,x78,x79,hinv⟩:=hinv
  obtain⟨x80,x81,x82,x83,x84,x85,x86,x87,x88,x89,x90,x91,hinv⟩:=hinv
  obtain⟨x92,x93,x94,x95,x96,x97,x98,x99,x100,x101,x102,x103,hinv⟩:=hinv
  obtain⟨x104,x105,x106,x107,x108,x109,hinv⟩:=hinv
  obtain⟨ha,⟨rfl,hC',hi,hfull,hz5⟩,⟨of,ok,or,om,ox,oy⟩,hV,hM,B⟩:=hinv
  subst ha
  try dsimp only
  obtain⟨cf0,cf1,cf2⟩:=of.r2
  have lf:=of.lt
  have lwi:=om.lt
  obtain⟨va',vc',rfl⟩:=hV.len
  have HV:=Hid.mk_ hV
  have HM:=Hid.mk_ hM
  have HB0:=Hid.mk_ (And.intro of (And.intro ok (And.intro or (And.intro om (And.intro ox oy)))))
  have HBW:=Hid.mk_ B
  have HFU:=Hid.mk_ hfull
  have hsz:=B.size
  clear of ok or om ox oy hV hM hfull
  rcases Nat.lt_or_ge i NX with iN | iN
  ·
   have di:decide ((i:Int)<(NX:Int))=true:=decide_eq_true (by omega)
   have diN:decide (i<NX)=true:=decide_eq_true (by omega)
   have hCO:=HCO.out i j iN jn
   have hCA:=HCA.out i j iN
   have hiX:=(HX0.out i).1 iN
   have hjY:=(HY0.out j).1 jn
   rw[← hC']at hCA
   obtain⟨cl,hcl⟩:∃l,cellC gg ff X Y S i j=l:=⟨_,rfl⟩
   rw[hcl]at hCO hCA
   have hC9:C'<NX*NY:=by rw[hC']; exact idx_lt jn iN
   have hC8:NX*NY≤10000:=Nat.mul_le_mul hx100 hy100
   have HC':=Hid.mk_ hC'
   clear hC'
   go_wp2_with fail
   refine(scell_c (X:Int) (Y:Int) (S:Int) (i:Int) (j:Int) ao bo N cap N bcap _).mono ?_
   rintro e W2 ⟨b1,b2,b3,b4,b5,rfl,o1,o2,o3,o4,o5,st⟩
   have bL:Blk W2 wi.heap.size 22 #[.slice none 0 0]:=Blk.steps (by first | exact Blk.new' rfl | exact ownB) st
   have hS2:Steps wi W2:=Below.trans ((Below.refl _ _).alloc (Nat.le_refl _) _) (st.mono (by rw[World.size_alloc]; omega))
   have SST:=scell_stops (3-1) b1 b2 b3 b4 b5 (ao:=ao) (bo:=bo) (cap:=cap) (bcap:=bcap) (i:=i) (j:=j) wi W2 (HP.out.steps HBW.out) (HB.out.steps HBW.out) HLL.out.1 HLL.out.2 hn x1 x2 y1 y2 s1 s2 hiX hjY hS2 o1 o2 o3 o4 o5
   rw[Hg.out,Hff.out,hcl]at SST
   clear hcl
   have LW2:wi.heap.size<W2.heap.size:=bL.lt
   clear cf0 cf1 cf2 o1 o2 o3 o4 o5 hiX hjY
   have HbL:=Hid.mk_ bL
   clear bL
   dsimp only
   go_wp2_with fail
   refine(wpIn_wide (n:=3)).1 ?_
   refine wpIn_rangeFunc_ownG_of_H hro (show 1≤3 by omega) (gf:=47) (lb:=#[.pointer (some ⟨b1,0,none⟩),.pointer (some ⟨b2,0,none⟩),.pointer (some ⟨b3,0,none⟩),.pointer (some ⟨b4,0,none⟩),.pointer (some ⟨b5,0,none⟩)]) rfl trivial (enters_of Tryz.func47 (by kernel_rfl) rfl)
    SST KT.trans (KT_b (by omega)) (Below.refl _ _) (fun _=>rfl)
    (fun pre W=>rowI wi.heap.size pre W∧Below wi.heap.size wi W) (fun _ _ _=>False)
    (OwnFrom.and ((own_rowI wi.heap.size).from _) (ownFrom_below (Nat.le_refl _) (by omega)))
    (fun _ _ _ _ _ hs _ _=>hs) ⟨⟨_,HbL.out,RowU.nil _ _ _ _⟩,hS2⟩ ?a₁ ?assign ?body ?done ?stop (fun W=>KT.refl _ _)
   case assign=>
    intro l' x W K' hK'
    unfold pixE1
    dsimp only[List.zip,Array.zip,Array.foldl]
    gi_upto_region 17 with fail
    refine region_round (by kernel_rfl) ?_
    repeat' (first | go_values | go_skip | go_guarded | go_step | go_upon)
    exact hK'
   case body=>
    rintro l' pre x W ⟨⟨vl,bl,rl⟩,hB⟩ hp
    obtain⟨la,lc,rfl⟩:=rl.len
    have cL:W.cell? ⟨wi.heap.size,0,none⟩=some (.slice la pre.length lc):=bl.c 0 rfl
    have ltL:=bl.lt
    have hsz2:=hB.size
    gi_upto_region 18 with fail
    refine region_round (by kernel_rfl) ?_
    repeat' (first | ((with_reducible show wpList _ _ _ (⟨some 86,_,_,_,_,_⟩::_) _ _); refine app_i64 rfl (.tmp 83) (.tmp 85) rfl (wi.heap.size+1) pre.length (.slice la pre.length lc) pre rfl (rl.alloc _) W.heap.size x rfl (Blk.new _ _ _) (by omega) (by rw[World.size_alloc]; omega) (fun v' w7 hr7 hg7=> ?_); obtain⟨la7,lc7,rfl⟩:=hr7.len; have bL7:=box_post (Nat.lt_succ_self _) bl rl hg7; have cL7:=bL7.c 0 rfl; have frL7:=bL7.fr; have ltL7:=bL7.lt) | go_values | go_skip | go_guarded | go_step | go_upon)
    try dsimp only[strict,Act.put]
    gi_wp2
    obtain⟨h1,h2,h3⟩:=rowI_push (n₀:=wi.heap.size) (Nat.le_refl _) bl rl hr7 hg7
    exact⟨h1.from _,h2,h3,hB.trans h2.1⟩
   case done=>
    rintro Dk ys W hD hys ⟨⟨vl,bl,rl⟩,hB⟩ hK
    rw[hys]at rl
    obtain⟨la,lc,rfl⟩:=rl.len
    have cL:W.cell? ⟨wi.heap.size,0,none⟩=some (.slice la cl.length lc):=bl.c 0 rfl
    have ltL:=bl.lt
    have HM2:=Hid.mk_ (show Marks w.heap.size W ({ target:= .collected Dk,args:=#[] } :: ds') from⟨⟨Dk,rfl,by omega,hK,HM.out.lt (by omega)⟩,HM.out.steps hB⟩)
    have HV2:=Hid.mk_ (HV.out.steps hB)
    obtain⟨of,ok,or,om,ox,oy⟩:=HB0.out
    replace of:=of.steps hB
    replace ok:=ok.steps hB
    replace or:=or.steps hB
    replace om:=om.steps hB
    replace ox:=ox.steps hB
    replace oy:=oy.steps hB
    have B2:Below w.heap.size w W:=below_steps HBW.out (Nat.le_refl _) hB
    have hrl:=rl.ints
    have hzW:=Nat.le_trans hz5 hB.size
    obtain⟨n,hnl⟩:∃n,cl.length=n:=⟨_,rfl⟩
    have HNL:=Hid.mk_ hnl
    have HCL:=Hid.mk_ hCO
    rw[hnl]at cL hrl hCO
    have n100:=hCO.1
    clear B HM HV HB0 HBW bl rl hB hK hys SST HbL hnl hCO
    rcases Nat.eq_zero_or_pos n with n0 | n0
    ·
     have e0:((n:Int)==0)=true:=by simp; omega
     have e1:decide ((n:Int)=0)=true:=decide_eq_true (by omega)
     have e2:decide (n=0)=true:=decide_eq_true n0
     obtain⟨cr0,cr1,cr2,cr3⟩:=or.r3
     have fr:=or.fr
     have B:=B2
     have HE:=HN_.out ⟨C',hC9,by rw[hCA]; exact List.length_eq_zero_iff.1 (by rw[HNL.out]; exact n0)⟩
     go_wp2_with fail
     refine leaves_marks _ _ (HM2.out.others ((((KeepsOthers.setCell _ _ _).trans (KeepsOthers.setCell _ _ _)).trans (KeepsOthers.setCell _ _ _)).trans (KeepsOthers.setCell _ _ _))) (fun W' hs=> ?_)
     refine⟨_,results_row2 rfl _ _ (w.heap.size+1+1) rfl (cs:=#[.int .i64 0,.int .i64 0,.int .i64 0,.slice none 0 0]) (hs.blk' (Blk.set2 (cs':=#[.int .i64 0,.int .i64 0,.int .i64 0,.slice none 0 0]) (Blk.set2 (cs':=#[.int .i64 0,.int .i64 0,.int .i64 0,.slice none 0 0]) (Blk.set2 (cs':=#[.int .i64 0,.int .i64 0,.int .i64 0,.slice none 0 0]) (Blk.set2 (cs':=#[.int .i64 0,.int .i64 0,.int .i64 0,.slice none 0 0]) or (i:=0) rfl) (i:=1) rfl) (i:=2) rfl) (i:=3) rfl)) Tryz.underlying24 rfl (by kernel_rfl),?_⟩
     show MeasR _ _ _ _ _ _ _
     rw[HE]
     exact⟨rfl,(show Below w.heap.size w _ from belowB).trans hs.below⟩
    ·
     have e0:((n:Int)==0)=false:=by simp; omega
     have e1:decide ((n:Int)=0)=false:=decide_eq_false (by omega)
     have e2:decide (n=0)=false:=decide_eq_false (by omega)
     have SV:Calls Tryz.prog 34 #[.slice la n lc,.agg #[.bool k1,.slice k2 p k4,.bool k5,.slice k6 q k8]] W fun e w2=>e = .returned (.tuple #[.int .i64 (valS cl k),.int .i64 0])∧Steps W w2:=
      svalue W hrl (HK.out.steps B2) zk (askV_of (fun h=>by have:=HNL.out; rw[h]at this; simp at this; omega) HCL.out.2) hf HCL.out.1
     obtain⟨ck0,ck1,ck2,ck3⟩:=ok.r3
     have lk:=ok.lt
     have HB3:=Hid.mk_ (And.intro of (And.intro ok (And.intro or (And.intro om (And.intro ox oy)))))
     have HB2':=Hid.mk_ B2
     have hfull':Hid (∀c,c<C'+1→CEL c≠ []):=Hid.mk_ (fun c hc=>by
      rcases Nat.lt_or_ge c C' with h | h
      · exact HFU.out c h
      ·
       obtain rfl:c=C':=by omega
       rw[hCA]; intro h9; have:=HNL.out; rw[h9]at this; simp at this; omega)
     have HSC:=Hid.mk_ (HS.out C')
     rw[hCA]at HSC
     generalize valS cl k=VV at *
     clear of ok or om ox oy B2 hrl
     go_wp2_with fail
     refine SV.mono ?_
     rintro e W3 ⟨rfl,st3⟩
     have HM3:=Hid.mk_ (HM2.out.steps st3)
     have hV3:=HV2.out.steps st3
     obtain⟨of,ok,or,om,ox,oy⟩:=HB3.out
     replace of:=of.steps st3
     replace ok:=ok.steps st3
     replace or:=or.steps st3
     replace om:=om.steps st3
     replace ox:=ox.steps st3
     replace oy:=oy.steps st3
     have B3:Below w.heap.size w W3:=below_steps HB2'.out (Nat.le_refl _) st3
     have cm3:=om.q3
     have frm:=om.fr
     have lom:=om.lt
     have lW3:=Nat.le_trans hzW st3.size
     clear HM2 HV2 HB3 HB2' SV ck0 ck1 ck2 ck3 lk cL ltL st3
     dsimp only
     go_upto_region 24 with fail
     repeat' (first | ((with_reducible show wpList _ _ _ (⟨some 105,_,_,_,_,_⟩::_) _ _); refine app_i64 rfl (.tmp 102) (.tmp 104) rfl w4.heap.size C' (.slice va' C' vc') (MV C') rfl (hV3.alloc _) W3.heap.size VV rfl (Blk.new _ _ _) (by omega) (by rw[World.size_alloc]; omega) (fun v' w7 hr7 hg7=> ?_); obtain⟨la7,lc7,rfl⟩:=hr7.len; have bM7:=box_post (by omega) om hV3 hg7; have cM7:=bM7.c 3 rfl; have frM7:=bM7.fr; have ltM7:=bM7.lt) | go_values | go_skip | go_guarded | go_step | go_upon)
     obtain⟨h1,h2,h3,h4,h5⟩:=push_post (n₀:=w.heap.size) (L:=w2.heap.size) (i:=3) (cs':=#[.int .i64 (X:Int),.int .i64 (Y:Int),.int .i64 (S:Int),.slice la7 (C'+1) lc7]) (by omega) (by omega) (by omega) om hV3 hr7 hg7 rfl
     refine⟨⟨i+1,C'+1,_,_,_,_,_,_,_,_,_,_,_,_,_,_,_,_,_,_,_,_,_,_,_,_,_,_,_,_,_,_,_,_,_,_,_,_,_,_,_,_,_,_,_,_,_,_,_,_,_,_,_,_,_,_,_,_,_,_,_,_,_,_,_,_,_,_,_,_,_,_,_,_,_,_,_,_,_,_,_,_,_,_,_,_,_,_,_,_,_,_,_,_,_,_,_,_,_,_,_,_,rfl,⟨by go_num,by have:=HC'.out; omega,by omega,hfull'.out,Nat.le_trans lW3 h2.size⟩,⟨h5 _ _ _ of (by omega) (by decide),h5 _ _ _ ok (by omega) (by decide),h5 _ _ _ or (by omega) (by decide),h3,h5 _ _ _ ox (by omega) (by decide),h5 _ _ _ oy (by omega) (by decide)⟩,by rw[HSC.out]; exact h4,HM3.out.others h1,B3.trans h2⟩,by simp[intOf]; omega⟩
   case stop=>intro D c pre W _ _ h; exact h.elim
  ·
   obtain rfl:i=NX:=by omega
   have di:decide ((i:Int)<(i:Int))=false:=decide_eq_false (by omega)
   go_wp2_with fail
   refine⟨⟨j+1,C',_,ds',_,_,_,_,_,_,_,_,_,_,_,_,_,_,_,_,_,_,_,_,_,_,_,_,_,_,_,_,_,_,_,_,_,_,_,_,_,_,_,_,_,_,_,_,_,_,_,_,_,_,_,_,_,_,_,_,_,_,_,_,_,_,_,_,_,_,_,_,_,_,_,_,_,_,_,_,_,_,_,_,_,_,_,_,_,_,_,_,_,_,_,_,_,_,_,_,_,_,_,_,_,rfl,⟨by go_num,by rw[hC',Nat.succ_mul],by omega,HFU.out,hz5⟩,HB0.out,HV.out,HM.out,HBW.out⟩,by simp[intOf]; omega⟩
 ·
  obtain rfl:j=NY:=by omega
  have dl:decide ((j:Int)<(j:Int))=false:=decide_eq_false (by omega)
  have HV:=Hid.mk_ hV
  have HM:=Hid.mk_ hM
  rw[hC]at hfull HV
  have HE:=HF.out (fun c hc=>hfull c (by rw[Nat.mul_comm]; exact hc))
  have HLn:=HLen.out (j*NX)
  go_wp2_with fail
  refine leaves_marks ds _ (HM.out.others ((((KeepsOthers.setCell _ _ _).trans (KeepsOthers.setCell _ _ _)).trans (KeepsOthers.setCell _ _ _)).trans (KeepsOthers.setCell _ _ _))) (fun W' hs=> ?_)
  refine⟨_,results_row2 rfl _ _ (w.heap.size+1+1) rfl (cs:=#[.int .i64 (X:Int),.int .i64 (Y:Int),.int .i64 (S:Int),.slice va (j*NX) vc]) (hs.blk' (Blk.set2 (cs':=#[.int .i64 (X:Int),.int .i64 (Y:Int),.int .i64 (S:Int),.slice va (j*NX) vc]) (Blk.set2 (cs':=#[.int .i64 (X:Int),.int .i64 (Y:Int),.int .i64 (S:Int),.slice none 0 0]) (Blk.set2 (cs':=#[.int .i64 (X:Int),.int .i64 (Y:Int),.int .i64 0,.slice none 0 0]) (Blk.set2 (cs':=#[.int .i64 (X:Int),.int .i64 0,.int .i64 0,.slice none 0 0]) or (i:=0) rfl) (i:=1) rfl) (i:=2) rfl) (i:=3) rfl)) Tryz.underlying24 rfl (by kernel_rfl),?_⟩
  show MeasR _ _ _ _ _ _ _
  rw[HE]
  refine⟨_,rfl,?_,?_⟩
  ·
   have h9:=hs.row ((((HV.out.setr (g:=w.heap.size+1+1) (i:=0) (u:= .int .i64 (X:Int)) (by omega)).setr (g:=w.heap.size+1+1) (i:=1) (u:= .int .i64 (Y:Int)) (by omega)).setr (g:=w.heap.size+1+1) (i:=2) (u:= .int .i64 (S:Int)) (by omega)).setr (g:=w.heap.size+1+1) (i:=3) (u:= .slice va (j*NX) vc) (by omega))
   rw[← HLn]at h9
   have:=h9.ints
   rw[HLn]at this
   rw[show NX*j=j*NX from Nat.mul_comm _ _]
   exact this
  · exact(show Below w.heap.size w _ from belowB).trans hs.below
end Go.Proofs.YtdkcffnmlllamaaGreat
namespace Go.Proofs.YtdkcffnmlllamaaGreat
open Go.RowKit
def MR (w:World) (e:Ending) (w':World) (c X Y s:Int) (l:List Int):Prop:=∃v,e = .returned (.tuple #[.agg #[.int .i64 X,.int .i64 Y,.int .i64 s,v],.int .i64 c])∧IntsR w' v l∧Steps w w'
structure MO where
 c:Int
 X:Int
 Y:Int
 s:Int
 l:List Int
def MR' (w:World) (e:Ending) (w':World) (m:MO):Prop:=MR w e w' m.c m.X m.Y m.s m.l
open Classical in
noncomputable def mRes (X Y:Int) (ps:List Int) (bl:List Bool) (s:Int) (o:Option Rat):MO:=
 if fchk X Y ps≠0 then⟨fchk X Y ps,0,0,0,[]⟩
 else if bl.length=ps.length∧1≤s∧s≤30∧facB o=true then
  (match measS (fun t=>bl.getD t false) (fun t=>ps.getD t 0) X.toNat Y.toNat s.toNat (o.getD 0)with
  | none=>⟨22,0,0,0,[]⟩
  | some l=>⟨0,X,Y,s,l⟩)
 else⟨2,0,0,0,[]⟩
theorem smeasure_bad1 {k1 k5:Bool} {k2 k6:Option Addr} {p k4 q k8:Nat} {ao bo:Option Addr} {N cap M bcap:Nat} {X Y S:Int} {ps:List Int} {o:Option Rat} (w:World) (hP:IntsR w (.slice ao N cap) ps) (hk:FB w (.agg #[.bool k1,.slice k2 p k4,.bool k5,.slice k6 q k8]) o) (zk:∀r,o=some r→sz r 4) (hN:N≤100) (h:fchk X Y ps≠0):Calls Tryz.prog 12 #[.agg #[.int .i64 X,.int .i64 Y,.slice ao N cap],.slice bo M bcap,.int .i64 S,.agg #[.bool k1,.slice k2 p k4,.bool k5,.slice k6 q k8]] w fun e w'=>MR w e w' (fchk X Y ps) 0 0 0 []:=by
 have Cfc:∀w',Steps w w'→Calls Tryz.prog 29 #[.agg #[.int .i64 X,.int .i64 Y,.slice ao N cap]] w' fun e w2=>e = .returned (.int .i64 (fchk X Y ps))∧Steps w' w2:=fun w' s=>cfcheck w' (hP.steps s) (by obtain⟨_,_,e,_⟩:=hP; cases e; omega)
 have h1:(fchk X Y ps != 0)=true:=by simpa using h
 generalize fchk X Y ps=c at *
 clear hP hk zk h
 go_enter Tryz.func12,Tryz.ntmps12
 have kk:=Keeps.refl w
 go_wp2_with fail
 refine(Cfc _ belowB).mono ?_
 rintro e w1 ⟨rfl,st⟩
 have B:=bA w st
 have kp:=kB w st
 replace kk:=kk.trans kp
 have of:Blk w1 (w.heap.size) 26 #[.int .i64 X,.int .i64 Y,.slice ao N cap]:=Blk.stepsK st
 have ok:Blk w1 (w.heap.size+1) 32 #[.bool k1,.slice k2 p k4,.bool k5,.slice k6 q k8]:=Blk.stepsK st
 have or:Blk w1 (w.heap.size+1+1) 24 #[.int .i64 0,.int .i64 0,.int .i64 0,.slice none 0 0]:=Blk.stepsK st
 clear kp
 clear st
 have lf:=of.lt
 have lk:=ok.lt
 obtain⟨cr0,cr1,cr2,cr3,fr,lr⟩:=or.s3
 go_wp2_with fail
 refine bodyPost_ret (results_row2 rfl _ _ (w.heap.size+1+1) rfl (cs:=#[.int .i64 0,.int .i64 0,.int .i64 0,.slice none 0 0]) ownD Tryz.underlying24 rfl (by kernel_rfl)) rfl ?_
 exact⟨_,rfl,IntsR.nil _,belowB⟩
theorem smeasure_bad2 {k1 k5:Bool} {k2 k6:Option Addr} {p k4 q k8:Nat} {ao bo:Option Addr} {N cap M bcap:Nat} {X Y S:Int} {ps:List Int} {o:Option Rat} (w:World) (hP:IntsR w (.slice ao N cap) ps) (hk:FB w (.agg #[.bool k1,.slice k2 p k4,.bool k5,.slice k6 q k8]) o) (zk:∀r,o=some r→sz r 4) (hN:N≤100) (h0:fchk X Y ps=0) (h:¬(M=N∧1≤S∧S≤30∧facB o=true)):Calls Tryz.prog 12 #[.agg #[.int .i64 X,.int .i64 Y,.slice ao N cap],.slice bo M bcap,.int .i64 S,.agg #[.bool k1,.slice k2 p k4,.bool k5,.slice k6 q k8]] w fun e w'=>MR w e w' 2 0 0 0 []:=by
 have Cfc:∀w',Steps w w'→Calls Tryz.prog 29 #[.agg #[.int .i64 X,.int .i64 Y,.slice ao N cap]] w' fun e w2=>e = .returned (.int .i64 0)∧Steps w' w2:=fun w' s=>by
  have:=cfcheck (W:=X) (H:=Y) w' (hP.steps s) (by obtain⟨_,_,e,_⟩:=hP; cases e; omega)
  rwa[h0]at this
 have CLP:∀w' g,Keeps w w'→Blk w' g 2 #[.int .i64 0]→Calls Tryz.prog 30 #[.slice (some ⟨g,0,none⟩) 1 1,.agg #[.bool k1,.slice k2 p k4,.bool k5,.slice k6 q k8]] w' fun e w2=>∃v z,e = .returned (.tuple #[v,.int .i64 z,.int .i64 (if facB o=true then 0 else 2)])∧Steps w' w2:=fun w' g kk hg=>by
  have h1:IntsR w' (.slice (some ⟨g,0,none⟩) 1 1) [0]:=⟨_,_,rfl,Nat.le_refl _,fun _=>⟨g,0,rfl,hg.lt,fun t ht=>by obtain rfl:t=0:=(by simp at ht; omega); exact hg.c 0 rfl⟩⟩
  have:=vClip (o:=o) w' h1 (by simp) (hk.keeps kk) zk
  refine this.mono ?_
  rintro e w2 ⟨v,rfl,-,hs⟩
  refine⟨v,((clipS [0] o).2.1:Nat),?_,hs⟩
  have e2:(clipS [0] o).2.2=if facB o=true then 0 else 2:=by
   unfold clipS
   rw[if_pos (by decide)]
   cases facB o<;>rfl
  rw[e2]
 clear hP hk zk h0
 have hD:facB o=false∨(facB o=true∧M≠N)∨(facB o=true∧M=N∧S<1)∨(facB o=true∧M=N∧¬S<1∧30<S):=by
  cases hf:facB o with
  | false=>exact .inl rfl
  | true=>exact .inr (by simp only[hf,and_true,true_and]at h⊢; omega)
 clear h
 rcases hD with hf | ⟨hf,g1⟩ | ⟨hf,g1,g2⟩ | ⟨hf,g1,g2,g3⟩
 focus
  rw[hf]at CLP
  obtain⟨ec,hec⟩:∃ec:Int,(if false=true then(0:Int)else 2)=ec:=⟨_,rfl⟩
  have h1:(ec != 0)=true:=by rw[← hec]; rfl
  simp only[hec]at CLP
  clear hec hf
 rotate_left
 focus
  rw[hf]at CLP
  simp only[if_true]at CLP
  have nn:((M:Int) != (N:Int))=true:=by simp; omega
  clear hf
 rotate_left
 focus
  rw[hf]at CLP
  simp only[if_true]at CLP
  have nn:((M:Int) != (N:Int))=false:=by simp; omega
  clear hf
 rotate_left
 focus
  rw[hf]at CLP
  simp only[if_true]at CLP
  have nn:((M:Int) != (N:Int))=false:=by simp; omega
  clear hf
 rotate_left
 all_goals
  go_enter Tryz.func12,Tryz.ntmps12
  have kk:=Keeps.refl w
  go_wp2_with fail
  refine(Cfc _ belowB).mono ?_
  rintro e w1 ⟨rfl,hb1⟩
  have st:Steps _ w1:=hb1
  have B:=bA w st
  have kp:=kB w st
  replace kk:=kk.trans kp
  have of:Blk w1 (w.heap.size) 26 #[.int .i64 X,.int .i64 Y,.slice ao N cap]:=Blk.stepsK st
  have ok:Blk w1 (w.heap.size+1) 32 #[.bool k1,.slice k2 p k4,.bool k5,.slice k6 q k8]:=Blk.stepsK st
  have or:Blk w1 (w.heap.size+1+1) 24 #[.int .i64 0,.int .i64 0,.int .i64 0,.slice none 0 0]:=Blk.stepsK st
  clear kp
  clear st
  have lf:=of.lt
  obtain⟨ck0,ck1,ck2,ck3⟩:=ok.r3
  have lk:=ok.lt
  have lr:=or.lt
  have zr_1:w.heap.size+1+1<w1.heap.size:=or.lt
  have zz1:=B.size
  go_wp2_with fail
  refine(CLP _ _ (kk.trans keepsB) ownK).mono ?_
  rintro e w2 ⟨vz,z9,rfl,hb2⟩
  have st:Steps _ w2:=hb2
  have sk:=bA w1 st
  replace B:=bS B sk
  replace of:=of.steps sk
  replace ok:=ok.steps sk
  replace or:=or.steps sk
  replace kk:=kk.then_ sk
  clear st sk lf ck0 ck1 ck2 ck3 lk lr
  obtain⟨cf0,cf1,cf2⟩:=of.r2
  have lf:=of.lt
  have lk:=ok.lt
  obtain⟨cr0,cr1,cr2,cr3,fr,lr⟩:=or.s3
  go_wp2_with fail
  refine bodyPost_ret (results_row2 rfl _ _ (w.heap.size+1+1) rfl (cs:=#[.int .i64 0,.int .i64 0,.int .i64 0,.slice none 0 0]) ownD Tryz.underlying24 rfl (by kernel_rfl)) rfl ?_
  exact⟨_,rfl,IntsR.nil _,belowB⟩
theorem smeasure {k1 k5:Bool} {k2 k6:Option Addr} {p k4 q k8:Nat} {ao bo:Option Addr} {N cap M bcap:Nat} {X Y S:Int} {ps:List Int} {o:Option Rat} (w:World) (hP:IntsR w (.slice ao N cap) ps) (hk:FB w (.agg #[.bool k1,.slice k2 p k4,.bool k5,.slice k6 q k8]) o) (zk:∀r,o=some r→sz r 4) (hN:N≤100) {bl:List Bool} (hB:BoolsR w (.slice bo M bcap) bl):Calls Tryz.prog 12 #[.agg #[.int .i64 X,.int .i64 Y,.slice ao N cap],.slice bo M bcap,.int .i64 S,.agg #[.bool k1,.slice k2 p k4,.bool k5,.slice k6 q k8]] w fun e w'=>MR' w e w' (mRes X Y ps bl S o):=by
 have hl:ps.length=N:=by obtain⟨_,_,e,_⟩:=hP; cases e; rfl
 have hbl:bl.length=M:=by obtain⟨_,_,e,_⟩:=hB; cases e; rfl
 unfold mRes
 by_cases h0:fchk X Y ps=0
 ·
  rw[if_neg (by simpa using h0)]
  by_cases h:M=N∧1≤S∧S≤30∧facB o=true
  ·
   rw[if_pos (by rw[hl,hbl]; exact h)]
   obtain⟨rfl,s1,s2,hf⟩:=h
   have hok:1≤X∧X≤100∧1≤Y∧Y≤100∧(ps.length:Int)=X*Y∧okV ps ps.length=true:=by
    rcases Classical.em (1≤X∧X≤100∧1≤Y∧Y≤100∧(ps.length:Int)=X*Y∧okV ps ps.length=true)with g | g
    · exact g
    · rw[fchk_bad g]at h0; cases h0
   obtain⟨x1,x2,y1,y2,hn,hv⟩:=hok
   obtain⟨X',rfl⟩:=Int.eq_ofNat_of_zero_le (show 0≤X by omega)
   obtain⟨Y',rfl⟩:=Int.eq_ofNat_of_zero_le (show 0≤Y by omega)
   obtain⟨S',rfl⟩:=Int.eq_ofNat_of_zero_le (show 0≤S by omega)
   obtain⟨k,rfl,-,-⟩:=facB_ok hf
   rw[hl]at hn hv
   refine(smeasure_ok w hP hB (show FR w _ k from hk) (zk k rfl) hf hl hbl (by rw[← Int.natCast_mul]at hn; omega) hN hv (by omega) (by omega) (by omega) (by omega) (by omega) (by omega)).mono ?_
   rintro e w' he
   show MR' _ _ _ (match measS (fun t=>bl.getD t false) (fun t=>ps.getD t 0) X' Y' S' k with
    | none=>_
    | some l=>_)
   cases hm:measS (fun t=>bl.getD t false) (fun t=>ps.getD t 0) X' Y' S' k with
   | none=>rw[hm]at he; obtain⟨rfl,hs⟩:=he; exact⟨_,rfl,IntsR.nil _,hs⟩
   | some l=>rw[hm]at he; obtain⟨v,rfl,hi,hs⟩:=he; exact⟨v,rfl,hi,hs⟩
  ·
   rw[if_neg (by rw[hl,hbl]; exact h)]
   exact(smeasure_bad2 w hP hk zk hN h0 h).mono fun e w' h=>h
 ·
  rw[if_pos h0]
  exact(smeasure_bad1 w hP hk zk hN h0).mono fun e w' h=>h
end Go.Proofs.YtdkcffnmlllamaaGreat
namespace Go.Proofs.YtdkcffnmlllamaaGreat
open Go.RowKit Go.Shelf
section
variable {vl vk:Value} {l:List Int} {k:Rat}
theorem rclip_c (w:World) (hl:IntsR w vl l) (hne:l≠ []) (hlen:l.length≤100) (hv:valL l) (hk:FR w vk k) (zk:sz k 4) (hf:facB (some k)=true) :
  Calls Tryz.prog 37 #[vl,vk] w fun e w'=>∃v z,e = .returned (.tuple #[v,.int .i64 z,.int .i64 0])∧IntsR w' v (inI (clipR l k).1)∧IntsR w' vl l∧Steps w w':=by
 have ha:=askV_of hne hv
 have eS:clipS l (some k)=((clipR l k).1,(clipR l k).2,0):=by unfold clipS; rw[if_pos ha,hf]; rfl
 have:=prClip (o:=some k) w hl (by omega) (fun _=>hlen) (show FB w vk (some k) from hk) (fun r e=>by cases e; exact zk)
 rw[eS]at this
 refine this.mono ?_
 rintro e w' ⟨v,rfl,hi,hs⟩
 exact⟨v,_,rfl,hi,hl.steps hs,hs⟩
theorem rpick_c {va:Value} (w:World) (hl:IntsR w vl l) (ha:IntsR w va (inI (clipR l k).1)) (hlen:l.length≤100) :
  Calls Tryz.prog 39 #[vl,va] w fun e w'=>∃v,e = .returned v∧IntsR w' v (keptL l k)∧Steps w w':=
 prpick w hl ha (fun i hi=>clipR_lt hi) (by have:=(clipR_spec l k).2.2.1; omega) (by omega)
theorem rmed_c (w:World) (hl:IntsR w vl (keptL l k)) (hne:l≠ []) (hlen:l.length≤100) (hv:valL l) (hf:facB (some k)=true) :
  Calls Tryz.prog 38 #[vl] w fun e w'=>∃u,e = .returned (.tuple #[u,.int .i64 0])∧FR w' u (medQ (keptL l k))∧Steps w w':=by
 have k1_:1≤k:=by obtain⟨r,e,h1,h2⟩:=facB_ok hf; cases e; exact h1
 obtain⟨m1,m2,m3⟩:=kept_ok hv hne k1_ hlen
 have:=prMedian w hl (by omega) (fun _=>m3)
 rw[askV_of m2 m1]at this
 refine this.mono ?_
 rintro e w2 ⟨u,rfl,hu,hs⟩
 exact⟨u,rfl,by unfold FE at hu; rwa[if_pos rfl]at hu,hs⟩
theorem rpix_c {va:Value} (w:World) (h:FR w va (medQ (keptL l k))) (hne:l≠ []) (hlen:l.length≤100) (hv:valL l) (hf:facB (some k)=true) :
  Calls Tryz.prog 40 #[va] w fun e w'=>e = .returned (.tuple #[.int .i64 (valS l k),.int .i64 0])∧Steps w w':=by
 have k1_:1≤k:=by obtain⟨r,e,h1,h2⟩:=facB_ok hf; cases e; exact h1
 obtain⟨m1,m2,m3⟩:=kept_ok hv hne k1_ hlen
 have r:=med_range m2 m1
 have e1:valS l k=rndQ (medQ (keptL l k)):=rfl
 have:=ppixel w h (med_sz m2 m1) (by omega) (by omega)
 rwa[show pixV (rndQ (medQ (keptL l k)))=valS l k from if_pos (by omega),show pixE (rndQ (medQ (keptL l k)))=0 from if_pos (by omega)]at this
end
theorem rmeasure_ok {k1 k5:Bool} {k2 k6:Option Addr} {p k4 q k8:Nat} {ao bo:Option Addr} {N cap bcap X Y S:Nat} {ps:List Int} {bl:List Bool} {k:Rat} (w:World) (hP:IntsR w (.slice ao N cap) ps) (hB:BoolsR w (.slice bo N bcap) bl) (hk:FR w (.agg #[.bool k1,.slice k2 p k4,.bool k5,.slice k6 q k8]) k) (zk:sz k 4) (hf:facB (some k)=true)
  (hl:ps.length=N) (hbl:bl.length=N) (hn:X*Y=N) (hN:N≤100) (hok:okV ps N=true) (x1:1≤X) (x2:X≤100) (y1:1≤Y) (y2:Y≤100) (s1:1≤S) (s2:S≤30) :
  Calls Tryz.prog 13 #[.agg #[.int .i64 (X:Int),.int .i64 (Y:Int),.slice ao N cap],.slice bo N bcap,.int .i64 (S:Int),.agg #[.bool k1,.slice k2 p k4,.bool k5,.slice k6 q k8]] w fun e w'=>MeasR w e w' X Y S (measS (fun t=>bl.getD t false) (fun t=>ps.getD t 0) X Y S k):=by
 have HP:=Hid.mk_ hP
 have HB:=Hid.mk_ hB
 have hv:∀t,t<N→-4294967296≤ps.getD t 0∧ps.getD t 0≤4294967296:=fun t ht=>okV_get hok t ht
 have Cfc:∀w',Steps w w'→Calls Tryz.prog 19 #[.agg #[.int .i64 (X:Int),.int .i64 (Y:Int),.slice ao N cap]] w' fun e w2=>e = .returned (.int .i64 0)∧Steps w' w2:=fun w' s=>by
  have:=pfcheck (W:=(X:Int)) (H:=(Y:Int)) w' (hP.steps s) (by omega)
  rwa[fchk_ok (by omega) (by omega) (by omega) (by omega) (by rw[hl,← hn]; exact Int.natCast_mul X Y) (by rw[hl]; exact hok)]at this
 have FAC:∀w',Keeps w w'→Calls Tryz.prog 35 #[.agg #[.bool k1,.slice k2 p k4,.bool k5,.slice k6 q k8]] w' fun e w2=>e = .returned (.bool true)∧Steps w' w2:=fun w' kk=>by
  have:=pvfactor (o:=some k) w' (show FB w' _ (some k) from hk.keeps kk) (fun r e=>by cases e; exact zk)
  rwa[hf]at this
 have CY:∀w',Calls Tryz.prog 21 #[.int .i64 (Y:Int),.int .i64 (S:Int)] w' fun e w2=>e = .returned (.int .i64 ((cNn Y S:Nat):Int))∧Steps w' w2:=fun w'=>by
  have:=rcells (n:=(Y:Int)) (s:=(S:Int)) w' (by omega) (by omega) (by omega) (by omega)
  rwa[cN_nat y1 s1]at this
 have CX:∀w',Calls Tryz.prog 21 #[.int .i64 (X:Int),.int .i64 (S:Int)] w' fun e w2=>e = .returned (.int .i64 ((cNn X S:Nat):Int))∧Steps w' w2:=fun w'=>by
  have:=rcells (n:=(X:Int)) (s:=(S:Int)) w' (by omega) (by omega) (by omega) (by omega)
  rwa[cN_nat x1 s1]at this
 have HX0:=Hid.mk_ (fun i=>cNn_lt (i:=i) x1 s1)
 have HY0:=Hid.mk_ (fun j=>cNn_lt (i:=j) y1 s1)
 have hx100:cNn X S≤100:=by
  have h9:=(HX0.out 100)
  rcases Nat.lt_or_ge 100 (cNn X S)with g | g
  ·
   have:=h9.1 g
   have:=Nat.le_mul_of_pos_right 100 s1
   omega
  · exact g
 have hy100:cNn Y S≤100:=by
  have h9:=(HY0.out 100)
  rcases Nat.lt_or_ge 100 (cNn Y S)with g | g
  ·
   have:=h9.1 g
   have:=Nat.le_mul_of_pos_right 100 s1
   omega
  · exact g
 obtain⟨gg,hgg⟩:∃g:Nat→Bool,(fun t=>bl.getD t false)=g:=⟨_,rfl⟩
 obtain⟨ff,hff⟩:∃f:Nat→Int,(fun t=>ps.getD t 0)=f:=⟨_,rfl⟩
 have hvf:∀t,t<N→-4294967296≤ff t∧ff t≤4294967296:=fun t ht=>by rw[← hff]; exact hv t ht
 have COK:=fun i j (h1:i<cNn X S) (h2:j<cNn Y S)=>cell_ok (g:=gg) (f:=ff) s1 ((HX0.out i).1 h1) ((HY0.out j).1 h2) hn hN hvf
 have CAT:=fun i j (h1:i<cNn X S)=>cellN_at (g:=gg) (f:=ff) (X:=X) (Y:=Y) (S:=S) (j:=j) h1
 have hMS:measS gg ff X Y S k=measS gg ff X Y S k:=rfl
 rw[hgg,hff]
 have HMF:(∀c,c<cNn X S*cNn Y S→cellN gg ff X Y S c≠ [])→measS gg ff X Y S k=some (mvals gg ff X Y S k (cNn X S*cNn Y S)):=fun h=>if_pos h
 have HMN:(∃c,c<cNn X S*cNn Y S∧cellN gg ff X Y S c = [])→measS gg ff X Y S k=none:=fun⟨c,h1,h2⟩=>if_neg fun h=>h c h1 h2
 have MVS:∀c,mvals gg ff X Y S k (c+1)=mvals gg ff X Y S k c ++ [valS (cellN gg ff X Y S c) k]:=fun c=>mvals_succ
 have MVL:∀c,(mvals gg ff X Y S k c).length=c:=fun c=>mvals_len
 have MV0:mvals gg ff X Y S k 0 = []:=rfl
 generalize measS gg ff X Y S k=RES at *
 generalize hMV:mvals gg ff X Y S k=MV at *
 generalize hCEL:cellN gg ff X Y S=CEL at *
 generalize hNX:cNn X S=NX at *
 generalize hNY:cNn Y S=NY at *
 have HF:=Hid.mk_ HMF
 have HN_:=Hid.mk_ HMN
 have HS:=Hid.mk_ MVS
 have HLen:=Hid.mk_ MVL
 have HCO:=Hid.mk_ COK
 have HCA:=Hid.mk_ CAT
 have Hg:=Hid.mk_ hgg
 have Hff:=Hid.mk_ hff
 have HLL:=Hid.mk_ (And.intro hl hbl)
 have HK:=Hid.mk_ hk
 clear HMF HMN MVS MVL COK CAT hgg hff hvf hMS hv hMV hCEL hP hB hk hok hl hbl
 go_enter Tryz.func13,Tryz.ntmps13
 have kk:=Keeps.refl w
 have nn:((N:Int) != (N:Int))=false:=by simp
 go_wp2_with fail
 refine(Cfc _ belowB).mono ?_
 rintro e w1 ⟨rfl,st⟩
 have B:=bA w st
 have kp:=kB w st
 replace kk:=kk.trans kp
 have of:Blk w1 (w.heap.size) 26 #[.int .i64 (X:Int),.int .i64 (Y:Int),.slice ao N cap]:=Blk.stepsK st
 have ok:Blk w1 (w.heap.size+1) 32 #[.bool k1,.slice k2 p k4,.bool k5,.slice k6 q k8]:=Blk.stepsK st
 have or:Blk w1 (w.heap.size+1+1) 24 #[.int .i64 0,.int .i64 0,.int .i64 0,.slice none 0 0]:=Blk.stepsK st
 clear kp
 clear st
 obtain⟨cf0,cf1,cf2⟩:=of.r2
 have lf:=of.lt
 obtain⟨ck0,ck1,ck2,ck3⟩:=ok.r3
 have lk:=ok.lt
 have lr:=or.lt
 go_wp2_with fail
 refine(FAC _ (kk.trans keepsB)).mono ?_
 rintro e w2 ⟨rfl,st⟩
 have sk:=bA w1 st
 replace B:=bS B sk
 replace of:=of.steps sk
 replace ok:=ok.steps sk
 replace or:=or.steps sk
 replace kk:=kk.then_ sk
 clear st sk cf0 cf1 cf2 lf ck0 ck1 ck2 ck3 lk lr
 obtain⟨cf0,cf1,cf2⟩:=of.r2
 have lf:=of.lt
 have lk:=ok.lt
 have lr:=or.lt
 have zr_2:w.heap.size+1+1<w2.heap.size:=or.lt
 have zz2:=B.size
 go_wp2_with fail
 clear kk
 go_loopw [12] (fun kj wr=>∃ (j C:Nat) (vV:Value),kj = .int .i64 (j:Int)∧C=j*NX∧j≤NY∧(∀c,c<C→CEL c≠ [])∧w2.heap.size+1≤wr.heap.size∧(Blk wr (w.heap.size) 26 #[.int .i64 (X:Int),.int .i64 (Y:Int),.slice ao N cap]∧Blk wr (w.heap.size+1) 32 #[.bool k1,.slice k2 p k4,.bool k5,.slice k6 q k8]∧Blk wr (w.heap.size+1+1) 24 #[.int .i64 0,.int .i64 0,.int .i64 0,.slice none 0 0]∧Blk wr (w2.heap.size) 24 #[.int .i64 (X:Int),.int .i64 (Y:Int),.int .i64 (S:Int),vV])∧RowU wr (w2.heap.size+1) 2 1 vV C (ints (MV C))∧Below w.heap.size w wr) (fun kj _=>NY-(intOf kj).toNat)
 case atStart=>exact⟨0,0,.slice none 0 0,rfl,by omega,by omega,fun c h=>absurd h (Nat.not_lt_zero _),by (simp only[World.size_setCell,World.size_alloc]; omega),⟨ownK,ownK,ownK,ownK⟩,by rw[MV0]; exact RowU.nil _ _ _ _,belowB⟩
 case round=>
  rename World=>wo
  clear of or ok B
  obtain⟨j,C,vV,rfl,hC,hj,hfull,hz4,⟨of,ok,or,om⟩,hV,B⟩:=hrel
  have cf1:=of.q1
  have HC:=Hid.mk_ hC
  have HFU:=Hid.mk_ hfull
  have HV:=Hid.mk_ hV
  clear hC hfull hV
  go_wp2_with fail
  refine(CY _).mono ?_
  rintro e wp ⟨rfl,st⟩
  replace HV:=Hid.mk_ (HV.out.steps st)
  replace of:=of.steps st
  replace ok:=ok.steps st
  replace or:=or.steps st
  replace om:=om.steps st
  replace B:Below w.heap.size w wp:=bS B st
  replace hz4:=Nat.le_trans hz4 st.size
  clear cf1 st
  dsimp only
  rcases Nat.lt_or_ge j NY with jn | jn
  ·
   have dj:decide ((j:Int)<(NY:Int))=true:=decide_eq_true (by omega)
   have djN:decide (j<NY)=true:=decide_eq_true (by omega)
   go_wp2_with fail
   go_loopw [13] (fun ki wr=>∃ (i C:Nat) (vV:Value),ki = .int .i64 (i:Int)∧C=j*NX+i∧i≤NX∧(∀c,c<C→CEL c≠ [])∧w2.heap.size+1≤wr.heap.size∧(Blk wr (w.heap.size) 26 #[.int .i64 (X:Int),.int .i64 (Y:Int),.slice ao N cap]∧Blk wr (w.heap.size+1) 32 #[.bool k1,.slice k2 p k4,.bool k5,.slice k6 q k8]∧Blk wr (w.heap.size+1+1) 24 #[.int .i64 0,.int .i64 0,.int .i64 0,.slice none 0 0]∧Blk wr (w2.heap.size) 24 #[.int .i64 (X:Int),.int .i64 (Y:Int),.int .i64 (S:Int),vV])∧RowU wr (w2.heap.size+1) 2 1 vV C (ints (MV C))∧Below w.heap.size w wr) (fun ki _=>NX-(intOf ki).toNat)
   case atStart=>exact⟨0,C,vV,rfl,HC.out,by omega,HFU.out,hz4,⟨of,ok,or,om⟩,HV.out,B⟩
   case round=>
    rename World=>wi
    clear of ok or om B HC HFU HV hz4
    obtain⟨i,C,vV,rfl,hC,hi,hfull,hz4,⟨of,ok,or,om⟩,hV,B⟩:=hrel
    have cf0:=of.q0
    have HC:=Hid.mk_ hC
    have HFU:=Hid.mk_ hfull
    have HV:=Hid.mk_ hV
    clear hC hfull hV
    go_wp2_with fail
    refine(CX _).mono ?_
    rintro e wq ⟨rfl,st⟩
    replace HV:=Hid.mk_ (HV.out.steps st)
    replace of:=of.steps st
    replace ok:=ok.steps st
    replace or:=or.steps st
    replace om:=om.steps st
    replace B:Below w.heap.size w wq:=bS B st
    replace hz4:=Nat.le_trans hz4 st.size
    clear cf0 st
    dsimp only
    obtain⟨va,vc,e9⟩:=HV.out.len
    subst e9
    rcases Nat.lt_or_ge i NX with iN | iN
    ·
     have di:decide ((i:Int)<(NX:Int))=true:=decide_eq_true (by omega)
     have diN:decide (i<NX)=true:=decide_eq_true (by omega)
     have hCO:=HCO.out i j iN jn
     have hCA:=HCA.out i j iN
     have hiX:=(HX0.out i).1 iN
     have hjY:=(HY0.out j).1 jn
     rw[← HC.out]at hCA
     obtain⟨cl,hcl⟩:∃l,cellC gg ff X Y S i j=l:=⟨_,rfl⟩
     have hC9:C<NX*NY:=by rw[HC.out]; exact idx_lt jn iN
     have hC8:NX*NY≤10000:=Nat.mul_le_mul hx100 hy100
     have IN:∀w',Steps wq w'→Calls Tryz.prog 36 #[.agg #[.int .i64 (X:Int),.int .i64 (Y:Int),.slice ao N cap],.slice bo N bcap,.int .i64 (S:Int),.int .i64 (i:Int),.int .i64 (j:Int)] w' fun e w2=>∃v,e = .returned v∧IntsR w2 v cl∧Steps w' w2:=fun w' s=>by
      have:=pinside (ao:=ao) (bo:=bo) (cap:=cap) (bcap:=bcap) (i:=i) (j:=j) w' (HP.out.steps (below_steps B (Nat.le_refl _) s)) (HB.out.steps (below_steps B (Nat.le_refl _) s)) HLL.out.1 HLL.out.2 hn x1 x2 y1 y2 s1 s2 hiX hjY
      rwa[Hg.out,Hff.out,hcl]at this
     rw[hcl]at hCO hCA
     obtain⟨n,hnl⟩:∃n,cl.length=n:=⟨_,rfl⟩
     have HNL:=Hid.mk_ hnl
     have KB:=Hid.mk_ (show Keeps w wq from Keeps.steps B)
     have HSC:=Hid.mk_ (HS.out C)
     rw[hCA]at HSC
     clear hcl hnl hiX hjY
     rcases Nat.eq_zero_or_pos n with n0 | n0
     ·
      have e0:((n:Int)==0)=true:=by simp; omega
      have e1:decide ((n:Int)=0)=true:=decide_eq_true (by omega)
      have HE:=HN_.out ⟨C,hC9,by rw[hCA]; exact List.length_eq_zero_iff.1 (by rw[HNL.out]; exact n0)⟩
      obtain⟨cf0,cf1,cf2⟩:=of.r2
      go_wp2_with fail
      refine(IN _ (Below.refl _ _)).mono ?_
      rintro e wu ⟨vl,rfl,hvl,st⟩
      obtain⟨la,lc,rfl⟩:=hvl.shape
      rw[HNL.out]
      replace or:=or.steps st
      have B2:Below w.heap.size w wu:=bS B st
      obtain⟨cr0,cr1,cr2,cr3⟩:=or.r3
      have fr:=or.fr
      clear cf0 cf1 cf2 B hvl st
      have B:=B2
      dsimp only
      go_wp2_with fail
      refine bodyPost_ret (results_row2 rfl _ _ (w.heap.size+1+1) rfl (cs:=#[.int .i64 0,.int .i64 0,.int .i64 0,.slice none 0 0]) (Blk.set2 (cs':=#[.int .i64 0,.int .i64 0,.int .i64 0,.slice none 0 0]) (Blk.set2 (cs':=#[.int .i64 0,.int .i64 0,.int .i64 0,.slice none 0 0]) (Blk.set2 (cs':=#[.int .i64 0,.int .i64 0,.int .i64 0,.slice none 0 0]) (Blk.set2 (cs':=#[.int .i64 0,.int .i64 0,.int .i64 0,.slice none 0 0]) or (i:=0) rfl) (i:=1) rfl) (i:=2) rfl) (i:=3) rfl) Tryz.underlying24 rfl (by kernel_rfl)) rfl ?_
      show MeasR _ _ _ _ _ _ _
      rw[HE]
      exact⟨rfl,belowB⟩
     ·
      have e0:((n:Int)==0)=false:=by simp; omega
      have e1:decide ((n:Int)=0)=false:=decide_eq_false (by omega)
      have cl0:cl≠ []:=fun h=>by have:=HNL.out; rw[h]at this; simp at this; omega
      have hfull':Hid (∀c,c<C+1→CEL c≠ []):=Hid.mk_ (fun c hc=>by
       rcases Nat.lt_or_ge c C with h | h
       · exact HFU.out c h
       ·
        obtain rfl:c=C:=by omega
        rw[hCA]; exact cl0)
      obtain⟨VV,hVV⟩:∃v,valS cl k=v:=⟨_,rfl⟩
      have RPX:=fun(va':Value) (W':World) (h:FR W' va' (medQ (keptL cl k)))=>rpix_c W' h cl0 hCO.1 hCO.2 hf
      rw[hVV]at HSC
      simp only[hVV]at RPX
      clear hVV hCA
      have B0:=B
      clear B
      have B:=Below.refl wq.heap.size wq
      have kk:=Keeps.refl wq
      obtain⟨cf0,cf1,cf2⟩:=of.r2
      have lf:=of.lt
      have lk:=ok.lt
      have lr:=or.lt
      go_wp2_with fail
      refine(IN _ belowB).mono ?_
      rintro e w21 ⟨vl,rfl,hvl,st⟩
      have B:=bA wq st
      have kp:=kB wq st
      replace kk:=kk.trans kp
      replace of:Blk w21 (w.heap.size) 26 #[.int .i64 (X:Int),.int .i64 (Y:Int),.slice ao N cap]:=Blk.stepsK st
      replace ok:Blk w21 (w.heap.size+1) 32 #[.bool k1,.slice k2 p k4,.bool k5,.slice k6 q k8]:=Blk.stepsK st
      replace or:Blk w21 (w.heap.size+1+1) 24 #[.int .i64 0,.int .i64 0,.int .i64 0,.slice none 0 0]:=Blk.stepsK st
      replace om:Blk w21 (w2.heap.size) 24 #[.int .i64 (X:Int),.int .i64 (Y:Int),.int .i64 (S:Int),.slice va C vc]:=Blk.stepsK st
      clear cf0 cf1 cf2 lf lk lr
      clear kp
      clear st
      have lf:=of.lt
      obtain⟨ck0,ck1,ck2,ck3⟩:=ok.r3
      have lk:=ok.lt
      have lr:=or.lt
      obtain⟨la,lc,rfl⟩:=hvl.shape
      have HI1:=Hid.mk_ hvl
      clear hvl
      rw[HNL.out]at HI1⊢
      go_wp2_with fail
      refine(rclip_c _ HI1.out cl0 hCO.1 hCO.2 (HK.out.keeps (KB.out.trans (kk.trans keepsB))) zk hf).mono ?_
      rintro e w22 ⟨vi,zi,rfl,hvi,hvj,st⟩
      have sk:=bA w21 st
      replace B:=bS B sk
      replace of:=of.steps sk
      replace ok:=ok.steps sk
      replace or:=or.steps sk
      replace om:=om.steps sk
      replace kk:=kk.then_ sk
      clear st sk lf ck0 ck1 ck2 ck3 lk lr
      obtain⟨ia,ic,rfl⟩:=hvi.shape
      have HI2:=Hid.mk_ (And.intro hvj hvi)
      clear hvi hvj
      obtain⟨ni,hni⟩:∃n,(inI (clipR cl k).1).length=n:=⟨_,rfl⟩
      rw[hni]at HI2⊢
      clear hni HI1
      go_wp2_with fail
      refine(rpick_c _ HI2.out.1 HI2.out.2 hCO.1).mono ?_
      rintro e w23 ⟨vp,rfl,hvp,st⟩
      have sk:=bA w22 st
      replace B:=bS B sk
      replace of:=of.steps sk
      replace ok:=ok.steps sk
      replace or:=or.steps sk
      replace om:=om.steps sk
      replace kk:=kk.then_ sk
      clear st sk
      obtain⟨pa,pc,rfl⟩:=hvp.shape
      have HI3:=Hid.mk_ hvp
      clear hvp HI2
      obtain⟨np,hnp⟩:∃n,(keptL cl k).length=n:=⟨_,rfl⟩
      rw[hnp]at HI3⊢
      clear hnp
      go_wp2_with fail
      refine(rmed_c _ HI3.out cl0 hCO.1 hCO.2 hf).mono ?_
      rintro e w24 ⟨va,rfl,hva,st⟩
      have sk:=bA w23 st
      replace B:=bS B sk
      replace of:=of.steps sk
      replace ok:=ok.steps sk
      replace or:=or.steps sk
      replace om:=om.steps sk
      replace kk:=kk.then_ sk
      clear st sk
      obtain⟨a1,a2,a3,a4,a5,a6,a7,a8,rfl⟩:=hva.shape
      have Fa:=Hid.mk_ hva
      clear hva
      have zm_24:w2.heap.size<w24.heap.size:=om.lt
      have zz24:=B.size
      go_wp2_with fail
      refine(RPX _ _ (Fa.out.keeps keepsB)).mono ?_
      rintro e w25 ⟨rfl,st⟩
      have sk:=bA w24 st
      replace B:=bS B sk
      have ou:Blk w25 (w24.heap.size) 32 #[.bool a1,.slice a2 a3 a4,.bool a5,.slice a6 a7 a8]:=Blk.stepsK st
      replace of:=of.steps sk
      replace ok:=ok.steps sk
      replace or:=or.steps sk
      replace om:=om.steps sk
      replace Fa:=Hid.mk_ (Fa.out.steps sk)
      replace kk:=kk.then_ sk
      clear st sk
      skip
      have hV3:=HV.out.steps B
      have B3:Below w.heap.size w w25:=below_steps B0 (Nat.le_refl _) B
      have lW3:=Nat.le_trans hz4 B.size
      have cm3:=om.q3
      have frm:=om.fr
      have lom:=om.lt
      clear HV
      dsimp only
      go_upto_region 19 with fail
      repeat' (first | ((with_reducible show wpList _ _ _ (⟨some 103,_,_,_,_,_⟩::_) _ _); refine app_i64 rfl (.tmp 100) (.tmp 102) rfl (w2.heap.size+1) C (.slice va C vc) (MV C) rfl (hV3.alloc _) w25.heap.size VV rfl (Blk.new _ _ _) (by omega) (by rw[World.size_alloc]; omega) (fun v' w7 hr7 hg7=> ?_); obtain⟨la7,lc7,rfl⟩:=hr7.len; have bM7:=box_post (by omega) om hV3 hg7; have cM7:=bM7.c 3 rfl; have frM7:=bM7.fr; have ltM7:=bM7.lt) | go_values | go_skip | go_guarded | go_step | go_upon)
      obtain⟨h1,h2,h3,h4,h5⟩:=push_post (n₀:=w.heap.size) (L:=w2.heap.size) (i:=3) (cs':=#[.int .i64 (X:Int),.int .i64 (Y:Int),.int .i64 (S:Int),.slice la7 (C+1) lc7]) (by omega) (by omega) (by omega) om hV3 hr7 hg7 rfl
      go_wp2_with fail
      go_roundw
      case rel=>exact⟨i+1,C+1,_,by go_num,by have:=HC.out; omega,by omega,hfull'.out,Nat.le_trans lW3 h2.size,⟨h5 _ _ _ of (by omega) (by decide),h5 _ _ _ ok (by omega) (by decide),h5 _ _ _ or (by omega) (by decide),h3⟩,by rw[HSC.out]; exact h4,B3.trans h2⟩
      case measure=>simp[intOf]; omega
    ·
     obtain rfl:i=NX:=by omega
     have di:decide ((i:Int)<(i:Int))=false:=decide_eq_false (by omega)
     go_wp2_with fail
     go_roundw
     case rel=>exact⟨j+1,C,_,by go_num,by have:=HC.out; rw[Nat.succ_mul]; omega,by omega,HFU.out,hz4,⟨of,ok,or,om⟩,HV.out,B⟩
     case measure=>simp[intOf]; omega
  ·
   obtain rfl:j=NY:=by omega
   have dj:decide ((j:Int)<(j:Int))=false:=decide_eq_false (by omega)
   obtain⟨va,vc,e9⟩:=HV.out.len
   subst e9
   obtain⟨cm0,cm1,cm2,cm3⟩:=om.r3
   obtain⟨cr0,cr1,cr2,cr3⟩:=or.r3
   have fr:=or.fr
   have e8:NX*j=C:=by rw[HC.out,Nat.mul_comm]
   have HE:=HF.out (fun c hc=>HFU.out c (by rw[← e8]; exact hc))
   rw[e8]at HE
   have HLn:=HLen.out C
   clear e8
   go_wp2_with fail
   refine bodyPost_ret (results_row2 rfl _ _ (w.heap.size+1+1) rfl (cs:=#[.int .i64 (X:Int),.int .i64 (Y:Int),.int .i64 (S:Int),.slice va C vc]) (Blk.set2 (cs':=#[.int .i64 (X:Int),.int .i64 (Y:Int),.int .i64 (S:Int),.slice va C vc]) (Blk.set2 (cs':=#[.int .i64 (X:Int),.int .i64 (Y:Int),.int .i64 (S:Int),.slice none 0 0]) (Blk.set2 (cs':=#[.int .i64 (X:Int),.int .i64 (Y:Int),.int .i64 0,.slice none 0 0]) (Blk.set2 (cs':=#[.int .i64 (X:Int),.int .i64 0,.int .i64 0,.slice none 0 0]) or (i:=0) rfl) (i:=1) rfl) (i:=2) rfl) (i:=3) rfl) Tryz.underlying24 rfl (by kernel_rfl)) rfl ?_
   show MeasR _ _ _ _ _ _ _
   rw[HE]
   refine⟨_,rfl,?_,belowB⟩
   have h9:=(((HV.out.setr (g:=w.heap.size+1+1) (i:=0) (u:= .int .i64 (X:Int)) (by omega)).setr (g:=w.heap.size+1+1) (i:=1) (u:= .int .i64 (Y:Int)) (by omega)).setr (g:=w.heap.size+1+1) (i:=2) (u:= .int .i64 (S:Int)) (by omega)).setr (g:=w.heap.size+1+1) (i:=3) (u:= .slice va C vc) (by omega)
   rw[← HLn]at h9
   have:=h9.ints
   rw[HLn]at this
   exact this
end Go.Proofs.YtdkcffnmlllamaaGreat
namespace Go.Proofs.YtdkcffnmlllamaaGreat
open Go.RowKit
theorem rmeasure_bad1 {k1 k5:Bool} {k2 k6:Option Addr} {p k4 q k8:Nat} {ao bo:Option Addr} {N cap M bcap:Nat} {X Y S:Int} {ps:List Int} {o:Option Rat} (w:World) (hP:IntsR w (.slice ao N cap) ps) (hk:FB w (.agg #[.bool k1,.slice k2 p k4,.bool k5,.slice k6 q k8]) o) (zk:∀r,o=some r→sz r 4) (hN:N≤100) (h:fchk X Y ps≠0):Calls Tryz.prog 13 #[.agg #[.int .i64 X,.int .i64 Y,.slice ao N cap],.slice bo M bcap,.int .i64 S,.agg #[.bool k1,.slice k2 p k4,.bool k5,.slice k6 q k8]] w fun e w'=>MR w e w' (fchk X Y ps) 0 0 0 []:=by
 have Cfc:∀w',Steps w w'→Calls Tryz.prog 19 #[.agg #[.int .i64 X,.int .i64 Y,.slice ao N cap]] w' fun e w2=>e = .returned (.int .i64 (fchk X Y ps))∧Steps w' w2:=fun w' s=>pfcheck w' (hP.steps s) (by obtain⟨_,_,e,_⟩:=hP; cases e; omega)
 have h1:(fchk X Y ps != 0)=true:=by simpa using h
 generalize fchk X Y ps=c at *
 clear hP hk zk h
 go_enter Tryz.func13,Tryz.ntmps13
 have kk:=Keeps.refl w
 go_wp2_with fail
 refine(Cfc _ belowB).mono ?_
 rintro e w1 ⟨rfl,st⟩
 have B:=bA w st
 have kp:=kB w st
 replace kk:=kk.trans kp
 have of:Blk w1 (w.heap.size) 26 #[.int .i64 X,.int .i64 Y,.slice ao N cap]:=Blk.stepsK st
 have ok:Blk w1 (w.heap.size+1) 32 #[.bool k1,.slice k2 p k4,.bool k5,.slice k6 q k8]:=Blk.stepsK st
 have or:Blk w1 (w.heap.size+1+1) 24 #[.int .i64 0,.int .i64 0,.int .i64 0,.slice none 0 0]:=Blk.stepsK st
 clear kp
 clear st
 have lf:=of.lt
 have lk:=ok.lt
 obtain⟨cr0,cr1,cr2,cr3,fr,lr⟩:=or.s3
 go_wp2_with fail
 refine bodyPost_ret (results_row2 rfl _ _ (w.heap.size+1+1) rfl (cs:=#[.int .i64 0,.int .i64 0,.int .i64 0,.slice none 0 0]) ownD Tryz.underlying24 rfl (by kernel_rfl)) rfl ?_
 exact⟨_,rfl,IntsR.nil _,belowB⟩
theorem rmeasure_bad2 {k1 k5:Bool} {k2 k6:Option Addr} {p k4 q k8:Nat} {ao bo:Option Addr} {N cap M bcap:Nat} {X Y S:Int} {ps:List Int} {o:Option Rat} (w:World) (hP:IntsR w (.slice ao N cap) ps) (hk:FB w (.agg #[.bool k1,.slice k2 p k4,.bool k5,.slice k6 q k8]) o) (zk:∀r,o=some r→sz r 4) (hN:N≤100) (h0:fchk X Y ps=0) (h:¬(M=N∧1≤S∧S≤30∧facB o=true)):Calls Tryz.prog 13 #[.agg #[.int .i64 X,.int .i64 Y,.slice ao N cap],.slice bo M bcap,.int .i64 S,.agg #[.bool k1,.slice k2 p k4,.bool k5,.slice k6 q k8]] w fun e w'=>MR w e w' 2 0 0 0 []:=by
 have Cfc:∀w',Steps w w'→Calls Tryz.prog 19 #[.agg #[.int .i64 X,.int .i64 Y,.slice ao N cap]] w' fun e w2=>e = .returned (.int .i64 0)∧Steps w' w2:=fun w' s=>by
  have:=pfcheck (W:=X) (H:=Y) w' (hP.steps s) (by obtain⟨_,_,e,_⟩:=hP; cases e; omega)
  rwa[h0]at this
 have FAC:∀w',Keeps w w'→Calls Tryz.prog 35 #[.agg #[.bool k1,.slice k2 p k4,.bool k5,.slice k6 q k8]] w' fun e w2=>e = .returned (.bool (facB o))∧Steps w' w2:=fun w' kk=>pvfactor w' (hk.keeps kk) zk
 clear hP hk zk h0
 have hD:M≠N∨(M=N∧S<1)∨(M=N∧¬S<1∧30<S)∨(M=N∧¬S<1∧¬30<S∧facB o=false):=by
  cases hf:facB o with
  | false=>simp only[and_true]; omega
  | true=>simp only[hf,and_true]at h; omega
 clear h
 rcases hD with g1 | ⟨g1,g2⟩ | ⟨g1,g2,g3⟩ | ⟨g1,g2,g3,hf⟩
 focus
  have nn:((M:Int) != (N:Int))=true:=by simp; omega
 rotate_left
 focus
  have nn:((M:Int) != (N:Int))=false:=by simp; omega
 rotate_left
 focus
  have nn:((M:Int) != (N:Int))=false:=by simp; omega
 rotate_left
 ·
  have nn:((M:Int) != (N:Int))=false:=by simp; omega
  rw[hf]at FAC
  clear hf
  go_enter Tryz.func13,Tryz.ntmps13
  have kk:=Keeps.refl w
  go_wp2_with fail
  refine(Cfc _ belowB).mono ?_
  rintro e w1 ⟨rfl,hb1⟩
  have st:Steps _ w1:=hb1
  have B:=bA w st
  have kp:=kB w st
  replace kk:=kk.trans kp
  have of:Blk w1 (w.heap.size) 26 #[.int .i64 X,.int .i64 Y,.slice ao N cap]:=Blk.stepsK st
  have ok:Blk w1 (w.heap.size+1) 32 #[.bool k1,.slice k2 p k4,.bool k5,.slice k6 q k8]:=Blk.stepsK st
  have or:Blk w1 (w.heap.size+1+1) 24 #[.int .i64 0,.int .i64 0,.int .i64 0,.slice none 0 0]:=Blk.stepsK st
  clear kp
  clear st
  obtain⟨cf0,cf1,cf2⟩:=of.r2
  have lf:=of.lt
  obtain⟨ck0,ck1,ck2,ck3⟩:=ok.r3
  have lk:=ok.lt
  have lr:=or.lt
  go_wp2_with fail
  refine(FAC _ (kk.trans keepsB)).mono ?_
  rintro e w2 ⟨rfl,st⟩
  have sk:=bA w1 st
  replace B:=bS B sk
  replace of:=of.steps sk
  replace ok:=ok.steps sk
  replace or:=or.steps sk
  replace kk:=kk.then_ sk
  clear st sk cf0 cf1 cf2 lf ck0 ck1 ck2 ck3 lk lr
  have lf:=of.lt
  have lk:=ok.lt
  obtain⟨cr0,cr1,cr2,cr3,fr,lr⟩:=or.s3
  go_wp2_with fail
  refine bodyPost_ret (results_row2 rfl _ _ (w.heap.size+1+1) rfl (cs:=#[.int .i64 0,.int .i64 0,.int .i64 0,.slice none 0 0]) ownD Tryz.underlying24 rfl (by kernel_rfl)) rfl ?_
  exact⟨_,rfl,IntsR.nil _,belowB⟩
 all_goals
  go_enter Tryz.func13,Tryz.ntmps13
  have kk:=Keeps.refl w
  go_wp2_with fail
  refine(Cfc _ belowB).mono ?_
  rintro e w1 ⟨rfl,hb1⟩
  have st:Steps _ w1:=hb1
  have B:=bA w st
  have kp:=kB w st
  replace kk:=kk.trans kp
  have of:Blk w1 (w.heap.size) 26 #[.int .i64 X,.int .i64 Y,.slice ao N cap]:=Blk.stepsK st
  have ok:Blk w1 (w.heap.size+1) 32 #[.bool k1,.slice k2 p k4,.bool k5,.slice k6 q k8]:=Blk.stepsK st
  have or:Blk w1 (w.heap.size+1+1) 24 #[.int .i64 0,.int .i64 0,.int .i64 0,.slice none 0 0]:=Blk.stepsK st
  clear kp
  clear st
  obtain⟨cf0,cf1,cf2⟩:=of.r2
  have lf:=of.lt
  have lk:=ok.lt
  obtain⟨cr0,cr1,cr2,cr3,fr,lr⟩:=or.s3
  go_wp2_with fail
  refine bodyPost_ret (results_row2 rfl _ _ (w.heap.size+1+1) rfl (cs:=#[.int .i64 0,.int .i64 0,.int .i64 0,.slice none 0 0]) ownD Tryz.underlying24 rfl (by kernel_rfl)) rfl ?_
  exact⟨_,rfl,IntsR.nil _,belowB⟩
theorem rmeasure {k1 k5:Bool} {k2 k6:Option Addr} {p k4 q k8:Nat} {ao bo:Option Addr} {N cap M bcap:Nat} {X Y S:Int} {ps:List Int} {o:Option Rat} (w:World) (hP:IntsR w (.slice ao N cap) ps) (hk:FB w (.agg #[.bool k1,.slice k2 p k4,.bool k5,.slice k6 q k8]) o) (zk:∀r,o=some r→sz r 4) (hN:N≤100) {bl:List Bool} (hB:BoolsR w (.slice bo M bcap) bl):Calls Tryz.prog 13 #[.agg #[.int .i64 X,.int .i64 Y,.slice ao N cap],.slice bo M bcap,.int .i64 S,.agg #[.bool k1,.slice k2 p k4,.bool k5,.slice k6 q k8]] w fun e w'=>MR' w e w' (mRes X Y ps bl S o):=by
 have hl:ps.length=N:=by obtain⟨_,_,e,_⟩:=hP; cases e; rfl
 have hbl:bl.length=M:=by obtain⟨_,_,e,_⟩:=hB; cases e; rfl
 unfold mRes
 by_cases h0:fchk X Y ps=0
 ·
  rw[if_neg (by simpa using h0)]
  by_cases h:M=N∧1≤S∧S≤30∧facB o=true
  ·
   rw[if_pos (by rw[hl,hbl]; exact h)]
   obtain⟨rfl,s1,s2,hf⟩:=h
   have hok:1≤X∧X≤100∧1≤Y∧Y≤100∧(ps.length:Int)=X*Y∧okV ps ps.length=true:=by
    rcases Classical.em (1≤X∧X≤100∧1≤Y∧Y≤100∧(ps.length:Int)=X*Y∧okV ps ps.length=true)with g | g
    · exact g
    · rw[fchk_bad g]at h0; cases h0
   obtain⟨x1,x2,y1,y2,hn,hv⟩:=hok
   obtain⟨X',rfl⟩:=Int.eq_ofNat_of_zero_le (show 0≤X by omega)
   obtain⟨Y',rfl⟩:=Int.eq_ofNat_of_zero_le (show 0≤Y by omega)
   obtain⟨S',rfl⟩:=Int.eq_ofNat_of_zero_le (show 0≤S by omega)
   obtain⟨k,rfl,-,-⟩:=facB_ok hf
   rw[hl]at hn hv
   refine(rmeasure_ok w hP hB (show FR w _ k from hk) (zk k rfl) hf hl hbl (by rw[← Int.natCast_mul]at hn; omega) hN hv (by omega) (by omega) (by omega) (by omega) (by omega) (by omega)).mono ?_
   rintro e w' he
   show MR' _ _ _ (match measS (fun t=>bl.getD t false) (fun t=>ps.getD t 0) X' Y' S' k with
    | none=>_
    | some l=>_)
   cases hm:measS (fun t=>bl.getD t false) (fun t=>ps.getD t 0) X' Y' S' k with
   | none=>rw[hm]at he; obtain⟨rfl,hs⟩:=he; exact⟨_,rfl,IntsR.nil _,hs⟩
   | some l=>rw[hm]at he; obtain⟨v,rfl,hi,hs⟩:=he; exact⟨v,rfl,hi,hs⟩
  ·
   rw[if_neg (by rw[hl,hbl]; exact h)]
   exact(rmeasure_bad2 w hP hk zk hN h0 h).mono fun e w' h=>h
 ·
  rw[if_pos h0]
  exact(rmeasure_bad1 w hP hk zk hN h0).mono fun e w' h=>h
end Go.Proofs.YtdkcffnmlllamaaGreat
namespace Go.Proofs.YtdkcffnmlllamaaGreat
open Go.RowKit
theorem msame_eq {ao bo:Option Addr} {n cap bcap:Nat} {X Y s:Int} {l:List Int} (w:World) (ha:IntsR w (.slice ao n cap) l) (hb:IntsR w (.slice bo n bcap) l) (hl:l.length≤100000) :
  Calls Tryz.prog 16 #[.agg #[.int .i64 X,.int .i64 Y,.int .i64 s,.slice ao n cap],.agg #[.int .i64 X,.int .i64 Y,.int .i64 s,.slice bo n bcap]] w fun e w'=>e = .returned (.bool true)∧Steps w w':=by
 have hn:l.length=n:=by obtain⟨_,_,e,_⟩:=ha; cases e; rfl
 have HA:=Hid.mk_ ha
 have HB:=Hid.mk_ hb
 have HL:=Hid.mk_ hn
 have nx:(X != X)=false:=by simp
 have ny:(Y != Y)=false:=by simp
 have ns:(s != s)=false:=by simp
 have nn:((n:Int) != (n:Int))=false:=by simp
 rw[hn]at hl
 clear ha hb hn
 go_enter Tryz.func16,Tryz.ntmps16
 go_wp2_with fail
 go_loopw [5] (fun kk wr=>∃t:Nat,t≤n∧kk = .int .i64 t∧Blk wr w.heap.size 24 #[.int .i64 X,.int .i64 Y,.int .i64 s,.slice ao n cap]∧Blk wr (w.heap.size+1) 24 #[.int .i64 X,.int .i64 Y,.int .i64 s,.slice bo n bcap]∧Below w.heap.size w wr) (fun kk _=>n-(intOf kk).toNat)
 case atStart=>exact⟨0,by omega,rfl,ownK,ownK,belowB⟩
 case round=>
  obtain⟨t,ht,rfl,oa,ob,B⟩:=hrel
  have ca3:=oa.c 3 rfl
  have cb3:=ob.c 3 rfl
  rcases Nat.lt_or_ge t n with tn | tn
  ·
   have hlt:decide ((t:Int)<(n:Int))=true:=decide_eq_true (by omega)
   obtain⟨b,off,rfl,hbl,h0⟩:=HA.out.at' (t:=t) (by have:=HL.out; omega)
   obtain⟨b2,off2,rfl,hbl2,h02⟩:=HB.out.at' (t:=t) (by have:=HL.out; omega)
   have c0:wr.cell? ⟨b,off+t,none⟩=some (.int .i64 (l.getD t 0)):=(B.cell (p:=⟨b,_,none⟩) hbl).trans h0
   have c1:wr.cell? ⟨b2,off2+t,none⟩=some (.int .i64 (l.getD t 0)):=(B.cell (p:=⟨b2,_,none⟩) hbl2).trans h02
   obtain⟨y,hy⟩:∃y,l.getD t 0=y:=⟨_,rfl⟩
   rw[hy]at c0 c1
   have nyy:(y != y)=false:=by simp
   clear h0 h02 hy
   go_upto_region 6 with fail
   go_region
   go_wp2_with fail
   go_roundw
   case rel=>exact⟨t+1,by omega,by go_num,ownK,ownK,belowB⟩
   case measure=>simp[intOf]; omega
  ·
   obtain rfl:t=n:=by omega
   go_wp2
   go_returns
   exact⟨rfl,B⟩
end Go.Proofs.YtdkcffnmlllamaaGreat
namespace Go.Proofs.YtdkcffnmlllamaaGreat
open Go.RowKit
theorem pmgreat_big {mo:Option Addr} {nm mcap:Nat} {x y z:Int} (w:World) (g1:200<nm) :
  Calls Tryz.prog 9 #[.agg #[.int .i64 x,.int .i64 y,.int .i64 z,.slice mo nm mcap]] w fun e w'=>e = .returned (.bool true)∧Steps w w':=by
 have g2:(200:Int)<(nm:Int):=by omega
 clear g1
 go_enter Tryz.func9,Tryz.ntmps9
 go_wp2
 go_returns
 exact⟨rfl,belowB⟩
theorem measures_t0 {k1 k5:Bool} {k2 k6 mo:Option Addr} {p k4 q k8 nm mcap:Nat} {ao bo:Option Addr} {N cap M bcap:Nat} {x y z X Y S:Int} (w:World) (GM:∀w',Steps w w'→Calls Tryz.prog 9 #[.agg #[.int .i64 x,.int .i64 y,.int .i64 z,.slice mo nm mcap]] w' fun e w2=>e = .returned (.bool true)∧Steps w' w2) :
  Calls Tryz.prog 3 #[.agg #[.int .i64 x,.int .i64 y,.int .i64 z,.slice mo nm mcap],.agg #[.int .i64 X,.int .i64 Y,.slice ao N cap],.slice bo M bcap,.int .i64 S,.agg #[.bool k1,.slice k2 p k4,.bool k5,.slice k6 q k8]] w fun e w'=>e = .returned (.bool true)∧Steps w w':=by
 go_enter Tryz.func3,Tryz.ntmps3
 have kk:=Keeps.refl w
 go_wp2_with fail
 refine(GM _ belowB).mono ?_
 rintro e w1 ⟨rfl,st⟩
 have B:=bA w st
 have kp:=kB w st
 replace kk:=kk.trans kp
 have om:Blk w1 (w.heap.size) 24 #[.int .i64 x,.int .i64 y,.int .i64 z,.slice mo nm mcap]:=Blk.stepsK st
 have of:Blk w1 (w.heap.size+1) 26 #[.int .i64 X,.int .i64 Y,.slice ao N cap]:=Blk.stepsK st
 have ok:Blk w1 (w.heap.size+1+1) 32 #[.bool k1,.slice k2 p k4,.bool k5,.slice k6 q k8]:=Blk.stepsK st
 clear kp
 clear st
 go_wp2_with fail
 refine bodyPost_ret (by simp[results,Tryz.results3,go_sem,]; rfl) rfl ?_
 exact⟨rfl,belowB⟩
theorem measures_t1 {k1 k5:Bool} {k2 k6 mo:Option Addr} {p k4 q k8 nm mcap:Nat} {ao bo:Option Addr} {N cap M bcap:Nat} {x y z X Y S:Int} (w:World) (GM:∀w',Steps w w'→Calls Tryz.prog 9 #[.agg #[.int .i64 x,.int .i64 y,.int .i64 z,.slice mo nm mcap]] w' fun e w2=>e = .returned (.bool false)∧Steps w' w2) (GF:∀w',Calls Tryz.prog 10 #[.agg #[.int .i64 X,.int .i64 Y,.slice ao N cap],.slice bo M bcap] w' fun e w2=>e = .returned (.bool true)∧Steps w' w2) :
  Calls Tryz.prog 3 #[.agg #[.int .i64 x,.int .i64 y,.int .i64 z,.slice mo nm mcap],.agg #[.int .i64 X,.int .i64 Y,.slice ao N cap],.slice bo M bcap,.int .i64 S,.agg #[.bool k1,.slice k2 p k4,.bool k5,.slice k6 q k8]] w fun e w'=>e = .returned (.bool true)∧Steps w w':=by
 go_enter Tryz.func3,Tryz.ntmps3
 have kk:=Keeps.refl w
 go_wp2_with fail
 refine(GM _ belowB).mono ?_
 rintro e w1 ⟨rfl,st⟩
 have B:=bA w st
 have kp:=kB w st
 replace kk:=kk.trans kp
 have om:Blk w1 (w.heap.size) 24 #[.int .i64 x,.int .i64 y,.int .i64 z,.slice mo nm mcap]:=Blk.stepsK st
 have of:Blk w1 (w.heap.size+1) 26 #[.int .i64 X,.int .i64 Y,.slice ao N cap]:=Blk.stepsK st
 have ok:Blk w1 (w.heap.size+1+1) 32 #[.bool k1,.slice k2 p k4,.bool k5,.slice k6 q k8]:=Blk.stepsK st
 clear kp
 clear st
 have lm:=om.lt
 obtain⟨cf0,cf1,cf2⟩:=of.r2
 have lf:=of.lt
 have lk:=ok.lt
 go_wp2_with fail
 refine(GF _).mono ?_
 rintro e w2 ⟨rfl,st⟩
 have sk:=bA w1 st
 replace B:=bS B sk
 replace om:=om.steps sk
 replace of:=of.steps sk
 replace ok:=ok.steps sk
 replace kk:=kk.then_ sk
 clear st sk lm cf0 cf1 cf2 lf lk
 go_wp2_with fail
 refine bodyPost_ret (by simp[results,Tryz.results3,go_sem,]; rfl) rfl ?_
 exact⟨rfl,belowB⟩
theorem measures_t2 {k1 k5:Bool} {k2 k6 mo:Option Addr} {p k4 q k8 nm mcap:Nat} {ao bo:Option Addr} {N cap M bcap:Nat} {x y z X Y S:Int} (w:World) (GM:∀w',Steps w w'→Calls Tryz.prog 9 #[.agg #[.int .i64 x,.int .i64 y,.int .i64 z,.slice mo nm mcap]] w' fun e w2=>e = .returned (.bool false)∧Steps w' w2) (GF:∀w',Calls Tryz.prog 10 #[.agg #[.int .i64 X,.int .i64 Y,.slice ao N cap],.slice bo M bcap] w' fun e w2=>e = .returned (.bool false)∧Steps w' w2) (SM:∀w',Calls Tryz.prog 11 #[.agg #[.bool k1,.slice k2 p k4,.bool k5,.slice k6 q k8]] w' fun e w2=>e = .returned (.bool false)∧Steps w' w2) :
  Calls Tryz.prog 3 #[.agg #[.int .i64 x,.int .i64 y,.int .i64 z,.slice mo nm mcap],.agg #[.int .i64 X,.int .i64 Y,.slice ao N cap],.slice bo M bcap,.int .i64 S,.agg #[.bool k1,.slice k2 p k4,.bool k5,.slice k6 q k8]] w fun e w'=>e = .returned (.bool true)∧Steps w w':=by
 go_enter Tryz.func3,Tryz.ntmps3
 have kk:=Keeps.refl w
 go_wp2_with fail
 refine(GM _ belowB).mono ?_
 rintro e w1 ⟨rfl,st⟩
 have B:=bA w st
 have kp:=kB w st
 replace kk:=kk.trans kp
 have om:Blk w1 (w.heap.size) 24 #[.int .i64 x,.int .i64 y,.int .i64 z,.slice mo nm mcap]:=Blk.stepsK st
 have of:Blk w1 (w.heap.size+1) 26 #[.int .i64 X,.int .i64 Y,.slice ao N cap]:=Blk.stepsK st
 have ok:Blk w1 (w.heap.size+1+1) 32 #[.bool k1,.slice k2 p k4,.bool k5,.slice k6 q k8]:=Blk.stepsK st
 clear kp
 clear st
 have lm:=om.lt
 obtain⟨cf0,cf1,cf2⟩:=of.r2
 have lf:=of.lt
 have lk:=ok.lt
 go_wp2_with fail
 refine(GF _).mono ?_
 rintro e w2 ⟨rfl,st⟩
 have sk:=bA w1 st
 replace B:=bS B sk
 replace om:=om.steps sk
 replace of:=of.steps sk
 replace ok:=ok.steps sk
 replace kk:=kk.then_ sk
 clear st sk lm cf0 cf1 cf2 lf lk
 have lm:=om.lt
 have lf:=of.lt
 obtain⟨ck0,ck1,ck2,ck3⟩:=ok.r3
 have lk:=ok.lt
 go_wp2_with fail
 refine(SM _).mono ?_
 rintro e w3 ⟨rfl,st⟩
 have sk:=bA w2 st
 replace B:=bS B sk
 replace om:=om.steps sk
 replace of:=of.steps sk
 replace ok:=ok.steps sk
 replace kk:=kk.then_ sk
 clear st sk lm lf ck0 ck1 ck2 ck3 lk
 go_wp2_with fail
 refine bodyPost_ret (by simp[results,Tryz.results3,go_sem,]; rfl) rfl ?_
 exact⟨rfl,belowB⟩
theorem measures_main {k1 k5:Bool} {k2 k6 mo:Option Addr} {p k4 q k8 nm mcap:Nat} {ao bo:Option Addr} {N cap M bcap:Nat} {x y z X Y S:Int} (w:World) {lm l1:List Int} {c1 X1 Y1 s1:Int} (hm:IntsR w (.slice mo nm mcap) lm) (hm1:lm.length≤100000) (hl1:l1.length≤100000) (GM:∀w',Steps w w'→Calls Tryz.prog 9 #[.agg #[.int .i64 x,.int .i64 y,.int .i64 z,.slice mo nm mcap]] w' fun e w2=>e = .returned (.bool false)∧Steps w' w2) (GF:∀w',Calls Tryz.prog 10 #[.agg #[.int .i64 X,.int .i64 Y,.slice ao N cap],.slice bo M bcap] w' fun e w2=>e = .returned (.bool false)∧Steps w' w2) (SM:∀w',Calls Tryz.prog 11 #[.agg #[.bool k1,.slice k2 p k4,.bool k5,.slice k6 q k8]] w' fun e w2=>e = .returned (.bool true)∧Steps w' w2) (M1:∀w',Steps w w'→Calls Tryz.prog 12 #[.agg #[.int .i64 X,.int .i64 Y,.slice ao N cap],.slice bo M bcap,.int .i64 S,.agg #[.bool k1,.slice k2 p k4,.bool k5,.slice k6 q k8]] w' fun e w2=>∃v,e = .returned (.tuple #[.agg #[.int .i64 X1,.int .i64 Y1,.int .i64 s1,v],.int .i64 c1])∧IntsR w2 v l1∧Steps w' w2) (M2:∀w' va,Steps w w'→IntsR w' va l1→Calls Tryz.prog 13 #[.agg #[.int .i64 X,.int .i64 Y,.slice ao N cap],.slice bo M bcap,.int .i64 S,.agg #[.bool k1,.slice k2 p k4,.bool k5,.slice k6 q k8]] w' fun e w2=>∃v,e = .returned (.tuple #[.agg #[.int .i64 X1,.int .i64 Y1,.int .i64 s1,v],.int .i64 c1])∧IntsR w2 v l1∧IntsR w2 va l1∧Steps w' w2) :
  Calls Tryz.prog 3 #[.agg #[.int .i64 x,.int .i64 y,.int .i64 z,.slice mo nm mcap],.agg #[.int .i64 X,.int .i64 Y,.slice ao N cap],.slice bo M bcap,.int .i64 S,.agg #[.bool k1,.slice k2 p k4,.bool k5,.slice k6 q k8]] w fun e w'=>e = .returned (.bool true)∧Steps w w':=by
 have HM:=Hid.mk_ hm
 obtain⟨n1,hn1⟩:∃n,l1.length=n:=⟨_,rfl⟩
 have HN1:=Hid.mk_ hn1
 obtain⟨cm,hcm⟩:∃c,mchk x y z lm=c:=⟨_,rfl⟩
 have HMC:=Hid.mk_ hcm
 have ecm:(cm==cm)=true:=by simp
 have ec1:(c1==c1)=true:=by simp
 clear hm hn1 hcm
 go_enter Tryz.func3,Tryz.ntmps3
 have kk:=Keeps.refl w
 go_wp2_with fail
 refine(GM _ belowB).mono ?_
 rintro e w1 ⟨rfl,st⟩
 have B:=bA w st
 have kp:=kB w st
 replace kk:=kk.trans kp
 have om:Blk w1 (w.heap.size) 24 #[.int .i64 x,.int .i64 y,.int .i64 z,.slice mo nm mcap]:=Blk.stepsK st
 have of:Blk w1 (w.heap.size+1) 26 #[.int .i64 X,.int .i64 Y,.slice ao N cap]:=Blk.stepsK st
 have ok:Blk w1 (w.heap.size+1+1) 32 #[.bool k1,.slice k2 p k4,.bool k5,.slice k6 q k8]:=Blk.stepsK st
 clear kp
 clear st
 have lm:=om.lt
 obtain⟨cf0,cf1,cf2⟩:=of.r2
 have lf:=of.lt
 have lk:=ok.lt
 go_wp2_with fail
 refine(GF _).mono ?_
 rintro e w2 ⟨rfl,st⟩
 have sk:=bA w1 st
 replace B:=bS B sk
 replace om:=om.steps sk
 replace of:=of.steps sk
 replace ok:=ok.steps sk
 replace kk:=kk.then_ sk
 clear st sk lm cf0 cf1 cf2 lf lk
 have lm:=om.lt
 have lf:=of.lt
 obtain⟨ck0,ck1,ck2,ck3⟩:=ok.r3
 have lk:=ok.lt
 go_wp2_with fail
 refine(SM _).mono ?_
 rintro e w3 ⟨rfl,st⟩
 have sk:=bA w2 st
 replace B:=bS B sk
 replace om:=om.steps sk
 replace of:=of.steps sk
 replace ok:=ok.steps sk
 replace kk:=kk.then_ sk
 clear st sk lm lf ck0 ck1 ck2 ck3 lk
 have lm:=om.lt
 obtain⟨cf0,cf1,cf2⟩:=of.r2
 have lf:=of.lt
 obtain⟨ck0,ck1,ck2,ck3⟩:=ok.r3
 have lk:=ok.lt
 go_wp2_with fail
 refine(M1 _ belowB).mono ?_
 rintro e w4 ⟨va,rfl,hva,st⟩
 have sk:=bA w3 st
 replace B:=bS B sk
 replace om:=om.steps sk
 replace of:=of.steps sk
 replace ok:=ok.steps sk
 replace kk:=kk.then_ sk
 clear st sk lm cf0 cf1 cf2 lf ck0 ck1 ck2 ck3 lk
 have lm:=om.lt
 obtain⟨cf0,cf1,cf2⟩:=of.r2
 have lf:=of.lt
 obtain⟨ck0,ck1,ck2,ck3⟩:=ok.r3
 have lk:=ok.lt
 obtain⟨va,vc,rfl⟩:=hva.shape
 rw[HN1.out]at hva⊢
 have HA:=Hid.mk_ hva
 clear hva
 have Bx:=Below.refl w4.heap.size w4
 have zk_4:w.heap.size+1+1<w4.heap.size:=ok.lt
 have zz4:=B.size
 go_wp2_with fail
 refine(M2 _ _ belowB (HA.out.steps (show Below w4.heap.size w4 _ from belowB))).mono ?_
 rintro e w5 ⟨vb,rfl,hvb,hva,st⟩
 have sk:=bA w4 st
 replace B:=bS B sk
 have oa:Blk w5 (w4.heap.size) 24 #[.int .i64 X1,.int .i64 Y1,.int .i64 s1,.slice va n1 vc]:=Blk.stepsK st
 replace om:=om.steps sk
 replace of:=of.steps sk
 replace ok:=ok.steps sk
 replace kk:=kk.then_ sk
 clear st sk lm cf0 cf1 cf2 lf ck0 ck1 ck2 ck3 lk
 obtain⟨vb,vd,rfl⟩:=hvb.shape
 rw[HN1.out]at hvb⊢
 have HC:=Hid.mk_ (And.intro hva hvb)
 clear hvb hva HA
 skip
 have B0:=B
 clear B
 have B:=Below.refl w5.heap.size w5
 have kk:=Keeps.refl w5
 have HS:=Hid.mk_ (fun(W':World) (s:Steps w5 W')=>msame_eq (X:=X1) (Y:=Y1) (s:=s1) W' (HC.out.1.steps s) (HC.out.2.steps s) hl1)
 have SC:=Hid.mk_ (fun(W':World) (s:Steps w5 W')=>scheck (X:=x) (Y:=y) (s:=z) W' (HM.out.steps (below_steps B0 (Nat.le_refl _) s)) hm1)
 have RC:=Hid.mk_ (fun(W':World) (s:Steps w5 W')=>prmcheck (X:=x) (Y:=y) (s:=z) W' (HM.out.steps (below_steps B0 (Nat.le_refl _) s)) hm1)
 rw[HMC.out]at SC RC
 obtain⟨cm0,cm1,cm2,cm3⟩:=om.r3
 have lm:=om.lt
 have lf:=of.lt
 have lk:=ok.lt
 obtain⟨ca0,ca1,ca2,ca3⟩:=oa.r3
 have la:=oa.lt
 go_upto_region 5 with fail
 refine Reg.chn (fun N0 D v W=>Below w5.heap.size w5 W∧Keeps w5 W∧N0≤W.heap.size∧Blk W (w.heap.size) 24 #[.int .i64 x,.int .i64 y,.int .i64 z,.slice mo nm mcap]∧Blk W (w.heap.size+1) 26 #[.int .i64 X,.int .i64 Y,.slice ao N cap]∧Blk W (w.heap.size+1+1) 32 #[.bool k1,.slice k2 p k4,.bool k5,.slice k6 q k8]∧Blk W (w4.heap.size) 24 #[.int .i64 X1,.int .i64 Y1,.int .i64 s1,.slice va n1 vc]∧Blk W (w5.heap.size) 24 #[.int .i64 X1,.int .i64 Y1,.int .i64 s1,.slice vb n1 vd]) [1,3,8] [(1,fun z_=>z_ = .int .i64 cm),(3,fun z_=>z_ = .int .i64 cm),(8,fun z_=>z_ = .bool true)] [] [(16,[(1,some 44),(3,some 46),(8,some 51)])] [] (fun N0 hN0=>⟨fun v=> ?_,fun D v v' W hv hj=> ?_,fun ops' Q' hops hQ=> ?_⟩)
 · exact⟨belowB,keepsB,leD hN0,ownK,ownK,ownK,ownK,ownK⟩
 · exact hj
 clear cm0 cm1 cm2 cm3 lm lf lk ca0 ca1 ca2 ca3 la
 clear hN0
 refine Reg.RPf 43 (fun _ _ _ h=>h.2.2.2.1.r3) ?_
 refine Reg.RCv (fun D v' W' hj=>SC.out W' hj.1) ?_
 refine Reg.RC_at (b:=⟨#[_,_,_,_,_,_,_,_,_,_,_,_,_,_,_,_,_,_,_,_,_,_,_,_,_,_,_,_,_,_,_,_,_,_,_,_,_,_,_,_,_,_,_,_,_,_,_,_,_,_,_,_,_,_,_,_,_,_],_⟩) rfl ?_
 refine Reg.RPf 45 (fun _ _ _ h=>h.2.2.2.1.r3) ?_
 refine Reg.RCv (fun D v' W' hj=>RC.out W' hj.1) ?_
 refine Reg.RC_at (b:=⟨#[_,_,_,_,_,_,_,_,_,_,_,_,_,_,_,_,_,_,_,_,_,_,_,_,_,_,_,_,_,_,_,_,_,_,_,_,_,_,_,_,_,_,_,_,_,_,_,_,_,_,_,_,_,_,_,_,_,_],_⟩) rfl ?_
 repeat refine Reg.RP0 _ ?_
 refine Reg.RPh hops 49 (fun _ _ _ h=>h.2.2.2.2.2.2.1.r3) ?_
 refine Reg.RPh hops 50 (fun _ _ _ h=>h.2.2.2.2.2.2.2.r3) ?_
 refine Reg.RCw hops (fun D v' W' hj=>HS.out W' hj.1) ?_
 refine Reg.RC_at (b:=⟨#[_,_,_,_,_,_,_,_,_,_,_,_,_,_,_,_,_,_,_,_,_,_,_,_,_,_,_,_,_,_,_,_,_,_,_,_,_,_,_,_,_,_,_,_,_,_,_,_,_,_,_,_,_,_,_,_,_,_],_⟩) rfl ?_
 repeat refine Reg.RP0 _ ?_
 refine Reg.RPg hops 54 ?_
 refine Reg.RPg hops 55 ?_
 refine Reg.RPg hops 56 ?_
 repeat refine Reg.RP0 _ ?_
 refine Reg.RC_end (fun Dn v' w31 hd hj hf=> ?_)
 obtain⟨B,jk,jn,om,of,ok,oa,ob⟩:=hj
 replace kk:=kk.trans jk
 clear hd hf jk
 refine hQ _ _ ?_
 clear hQ hops Q' ops'
 go_wp2_with fail
 refine bodyPost_ret (by simp[results,Tryz.results3,go_sem,]; rfl) rfl ?_
 exact⟨rfl,below_steps B0 (Nat.le_refl _) belowB⟩
end Go.Proofs.YtdkcffnmlllamaaGreat
namespace Go.Proofs.YtdkcffnmlllamaaGreat
open Go.RowKit
theorem cNn_le {n s:Nat} (h1:1≤n) (h2:1≤s):cNn n s≤n:=by
 rcases Nat.lt_or_ge n (cNn n s)with g | g
 ·
  have:=(cNn_lt h1 h2).1 g
  have:=Nat.le_mul_of_pos_right n h2
  omega
 · exact g
theorem fchk_zero {X Y:Int} {l:List Int} (h:fchk X Y l=0):1≤X∧X≤100∧1≤Y∧Y≤100∧(l.length:Int)=X*Y∧okV l l.length=true:=by
 rcases Classical.em (1≤X∧X≤100∧1≤Y∧Y≤100∧(l.length:Int)=X*Y∧okV l l.length=true)with g | g
 · exact g
 · rw[fchk_bad g]at h; cases h
theorem mRes_len {X Y S:Int} {ps:List Int} {bl:List Bool} {o:Option Rat} : (mRes X Y ps bl S o).l.length≤100000:=by
 unfold mRes
 by_cases h0:fchk X Y ps=0
 ·
  rw[if_neg (by simpa using h0)]
  obtain⟨x1,x2,y1,y2,-,-⟩:=fchk_zero h0
  by_cases h1:bl.length=ps.length∧1≤S∧S≤30∧facB o=true
  ·
   rw[if_pos h1]
   cases hm:measS (fun t=>bl.getD t false) (fun t=>ps.getD t 0) X.toNat Y.toNat S.toNat (o.getD 0)with
   | none=>exact Nat.zero_le _
   | some l=>
    show l.length≤100000
    unfold measS at hm
    split at hm
    ·
     cases hm
     rw[mvals_len]
     have a:=cNn_le (n:=X.toNat) (s:=S.toNat) (by omega) (by omega)
     have b:=cNn_le (n:=Y.toNat) (s:=S.toNat) (by omega) (by omega)
     exact Nat.le_trans (Nat.mul_le_mul (show cNn X.toNat S.toNat≤100 by omega) (show cNn Y.toNat S.toNat≤100 by omega)) (by omega)
    · cases hm
  · rw[if_neg h1]; exact Nat.zero_le _
 · rw[if_pos h0]; exact Nat.zero_le _
theorem measures_law {k1 k5:Bool} {k2 k6 mo:Option Addr} {p k4 q k8 nm mcap:Nat} {ao bo:Option Addr} {N cap M bcap:Nat} {x y z X Y S:Int} {lm ps:List Int} {bl:List Bool} {o:Option Rat} (w:World) (hm:IntsR w (.slice mo nm mcap) lm) (hP:IntsR w (.slice ao N cap) ps) (hB:BoolsR w (.slice bo M bcap) bl) (hk:FB w (.agg #[.bool k1,.slice k2 p k4,.bool k5,.slice k6 q k8]) o) (ho:∀z,o=some z→absN z.num≤bp p∧(z.den:Int)≤bp q) :
  Calls Tryz.prog 3 #[.agg #[.int .i64 x,.int .i64 y,.int .i64 z,.slice mo nm mcap],.agg #[.int .i64 X,.int .i64 Y,.slice ao N cap],.slice bo M bcap,.int .i64 S,.agg #[.bool k1,.slice k2 p k4,.bool k5,.slice k6 q k8]] w fun e w'=>e = .returned (.bool true)∧Steps w w':=by
 have hlm:lm.length=nm:=by obtain⟨_,_,e,_⟩:=hm; cases e; rfl
 by_cases g1:200<nm
 · exact measures_t0 w fun w' _=>pmgreat_big w' g1
 have GM:=fun w' (s:Steps w w')=>pmgreat (X:=x) (Y:=y) (s:=z) w' (hm.steps s) (by omega)
 cases hg:mgr x y z lm with
 | true=>rw[hg]at GM; exact measures_t0 w GM
 | false=>
  rw[hg]at GM
  have GF:=fun w'=>lgreat12 (ao:=ao) (bo:=bo) (n:=N) (cap:=cap) (m:=M) (bcap:=bcap) (X:=X) (Y:=Y) w'
  cases hf:(decide (100<N)||decide (120<M))with
  | true=>rw[hf]at GF; exact measures_t1 w GM GF
  | false=>
   rw[hf]at GF
   have SM:=fun w'=>lsmall12 (k1:=k1) (k5:=k5) (k2:=k2) (k6:=k6) (p:=p) (k4:=k4) (q:=q) (k8:=k8) w'
   cases hs:(decide (p≤4)&&decide (q≤4))with
   | false=>rw[hs]at SM; exact measures_t2 w GM GF SM
   | true=>
    rw[hs]at SM
    simp only[Bool.or_eq_false_iff,decide_eq_false_iff_not,Bool.and_eq_true,decide_eq_true_eq]at hf hs
    have zk:∀r,o=some r→sz r 4:=fun r e=>⟨Int.le_trans (ho r e).1 (bp_mono hs.1),Int.le_trans (ho r e).2 (bp_mono hs.2)⟩
    have M1:=fun w' (s:Steps w w')=>smeasure (ao:=ao) (bo:=bo) (N:=N) (cap:=cap) (M:=M) (bcap:=bcap) (X:=X) (Y:=Y) (S:=S) w' (hP.steps s) (hk.keeps (Keeps.steps s)) zk (by omega) (hB.steps s)
    have M2:=fun w' (s:Steps w w')=>rmeasure (ao:=ao) (bo:=bo) (N:=N) (cap:=cap) (M:=M) (bcap:=bcap) (X:=X) (Y:=Y) (S:=S) w' (hP.steps s) (hk.keeps (Keeps.steps s)) zk (by omega) (hB.steps s)
    have hl1:=mRes_len (X:=X) (Y:=Y) (S:=S) (ps:=ps) (bl:=bl) (o:=o)
    generalize mRes X Y ps bl S o=mo' at *
    obtain⟨c1,X1,Y1,s1,l1⟩:=mo'
    refine measures_main w hm (by omega) hl1 GM GF SM (fun w' s=>(M1 w' s).mono fun e w2 h=>h) (fun w' va s hva=>(M2 w' s).mono fun e w2 h=> ?_)
    obtain⟨v,e1,hi,hs2⟩:=h
    exact⟨v,e1,hi,hva.steps hs2,hs2⟩
end Go.Proofs.YtdkcffnmlllamaaGreat
