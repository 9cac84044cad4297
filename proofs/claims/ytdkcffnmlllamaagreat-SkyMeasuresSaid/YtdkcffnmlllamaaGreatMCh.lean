import Derived.Test.YtdkcffnmlllamaaGreatMCe
import Derived.Test.YtdkcffnmlllamaaGreatMCs
import Derived.ArgAppend
import Derived.Test.YtdkcffnmlllamaaGreatMTf
import Derived.Test.YtdkcffnmlllamaaGreatMNp
import Derived.Test.YtdkcffnmlllamaaGreatMCc
import Derived.Test.YtdkcffnmlllamaaGreatMUb
import Derived.Deep.Upon
set_option linter.unusedVariables false
set_option linter.unusedSimpArgs false
set_option maxHeartbeats 6400000
set_option maxRecDepth 1000000
namespace Go.Proofs.YtdkcffnmlllamaaGreat
open Go.RowKit
def inI (ix:List Nat):List Int:=ix.map (fun(i:Nat)=>(i:Int))
theorem inI_len (ix:List Nat):(inI ix).length=ix.length:=by simp[inI]
theorem inI_get (ix:List Nat) {t:Nat} (h:t<ix.length):(inI ix).getD t 0=((ix.getD t 0:Nat):Int):=by simp[inI,List.getD,h]
theorem inI_snoc (ix:List Nat) (i:Nat):inI (ix ++ [i])=inI ix ++ [(i:Int)]:=by simp[inI]
theorem pick_snoc (l:List Int) (ix:List Nat) (i:Nat):pick l (ix ++ [i])=pick l ix ++ [l.getD i 0]:=by simp[pick]
theorem takeN_step {ix:List Nat} {t:Nat} (h:t<ix.length):ix.take (t+1)=ix.take t ++ [ix.getD t 0]:=by
 rw[List.take_succ_eq_append_getElem h]
 simp[List.getD,h]
theorem getN_mem {ix:List Nat} {i:Nat} (h:i<ix.length):ix.getD i 0∈ix:=by
 rw[List.getD,List.getElem?_eq_getElem h]
 exact List.getElem_mem h
theorem pick_val {l:List Int} (hv:valL l) {ix:List Nat} (h:∀i∈ix,i<l.length) (hl:ix.length≤1000):valL (pick l ix):=by
 refine⟨by rw[pick_len]; exact hl,fun x hx=> ?_⟩
 obtain⟨i,hi,rfl⟩:=List.mem_map.1 hx
 exact hv.get (h i hi)
theorem prpick {vl va:Value} {l:List Int} {ix:List Nat} (w:World) (hl:IntsR w vl l) (ha:IntsR w va (inI ix)) (hi:∀i∈ix,i<l.length) (hn:ix.length≤1000) (hx:l.length≤100000) :
  Calls Tryz.prog 39 #[vl,va] w fun e w'=>∃v,e = .returned v∧IntsR w' v (pick l ix)∧Steps w w':=by
 have PS:∀t,t<ix.length→pick l (ix.take (t+1))=pick l (ix.take t) ++ [l.getD (ix.getD t 0) 0]:=fun t ht=>by rw[takeN_step ht,pick_snoc]
 have PL:∀t,t≤ix.length→(pick l (ix.take t)).length=t:=fun t ht=>by rw[pick_len,List.length_take]; omega
 have PE:pick l (ix.take ix.length)=pick l ix:=by rw[List.take_length]
 have P0:pick l (ix.take 0) = []:=rfl
 have KL:∀t,t<ix.length→ix.getD t 0<l.length:=fun t ht=>hi _ (getN_mem ht)
 have KG:∀t,t<ix.length→(inI ix).getD t 0=((ix.getD t 0:Nat):Int):=fun t ht=>inI_get ix ht
 rw[← PE]
 obtain⟨PP,hPP⟩:∃f:Nat→List Int,∀t,pick l (ix.take t)=f t:=⟨_,fun _=>rfl⟩
 obtain⟨KK,hKK⟩:∃f:Nat→Nat,∀t,ix.getD t 0=f t:=⟨_,fun _=>rfl⟩
 simp only[hPP,hKK]at PS PL P0 KL KG⊢
 obtain⟨la,lc,rfl⟩:=hl.shape
 obtain⟨aa,ac,rfl⟩:=ha.shape
 rw[inI_len]at ha⊢
 have HL:=Hid.mk_ hl
 have HA:=Hid.mk_ ha
 have HI:=Hid.mk_ (inI_len ix)
 obtain⟨n,hN⟩:∃n,ix.length=n:=⟨_,rfl⟩
 have HN:=Hid.mk_ hN
 rw[hN]at PS PL KL KG HA HI hn⊢
 have PS':=Hid.mk_ PS
 have PL':=Hid.mk_ PL
 have KG':=Hid.mk_ KG
 have KL':=Hid.mk_ KL
 have P0':=Hid.mk_ P0
 clear hl ha hi hN PE hPP hKK PS PL KG KL P0
 go_enter Tryz.func39,Tryz.ntmps39
 go_wp2_with fail
 go_loopw [6,5] (fun kk oo wr=>∃ (t:Nat) (ow:Value),ow=oo∧t≤n∧kk = .int .i64 t∧RowU wr w.heap.size 2 1 ow t (ints (PP t))∧Below w.heap.size w wr) (fun kk _ _=>n-(intOf kk).toNat)
 case atStart=>exact⟨0,_,rfl,Nat.zero_le _,rfl,by rw[P0'.out]; exact RowU.nil _ _ _ _,belowB⟩
 case round=>
  obtain⟨t,ow,rfl,ht,rfl,hr,B⟩:=hrel
  obtain⟨oa,ocap,rfl⟩:=hr.len
  have HR:=Hid.mk_ hr
  clear hr
  rcases Nat.lt_or_ge t n with tn | tn
  ·
   have hlt:decide ((t:Int)<(n:Int))=true:=decide_eq_true (by omega)
   obtain⟨bA,oA,rfl,hbA,hA0⟩:=HA.out.at' (t:=t) (by have:=HI.out; omega)
   rw[KG'.out t tn]at hA0
   obtain⟨b,of,rfl,hbl,hx0⟩:=HL.out.at' (t:=KK t) (KL'.out t tn)
   have kl:=KL'.out t tn
   have hps:=Hid.mk_ (PS'.out t tn)
   have hpl:=PL'.out t ht
   obtain⟨x,hxx⟩:∃x,l.getD (KK t) 0=x:=⟨_,rfl⟩
   rw[hxx]at hx0 hps
   obtain⟨k,hk⟩:∃k,KK t=k:=⟨_,rfl⟩
   rw[hk]at hA0 hx0 kl
   have c0:wr.cell? ⟨bA,oA+t,none⟩=some (.int .i64 (k:Int)):=(B.cell (p:=⟨bA,_,none⟩) hbA).trans hA0
   have c1:wr.cell? ⟨b,of+k,none⟩=some (.int .i64 x):=(B.cell (p:=⟨b,_,none⟩) hbl).trans hx0
   have zz:=B.size
   clear hA0 hx0 hxx hk
   repeat' (first | ((with_reducible show wpList _ _ _ (⟨some 22,_,_,_,_,_⟩::_) _ _); refine app_i64 rfl (.tmp 13) (.tmp 21) rfl w.heap.size t (.slice oa t ocap) (PP t) rfl (HR.out.alloc _) wr.heap.size x rfl (Blk.new _ _ _) (by omega) (by rw[World.size_alloc]; omega) (fun v' w7 hr7 hg7=> ?_)) | go_values | go_skip | go_guarded | go_step | go_upon)
   obtain⟨oa',ocap',rfl⟩:=hr7.len
   have r6:=HR.out.alloc (.cells #[.int .i64 x] 2)
   have B7:=r6.below hg7 (B.alloc B.size _) (Nat.le_refl _)
   have HR7:=Hid.mk_ hr7
   clear r6 hg7 hr7 HR B
   go_wp2_with fail
   go_roundw
   case rel=>exact⟨t+1,_,rfl,by omega,by go_num,by rw[hps.out]; exact HR7.out,B7⟩
   case measure=>simp[intOf]; omega
  ·
   obtain rfl:t=n:=by omega
   have hlt:decide ((t:Int)<(t:Int))=false:=decide_eq_false (by omega)
   have hpl:=PL'.out t (Nat.le_refl _)
   go_wp2_with fail
   go_returns
   exact⟨_,rfl,by have:=HR.out; rw[show t=(PP t).length from hpl.symm]at this⊢; exact this.ints,B⟩
section
variable {ops:Array Oper} {rest:List Oper} {o:Oper} {a:Act} {w:World} {Q:Exit→Act→World→Prop}
theorem noU_ints (l:List Int):noU32 (ints l).toArray=true:=noU32_mem.2 (fun u hu=>by
 unfold ints at hu
 obtain⟨p,-,rfl⟩:=List.mem_map.1 hu
 rfl)
theorem app_copyU (hgd:o.guard=none) (s x:Operand) (ho:o.op = .call { callee:= .builtin .append,args:=#[s,x],argTypes:=#[22,22] })
  (g:Nat) (hs:a.eval s = .slice (some ⟨g,0,none⟩) 0 0) (hb:Blk w g 2 #[]) (v:Value) (l:List Int) (hx:a.eval x=v) (hv:IntsR w v l) (h0:0<l.length) (hl:l.length≤100000)
  (h:∀v' w',RowU w' g 2 1 v' l.length (ints l)→w.grownBy w' (some g)→wpList Tryz.prog ops Q rest (a.put o.dst v') w'):wpList Tryz.prog ops Q (o::rest) a w:=by
 obtain⟨ie,z,h1,h2,h3,h4,h5⟩:=infoJ
 refine wpList_plain hgd fun K hK=> ?_
 obtain⟨ao,cap,rfl⟩:=hv.shape
 obtain⟨b,of,rfl,hbl,-⟩:=hv.at' h0
 have hlen:(ints l).length=l.length:=by unfold ints; rw[List.length_map]
 have hr0:RowU w g 2 1 (.slice (some ⟨g,0,none⟩) 0 0) 0 []:=⟨⟨rfl,.inr ⟨g,0,#[],rfl,Nat.le_refl _,hb,Nat.le_refl _,by unfold maxLen; omega,rfl,rfl⟩⟩,fun g' cur e1 e2=>by
  have e3:some g=some g':=e1
  rw[Option.some.injEq]at e3
  subst e3
  have hb':w.heap[g]? = some (.cells #[] 2 (0,0)):=hb
  have e4:=hb'.symm.trans e2
  simp only[Option.some.injEq,Obj.cells.injEq]at e4
  rw[← e4.1]; rfl⟩
 refine wp_append_U w s x 22 ho g 2 ie z 1 8 Tryz.underlying22 h1 h4 h2 h3 (by rw[h5]; rfl) (by rw[h5]; rfl) (by omega) (.slice (some ⟨g,0,none⟩) 0 0) 0 [] hs hr0 ⟨b,of,none⟩ l.length cap (ints l) hx h0 (by rw[hlen]; omega) (fun j u hj=> ?_) (fun u hu=> ?_) (noU_ints l) (by unfold maxLen; omega) (by omega) (Nat.le_of_lt hb.lt) (fun v' w' hr hg=>hK _ _ (h v' w' ?_ hg))
 ·
  have hjl:j<l.length:=by
   rcases Nat.lt_or_ge j (ints l).length with g | g
   · rwa[hlen]at g
   · rw[List.getElem?_eq_none g]at hj; cases hj
  rw[show (⟨b,of,none⟩:Addr).add j=⟨b,of+j,none⟩ from Addr.add_lit ..]
  obtain⟨b',of',e,-,hc⟩:=hv.at' hjl
  cases e
  rw[hc]
  unfold ints at hj
  rw[List.getElem?_map,List.getElem?_eq_getElem hjl]at hj
  rw[← hj,List.getD_eq_getElem?_getD,List.getElem?_eq_getElem hjl]
  rfl
 ·
  unfold ints at hu
  obtain⟨p,-,rfl⟩:=List.mem_map.1 hu
  rfl
 ·
  rw[Nat.zero_add,List.nil_append]at hr
  exact hr
theorem app_firstX (hgd:o.guard=none) (s x:Operand) (ho:o.op = .call { callee:= .builtin .append,args:=#[s,x],argTypes:=#[22,22] })
  (b0:Addr) (hs:a.eval s = .slice (some b0) 0 0) (g:Nat) (y:Int) (hx:a.eval x = .slice (some ⟨g,0,none⟩) 1 1) (hb:Blk w g 2 #[.int .i64 y])
  (h:∀v' w',RowU w' w.heap.size 2 1 v' 1 (ints [y])→w.grownBy w' none→wpList Tryz.prog ops Q rest (a.put o.dst v') w'):wpList Tryz.prog ops Q (o::rest) a w:=by
 obtain⟨ie,z,h1,h2,h3,h4,h5⟩:=infoJ
 have hc0:∀j u,([.int .i64 y]:List Value)[j]? = some u→w.cell? ((⟨g,0,none⟩:Addr).add j)=some u:=fun j u hj=>by
  have hc:=hb.cell j
  rw[show (⟨g,0,none⟩:Addr).add j=⟨g,0+j,none⟩ from Addr.add_lit ..,Nat.zero_add,hc]
  simpa using hj
 refine wpList_plain hgd fun K hK'=> ?_
 have hr:=run_append_grow (P:=Tryz.prog) w 22 o.type 2 ie z Tryz.underlying22 h1 h4 b0 0 0 [] (by simp) (fun j u hj=>by cases hj) ⟨g,0,none⟩ 1 1 [.int .i64 y] (by rw[h2]; rfl) hc0 (by omega) (by omega) (growslice_fits (by omega) (by rw[h3]; omega))
 have hge:=grownCap_ge w (0+1) 0 2
 have hcm:grownCap w (0+1) 0 2≤maxLen:=grownCap_le_maxLen w (0+1) 0 2 (by unfold maxLen; omega)
 unfold Oper.wp
 simp[execOp,ho,resolve,invoke,builtin,hs,hx,hr,Result.andThen]
 simp only[Nat.zero_add]at hge hcm hr
 refine hK' _ _ (h _ _ ⟨⟨rfl,.inr ⟨w.heap.size,_,_,rfl,Nat.le_refl _,heap_alloc_new w.drew _,hge,hcm,?_,?_⟩⟩,fun g' cur e1 e2=> ?_⟩ ⟨rfl,rfl,rfl,by simp,fun k hk _=>by first | exact heap_alloc_old w.drew _ hk | exact heap_alloc_old w.drew _ k hk⟩)
 ·
  simp only[Array.size_append,List.size_toArray,size_zeroCells,h5,Nat.mul_one]
  simp only[List.length_cons,List.length_nil]
  show _+_*1=_
  omega
 · simp[ints]
 ·
  have e3:some w.heap.size=some g':=e1
  rw[Option.some.injEq]at e3
  subst e3
  have e4:=(heap_alloc_new w.drew _).symm.trans e2
  simp only[Option.some.injEq,Obj.cells.injEq]at e4
  rw[← e4.1]
  simp only[noU32_arr,noU32_zero (show noU32 z.cells=true by rw[h5]; rfl)]
  rfl
theorem app_firstI (hgd:o.guard=none) (s x:Operand) (ho:o.op = .call { callee:= .builtin .append,args:=#[s,x],argTypes:=#[61,61] })
  (b0:Addr) (hs:a.eval s = .slice (some b0) 0 0) (g:Nat) (y:Int) (hx:a.eval x = .slice (some ⟨g,0,none⟩) 1 1) (hb:Blk w g 3 #[.int .i64 y])
  (h:∀v' w',RowU w' w.heap.size 3 1 v' 1 (ints [y])→w.grownBy w' none→wpList Tryz.prog ops Q rest (a.put o.dst v') w'):wpList Tryz.prog ops Q (o::rest) a w:=by
 obtain⟨ie,z,h1,h2,h3,h4,h5⟩:=infoI
 have hc0:∀j u,([.int .i64 y]:List Value)[j]? = some u→w.cell? ((⟨g,0,none⟩:Addr).add j)=some u:=fun j u hj=>by
  have hc:=hb.cell j
  rw[show (⟨g,0,none⟩:Addr).add j=⟨g,0+j,none⟩ from Addr.add_lit ..,Nat.zero_add,hc]
  simpa using hj
 refine wpList_plain hgd fun K hK'=> ?_
 have hr:=run_append_grow (P:=Tryz.prog) w 61 o.type 3 ie z Tryz.underlying61 h1 h4 b0 0 0 [] (by simp) (fun j u hj=>by cases hj) ⟨g,0,none⟩ 1 1 [.int .i64 y] (by rw[h2]; rfl) hc0 (by omega) (by omega) (growslice_fits (by omega) (by rw[h3]; omega))
 have hge:=grownCap_ge w (0+1) 0 3
 have hcm:grownCap w (0+1) 0 3≤maxLen:=grownCap_le_maxLen w (0+1) 0 3 (by unfold maxLen; omega)
 unfold Oper.wp
 simp[execOp,ho,resolve,invoke,builtin,hs,hx,hr,Result.andThen]
 simp only[Nat.zero_add]at hge hcm hr
 refine hK' _ _ (h _ _ ⟨⟨rfl,.inr ⟨w.heap.size,_,_,rfl,Nat.le_refl _,heap_alloc_new w.drew _,hge,hcm,?_,?_⟩⟩,fun g' cur e1 e2=> ?_⟩ ⟨rfl,rfl,rfl,by simp,fun k hk _=>by first | exact heap_alloc_old w.drew _ hk | exact heap_alloc_old w.drew _ k hk⟩)
 ·
  simp only[Array.size_append,List.size_toArray,size_zeroCells,h5,Nat.mul_one]
  simp only[List.length_cons,List.length_nil]
  show _+_*1=_
  omega
 · simp[ints]
 ·
  have e3:some w.heap.size=some g':=e1
  rw[Option.some.injEq]at e3
  subst e3
  have e4:=(heap_alloc_new w.drew _).symm.trans e2
  simp only[Option.some.injEq,Obj.cells.injEq]at e4
  rw[← e4.1]
  simp only[noU32_arr,noU32_zero (show noU32 z.cells=true by rw[h5]; rfl)]
  rfl
end
theorem rowS_of {w:World} {base n:Nat} {v:Value} {l:List Int} (h:RowU w base 2 1 v n (ints l)) (hl:l.length=n) (h0:0<n):∃g cap,v = .slice (some ⟨g,0,none⟩) n cap∧base≤g∧n≤cap∧RowS w g n (fun i=>l.getD i 0):=by
 rcases h.own.2 with⟨rfl,e⟩ | ⟨g,cap,cur,rfl,h1,h2,h3,h4,h5,h6⟩
 · omega
 ·
  rw[Nat.mul_one]at h6 h5
  exact⟨g,cap,rfl,h1,h3,RowS.of_ints h2 hl (h.noU g cur rfl h2) h6 (by omega)⟩
theorem vclone {vl:Value} {l:List Int} (w:World) (hl:IntsR w vl l) (h0:l≠ []) (hn:l.length≤100000) :
  Calls Tryz.prog 68 #[vl] w fun e w'=>∃v,e = .returned v∧RowU w' w.heap.size 2 1 v l.length (ints l)∧Steps w w':=by
 have hp:=List.length_pos_iff.2 h0
 obtain⟨la,lc,rfl⟩:=hl.shape
 obtain⟨b,of,rfl,hbl,-⟩:=hl.at' hp
 have HA:=Hid.mk_ (hl.steps ((Below.refl _ _).alloc (Nat.le_refl _) (.cells #[] 2)))
 obtain⟨n,hN⟩:∃n,l.length=n:=⟨_,rfl⟩
 have HN:=Hid.mk_ hN
 rw[hN]at HA hp hn⊢
 clear hl h0 hN
 have heq:∀w',(binOp .eql 22 (.slice (some ⟨b,of,none⟩) n lc) (.slice none 0 0)).run Tryz.prog w' = .ok (.bool false) w':=fun w'=>run_eql_slice_nil w' _ _ _ _ _ Tryz.underlying22
 go_enter Tryz.func68,Tryz.ntmps68
 repeat' (first | ((with_reducible show wpList _ _ _ (⟨some 7,_,_,_,_,_⟩::_) _ _); refine app_copyU rfl (.tmp 5) (.tmp 6) rfl w.heap.size rfl (Blk.new _ _ _) (.slice (some ⟨b,of,none⟩) n lc) l rfl HA.out (by have:=HN.out; omega) (by have:=HN.out; omega) (fun v7 w7 hr7 gr=> ?_)) | go_values | go_skip | go_guarded | go_step | go_upon)
 have B:=((Below.refl w.heap.size w).alloc (Nat.le_refl _) (.cells #[] 2)).grown gr (by rw[World.size_alloc]; omega) (fun k hk=>by injection hk with hk; have e:w.heap.size=k:=hk; omega)
 go_returns
 exact⟨_,rfl,by rw[← HN.out]; exact hr7,B⟩
def lenV:Value→Nat
 | .slice _ n _=>n
 | _=>0
theorem RowU.base {w:World} {b b' n s:Nat} {e:TypeId} {v:Value} {xs:List Value} (h:RowU w b e s v n xs) (hb:b'≤b):RowU w b' e s v n xs:=by
 refine⟨⟨h.own.1,?_⟩,h.noU⟩
 rcases h.own.2 with g | ⟨g,cap,cur,h1,h2,h3⟩
 · exact .inl g
 · exact .inr ⟨g,cap,cur,h1,Nat.le_trans hb h2,h3⟩
theorem rows_ne {w:World} {b b' n m:Nat} {v u:Value} {xs ys:List Value} (h:RowU w b 3 1 v n xs) (h':RowU w b' 2 1 u m ys):∀q,v.ownBlock=some q→u.ownBlock≠some q:=by
 intro q e1 e2
 rcases h.own.2 with⟨rfl,_⟩ | ⟨g,cap,cur,rfl,h1,h2,_⟩
 · cases e1
 ·
  rcases h'.own.2 with⟨rfl,_⟩ | ⟨g',cap',cur',rfl,h1',h2',_⟩
  · cases e2
  ·
   have f1:some g=some q:=e1
   have f2:some g'=some q:=e2
   rw[Option.some.injEq]at f1 f2
   subst f1
   subst f2
   exact Blk.ne_ (show Blk w g' _ _ from h2) (show Blk w g' _ _ from h2') (by decide) rfl
theorem RowU.other {w w':World} {b n s:Nat} {e:TypeId} {u:Value} {xs:List Value} {q:Option Nat} (h:RowU w b e s u n xs) (hg:w.grownBy w' q) (hne:∀k,u.ownBlock=some k→q≠some k):RowU w' b e s u n xs:=
 h.keep fun k hk=>hg.block k (h.lt k hk).2 (fun e=>hne k hk e.symm)
theorem swap_ne {p q:Option Nat} (h:∀k,p=some k→q≠some k):∀k,q=some k→p≠some k:=fun k e1 e2=>h k e2 e1
theorem swap_ne2 {p q:Option Nat} (h:∀k,p=some k→q≠some k):∀k,p=some k→q≠some k:=h
def Two (w:World) (base:Nat) (v u:Value) (l m:List Int):Prop:=
 (l = []∧m = []∧∃b o b' o',v = .slice (some ⟨b,o,none⟩) 0 0∧u = .slice (some ⟨b',o',none⟩) 0 0)∨
 (∃n,0<n∧l.length=n∧m.length=n∧RowU w base 3 1 v n (ints l)∧RowU w base 2 1 u n (ints m))
theorem Two.steps {w w':World} {base:Nat} {v u:Value} {l m:List Int} (h:Two w base v u l m) (s:Steps w w'):Two w' base v u l m:=by
 rcases h with h | ⟨n,h0,h1,h2,h4,h5⟩
 · exact .inl h
 · exact .inr ⟨n,h0,h1,h2,h4.keep (fun k hk=>s.block k (h4.lt k hk).2),h5.keep (fun k hk=>s.block k (h5.lt k hk).2)⟩
theorem Two.len {w:World} {base:Nat} {v u:Value} {l m:List Int} (h:Two w base v u l m):m.length=l.length∧∃a c b d,v = .slice a l.length c∧u = .slice b m.length d:=by
 rcases h with⟨rfl,rfl,b,o,b',o',rfl,rfl⟩ | ⟨n,h0,rfl,h2,h4,h5⟩
 · exact⟨rfl,_,_,_,_,rfl,rfl⟩
 ·
  obtain⟨a,c,rfl⟩:=h4.len
  obtain⟨b,d,rfl⟩:=h5.len
  exact⟨h2,_,_,_,_,rfl,by rw[h2]⟩
theorem two_ints {w:World} {base:Nat} {v u:Value} {l m:List Int} (h:Two w base v u l m) (hl:l≠ []):IntsR w v l∧IntsR w u m:=by
 rcases h with⟨rfl,_⟩ | ⟨n,h0,rfl,h2,h4,h5⟩
 · exact absurd rfl hl
 · exact⟨h4.ints,h5.ints⟩
theorem two_first {base b1 b2:Nat} {wg1 wg2:World} {c:Obj} {v u:Value} {y x:Int} (r1:RowU wg1 b1 3 1 v 1 (ints [y])) (r2:RowU wg2 b2 2 1 u 1 (ints [x])) (h1:base≤b1) (h2:base≤b2) (g2:(wg1.alloc c).grownBy wg2 none):Two wg2 base v u [y] [x]:=
 .inr ⟨1,by omega,rfl,rfl,((r1.alloc c).other g2 (fun k _ e=>by cases e)).base h1,r2.base h2⟩
def keepF (l:List Int) (k:Rat) (ix:List Nat) (i:Nat):List Nat:=(ix.take i).filter (fun i=>keepB (pick l ix) k (l.getD i 0))
theorem keepF_all (l:List Int) (k:Rat) (ix:List Nat):keepF l k ix ix.length=stepC l k ix:=by unfold keepF stepC; rw[List.take_length]
theorem keepF_step {l:List Int} {k:Rat} {ix:List Nat} {i:Nat} (h:i<ix.length):keepF l k ix (i+1)=if keepB (pick l ix) k (l.getD (ix.getD i 0) 0)then keepF l k ix i ++ [ix.getD i 0]else keepF l k ix i:=by
 unfold keepF
 rw[takeN_step h,List.filter_append]
 by_cases hb:keepB (pick l ix) k (l.getD (ix.getD i 0) 0)=true
 · rw[if_pos hb]; simp only[List.filter_cons,hb,if_true,List.filter_nil]
 · rw[if_neg hb]; simp only[List.filter_cons,hb,if_false,List.filter_nil,List.append_nil,Bool.false_eq_true]
theorem keepF_le {l:List Int} {k:Rat} {ix:List Nat} (i:Nat):(keepF l k ix i).length≤ix.length:=by
 unfold keepF
 refine Nat.le_trans (List.length_filter_le _ _) ?_
 rw[List.length_take]; omega
theorem pick_get (l:List Int) (ix:List Nat) {i:Nat} (h:i<ix.length):(pick l ix).getD i 0=l.getD (ix.getD i 0) 0:=by simp[pick,List.getD,h]
theorem clip_round {l:List Int} {k:Rat} {f r:Nat} {ix:List Nat} (h:clipGo l k f ix r=clipR l k) (hf:ix.length≤f) (h0:ix≠ []) :
  ((stepC l k ix).length=ix.length→clipR l k=(ix,r))∧((stepC l k ix).length≠ix.length→∃f',clipGo l k f' (stepC l k ix) (r+1)=clipR l k∧(stepC l k ix).length≤f'):=by
 have hp:=List.length_pos_iff.2 h0
 obtain⟨f',rfl⟩:∃f',f=f'+1:=⟨f-1,by omega⟩
 unfold clipGo at h
 have hle:=stepC_le l k ix
 refine⟨fun e=> ?_,fun e=>⟨f',?_,by omega⟩⟩
 · rw[if_pos e]at h; exact h.symm
 · rw[if_neg e]at h; exact h
theorem vclip_ok {vl vk:Value} {l:List Int} {k:Rat} (w:World) (hl:IntsR w vl l) (hk:FR w vk k) (zk:sz k 4) (ha:askV l=0) (hf:facB (some k)=true) :
  Calls Tryz.prog 46 #[vl,vk] w fun e w'=>∃v u,e = .returned (.tuple #[v,u,.int .i64 ((clipR l k).2:Nat),.int .i64 0])∧IntsR w' v (inI (clipR l k).1)∧IntsR w' u (pick l (clipR l k).1)∧Steps w w':=by
 obtain⟨hv,h0⟩:=askV_val ha
 have hn:=hv.1
 have k1:1≤k:=by obtain⟨r,e,h1,h2⟩:=facB_ok hf; cases e; exact h1
 have CS:∀w',Steps w w'→Calls Tryz.prog 66 #[vl] w' fun e w2=>e = .returned (.int .i64 0)∧Steps w' w2:=fun w' s=>by have:=vstart w' (hl.steps s) (by omega); rw[ha]at this; exact this
 have AL:∀w',Steps w w'→Calls Tryz.prog 67 #[vk] w' fun e w2=>e = .returned (.bool true)∧Steps w' w2:=fun w' s=>by have:=vallowed (o:=some k) w' (FR.keeps hk (Keeps.steps s)) (fun r e=>by cases e; exact zk); rw[hf]at this; exact this
 have CL:∀w',Steps w w'→Calls Tryz.prog 68 #[vl] w' fun e w2=>∃v,e = .returned v∧IntsR w2 v (pick l (List.range l.length))∧Steps w' w2:=fun w' s=>by
  refine(vclone w' (hl.steps s) h0 (by omega)).mono ?_
  rintro e w2 ⟨v,rfl,h1,h2⟩
  rw[pick_range]
  exact⟨v,rfl,h1.ints,h2⟩
 have FA:∀w' g ix v,Steps w w'→Blk w' g 116 #[.int .i64 0]→IntsR w' v (pick l ix)→(∀i∈ix,i<l.length)→ix.length≤1000→Calls Tryz.prog 69 #[.pointer (some ⟨g,0,none⟩),v,vk] w' fun e w2=>∃p1 p2 p3 p4,e = .returned (.func (.func 103) #[] #[.pointer (some ⟨p1,0,none⟩),.pointer (some ⟨p2,0,none⟩),.pointer (some ⟨p3,0,none⟩),.pointer (some ⟨p4,0,none⟩)])∧FarOk w2 g p1 p2 p3 p4 (pick l ix) k∧Steps w' w2:=fun w' g ix v s hb hi h1 h2=>
  vfar w' hb hi (pick_val hv h1 h2) (FR.keeps hk (Keeps.steps s)) zk
 have FR1:∀w' g p1 p2 p3 p4 ix i,Blk w' g 116 #[.int .i64 0]→FarOk w' g p1 p2 p3 p4 (pick l ix) k→(∀i∈ix,i<l.length)→ix.length≤1000→ix≠ []→i<ix.length→Calls Tryz.prog 103 #[.int .i64 (l.getD (ix.getD i 0) 0),.pointer (some ⟨p1,0,none⟩),.pointer (some ⟨p2,0,none⟩),.pointer (some ⟨p3,0,none⟩),.pointer (some ⟨p4,0,none⟩)] w' fun e w2=>e = .returned (.bool (!keepB (pick l ix) k (l.getD (ix.getD i 0) 0)))∧Steps w' w2:=fun w' g p1 p2 p3 p4 ix i hb h h1 h2 h3 h4=>
  vfar1 w' hb h (pick_val hv h1 h2) (pick_ne h3) zk (hv.get (h1 _ (getN_mem h4)))
 have SN:∀ix:List Nat,ix≠ []→stepC l k ix≠ []:=fun ix h=>stepC_ne k1 h
 have HSN:=Hid.mk_ SN
 have HFA:=Hid.mk_ FA
 have HF1:=Hid.mk_ FR1
 obtain⟨k1,k2,k3,k4,k5,k6,k7,k8,rfl⟩:=hk.shape
 obtain⟨la,lc,rfl⟩:=hl.shape
 obtain⟨N,hN⟩:∃n,l.length=n:=⟨_,rfl⟩
 have HN:=Hid.mk_ hN
 have h0':0<N:=by rw[← hN]; exact List.length_pos_iff.2 h0
 rw[hN]at CS CL hn⊢
 clear hl hk zk ha hf hv h0 hN SN FA FR1
 go_enter Tryz.func46,Tryz.ntmps46
 go_wp2_with fail
 refine(CS _ belowB).mono ?_
 rintro e w1 ⟨rfl,hs1⟩
 have ok1:Blk w1 (w.heap.size) 32 #[.bool k1,.slice k2 k3 k4,.bool k5,.slice k6 k7 k8]:=Blk.stepsK hs1
 have B1:Below w.heap.size w w1:=belowA hs1
 have c0:=ok1.c 0 rfl
 have c1:=ok1.c 1 rfl
 have c2:=ok1.c 2 rfl
 have c3:=ok1.c 3 rfl
 clear hs1 CS
 go_wp2_with fail
 refine(AL _ B1).mono ?_
 rintro e w2 ⟨rfl,hs2⟩
 have ok2:Blk w2 (w.heap.size) 32 #[.bool k1,.slice k2 k3 k4,.bool k5,.slice k6 k7 k8]:=ok1.steps hs2
 have B2:Below w.heap.size w w2:=below_steps B1 (Nat.le_refl _) hs2
 have l2:=ok2.lt
 have zz2:=B2.size
 clear hs2 ok1 B1 AL c0 c1 c2 c3
 go_wp2_with fail
 go_loopw [26,4] (fun kk oo wr=>∃ (t:Nat) (ow:Value),ow=oo∧t≤N∧kk = .int .i64 t∧RowU wr (w2.heap.size+1) 3 1 ow t (ints (inI (List.range t)))∧Blk wr (w.heap.size) 32 #[.bool k1,.slice k2 k3 k4,.bool k5,.slice k6 k7 k8]∧Blk wr (w2.heap.size) 116 #[.int .i64 0]∧Below w.heap.size w wr) (fun kk _ _=>N-(intOf kk).toNat)
 case atStart=>exact⟨0,_,rfl,Nat.zero_le _,rfl,RowU.nil _ _ _ _,ownK,ownK,belowB⟩
 case round=>
  clear ok2 B2
  obtain⟨t,ow,rfl,ht,rfl,hr,ok,oc,B⟩:=hrel
  obtain⟨oa,ocap,rfl⟩:=hr.len
  have HR:=Hid.mk_ hr
  clear hr
  rcases Nat.lt_or_ge t N with tn | tn
  ·
   have hlt:decide ((t:Int)<(N:Int))=true:=decide_eq_true (by omega)
   have zz:=B.size
   have lc2:=oc.lt
   have hps:inI (List.range (t+1))=inI (List.range t) ++ [(t:Int)]:=by rw[List.range_succ,inI_snoc]
   have hpl:(inI (List.range t)).length=t:=by rw[inI_len,List.length_range]
   have HPS:=Hid.mk_ hps
   clear hps
   repeat' (first | ((with_reducible show wpList _ _ _ (⟨some 32,_,_,_,_,_⟩::_) _ _); refine app_int rfl (.tmp 29) (.tmp 31) rfl (w2.heap.size+1) t (.slice oa t ocap) (inI (List.range t)) rfl (HR.out.alloc _) wr.heap.size t rfl (Blk.new _ _ _) (by omega) (by rw[World.size_alloc]; omega) (fun v' w7 hr7 hg7=> ?_)) | go_values | go_skip | go_guarded | go_step | go_upon)
   obtain⟨oa',ocap',rfl⟩:=hr7.len
   have r6:=HR.out.alloc (.cells #[.int .i64 (t:Int)] 3)
   have ok7:=r6.blk hg7 (ok.alloc _) (by omega)
   have oc7:=r6.blk hg7 (oc.alloc _) (by omega)
   have B7:=r6.below hg7 (B.alloc B.size _) (by omega)
   have HR7:=Hid.mk_ hr7
   clear r6 hg7 hr7 HR ok oc B
   go_wp2_with fail
   go_roundw
   case rel=>exact⟨t+1,_,rfl,by omega,by go_num,by rw[HPS.out]; exact HR7.out,ok7,oc7,B7⟩
   case measure=>simp[intOf]; omega
  ·
   obtain rfl:t=N:=by omega
   have hlt:decide ((t:Int)<(t:Int))=false:=decide_eq_false (by omega)
   have hpl:(inI (List.range t)).length=t:=by rw[inI_len,List.length_range]
   have hL:IntsR wr (.slice oa t ocap) (inI (List.range t)):=by have:=HR.out; rw[show t=(inI (List.range t)).length from hpl.symm]at this⊢; simpa[hpl]using this.ints
   clear HR
   go_wp2_with fail
   refine(CL _ B).mono ?_
   rintro e w3 ⟨u,rfl,hu,hs3⟩
   have ok3:Blk w3 (w.heap.size) 32 #[.bool k1,.slice k2 k3 k4,.bool k5,.slice k6 k7 k8]:=ok.steps hs3
   have oc3:Blk w3 (w2.heap.size) 116 #[.int .i64 0]:=oc.steps hs3
   have B3:Below w.heap.size w w3:=below_steps B (Nat.le_refl _) hs3
   have hL3:=Hid.mk_ (hL.steps hs3)
   have hU3:=Hid.mk_ hu
   clear hs3 ok oc B hL hu CL hpl hlt tn ht
   dsimp only
   repeat' (first | go_values | go_skip | go_guarded | go_step | go_upon)
   go_loopw [4,5,6] (fun s4 s5 s6 wr=>∃ (ix:List Nat) (f r:Nat) (v u:Value),v=s4∧u=s5∧s6 = .int .i64 r∧clipGo l k f ix r=clipR l k∧ix.length≤f∧ix≠ []∧(∀i∈ix,i<l.length)∧r+ix.length≤t∧IntsR wr v (inI ix)∧IntsR wr u (pick l ix)∧Blk wr (w.heap.size) 32 #[.bool k1,.slice k2 k3 k4,.bool k5,.slice k6 k7 k8]∧Blk wr (w2.heap.size) 116 #[.int .i64 0]∧Below w.heap.size w wr) (fun s4 _ _ _=>lenV s4)
   case atStart=>exact⟨List.range t,t,0,_,_,rfl,rfl,rfl,(by unfold clipR; rw[HN.out]),(by rw[List.length_range]; omega),(fun e=>by have:=congrArg List.length e; simp at this; omega),(fun i hi=>by have:=HN.out; have:=List.mem_range.1 hi; omega),(by rw[List.length_range]; omega),hL3.out,(by have:=hU3.out; exact this),ok3,oc3,B3⟩
   case round=>
    clear hL3 hU3 ok3 oc3 B3
    obtain⟨ix,f,r,v,u,rfl,rfl,rfl,hgo,hfl,hne,hix,hrn,hv,hu,ok,oc,B⟩:=hrel
    obtain⟨n,hn_⟩:∃n,ix.length=n:=⟨_,rfl⟩
    have n0:0<n:=by rw[← hn_]; exact List.length_pos_iff.2 hne
    have nN:n≤t:=by rw[← hn_]; omega
    obtain⟨va,vc,rfl⟩:=hv.shape
    obtain⟨ua,uc,rfl⟩:=hu.shape
    obtain⟨bv,ov,rfl,-,-⟩:=hv.at' (t:=0) (by rw[inI_len,hn_]; exact n0)
    obtain⟨bu,ou,rfl,-,-⟩:=hu.at' (t:=0) (by rw[pick_len,hn_]; exact n0)
    have el:(inI ix).length=n:=by rw[inI_len,hn_]
    have eu:(pick l ix).length=n:=by rw[pick_len,hn_]
    rw[el]at hv⊢
    rw[eu]at hu⊢
    have FA:=HFA.out wr w2.heap.size ix _ B oc hu hix (by omega)
    have F1:=fun W p1 p2 p3 p4 i h1 h2 h3=>HF1.out W w2.heap.size p1 p2 p3 p4 ix i h1 h2 hix (by omega) hne h3
    have KS:=fun i (h:i<ix.length)=>keepF_step (l:=l) (k:=k) h
    have KA:=keepF_all l k ix
    have KL:=fun i=>keepF_le (l:=l) (k:=k) (ix:=ix) i
    have K0:keepF l k ix 0 = []:=rfl
    have PG:=fun i (h:i<ix.length)=>pick_get l ix h
    have IG:=fun i (h:i<ix.length)=>inI_get ix h
    have SN:=HSN.out ix hne
    have SS:∀i∈stepC l k ix,i<l.length:=fun i hi=>hix i (List.mem_filter.1 hi).1
    obtain⟨CR1,CR2⟩:=clip_round hgo hfl hne
    have hsl:=stepC_le l k ix
    rw[hn_]at KS KA KL PG IG CR1 CR2 F1 hsl
    obtain⟨KF,hKF⟩:∃g:Nat→List Nat,∀i,keepF l k ix i=g i:=⟨_,fun _=>rfl⟩
    simp only[hKF]at KS KA KL K0
    obtain⟨IX,hIX⟩:∃g:Nat→Nat,∀i,ix.getD i 0=g i:=⟨_,fun _=>rfl⟩
    simp only[hIX]at KS PG IG F1
    obtain⟨XX,hXX⟩:∃g:Nat→Int,∀i,l.getD (IX i) 0=g i:=⟨_,fun _=>rfl⟩
    have PK:∀ (m:List Nat) i,pick l (m ++ [IX i])=pick l m ++ [XX i]:=fun m i=>by rw[pick_snoc,hXX]
    simp only[hXX]at KS PG F1
    obtain⟨KB,hKB⟩:∃g:Nat→Bool,∀i,keepB (pick l ix) k (XX i)=g i:=⟨_,fun _=>rfl⟩
    simp only[hKB]at KS F1
    obtain⟨SC,hSC⟩:∃s,stepC l k ix=s:=⟨_,rfl⟩
    rw[hSC]at KA SN SS CR1 CR2 hsl
    have HV:=Hid.mk_ hv
    have HU:=Hid.mk_ hu
    have HEL:=Hid.mk_ (And.intro el eu)
    have HKS:=Hid.mk_ KS
    have HKA:=Hid.mk_ KA
    have HKL:=Hid.mk_ KL
    have HK0:=Hid.mk_ K0
    have HPG:=Hid.mk_ PG
    have HIG:=Hid.mk_ IG
    have HSN2:=Hid.mk_ (And.intro SN SS)
    have HCR:=Hid.mk_ (And.intro CR1 CR2)
    have HPK:=Hid.mk_ PK
    have HF2:=Hid.mk_ F1
    have HXN:=Hid.mk_ hn_
    clear hv hu hgo hfl hne hix el eu HFA HF1 HSN KS KA KL K0 PG IG SN SS CR1 CR2 hKF hIX hXX hKB hSC PK F1 hn_
    have lk:=ok.lt
    have lc2:=oc.lt
    have c0:=ok.c 0 rfl
    have c1:=ok.c 1 rfl
    have c2:=ok.c 2 rfl
    have c3:=ok.c 3 rfl
    repeat' (first | go_values | go_skip | go_guarded | go_step | go_upon)
    refine FA.mono ?_
    rintro e w5 ⟨p1,p2,p3,p4,rfl,hfo,hs5⟩
    have ok5:Blk w5 (w.heap.size) 32 #[.bool k1,.slice k2 k3 k4,.bool k5,.slice k6 k7 k8]:=ok.steps hs5
    have oc5:Blk w5 (w2.heap.size) 116 #[.int .i64 0]:=oc.steps hs5
    have B5:Below w.heap.size w w5:=below_steps B (Nat.le_refl _) hs5
    have hv5:=Hid.mk_ (HV.out.steps hs5)
    have hu5:=Hid.mk_ (HU.out.steps hs5)
    have HFO:=Hid.mk_ hfo
    clear hs5 ok oc B HV HU FA hfo lk lc2 c0 c1 c2 c3
    dsimp only
    repeat' (first | go_values | go_skip | go_guarded | go_step | go_upon)
    refine Reg.wp_chain (fun D v W=>Below w5.heap.size w5 W∧True) (Reg.inl []) (Reg.gv []) Reg.None_ (fun _=>Reg.Any) (fun _ _=>False) (Reg.pl []) (Reg.pl [])
     (by kernel_rfl) (by kernel_rfl) (by kernel_rfl) (Reg.gvA _) (fun _=>⟨belowB,trivial⟩) (fun _ _ _ _ _ h=>h) (fun _ _ _ _ _ _ _ _ _ _ _ _ _=>Reg.none_) (fun _ _ _ _ h=>h.elim) (fun ops' Q' hops hQ=> ?_)
    repeat refine Reg.RP0 _ ?_
    refine Reg.RC_end (fun D v w6 hd hj hf=> ?_)
    obtain⟨st6,_⟩:=hj
    clear hd hf
    refine hQ _ _ ?_
    clear hQ hops Q' ops'
    have ok6:=ok5.steps st6
    have oc6:=oc5.steps st6
    have B6:Below w.heap.size w w6:=below_steps B5 (Nat.le_refl _) st6
    have hv6:=Hid.mk_ (hv5.out.steps st6)
    have hu6:=Hid.mk_ (hu5.out.steps st6)
    have HFO6:=Hid.mk_ (HFO.out.steps st6)
    clear ok5 oc5 B5 hv5 hu5 HFO st6
    repeat' (first | go_values | go_skip | go_guarded | go_step | go_upon)
    go_loopw [45,12,13] (fun kk s12 s13 wq=>∃ (i:Nat) (v u:Value),v=s12∧u=s13∧i≤n∧kk = .int .i64 i∧Two wq w6.heap.size v u (inI (KF i)) (pick l (KF i))∧Below w6.heap.size w6 wq) (fun kk _ _ _=>n-(intOf kk).toNat)
    case atStart=>exact⟨0,_,_,rfl,rfl,by omega,rfl,(by rw[HK0.out]; exact .inl ⟨rfl,rfl,_,_,_,_,rfl,rfl⟩),belowB⟩
    case round=>
     rename World=>wq
     obtain⟨i,v,u,rfl,rfl,hi,rfl,h2,Bq⟩:=hrel
     obtain⟨h2l,va2,vc2,ua2,uc2,rfl,rfl⟩:=h2.len
     rcases Nat.lt_or_ge i n with i4 | i4
     ·
      have hlt:decide ((i:Int)<(n:Int))=true:=decide_eq_true (by omega)
      obtain⟨bv',ov',ev,hbv,hv0⟩:=hv6.out.at' (t:=i) (by have:=HEL.out.1; omega)
      cases ev
      obtain⟨bu',ou',eu',hbu,hu0⟩:=hu6.out.at' (t:=i) (by have:=HEL.out.2; omega)
      cases eu'
      rw[HIG.out i i4]at hv0
      rw[HPG.out i i4]at hu0
      have oc7:=oc6.steps Bq
      have f1:=HF2.out wq p1 p2 p3 p4 i oc7 (HFO6.out.steps Bq) i4
      have ks:=Hid.mk_ (HKS.out i i4)
      have pk:=Hid.mk_ (HPK.out (KF i) i)
      have kl:=HKL.out i
      have cu:wq.cell? ⟨bu,ou+i,none⟩=some (.int .i64 (XX i)):=(Bq.cell (p:=⟨bu,_,none⟩) hbu).trans hu0
      generalize KB i=kb at *
      have H2:=Hid.mk_ h2
      clear h2 hu0 oc7
      repeat' (first | go_values | go_skip | go_guarded | go_step | go_upon)
      refine f1.mono ?_
      rintro e wp ⟨rfl,hsp⟩
      have Bp:Below w6.heap.size w6 wp:=below_steps Bq (Nat.le_refl _) hsp
      have H3:=Hid.mk_ (H2.out.steps hsp)
      have cv:wp.cell? ⟨bv,ov+i,none⟩=some (.int .i64 (IX i:Nat)):=(Bp.cell (p:=⟨bv,_,none⟩) hbv).trans hv0
      clear hsp Bq H2 f1 cu
      have zz:=Bp.size
      cases kb with
      | false=>
       have e1:KF (i+1)=KF i:=ks.out
       have E1:=Hid.mk_ e1
       clear e1
       rw[show (!false)=true from rfl]
       dsimp only
       repeat' (first | go_values | go_skip | go_guarded | go_step | go_upon)
       go_roundw
       case rel=>exact⟨i+1,_,_,rfl,rfl,by omega,by go_num,by rw[E1.out]; exact H3.out,Bp⟩
       case measure=>simp[intOf]; omega
      | true=>
       have e1:KF (i+1)=KF i ++ [IX i]:=ks.out
       have E1:=Hid.mk_ e1
       clear e1
       rw[show (!true)=false from rfl]
       dsimp only
       rcases H3.out with⟨z1,z2,b,o,b',o',z3,z4⟩ | ⟨n',z0,z1,z2,z6,z7⟩
       ·
        have t1:inI (KF (i+1)) = [(IX i:Int)]:=by rw[E1.out,inI_snoc,z1]; rfl
        have t2:pick l (KF (i+1)) = [XX i]:=by rw[E1.out,pk.out,z2]; rfl
        have T1:=Hid.mk_ (And.intro t1 t2)
        rw[z3,z4]
        clear z1 z2 z3 z4 t1 t2 H3
        repeat' (first | ((with_reducible show wpList _ _ _ (⟨some 60,_,_,_,_,_⟩::_) _ _); refine app_firstI rfl (.tmp 54) (.tmp 59) rfl _ rfl wp.heap.size (IX i:Nat) rfl (Blk.new _ _ _) (fun vg1 wg1 rg1 gg1=> ?_)) | ((with_reducible show wpList _ _ _ (⟨some 64,_,_,_,_,_⟩::_) _ _); refine app_firstX rfl (.tmp 61) (.tmp 63) rfl _ rfl wg1.heap.size (XX i) rfl (Blk.new _ _ _) (fun vg2 wg2 rg2 gg2=> ?_)) | go_values | go_skip | go_guarded | go_step | go_upon)
        have e1:Below w6.heap.size w6 wg1:=(Bp.alloc Bp.size _).grown gg1 (by rw[World.size_alloc]; omega) (fun k hk=>by cases hk)
        have e2:Below w6.heap.size w6 wg2:=(e1.alloc e1.size _).grown gg2 (by rw[World.size_alloc]; have:=e1.size; omega) (fun k hk=>by cases hk)
        have tw:=two_first (base:=w6.heap.size) rg1 rg2 (by rw[World.size_alloc]; omega) (by rw[World.size_alloc]; have:=e1.size; omega) gg2
        obtain⟨a1,c1,rfl⟩:=rg1.len
        obtain⟨a2,c2,rfl⟩:=rg2.len
        clear rg1 rg2 gg1 gg2
        repeat' (first | go_values | go_skip | go_guarded | go_step | go_upon)
        go_roundw
        case rel=>exact⟨i+1,_,_,rfl,rfl,by omega,by go_num,by rw[T1.out.1,T1.out.2]; exact tw,e2⟩
        case measure=>simp[intOf]; omega
       ·
        have t1:inI (KF (i+1))=inI (KF i) ++ [(IX i:Int)]:=by rw[E1.out,inI_snoc]
        have t2:pick l (KF (i+1))=pick l (KF i) ++ [XX i]:=by rw[E1.out,pk.out]
        have T1:=Hid.mk_ (And.intro t1 t2)
        have T2:=Hid.mk_ (And.intro z1 z2)
        rw[z1]at z6⊢
        rw[z2]at z7⊢
        have Z6:=Hid.mk_ z6
        have Z7:=Hid.mk_ z7
        have nn:n'≤100000:=by have:=T2.out.1; rw[inI_len]at this; omega
        clear z1 z2 z6 z7 t1 t2 H3
        repeat' (first | ((with_reducible show wpList _ _ _ (⟨some 60,_,_,_,_,_⟩::_) _ _); refine app_int rfl (.tmp 54) (.tmp 59) rfl w6.heap.size n' _ (inI (KF i)) rfl (Z6.out.alloc (.cells #[.int .i64 ((IX i:Nat):Int)] 3)) wp.heap.size (IX i:Nat) rfl (Blk.new _ _ _) nn (by rw[World.size_alloc]; omega) (fun vg1 wg1 rg1 gg1=> ?_)) | ((with_reducible show wpList _ _ _ (⟨some 64,_,_,_,_,_⟩::_) _ _); refine app_i64 rfl (.tmp 61) (.tmp 63) rfl w6.heap.size n' _ (pick l (KF i)) rfl (((Z7.out.alloc (.cells #[.int .i64 ((IX i:Nat):Int)] 3)).other gg1 (swap_ne (rows_ne (Z6.out.alloc (.cells #[.int .i64 ((IX i:Nat):Int)] 3)) (Z7.out.alloc (.cells #[.int .i64 ((IX i:Nat):Int)] 3))))).alloc _) wg1.heap.size (XX i) rfl (Blk.new _ _ _) nn (by rw[World.size_alloc]; have:=gg1.size; rw[World.size_alloc]at this; omega) (fun vg2 wg2 rg2 gg2=> ?_)) | go_values | go_skip | go_guarded | go_step | go_upon)
        have e1:=(Z6.out.alloc (.cells #[.int .i64 ((IX i:Nat):Int)] 3)).below gg1 (Bp.alloc Bp.size _) (Nat.le_refl _)
        have r7:=((Z7.out.alloc (.cells #[.int .i64 ((IX i:Nat):Int)] 3)).other gg1 (swap_ne (rows_ne (Z6.out.alloc (.cells #[.int .i64 ((IX i:Nat):Int)] 3)) (Z7.out.alloc (.cells #[.int .i64 ((IX i:Nat):Int)] 3))))).alloc (.cells #[.int .i64 (XX i)] 2)
        have e2:=r7.below gg2 (e1.alloc e1.size _) (Nat.le_refl _)
        have r1:=(rg1.alloc (.cells #[.int .i64 (XX i)] 2)).other gg2 (swap_ne2 (rows_ne (rg1.alloc (.cells #[.int .i64 (XX i)] 2)) r7))
        have tw:Two wg2 w6.heap.size vg1 vg2 (inI (KF i) ++ [(IX i:Int)]) (pick l (KF i) ++ [XX i]):= .inr ⟨n'+1,by omega,by rw[List.length_append,T2.out.1]; rfl,by rw[List.length_append,T2.out.2]; rfl,r1,rg2⟩
        obtain⟨a1,c1,rfl⟩:=rg1.len
        obtain⟨a2,c2,rfl⟩:=rg2.len
        clear rg1 rg2 gg1 gg2 r7 r1 Z6 Z7
        repeat' (first | go_values | go_skip | go_guarded | go_step | go_upon)
        go_roundw
        case rel=>exact⟨i+1,_,_,rfl,rfl,by omega,by go_num,by rw[T1.out.1,T1.out.2]; exact tw,e2⟩
        case measure=>simp[intOf]; omega
     ·
      obtain rfl:i=n:=by omega
      have hlt:decide ((i:Int)<(i:Int))=false:=decide_eq_false (by omega)
      have oc7:=oc6.steps Bq
      have cc:=oc7.c 0 rfl
      have BB:Below w.heap.size w wq:=below_steps B6 (Nat.le_refl _) Bq
      rw[HKA.out]at h2 h2l⊢
      have y1:(inI SC).length=SC.length:=inI_len SC
      rw[y1]at h2l⊢
      by_cases es:SC.length=i
      ·
       have ei:((SC.length:Int)==(i:Int))=true:=by rw[es]; simp
       have er:=HCR.out.1 es
       have ER:=Hid.mk_ er
       have er2:((clipR l k).2:Int)=(r:Int):=by rw[er]
       have ER2:=Hid.mk_ er2
       clear er2
       have hv7:=hv6.out.steps Bq
       have hu7:=hu6.out.steps Bq
       clear er
       repeat' (first | go_values | go_skip | go_guarded | go_step | go_upon)
       go_returns
       exact⟨_,_,by rw[ER2.out],by rw[ER.out]; exact hv7,by rw[ER.out]; exact hu7,BB⟩
      ·
       have ei:((SC.length:Int)==(i:Int))=false:=by rw[beq_eq_false_iff_ne]; omega
       obtain⟨f',g1,g2⟩:=HCR.out.2 es
       obtain⟨i1,i2⟩:=two_ints h2 (by intro e; have:=congrArg List.length e; rw[inI_len]at this; exact HSN2.out.1 (List.eq_nil_of_length_eq_zero this))
       repeat' (first | go_values | go_skip | go_guarded | go_step | go_upon)
       go_roundw
       case rel=>exact⟨SC,f',r+1,_,_,rfl,rfl,by go_num,g1,g2,HSN2.out.1,HSN2.out.2,(by have:=HXN.out; omega),(by have:=i1; rw[y1]at this; exact this),i2,ok6.steps Bq,oc7,BB⟩
       case measure=>show SC.length<i; omega
def clipS (l:List Int) (o:Option Rat):List Nat×Nat×Int:=
 if askV l=0 then(if facB o then((clipR l (o.getD 0)).1,(clipR l (o.getD 0)).2,0)else([],0,2))else([],0,askV l)
theorem vclip_bad {vl vk:Value} {l:List Int} {o:Option Rat} (w:World) (hl:IntsR w vl l) (hn:l.length≤100000) (hk:FB w vk o) (zk:∀r,o=some r→sz r 4) (c:Int) (hc:(askV l=c∧c≠0)∨(askV l=0∧facB o=false∧c=2)) :
  Calls Tryz.prog 46 #[vl,vk] w fun e w'=>e = .returned (.tuple #[.slice none 0 0,.slice none 0 0,.int .i64 0,.int .i64 c])∧Steps w w':=by
 have CS:∀w',Steps w w'→Calls Tryz.prog 66 #[vl] w' fun e w2=>e = .returned (.int .i64 (askV l))∧Steps w' w2:=fun w' s=>vstart w' (hl.steps s) hn
 have AL:∀w',Steps w w'→Calls Tryz.prog 67 #[vk] w' fun e w2=>e = .returned (.bool (facB o))∧Steps w' w2:=fun w' s=>vallowed w' (hk.keeps (Keeps.steps s)) zk
 obtain⟨k1,k2,k3,k4,k5,k6,k7,k8,rfl⟩:=hk.shape
 obtain⟨la,lc,rfl⟩:=hl.shape
 clear hl hn hk zk
 rcases hc with⟨h1,h2⟩ | ⟨h1,h2,rfl⟩
 ·
  rw[h1]at CS
  have h3:(c==0)=false:=by simpa using h2
  have h4:(c != 0)=true:=by simpa using h2
  clear h1 h2 AL
  go_enter Tryz.func46,Tryz.ntmps46
  go_wp2_with fail
  refine(CS _ belowB).mono ?_
  rintro e w1 ⟨rfl,hb1⟩
  have st:Steps _ w1:=hb1
  have B:=bA w st
  have ok:Blk w1 (w.heap.size) 32 #[.bool k1,.slice k2 k3 k4,.bool k5,.slice k6 k7 k8]:=Blk.stepsK st
  clear st
  go_wp2_with fail
  refine bodyPost_ret (by simp[results,Tryz.results46,go_sem,]; rfl) rfl ?_
  exact⟨rfl,belowB⟩
 ·
  rw[h1]at CS
  rw[h2]at AL
  clear h1 h2
  go_enter Tryz.func46,Tryz.ntmps46
  go_wp2_with fail
  refine(CS _ belowB).mono ?_
  rintro e w1 ⟨rfl,hb1⟩
  have st:Steps _ w1:=hb1
  have B:=bA w st
  have ok:Blk w1 (w.heap.size) 32 #[.bool k1,.slice k2 k3 k4,.bool k5,.slice k6 k7 k8]:=Blk.stepsK st
  clear st
  obtain⟨ck0,ck1,ck2,ck3⟩:=ok.r3
  have lk:=ok.lt
  go_wp2_with fail
  refine(AL _ (belowB)).mono ?_
  rintro e w2 ⟨rfl,st⟩
  have sk:=bA w1 st
  replace B:=bS B sk
  replace ok:=ok.steps sk
  clear st sk ck0 ck1 ck2 ck3 lk
  go_wp2_with fail
  refine bodyPost_ret (by simp[results,Tryz.results46,go_sem,]; rfl) rfl ?_
  exact⟨rfl,belowB⟩
theorem vclip {vl vk:Value} {l:List Int} {o:Option Rat} (w:World) (hl:IntsR w vl l) (hn:l.length≤100000) (hk:FB w vk o) (zk:∀r,o=some r→sz r 4) :
  Calls Tryz.prog 46 #[vl,vk] w fun e w'=>∃v u,e = .returned (.tuple #[v,u,.int .i64 ((clipS l o).2.1:Nat),.int .i64 (clipS l o).2.2])∧IntsR w' v (inI (clipS l o).1)∧IntsR w' u (pick l (clipS l o).1)∧Steps w w':=by
 unfold clipS
 by_cases h1:askV l=0
 ·
  rw[if_pos h1]
  cases h2:facB o with
  | false=>
   refine(vclip_bad w hl hn hk zk 2 (.inr ⟨h1,h2,rfl⟩)).mono ?_
   rintro e w' ⟨rfl,hs⟩
   exact⟨_,_,rfl,IntsR.nil _,IntsR.nil _,hs⟩
  | true=>
   obtain⟨k,rfl,-,-⟩:=facB_ok h2
   exact vclip_ok w hl hk (zk k rfl) h1 h2
 ·
  rw[if_neg h1]
  refine(vclip_bad w hl hn hk zk (askV l) (.inl ⟨rfl,h1⟩)).mono ?_
  rintro e w' ⟨rfl,hs⟩
  exact⟨_,_,rfl,IntsR.nil _,IntsR.nil _,hs⟩
theorem vClip {vl vk:Value} {l:List Int} {o:Option Rat} (w:World) (hl:IntsR w vl l) (hn:l.length≤100000) (hk:FB w vk o) (zk:∀r,o=some r→sz r 4) :
  Calls Tryz.prog 30 #[vl,vk] w fun e w'=>∃v,e = .returned (.tuple #[v,.int .i64 ((clipS l o).2.1:Nat),.int .i64 (clipS l o).2.2])∧IntsR w' v (inI (clipS l o).1)∧Steps w w':=by
 have CC:∀w',Steps w w'→Calls Tryz.prog 46 #[vl,vk] w' fun e w2=>∃v u,e = .returned (.tuple #[v,u,.int .i64 ((clipS l o).2.1:Nat),.int .i64 (clipS l o).2.2])∧IntsR w2 v (inI (clipS l o).1)∧IntsR w2 u (pick l (clipS l o).1)∧Steps w' w2:=fun w' s=>vclip w' (hl.steps s) hn (hk.keeps (Keeps.steps s)) zk
 obtain⟨k1,k2,k3,k4,k5,k6,k7,k8,rfl⟩:=hk.shape
 obtain⟨la,lc,rfl⟩:=hl.shape
 generalize (clipS l o).2.2=c at *
 generalize ((clipS l o).2.1:Int)=r at *
 generalize inI (clipS l o).1=x at *
 generalize pick l (clipS l o).1=y at *
 clear hl hn hk zk
 go_enter Tryz.func30,Tryz.ntmps30
 go_wp2_with fail
 refine(CC _ belowB).mono ?_
 rintro e w1 ⟨v,u,rfl,hv,hu,hs⟩
 obtain⟨va,vc,rfl⟩:=hv.shape
 obtain⟨ua,uc,rfl⟩:=hu.shape
 have B:=bA w hs
 clear hs CC
 go_wp2_with fail
 go_returns
 exact⟨_,rfl,hv,B⟩
theorem askV_of {m:List Int} (h0:m≠ []) (h:valL m):askV m=0:=by
 have hk:∀t,t≤m.length→okV m t=true:=by
  intro t
  induction t with
  | zero=>intro _; rfl
  | succ t ih=>
   intro ht
   unfold okV
   rw[ih (by omega),decide_eq_true (h.get (by omega))]; rfl
 have hc:chkV m=0:=by unfold chkV; rw[if_neg (by have:=h.1; omega),hk _ (Nat.le_refl _)]; rfl
 unfold askV
 rw[if_pos hc,if_neg (by have:=List.length_pos_iff.2 h0; omega)]
theorem prclip_ok {vl vk:Value} {l:List Int} {k:Rat} (w:World) (hl:IntsR w vl l) (h24:l.length≤100) (hk:FR w vk k) (zk:sz k 4) (ha:askV l=0) (hf:facB (some k)=true) :
  Calls Tryz.prog 37 #[vl,vk] w fun e w'=>∃v,e = .returned (.tuple #[v,.int .i64 ((clipR l k).2:Nat),.int .i64 0])∧IntsR w' v (inI (clipR l k).1)∧Steps w w':=by
 obtain⟨hv,h0⟩:=askV_val ha
 have hn:=hv.1
 have k1:1≤k:=by obtain⟨r,e,h1,h2⟩:=facB_ok hf; cases e; exact h1
 have zkk:sz (k*k) 8:=zk.mul zk
 have CS:∀w',Steps w w'→Calls Tryz.prog 54 #[vl] w' fun e w2=>e = .returned (.int .i64 0)∧Steps w' w2:=fun w' s=>by have:=pvasked w' (hl.steps s) (by omega); rw[ha]at this; exact this
 have AL:∀w',Steps w w'→Calls Tryz.prog 35 #[vk] w' fun e w2=>e = .returned (.bool true)∧Steps w' w2:=fun w' s=>by have:=pvfactor (o:=some k) w' (FR.keeps hk (Keeps.steps s)) (fun r e=>by cases e; exact zk); rw[hf]at this; exact this
 have KK:∀w',Steps w w'→Calls Tryz.prog 55 #[vk,vk] w' fun e w2=>∃v,e = .returned (.tuple #[v,.int .i64 0])∧FR w2 v (k*k)∧Steps w' w2:=fun w' s=>rMulQ w' (FR.keeps hk (Keeps.steps s)) (FR.keeps hk (Keeps.steps s)) zk zk (by omega)
 have PI:∀w' ix v,Steps w w'→IntsR w' v (inI ix)→(∀i∈ix,i<l.length)→ix.length≤1000→Calls Tryz.prog 39 #[vl,v] w' fun e w2=>∃u,e = .returned u∧IntsR w2 u (pick l ix)∧Steps w' w2:=fun w' ix v s h h1 h2=>prpick w' (hl.steps s) h h1 h2 (by omega)
 have ME:∀w' ix v,IntsR w' v (pick l ix)→(∀i∈ix,i<l.length)→ix.length≤100→ix≠ []→Calls Tryz.prog 56 #[v] w' fun e w2=>∃u,e = .returned u∧FR w2 u (meanQ (pick l ix))∧Steps w' w2:=fun w' ix v h h1 h2 h3=>prmean w' h (pick_val hv h1 (by omega)) (pick_ne h3)
 have VA:∀w' ix v u,IntsR w' v (pick l ix)→FR w' u (meanQ (pick l ix))→(∀i∈ix,i<l.length)→ix.length≤100→ix≠ []→Calls Tryz.prog 57 #[v,u] w' fun e w2=>∃u,e = .returned u∧FR w2 u (varQ (pick l ix))∧Steps w' w2:=fun w' ix v u h hu h1 h2 h3=>prvariance w' h (pick_val hv h1 (by omega)) (pick_ne h3) (by rw[pick_len]; exact h2) hu
 have zv:∀ix:List Nat,(∀i∈ix,i<l.length)→ix.length≤100→ix≠ []→sz (varQ (pick l ix)) 5:=fun ix h1 h2 h3=>sz_var (pick_val hv h1 (by omega)) (pick_ne h3)
 have MO:∀w' ix v u,FR w' v (k*k)→FR w' u (varQ (pick l ix))→(∀i∈ix,i<l.length)→ix.length≤100→ix≠ []→Calls Tryz.prog 55 #[v,u] w' fun e w2=>∃u,e = .returned (.tuple #[u,.int .i64 0])∧FR w2 u (k*k*varQ (pick l ix))∧Steps w' w2:=fun w' ix v u h hu h1 h2 h3=>rMulQ w' h hu zkk (zv ix h1 h2 h3) (by omega)
 have SQ:∀w' ix i u,FR w' u (meanQ (pick l ix))→(∀i∈ix,i<l.length)→ix.length≤100→ix≠ []→i<ix.length→Calls Tryz.prog 58 #[.int .i64 (l.getD (ix.getD i 0) 0),u] w' fun e w2=>∃u,e = .returned u∧FR w2 u (((l.getD (ix.getD i 0) 0:Rat)-meanQ (pick l ix))*((l.getD (ix.getD i 0) 0:Rat)-meanQ (pick l ix)))∧Steps w' w2:=fun w' ix i u h h1 h2 h3 h4=>prsquare w' h (sz_mean (pick_val hv h1 (by omega)) (pick_ne h3)) (hv.get (h1 _ (getN_mem h4)))
 have CM:∀w' ix i u v,FR w' u (((l.getD (ix.getD i 0) 0:Rat)-meanQ (pick l ix))*((l.getD (ix.getD i 0) 0:Rat)-meanQ (pick l ix)))→FR w' v (k*k*varQ (pick l ix))→(∀i∈ix,i<l.length)→ix.length≤100→ix≠ []→i<ix.length→Calls Tryz.prog 52 #[u,v] w' fun e w2=>e = .returned (.tuple #[.int .i64 (cmpQ (((l.getD (ix.getD i 0) 0:Rat)-meanQ (pick l ix))*((l.getD (ix.getD i 0) 0:Rat)-meanQ (pick l ix))) (k*k*varQ (pick l ix))),.int .i64 0])∧Steps w' w2:=fun w' ix i u v hu hv' h1 h2 h3 h4=>
  rCmpQ w' hu hv' (sz_sq (pick_val hv h1 (by omega)) (pick_ne h3) (hv.get (h1 _ (getN_mem h4)))) (zkk.mul (zv ix h1 h2 h3)) (by omega)
 have KBS:∀ (ix:List Nat) i,keepB (pick l ix) k (l.getD (ix.getD i 0) 0)=decide (cmpQ (((l.getD (ix.getD i 0) 0:Rat)-meanQ (pick l ix))*((l.getD (ix.getD i 0) 0:Rat)-meanQ (pick l ix))) (k*k*varQ (pick l ix))≤0):=fun ix i=>by
  unfold keepB
  exact decide_eq_decide.2 cmpQ_le.symm
 have HKBS:=Hid.mk_ KBS
 have HSN:=Hid.mk_ (fun(ix:List Nat) h=>stepC_ne (l:=l) k1 (ix:=ix) h)
 have HPI:=Hid.mk_ PI
 have HME:=Hid.mk_ ME
 have HVA:=Hid.mk_ VA
 have HMO:=Hid.mk_ MO
 have HSQ:=Hid.mk_ SQ
 have HCM:=Hid.mk_ CM
 obtain⟨k1,k2,k3,k4,k5,k6,k7,k8,rfl⟩:=hk.shape
 have HL:=Hid.mk_ hl
 obtain⟨la,lc,rfl⟩:=hl.shape
 obtain⟨N,hN⟩:∃n,l.length=n:=⟨_,rfl⟩
 have HN:=Hid.mk_ hN
 have h0':0<N:=by rw[← hN]; exact List.length_pos_iff.2 h0
 rw[hN]at CS h24 hn HL⊢
 clear hl hk zk zkk ha hf hv h0 hN KBS PI ME VA MO SQ CM zv
 go_enter Tryz.func37,Tryz.ntmps37
 go_wp2_with fail
 refine(CS _ belowB).mono ?_
 rintro e w1 ⟨rfl,hs1⟩
 have ok1:Blk w1 (w.heap.size) 32 #[.bool k1,.slice k2 k3 k4,.bool k5,.slice k6 k7 k8]:=Blk.stepsK hs1
 have B1:Below w.heap.size w w1:=belowA hs1
 have c0:=ok1.c 0 rfl
 have c1:=ok1.c 1 rfl
 have c2:=ok1.c 2 rfl
 have c3:=ok1.c 3 rfl
 clear hs1 CS
 go_wp2_with fail
 refine(AL _ B1).mono ?_
 rintro e w2 ⟨rfl,hs2⟩
 have ok2:Blk w2 (w.heap.size) 32 #[.bool k1,.slice k2 k3 k4,.bool k5,.slice k6 k7 k8]:=ok1.steps hs2
 have B2:Below w.heap.size w w2:=below_steps B1 (Nat.le_refl _) hs2
 clear hs2 ok1 B1 AL c0 c1 c2 c3
 have c0:=ok2.c 0 rfl
 have c1:=ok2.c 1 rfl
 have c2:=ok2.c 2 rfl
 have c3:=ok2.c 3 rfl
 go_wp2_with fail
 refine(KK _ B2).mono ?_
 rintro e w3 ⟨vq,rfl,hq,hs3⟩
 have B3:Below w.heap.size w w3:=below_steps B2 (Nat.le_refl _) hs3
 clear hs3 ok2 B2 KK c0 c1 c2 c3
 obtain⟨q1,q2,q3,q4,q5,q6,q7,q8,rfl⟩:=hq.shape
 have Fq:=Hid.mk_ hq
 clear hq
 have zz3:=B3.size
 dsimp only
 go_wp2_with fail
 go_loopw [11,10] (fun kk oo wr=>∃ (t:Nat) (ow:Value),ow=oo∧t≤N∧kk = .int .i64 t∧RowU wr (w3.heap.size+1) 3 1 ow t (ints (inI (List.range t)))∧Blk wr (w3.heap.size) 32 #[.bool q1,.slice q2 q3 q4,.bool q5,.slice q6 q7 q8]∧Below w3.heap.size w3 wr) (fun kk _ _=>N-(intOf kk).toNat)
 case atStart=>exact⟨0,_,rfl,Nat.zero_le _,rfl,RowU.nil _ _ _ _,ownK,belowB⟩
 case round=>
  obtain⟨t,ow,rfl,ht,rfl,hr,oq,B⟩:=hrel
  obtain⟨oa,ocap,rfl⟩:=hr.len
  have HR:=Hid.mk_ hr
  clear hr
  rcases Nat.lt_or_ge t N with tn | tn
  ·
   have hlt:decide ((t:Int)<(N:Int))=true:=decide_eq_true (by omega)
   have zz:=B.size
   have lq:=oq.lt
   have hps:inI (List.range (t+1))=inI (List.range t) ++ [(t:Int)]:=by rw[List.range_succ,inI_snoc]
   have HPS:=Hid.mk_ hps
   clear hps
   repeat' (first | ((with_reducible show wpList _ _ _ (⟨some 44,_,_,_,_,_⟩::_) _ _); refine app_int rfl (.tmp 41) (.tmp 43) rfl (w3.heap.size+1) t (.slice oa t ocap) (inI (List.range t)) rfl (HR.out.alloc _) wr.heap.size t rfl (Blk.new _ _ _) (by omega) (by rw[World.size_alloc]; omega) (fun v' w7 hr7 hg7=> ?_)) | go_values | go_skip | go_guarded | go_step | go_upon)
   obtain⟨oa',ocap',rfl⟩:=hr7.len
   have r6:=HR.out.alloc (.cells #[.int .i64 (t:Int)] 3)
   have oq7:=r6.blk hg7 (oq.alloc _) (by omega)
   have B7:=r6.below hg7 (B.alloc B.size _) (by omega)
   have HR7:=Hid.mk_ hr7
   clear r6 hg7 hr7 HR oq B
   go_wp2_with fail
   go_roundw
   case rel=>exact⟨t+1,_,rfl,by omega,by go_num,by rw[HPS.out]; exact HR7.out,oq7,B7⟩
   case measure=>simp[intOf]; omega
  ·
   obtain rfl:t=N:=by omega
   have hlt:decide ((t:Int)<(t:Int))=false:=decide_eq_false (by omega)
   have hpl:(inI (List.range t)).length=t:=by rw[inI_len,List.length_range]
   have hL:IntsR wr (.slice oa t ocap) (inI (List.range t)):=by have:=HR.out; rw[show t=(inI (List.range t)).length from hpl.symm]at this⊢; simpa[hpl]using this.ints
   have HL3:=Hid.mk_ hL
   clear HR hL hpl
   go_wp2_with fail
   go_loopw [10,12] (fun s4 s6 wr=>∃ (ix:List Nat) (f r:Nat) (v:Value),v=s4∧s6 = .int .i64 r∧clipGo l k f ix r=clipR l k∧ix.length≤f∧ix≠ []∧(∀i∈ix,i<l.length)∧r+ix.length≤t∧IntsR wr v (inI ix)∧Blk wr (w3.heap.size) 32 #[.bool q1,.slice q2 q3 q4,.bool q5,.slice q6 q7 q8]∧Below w3.heap.size w3 wr) (fun s4 _ _=>lenV s4)
   case atStart=>exact⟨List.range t,t,0,_,rfl,rfl,(by unfold clipR; rw[HN.out]),(by rw[List.length_range]; omega),(fun e=>by have:=congrArg List.length e; simp at this; omega),(fun i hi=>by have:=HN.out; have:=List.mem_range.1 hi; omega),(by rw[List.length_range]; omega),HL3.out,ownK,belowB⟩
   case round=>
    clear HL3 oq B
    obtain⟨ix,f,r,v,rfl,rfl,hgo,hfl,hne,hix,hrn,hv,oq,B⟩:=hrel
    obtain⟨n,hn_⟩:∃n,ix.length=n:=⟨_,rfl⟩
    have n0:0<n:=by rw[← hn_]; exact List.length_pos_iff.2 hne
    have nN:n≤t:=by rw[← hn_]; omega
    obtain⟨va,vc,rfl⟩:=hv.shape
    have el:(inI ix).length=n:=by rw[inI_len,hn_]
    have eu:(pick l ix).length=n:=by rw[pick_len,hn_]
    rw[el]at hv⊢
    have PI:=fun W v s h=>HPI.out W ix v s h hix (by omega)
    rw[HN.out]at PI
    have ME:=fun W v h=>HME.out W ix v h hix (by omega) hne
    have VA:=fun W v u h hu=>HVA.out W ix v u h hu hix (by omega) hne
    have MO:=fun W v u h hu=>HMO.out W ix v u h hu hix (by omega) hne
    have SQ:=fun i (h:i<ix.length) W u hu=>HSQ.out W ix i u hu hix (by omega) hne h
    have CM:=fun i (h:i<ix.length) W u v hu hv=>HCM.out W ix i u v hu hv hix (by omega) hne h
    have KBS:=fun i=>HKBS.out ix i
    have KS:=fun i (h:i<ix.length)=>keepF_step (l:=l) (k:=k) h
    have KA:=keepF_all l k ix
    have KL:=fun i=>keepF_le (l:=l) (k:=k) (ix:=ix) i
    have K0:keepF l k ix 0 = []:=rfl
    have IG:=fun i (h:i<ix.length)=>inI_get ix h
    have IL:=fun i (h:i<ix.length)=>hix _ (getN_mem h)
    have SN:=HSN.out ix hne
    have SS:∀i∈stepC l k ix,i<l.length:=fun i hi=>hix i (List.mem_filter.1 hi).1
    obtain⟨CR1,CR2⟩:=clip_round hgo hfl hne
    have hsl:=stepC_le l k ix
    rw[hn_]at KS KA KL IG IL CR1 CR2 SQ CM hsl
    obtain⟨KF,hKF⟩:∃g:Nat→List Nat,∀i,keepF l k ix i=g i:=⟨_,fun _=>rfl⟩
    simp only[hKF]at KS KA KL K0
    obtain⟨IX,hIX⟩:∃g:Nat→Nat,∀i,ix.getD i 0=g i:=⟨_,fun _=>rfl⟩
    simp only[hIX]at KS IG IL SQ CM KBS
    obtain⟨MQ,hMQ⟩:∃q,meanQ (pick l ix)=q:=⟨_,rfl⟩
    obtain⟨VQ,hVQ⟩:∃q,varQ (pick l ix)=q:=⟨_,rfl⟩
    simp only[hMQ,hVQ]at ME VA MO SQ CM KBS
    obtain⟨SQQ,hSQ⟩:∃g:Nat→Rat,∀i,(((l.getD (IX i) 0:Int):Rat)-MQ)*(((l.getD (IX i) 0:Int):Rat)-MQ)=g i:=⟨_,fun _=>rfl⟩
    simp only[hSQ]at SQ CM KBS
    obtain⟨XX,hXX⟩:∃g:Nat→Int,∀i,l.getD (IX i) 0=g i:=⟨_,fun _=>rfl⟩
    simp only[hXX]at KS SQ KBS
    generalize k*k*VQ=MOQ at *
    obtain⟨CQ,hCQ⟩:∃g:Nat→Int,∀i,cmpQ (SQQ i) MOQ=g i:=⟨_,fun _=>rfl⟩
    simp only[hCQ]at CM KBS
    simp only[KBS]at KS
    obtain⟨SC,hSC⟩:∃s,stepC l k ix=s:=⟨_,rfl⟩
    rw[hSC]at KA SN SS CR1 CR2 hsl
    have HV:=Hid.mk_ hv
    have HEL:=Hid.mk_ (And.intro el eu)
    have HKS:=Hid.mk_ KS
    have HKA:=Hid.mk_ KA
    have HKL:=Hid.mk_ KL
    have HK0:=Hid.mk_ K0
    have HIG:=Hid.mk_ (And.intro IG IL)
    have HSN2:=Hid.mk_ (And.intro SN SS)
    have HCR:=Hid.mk_ (And.intro CR1 CR2)
    have HXX:=Hid.mk_ hXX
    have HXN:=Hid.mk_ hn_
    clear hv hgo hfl hne hix el HPI HME HVA HMO HSQ HCM HKBS HSN KS KA KL K0 IG IL SN SS CR1 CR2 hKF hIX hMQ hVQ hSQ hXX hCQ hSC KBS hn_
    have lq:=oq.lt
    have Bw:Below w.heap.size w wr:=below_steps B3 (Nat.le_refl _) B
    repeat' (first | go_values | go_skip | go_guarded | go_step | go_upon)
    refine(PI _ _ Bw HV.out).mono ?_
    rintro e w4 ⟨vn,rfl,hn4,hs4⟩
    have oq4:Blk w4 (w3.heap.size) 32 #[.bool q1,.slice q2 q3 q4,.bool q5,.slice q6 q7 q8]:=oq.steps hs4
    have B4:Below w3.heap.size w3 w4:=below_steps B (Nat.le_refl _) hs4
    have hv4:=Hid.mk_ (HV.out.steps hs4)
    obtain⟨na,nc,rfl⟩:=hn4.shape
    rw[eu]at hn4⊢
    have HN4:=Hid.mk_ hn4
    clear hs4 oq B HV Bw PI lq hn4 eu
    dsimp only
    repeat' (first | go_values | go_skip | go_guarded | go_step | go_upon)
    refine(ME _ _ HN4.out).mono ?_
    rintro e w5 ⟨vm,rfl,hm,hs5⟩
    have oq5:Blk w5 (w3.heap.size) 32 #[.bool q1,.slice q2 q3 q4,.bool q5,.slice q6 q7 q8]:=oq4.steps hs5
    have B5:Below w3.heap.size w3 w5:=below_steps B4 (Nat.le_refl _) hs5
    have hv5:=Hid.mk_ (hv4.out.steps hs5)
    have HN5:=Hid.mk_ (HN4.out.steps hs5)
    obtain⟨m1,m2,m3,m4,m5,m6,m7,m8,rfl⟩:=hm.shape
    have Fm:=Hid.mk_ hm
    have Fq5:=Hid.mk_ (FR.keeps Fq.out (Keeps.steps B5))
    clear hs5 oq4 B4 hv4 HN4 ME hm
    have zz5:=B5.size
    have lq5:=oq5.lt
    dsimp only
    repeat' (first | go_values | go_skip | go_guarded | go_step | go_upon)
    have B:=Below.refl w5.heap.size w5
    have oq:=oq5
    clear oq5
    have zz5:=B.size
    go_upto_region 16 with fail
    refine Reg.chn (fun N0 D v W=>Below w5.heap.size w5 W∧Keeps w5 W∧N0≤W.heap.size∧Blk W (w3.heap.size) 32 #[.bool q1,.slice q2 q3 q4,.bool q5,.slice q6 q7 q8]∧Blk W (w5.heap.size) 32 #[.bool m1,.slice m2 m3 m4,.bool m5,.slice m6 m7 m8]∧(D 8=true→∃g:Nat,v 8 = .pointer (some ⟨g,0,none⟩)∧N0≤g∧g<W.heap.size∧(D 9=false→Blk W g 32 #[.bool false,.slice none 0 0,.bool false,.slice none 0 0])∧(D 9=true→D 4=true∧∃cs,v 4 = .tuple #[.agg cs,.int .i64 0]∧Blk W g 32 cs))) [3,4,8,9] [(3,IsFr),(4,IsFrE 0),(8,IsPtr)] [(3,GFr (VQ)),(4,GFrE (MOQ) 0)] [(4,[(3,some 56)]),(9,[(4,some 57),(8,some 15)]),(11,[(3,some 56),(4,some 57),(8,some 15)])] [(8,[9]),(4,[9])] (fun N0 hN0=>⟨fun v=> ?_,fun D v v' W hv hj=> ?_,fun ops' Q' hops hQ=> ?_⟩)
    · exact⟨belowB,keepsB,leD hN0,ownK,ownK,(fun h=>Bool.noConfusion h)⟩
    ·
     obtain⟨j0,jk,jn,b_q,b_m,a_8⟩:=hj
     exact⟨j0,jk,jn,b_q,b_m,fun h=>by obtain⟨g,e1,e2,e3,e4,e5⟩:=a_8 h; exact⟨g,(hv 8 h)▸e1,e2,e3,e4,fun h=>by obtain⟨d,cs,e,hb⟩:=e5 h; exact⟨d,cs,(hv 4 d)▸e,hb⟩⟩⟩
    have eN:=hN0.out
    try simp only[World.size_alloc,World.size_setCell,World.size_drew,World.heap_drewN]at eN
    have i_q:w3.heap.size<N0:=by first | omega | (have h:=oq.lt; omega)
    have i_m:w5.heap.size<N0:=by first | omega | (have h:=om.lt; omega)
    have iw:w5.heap.size≤N0:=by first | omega | (have h:=B.size; omega)
    clear hN0 eN
    refine Reg.RPf 53 (fun _ _ _ h=>h.2.2.2.1.r3) ?_
    refine Reg.RP0 54 ?_
    refine Reg.RPf 55 (fun _ _ _ h=>h.2.2.2.2.1.r3) ?_
    refine Reg.RC_call rfl (tlt rfl) rfl (fun D v' W' hc hj hf K hK=> ?_) ?_
    ·
     obtain⟨j0,jk,jn,b_q,b_m,a_8⟩:=hj
     clear hf
     go_step
     refine(VA W' _ _ (HN5.out.steps j0) (Fm.out.keeps jk)).mono ?_
     rintro e W2 ⟨u,rfl,hu,hs⟩
     obtain⟨v1,v2,v3,v4,v5,v6,v7,v8,rfl⟩:=hu.shape
     exact hK.out _ W2 (Keeps.steps hs) ⟨jst j0 hs,jk.then_ hs,jsz jn hs,b_q.steps hs,b_m.steps hs,fun h=>by obtain⟨g,e1,e2,e3,e4,e5⟩:=a_8 h; exact⟨g,e1,e2,Nat.lt_of_lt_of_le e3 (hs).size,fun h=>(e4 h).steps hs,fun h=>by obtain⟨d,cs,e,hb⟩:=e5 h; exact⟨d,cs,e,hb.steps hs⟩⟩⟩ hu ⟨_,_,_,_,_,_,_,_,rfl⟩
    rintro _ ⟨v1,v2,v3,v4,v5,v6,v7,v8,rfl⟩
    refine Reg.RC_at (b:=⟨#[_,_,_,_,_,_,_,_,_,_,_,_,_,_,_,_,_,_,_,_,_,_,_,_,_,_,_,_,_,_,_,_,_,_,_,_,_,_,_,_,_,_,_,_,_,_,_,_,_,_,_,_,_,_,_,_,_,_,_,_,_,_,_,_,_,_,_,_,_,_,_,_,_,_,_,_,_,_,_,_,_,_,_,_,_,_,_,_,_,_,_,_,_,_,_,_,_],_⟩) rfl ?_
    refine Reg.RC_call rfl (tlt rfl) rfl (fun D v' W' hc hj hf K hK=> ?_) ?_
    ·
     obtain⟨j0,jk,jn,b_q,b_m,a_8⟩:=hj
     have g3:GFr (VQ) _ W':=(hf (3,some 56) (.head _) rfl).2.2
     have g3:FR W' _ (VQ):=g3
     clear hf
     go_step
     refine(MO W' _ _ (Fq5.out.keeps jk) g3).mono ?_
     rintro e W2 ⟨u,rfl,hu,hs⟩
     obtain⟨x1,x2,x3,x4,x5,x6,x7,x8,rfl⟩:=hu.shape
     exact hK.out _ W2 (Keeps.steps hs) ⟨jst j0 hs,jk.then_ hs,jsz jn hs,b_q.steps hs,b_m.steps hs,fun h=>by obtain⟨g,e1,e2,e3,e4,e5⟩:=a_8 h; exact⟨g,e1,e2,Nat.lt_of_lt_of_le e3 (hs).size,fun h=>(e4 h).steps hs,fun h=>Bool.noConfusion ((hc.2 9 (by decide)).symm.trans h)⟩⟩ ⟨_,rfl,hu⟩ ⟨_,_,_,_,_,_,_,_,rfl⟩
    rintro _ ⟨x1,x2,x3,x4,x5,x6,x7,x8,rfl⟩
    refine Reg.RC_at (b:=⟨#[_,_,_,_,_,_,_,_,_,_,_,_,_,_,_,_,_,_,_,_,_,_,_,_,_,_,_,_,_,_,_,_,_,_,_,_,_,_,_,_,_,_,_,_,_,_,_,_,_,_,_,_,_,_,_,_,_,_,_,_,_,_,_,_,_,_,_,_,_,_,_,_,_,_,_,_,_,_,_,_,_,_,_,_,_,_,_,_,_,_,_,_,_,_,_,_,_],_⟩) rfl ?_
    repeat refine Reg.RP0 _ ?_
    refine Reg.RC_call rfl (tlt rfl) rfl (fun D v' W' hc hj hf K hK=> ?_) ?_
    ·
     obtain⟨j0,jk,jn,b_q,b_m,a_8⟩:=hj
     go_step
     have hs:∀o:Obj,Steps W' (W'.alloc o):=fun o=>(Below.refl _ _).alloc (Nat.le_refl _) o
     exact hK.out _ _ (Keeps.steps (hs _)) ⟨jst j0 (hs _),jk.then_ (hs _),jsz jn (hs _),b_q.steps (hs _),b_m.steps (hs _),fun _=>⟨W'.heap.size,rfl,jn,by rw[World.size_alloc]; omega,fun _=>Blk.new _ _ _,fun h=>Bool.noConfusion ((hc.2 9 (by decide)).symm.trans h)⟩⟩ trivial ⟨_,rfl⟩
    rintro _ ⟨p15,rfl⟩
    refine Reg.RC_at (b:=⟨#[_,_,_,_,_,_,_,_,_,_,_,_,_,_,_,_,_,_,_,_,_,_,_,_,_,_,_,_,_,_,_,_,_,_,_,_,_,_,_,_,_,_,_,_,_,_,_,_,_,_,_,_,_,_,_,_,_,_,_,_,_,_,_,_,_,_,_,_,_,_,_,_,_,_,_,_,_,_,_,_,_,_,_,_,_,_,_,_,_,_,_,_,_,_,_,_,_],_⟩) rfl ?_
    refine Reg.RCs (fun D v' W' hc hj hf K hK=> ?_) (fun _ _=>Reg.RC_at (b:=⟨_,_⟩) rfl ?_)
    ·
     obtain⟨j0,jk,jn,b_q,b_m,a_8⟩:=hj
     have f:=hf (8,some 15) (.tail _ (.head _)) rfl
     have e6:v' 8 = .pointer (some ⟨p15,0,none⟩):=f.2.1
     obtain⟨g,e1,e2,e3,e4,e5⟩:=a_8 f.1
     obtain rfl:p15=g:=Reg.ptr_eq (e6.symm.trans e1)
     have hb:=e4 hc.1
     clear e4 e5
     have fc:=hf (4,some 57) (.head _) rfl
     have ec:v' 4 = .tuple #[.agg #[.bool x1,.slice x2 x3 x4,.bool x5,.slice x6 x7 x8],.int .i64 0]:=fc.2.1
     have ff:=hb.fr
     obtain⟨cc0,cc1,cc2,cc3⟩:=hb.r3
     go_step
     exact hK.out undef _ (keeps4 hb rfl) ⟨(below4 j0 (by show w5.heap.size≤p15; omega)),jk.trans (keeps4 hb rfl),by simpa using jn,(b_q).far4 (show w3.heap.size≠p15 by omega),(b_m).far4 (show w5.heap.size≠p15 by omega),fun _=>⟨p15,e1,e2,by simpa using e3,fun h=>Bool.noConfusion h,fun _=>⟨fc.1,_,ec,(Blk.set2 (cs':=#[.bool x1,.slice x2 x3 x4,.bool x5,.slice x6 x7 x8]) (Blk.set2 (cs':=#[.bool x1,.slice x2 x3 x4,.bool x5,.slice none 0 0]) (Blk.set2 (cs':=#[.bool x1,.slice x2 x3 x4,.bool false,.slice none 0 0]) (Blk.set2 (cs':=#[.bool x1,.slice none 0 0,.bool false,.slice none 0 0]) hb (i:=0) rfl) (i:=1) rfl) (i:=2) rfl) (i:=3) rfl)⟩⟩⟩ trivial trivial
    refine Reg.RP0 16 ?_
    refine Reg.RC_end (fun Dn v' w6 hd hj hf=> ?_)
    obtain⟨B,jk,jn,oq,om,a_8⟩:=hj
    have f:=hf (8,some 15) (.tail _ (.tail _ (.head _))) rfl
    have e6_:v' 8 = .pointer (some ⟨p15,0,none⟩):=f.2.1
    obtain⟨g,e1_,zx,-,-,e5_⟩:=a_8 f.1
    obtain rfl:p15=g:=Reg.ptr_eq (e6_.symm.trans e1_)
    obtain⟨-,cs_,ee,ox⟩:=e5_ (hd 9 (Nat.le_of_ble_eq_true rfl))
    have ef:v' 4 = .tuple #[.agg #[.bool x1,.slice x2 x3 x4,.bool x5,.slice x6 x7 x8],.int .i64 0]:=(hf (4,some 57) (.tail _ (.head _)) rfl).2.1
    obtain rfl:#[.bool x1,.slice x2 x3 x4,.bool x5,.slice x6 x7 x8]=cs_:=by have:=ef.symm.trans ee; simpa only[Value.tuple.injEq,Value.agg.injEq,Array.mk.injEq,List.cons.injEq,and_true,true_and]using this
    clear ee ef f e5_ e1_ e6_
    have Fx:=Hid.mk_ (GFrE.get (r:=MOQ) (e:=0) (v:= .agg #[.bool x1,.slice x2 x3 x4,.bool x5,.slice x6 x7 x8]) (hf (4,some 57) (.tail _ (.head _)) rfl).2.2)
    replace Fq5:=Hid.mk_ (Fq5.out.keeps jk)
    replace Fm:=Hid.mk_ (Fm.out.keeps jk)
    clear hd hf jk
    refine hQ _ _ ?_
    clear hQ hops Q' ops'
    have Bw6:Below w3.heap.size w3 w6:=below_steps B5 (Nat.le_refl _) B
    have hv6:=Hid.mk_ (hv5.out.steps B)
    have hl6:=Hid.mk_ (HL.out.steps (below_steps B3 (Nat.le_refl _) Bw6))
    clear hv5 HN5 VA MO zz5 lq5 B5
    repeat' (first | go_values | go_skip | go_guarded | go_step | go_upon)
    go_loopw [18,17] (fun kk oo wr=>∃ (i:Nat) (ow:Value),ow=oo∧i≤n∧kk = .int .i64 i∧RowU wr w6.heap.size 3 1 ow (KF i).length (ints (inI (KF i)))∧Below w6.heap.size w6 wr) (fun kk _ _=>n-(intOf kk).toNat)
    case atStart=>exact⟨0,_,rfl,Nat.zero_le _,rfl,(by rw[HK0.out]; exact RowU.nil _ _ _ _),belowB⟩
    case round=>
     rename World=>wq
     obtain⟨i,ow,rfl,hi,rfl,hr,Bq⟩:=hrel
     have om7:Blk wq (w5.heap.size) 32 #[.bool m1,.slice m2 m3 m4,.bool m5,.slice m6 m7 m8]:=om.steps Bq
     have ox7:Blk wq (p15) 32 #[.bool x1,.slice x2 x3 x4,.bool x5,.slice x6 x7 x8]:=ox.steps Bq
     have Fm7:=Hid.mk_ (FR.keeps Fm.out (Keeps.steps Bq))
     have Fx7:=Hid.mk_ (FR.keeps Fx.out (Keeps.steps Bq))
     obtain⟨oa2,oc2,rfl⟩:=hr.len
     have HR:=Hid.mk_ hr
     clear hr
     rcases Nat.lt_or_ge i n with i4 | i4
     ·
      have hlt:decide ((i:Int)<(n:Int))=true:=decide_eq_true (by omega)
      obtain⟨bv,ov,rfl,hbv,hv0⟩:=hv6.out.at' (t:=i) (by have:=HEL.out.1; omega)
      rw[HIG.out.1 i i4]at hv0
      obtain⟨bl,ol,ell,hbl,hl0⟩:=hl6.out.at' (t:=IX i) (HIG.out.2 i i4)
      obtain rfl:la=some ⟨bl,ol,none⟩:=ell
      rw[HXX.out]at hl0
      have sq:=SQ i (by have:=HXN.out; omega)
      have cm:=CM i (by have:=HXN.out; omega)
      have kl:=HKL.out i
      have ks:=Hid.mk_ (HKS.out i i4)
      have kin:IX i<t:=by have:=HIG.out.2 i i4; have:=HN.out; omega
      generalize SQQ i=sqi at *
      generalize CQ i=cq at *
      have hbv7:bv<wq.heap.size:=Nat.lt_of_lt_of_le hbv Bq.size
      have hbl7:bl<wq.heap.size:=Nat.lt_of_lt_of_le hbl Bq.size
      have cv:wq.cell? ⟨bv,ov+i,none⟩=some (.int .i64 (IX i:Nat)):=(Bq.cell (p:=⟨bv,_,none⟩) hbv).trans hv0
      have cl:wq.cell? ⟨bl,ol+IX i,none⟩=some (.int .i64 (XX i)):=(Bq.cell (p:=⟨bl,_,none⟩) hbl).trans hl0
      generalize IX i=j at *
      generalize XX i=x at *
      have HC:=Hid.mk_ (And.intro cv cl)
      clear hv0 hl0 cv cl
      have om:=om7
      have ox:=ox7
      have B:=Below.refl wq.heap.size wq
      clear om7 ox7
      repeat' (first | go_values | go_skip | go_guarded | go_step | go_upon)
      have zx_20:p15<wq.heap.size:=ox.lt
      have zz20:=B.size
      go_upto_region 21 with fail
      refine Reg.chn (fun N0 D v W=>Below wq.heap.size wq W∧Keeps wq W∧N0≤W.heap.size∧Blk W (w5.heap.size) 32 #[.bool m1,.slice m2 m3 m4,.bool m5,.slice m6 m7 m8]∧Blk W (p15) 32 #[.bool x1,.slice x2 x3 x4,.bool x5,.slice x6 x7 x8]) [8,10] [(8,IsFr),(10,fun z_=>z_ = .tuple #[.int .i64 cq,.int .i64 0])] [(8,GFr (sqi))] [(10,[(8,some 75)]),(16,[(8,some 75),(10,some 77)])] [] (fun N0 hN0=>⟨fun v=> ?_,fun D v v' W hv hj=> ?_,fun ops' Q' hops hQ=> ?_⟩)
      · exact⟨belowB,keepsB,leD hN0,ownK,ownK⟩
      · exact hj
      clear hN0
      repeat refine Reg.RP0 _ ?_
      apply Reg.RP rfl rfl rfl 71 rfl rfl
      ·
       intro D v' W' hc hj hf K hK
       obtain⟨j0,jk,jn,b_m,b_x⟩:=hj
       have x0_:W'.cell? ⟨bv,ov+i,none⟩=some (.int .i64 (j:Nat)):=(j0.cell (p:=⟨bv,_,none⟩) hbv7).trans HC.out.1
       go_step
       exact hK.out
      · rfl
      refine Reg.RP0 72 ?_
      apply Reg.RP rfl rfl rfl 73 rfl rfl
      ·
       intro D v' W' hc hj hf K hK
       obtain⟨j0,jk,jn,b_m,b_x⟩:=hj
       have x0_:W'.cell? ⟨bl,ol+j,none⟩=some (.int .i64 x):=(j0.cell (p:=⟨bl,_,none⟩) hbl7).trans HC.out.2
       go_step
       exact hK.out
      · rfl
      refine Reg.RPf 74 (fun _ _ _ h=>h.2.2.2.1.r3) ?_
      refine Reg.RC_call rfl (tlt rfl) rfl (fun D v' W' hc hj hf K hK=> ?_) ?_
      ·
       clear hf
       go_step
       refine(sq W' _ (Fm7.out.keeps hj.2.1)).mono ?_
       rintro e W2 ⟨u,rfl,hu,hs⟩
       obtain⟨s1,s2,s3,s4,s5,s6,s7,s8,rfl⟩:=hu.shape
       exact hK.out _ W2 (Keeps.steps hs) (jb2 hj hs) hu ⟨_,_,_,_,_,_,_,_,rfl⟩
      rintro _ ⟨s1,s2,s3,s4,s5,s6,s7,s8,rfl⟩
      refine Reg.RC_at (b:=⟨#[_,_,_,_,_,_,_,_,_,_,_,_,_,_,_,_,_,_,_,_,_,_,_,_,_,_,_,_,_,_,_,_,_,_,_,_,_,_,_,_,_,_,_,_,_,_,_,_,_,_,_,_,_,_,_,_,_,_,_,_,_,_,_,_,_,_,_,_,_,_,_,_,_,_,_,_,_,_,_,_,_,_,_,_,_,_,_,_,_,_,_,_,_,_,_,_,_],_⟩) rfl ?_
      refine Reg.RPf 76 (fun _ _ _ h=>h.2.2.2.2.r3) ?_
      refine Reg.RC_call rfl (tlt rfl) rfl (fun D v' W' hc hj hf K hK=> ?_) ?_
      ·
       have g8:GFr (sqi) _ W':=(hf (8,some 75) (.head _) rfl).2.2
       have g8:FR W' _ (sqi):=g8
       clear hf
       go_step
       refine(cm W' _ _ g8 (Fx7.out.keeps hj.2.1)).mono ?_
       rintro e W2 ⟨rfl,hs⟩
       exact hK.out _ W2 (Keeps.steps hs) (jb2 hj hs) trivial rfl
      rintro _ rfl
      refine Reg.RC_at (b:=⟨#[_,_,_,_,_,_,_,_,_,_,_,_,_,_,_,_,_,_,_,_,_,_,_,_,_,_,_,_,_,_,_,_,_,_,_,_,_,_,_,_,_,_,_,_,_,_,_,_,_,_,_,_,_,_,_,_,_,_,_,_,_,_,_,_,_,_,_,_,_,_,_,_,_,_,_,_,_,_,_,_,_,_,_,_,_,_,_,_,_,_,_,_,_,_,_,_,_],_⟩) rfl ?_
      repeat refine Reg.RP0 _ ?_
      refine Reg.RC_end (fun Dn v' w21 hd hj hf=> ?_)
      obtain⟨B,jk,jn,om,ox⟩:=hj
      replace Fm7:=Hid.mk_ (Fm7.out.keeps jk)
      replace Fx7:=Hid.mk_ (Fx7.out.keeps jk)
      clear hd hf jk
      refine hQ _ _ ?_
      clear hQ hops Q' ops'
      have B9:Below w6.heap.size w6 w21:=below_steps Bq (Nat.le_refl _) B
      have HR9:=Hid.mk_ (HR.out.keep (fun g hg=>B.block g (HR.out.lt g hg).2))
      have cv9:w21.cell? ⟨bv,ov+i,none⟩=some (.int .i64 (j:Nat)):=(B.cell (p:=⟨bv,_,none⟩) hbv7).trans HC.out.1
      clear HR HC
      by_cases c0:cq≤0
      ·
       have e1:KF (i+1)=KF i ++ [j]:=by rw[ks.out,decide_eq_true c0]; rfl
       have e2:inI (KF (i+1))=inI (KF i) ++ [(j:Int)]:=by rw[e1,inI_snoc]
       have e3:(KF (i+1)).length=(KF i).length+1:=by rw[e1]; simp
       have E1:=Hid.mk_ (And.intro e2 e3)
       clear e1 e2 e3
       have lxx:=ox.lt
       repeat' (first | ((with_reducible show wpList _ _ _ (⟨some 88,_,_,_,_,_⟩::_) _ _); refine app_int rfl (.tmp 82) (.tmp 87) rfl w6.heap.size (KF i).length (.slice oa2 (KF i).length oc2) (inI (KF i)) rfl (HR9.out.alloc _) w21.heap.size (j:Nat) rfl (Blk.new _ _ _) (by omega) (by rw[World.size_alloc]; have:=B9.size; omega) (fun v8 w8 hr8 gr8=> ?_)) | go_values | go_skip | go_guarded | go_step | go_upon)
       have e4:=(HR9.out.alloc (.cells #[.int .i64 ((j:Nat):Int)] 3)).below gr8 (B9.alloc B9.size _) (Nat.le_refl _)
       obtain⟨oa',ocap',rfl⟩:=hr8.len
       have HR8:=Hid.mk_ hr8
       clear gr8 hr8 HR9
       repeat' (first | go_values | go_skip | go_guarded | go_step | go_upon)
       go_roundw
       case rel=>exact⟨i+1,_,rfl,by omega,by go_num,by rw[E1.out.1,E1.out.2]; exact HR8.out,e4⟩
       case measure=>simp[intOf]; omega
      ·
       have e1:KF (i+1)=KF i:=by rw[ks.out,decide_eq_false c0]; rfl
       have E1:=Hid.mk_ e1
       clear e1
       repeat' (first | go_values | go_skip | go_guarded | go_step | go_upon)
       go_roundw
       case rel=>exact⟨i+1,_,rfl,by omega,by go_num,by rw[E1.out]; exact HR9.out,B9⟩
       case measure=>simp[intOf]; omega
     ·
      obtain rfl:i=n:=by omega
      have hlt:decide ((i:Int)<(i:Int))=false:=decide_eq_false (by omega)
      have oq7:Blk wq (w3.heap.size) 32 #[.bool q1,.slice q2 q3 q4,.bool q5,.slice q6 q7 q8]:=(oq.steps Bq)
      have BB:Below w3.heap.size w3 wq:=below_steps Bw6 (Nat.le_refl _) Bq
      have hr:=HR.out
      rw[HKA.out]at hr⊢
      clear HR
      by_cases es:SC.length=i
      ·
       have ei:((SC.length:Int)==(i:Int))=true:=by rw[es]; simp
       have er:=HCR.out.1 es
       have ER:=Hid.mk_ er
       have er2:((clipR l k).2:Int)=(r:Int):=by rw[er]
       have ER2:=Hid.mk_ er2
       have hv7:=hv6.out.steps Bq
       clear er er2
       repeat' (first | go_values | go_skip | go_guarded | go_step | go_upon)
       go_returns
       exact⟨_,by rw[ER2.out]; rfl,by rw[ER.out]; exact hv7,below_steps B3 (Nat.le_refl _) BB⟩
      ·
       have ei:((SC.length:Int)==(i:Int))=false:=by rw[beq_eq_false_iff_ne]; omega
       obtain⟨f',g1,g2⟩:=HCR.out.2 es
       have hi7:IntsR wq (.slice oa2 SC.length oc2) (inI SC):=by have:=inI_len SC; rw[← this]at hr⊢; exact hr.ints
       repeat' (first | go_values | go_skip | go_guarded | go_step | go_upon)
       go_roundw
       case rel=>exact⟨SC,f',r+1,_,rfl,by go_num,g1,g2,HSN2.out.1,HSN2.out.2,(by have:=HXN.out; omega),hi7,oq7,BB⟩
       case measure=>show SC.length<i; omega
theorem prclip_bad {vl vk:Value} {l:List Int} {o:Option Rat} (w:World) (hl:IntsR w vl l) (hn:l.length≤100000) (hk:FB w vk o) (zk:∀r,o=some r→sz r 4) (c:Int) (hc:(askV l=c∧c≠0)∨(askV l=0∧facB o=false∧c=2)) :
  Calls Tryz.prog 37 #[vl,vk] w fun e w'=>e = .returned (.tuple #[.slice none 0 0,.int .i64 0,.int .i64 c])∧Steps w w':=by
 have CS:∀w',Steps w w'→Calls Tryz.prog 54 #[vl] w' fun e w2=>e = .returned (.int .i64 (askV l))∧Steps w' w2:=fun w' s=>pvasked w' (hl.steps s) hn
 have AL:∀w',Steps w w'→Calls Tryz.prog 35 #[vk] w' fun e w2=>e = .returned (.bool (facB o))∧Steps w' w2:=fun w' s=>pvfactor w' (hk.keeps (Keeps.steps s)) zk
 obtain⟨k1,k2,k3,k4,k5,k6,k7,k8,rfl⟩:=hk.shape
 obtain⟨la,lc,rfl⟩:=hl.shape
 clear hl hn hk zk
 rcases hc with⟨h1,h2⟩ | ⟨h1,h2,rfl⟩
 ·
  rw[h1]at CS
  have h3:(c==0)=false:=by simpa using h2
  have h4:(c != 0)=true:=by simpa using h2
  clear h1 h2 AL
  go_enter Tryz.func37,Tryz.ntmps37
  go_wp2_with fail
  refine(CS _ belowB).mono ?_
  rintro e w1 ⟨rfl,hb1⟩
  have st:Steps _ w1:=hb1
  have B:=bA w st
  have ok:Blk w1 (w.heap.size) 32 #[.bool k1,.slice k2 k3 k4,.bool k5,.slice k6 k7 k8]:=Blk.stepsK st
  clear st
  go_wp2_with fail
  refine bodyPost_ret (by simp[results,Tryz.results37,go_sem,]; rfl) rfl ?_
  exact⟨rfl,belowB⟩
 ·
  rw[h1]at CS
  rw[h2]at AL
  clear h1 h2
  go_enter Tryz.func37,Tryz.ntmps37
  go_wp2_with fail
  refine(CS _ belowB).mono ?_
  rintro e w1 ⟨rfl,hb1⟩
  have st:Steps _ w1:=hb1
  have B:=bA w st
  have ok:Blk w1 (w.heap.size) 32 #[.bool k1,.slice k2 k3 k4,.bool k5,.slice k6 k7 k8]:=Blk.stepsK st
  clear st
  obtain⟨ck0,ck1,ck2,ck3⟩:=ok.r3
  have lk:=ok.lt
  go_wp2_with fail
  refine(AL _ belowB).mono ?_
  rintro e w2 ⟨rfl,st⟩
  have sk:=bA w1 st
  replace B:=bS B sk
  replace ok:=ok.steps sk
  clear st sk ck0 ck1 ck2 ck3 lk
  go_wp2_with fail
  refine bodyPost_ret (by simp[results,Tryz.results37,go_sem,]; rfl) rfl ?_
  exact⟨rfl,belowB⟩
theorem prClip {vl vk:Value} {l:List Int} {o:Option Rat} (w:World) (hl:IntsR w vl l) (hn:l.length≤100000) (h24:askV l=0→l.length≤100) (hk:FB w vk o) (zk:∀r,o=some r→sz r 4) :
  Calls Tryz.prog 37 #[vl,vk] w fun e w'=>∃v,e = .returned (.tuple #[v,.int .i64 ((clipS l o).2.1:Nat),.int .i64 (clipS l o).2.2])∧IntsR w' v (inI (clipS l o).1)∧Steps w w':=by
 unfold clipS
 by_cases h1:askV l=0
 ·
  rw[if_pos h1]
  cases h2:facB o with
  | false=>
   refine(prclip_bad w hl hn hk zk 2 (.inr ⟨h1,h2,rfl⟩)).mono ?_
   rintro e w' ⟨rfl,hs⟩
   exact⟨_,rfl,IntsR.nil _,hs⟩
  | true=>
   obtain⟨k,rfl,-,-⟩:=facB_ok h2
   exact prclip_ok w hl (h24 h1) hk (zk k rfl) h1 h2
 ·
  rw[if_neg h1]
  refine(prclip_bad w hl hn hk zk (askV l) (.inl ⟨rfl,h1⟩)).mono ?_
  rintro e w' ⟨rfl,hs⟩
  exact⟨_,rfl,IntsR.nil _,hs⟩
theorem key_tw (x:Int) (w:World):Calls Tryz.prog 109 #[.int .i64 x] w fun e w'=>e = .returned (.int .i64 x)∧Steps w w':=by
 go_enter Tryz.func109,Tryz.ntmps109
 go_wp2
 go_returns
 exact⟨rfl,belowB⟩
def IdKey (f:Nat):Prop:=∀x w,Calls Tryz.prog f #[.int .i64 x] w fun e w'=>e = .returned (.int .i64 x)∧Steps w w'
theorem vless {p:Nat} {f:Nat} (x y:Int) (w:World) (hk:IdKey f) (he:∀args w,(callFunc f args).run Tryz.prog w = .ok (.enter f args) w) (hb:Blk w p 154 #[.func (.func f) #[] #[]]) :
  Calls Tryz.prog 137 #[.int .i64 x,.int .i64 y,.pointer (some ⟨p,0,none⟩)] w fun e w'=>e = .returned (.int .i64 (cmpI x y))∧Steps w w':=by
 have CC:=fun w'=>ccmp64 x y w'
 generalize cmpI x y=c at *
 go_enter Tryz.func137,Tryz.ntmps137
 repeat' (first | go_values | go_skip | go_guarded | go_step | go_upon)
 refine Reg.wp_chain (fun D v W=>Below w.heap.size w W∧True) (Reg.inl [2,5,6]) (Reg.gv [(2,fun z_=>z_ = .int .i64 x),(5,fun z_=>z_ = .int .i64 y),(6,fun z_=>z_ = .int .i64 c)]) Reg.None_ (fun _=>Reg.Any) (fun _ _=>False) (Reg.pl []) (Reg.pl [])
  (by kernel_rfl) (by kernel_rfl) (by kernel_rfl) (Reg.gvA _) (fun _=>⟨belowB,trivial⟩) (fun _ _ _ _ _ h=>h) (fun _ _ _ _ _ _ _ _ _ _ _ _ _=>Reg.none_) (fun _ _ _ _ h=>h.elim) (fun ops' Q' hops hQ=> ?_)
 apply Reg.RP rfl rfl rfl 6 rfl rfl
 ·
  intro D v W hc hj hf K' hK'
  obtain⟨j0,_⟩:=hj
  have c0:=(hb.steps j0).c 0 rfl
  go_step
  exact hK'.out
 · rfl
 refine Reg.RP0 7 ?_
 refine Reg.RC_call rfl (tlt rfl) rfl (fun D v W hc hj hf K' hK'=> ?_) ?_
 ·
  obtain⟨j0,_⟩:=hj
  go_step
  refine(hk x _).mono ?_
  rintro e W2 ⟨rfl,hs⟩
  exact hK'.out _ W2 Reg.any ⟨jst j0 hs,trivial⟩ trivial rfl
 rintro _ rfl
 refine Reg.RC_at (b:=⟨#[_,_,_,_,_,_,_,_,_,_,_,_,_],_⟩) rfl ?_
 apply Reg.RP rfl rfl rfl 9 rfl rfl
 ·
  intro D v W hc hj hf K' hK'
  obtain⟨j0,_⟩:=hj
  have c0:=(hb.steps j0).c 0 rfl
  go_step
  exact hK'.out
 · rfl
 refine Reg.RP0 10 ?_
 refine Reg.RC_call rfl (tlt rfl) rfl (fun D v W hc hj hf K' hK'=> ?_) ?_
 ·
  obtain⟨j0,_⟩:=hj
  go_step
  refine(hk y _).mono ?_
  rintro e W2 ⟨rfl,hs⟩
  exact hK'.out _ W2 Reg.any ⟨jst j0 hs,trivial⟩ trivial rfl
 rintro _ rfl
 refine Reg.RC_at (b:=⟨#[_,_,_,_,_,_,_,_,_,_,_,_,_],_⟩) rfl ?_
 refine Reg.RC_call rfl (tlt rfl) rfl (fun D v W hc hj hf K' hK'=> ?_) ?_
 ·
  obtain⟨j0,_⟩:=hj
  go_step
  refine(CC _).mono ?_
  rintro e W2 ⟨rfl,hs⟩
  exact hK'.out _ W2 Reg.any ⟨jst j0 hs,trivial⟩ trivial rfl
 rintro _ rfl
 refine Reg.RC_at (b:=⟨#[_,_,_,_,_,_,_,_,_,_,_,_,_],_⟩) rfl ?_
 refine Reg.RP0 5 ?_
 refine Reg.RC_end (fun D v w9 hd hj hf=> ?_)
 obtain⟨B,_⟩:=hj
 clear hd hf
 refine hQ _ _ ?_
 clear hQ hops Q' ops'
 repeat' (first | go_values | go_skip | go_guarded | go_step | go_upon)
 go_returns
 exact⟨rfl,B⟩
theorem RowS.drew {w:World} {g n:Nat} {f:Nat→Int} (h:RowS w g n f):RowS w.drew g n f:=by
 obtain⟨cs,hb,r⟩:=h
 exact⟨cs,hb.drew,r⟩
theorem RowS.fr {w:World} {g n:Nat} {f:Nat→Int} (h:RowS w g n f) (i:Nat):w.frozen? ⟨g,i,none⟩=false:=by
 obtain⟨cs,hb,_⟩:=h
 exact hb.fr i
theorem vinsert {g n cap p:Nat} {f:Nat→Int} (w:World) (a b:Nat) (hr:RowS w g n f) (hab:a<b) (hb:b≤n) (hn:n≤1000) (CM:∀W x y,Below g w W→Calls Tryz.prog 137 #[.int .i64 x,.int .i64 y,.pointer (some ⟨p,0,none⟩)] W fun e w2=>e = .returned (.int .i64 (cmpI x y))∧Steps W w2) :
  Calls Tryz.prog 165 #[.slice (some ⟨g,0,none⟩) n cap,.int .i64 a,.int .i64 b,.func (.func 137) #[] #[.pointer (some ⟨p,0,none⟩)]] w fun e w'=>e = .returned (.tuple #[])∧(∃f',RowS w' g n f'∧SP a b f f'∧Up f' a b)∧Below g w w':=by
 have gl:=hr.lt
 have HR:=Hid.mk_ hr
 clear hr
 go_enter Tryz.func165,Tryz.ntmps165
 go_wp2_with fail
 go_loopw [8] (fun kk wr=>∃ (i:Nat) (f':Nat→Int),a+1≤i∧i≤b∧kk = .int .i64 i∧RowS wr g n f'∧SP a b f f'∧Up f' a i∧Below g w wr) (fun kk _=>b-(intOf kk).toNat)
 case atStart=>exact⟨a+1,f,by omega,by omega,by go_num,HR.out,SP.refl f,Up.none (by omega),Below.refl g w⟩
 case round=>
  obtain⟨i,f1,hai,hib,rfl,hr1,sp1,up1,B⟩:=hrel
  have HS1:=Hid.mk_ (And.intro sp1 up1)
  have HR1:=Hid.mk_ hr1
  clear sp1 up1 hr1 HR
  rcases Nat.lt_or_ge i b with ib | ib
  ·
   have hlt:decide ((i:Int)<(b:Int))=true:=decide_eq_true (by omega)
   go_wp2_with fail
   go_loopw [9] (fun kk wq=>∃ (j:Nat) (f':Nat→Int),a≤j∧j≤i∧kk = .int .i64 j∧RowS wq g n f'∧SP a b f f'∧Ins f' a j i∧Below g w wq) (fun kk _=>(intOf kk).toNat)
   case atStart=>exact⟨i,f1,by omega,by omega,rfl,HR1.out,HS1.out.1,Ins.start HS1.out.2,B⟩
   case round=>
    rename World=>wq
    clear B HR1 HS1
    obtain⟨j,f2,haj,hji,rfl,hr2,sp2,in2,Bq⟩:=hrel
    have gq:=hr2.lt
    have HR2:=Hid.mk_ hr2
    have HS2:=Hid.mk_ (And.intro sp2 in2)
    clear hr2 sp2 in2
    rcases Nat.lt_or_ge a j with ja | ja
    ·
     have hgt:decide ((a:Int)<(j:Int))=true:=decide_eq_true (by omega)
     have cj:=HR2.out.c (i:=j) (by omega)
     have cj1:=HR2.out.c (i:=j-1) (by omega)
     have ej:((j:Int)-1)=((j-1:Nat):Int):=by omega
     obtain⟨x,hx⟩:∃x,f2 j=x:=⟨_,rfl⟩
     obtain⟨y,hy⟩:∃y,f2 (j-1)=y:=⟨_,rfl⟩
     rw[hx]at cj
     rw[hy]at cj1
     have CMx:=fun W h=>CM W x y h
     obtain⟨c,hc⟩:∃c,cmpI x y=c:=⟨_,rfl⟩
     have HXY:=Hid.mk_ (And.intro hx hy)
     by_cases lt:x<y
     ·
      have c0:c<0:=by rw[← hc]; exact cmpI_neg.2 lt
      have CMc:=fun W h=>CMx W h
      simp only[hc]at CMc
      clear CMx hx hy hc
      repeat' (first | go_values | go_skip | go_guarded | go_step | go_upon)
      refine Reg.wp_chain (fun D v W=>Below wq.heap.size wq W∧True) (Reg.inl [14]) (Reg.gv [(14,fun z_=>z_ = .int .i64 c)]) Reg.None_ (fun _=>Reg.Any) (fun _ _=>False) (Reg.pl []) (Reg.pl [])
       (by kernel_rfl) (by kernel_rfl) (by kernel_rfl) (Reg.gvA _) (fun _=>⟨belowB,trivial⟩) (fun _ _ _ _ _ h=>h) (fun _ _ _ _ _ _ _ _ _ _ _ _ _=>Reg.none_) (fun _ _ _ _ h=>h.elim) (fun ops' Q' hops hQ=> ?_)
      repeat refine Reg.RP0 _ ?_
      refine Reg.RPg hops 22 ?_
      refine Reg.RPg hops 23 ?_
      refine Reg.RPg hops 24 ?_
      refine Reg.RPg hops 25 ?_
      apply Reg.RP rfl rfl (by rw[hops]; rfl) 26 rfl rfl
      ·
       intro D v W hc hj hf K' hK'
       obtain⟨j0,_⟩:=hj
       have c0:W.cell? ⟨g,j,none⟩=some (.int .i64 x):=(j0.cell (p:=⟨g,_,none⟩) gq).trans cj
       go_step
       exact hK'.out
      · rfl
      refine Reg.RPg hops 27 ?_
      refine Reg.RPg hops 28 ?_
      refine Reg.RPg hops 29 ?_
      refine Reg.RPg hops 30 ?_
      apply Reg.RP rfl rfl (by rw[hops]; rfl) 31 rfl rfl
      ·
       intro D v W hc hj hf K' hK'
       obtain⟨j0,_⟩:=hj
       have c0:W.cell? ⟨g,j-1,none⟩=some (.int .i64 y):=(j0.cell (p:=⟨g,_,none⟩) gq).trans cj1
       go_step
       exact hK'.out
      · rfl
      refine Reg.RC_call rfl (tlt rfl) (by rw[hops]; rfl) (fun D v W hc hj hf K' hK'=> ?_) ?_
      ·
       obtain⟨j0,_⟩:=hj
       go_step
       refine(CMc _ (below_steps Bq (Nat.le_of_lt gl) j0)).mono ?_
       rintro e W2 ⟨rfl,hs⟩
       exact hK'.out _ W2 Reg.any ⟨jst j0 hs,trivial⟩ trivial rfl
      rintro _ rfl
      refine Reg.at53 rfl ?_
      refine Reg.RPg hops 33 ?_
      refine Reg.RP0 34 ?_
      refine Reg.RC_end (fun D v w9 hd hj hf=> ?_)
      obtain⟨st9,_⟩:=hj
      clear hd hf
      refine hQ _ _ ?_
      clear hQ hops Q' ops'
      have B9:=below_steps Bq (Nat.le_of_lt gl) st9
      have hr9:=HR2.out.steps st9
      obtain⟨hx,hy⟩:=HXY.out
      have cj9:w9.cell? ⟨g,j,none⟩=some (.int .i64 x):=(st9.cell (p:=⟨g,_,none⟩) gq).trans cj
      have cj19:w9.cell? ⟨g,j-1,none⟩=some (.int .i64 y):=(st9.cell (p:=⟨g,_,none⟩) gq).trans cj1
      have fj9:=hr9.fr j
      have fj19:=hr9.fr (j-1)
      have gq9:=hr9.lt
      have HR9:=Hid.mk_ hr9
      have HXY2:=Hid.mk_ (And.intro hx hy)
      clear hx hy hr9 HXY cj cj1 gq st9
      go_upto_region 6 with fail
      go_region
      have lt2:f2 j<f2 (j-1):=by have:=HXY2.out; omega
      have r2:RowS ((w9.setCell ⟨g,j,none⟩ (.int .i64 y)).setCell ⟨g,j-1,none⟩ (.int .i64 x)).drew g n (swp f2 j (j-1)):=by
       have:=(HR9.out.swap (i:=j) (j:=j-1) (by omega) (by omega)).drew
       rw[HXY2.out.1,HXY2.out.2]at this
       exact this
      have b2:Below g w ((w9.setCell ⟨g,j,none⟩ (.int .i64 y)).setCell ⟨g,j-1,none⟩ (.int .i64 x)).drew:=(Below.setCell (p:=⟨g,j-1,none⟩) (Below.setCell (p:=⟨g,j,none⟩) B9 (Nat.le_refl _) _) (Nat.le_refl _) _).drew
      have HZ:=Hid.mk_ (And.intro r2 b2)
      have HI:=Hid.mk_ (Ins.step HS2.out.2 ja hji lt2)
      have HP:=Hid.mk_ (HS2.out.1.swap (i:=j) (j:=j-1) (by omega) (by omega) (by omega) (by omega))
      generalize ((w9.setCell ⟨g,j,none⟩ (.int .i64 y)).setCell ⟨g,j-1,none⟩ (.int .i64 x)).drew=w10 at *
      clear r2 b2 lt2 cj9 cj19 fj9 fj19 gq9 HR9 HXY2 B9
      repeat' (first | go_values | go_skip | go_guarded | go_step | go_upon)
      go_roundw
      case rel=>exact⟨j-1,swp f2 j (j-1),by omega,by omega,by go_num,HZ.out.1,HP.out,HI.out,HZ.out.2⟩
      case measure=>simp[intOf]; omega
     ·
      have c0:¬c<0:=fun h=>lt (cmpI_neg.1 (by rw[hc]; exact h))
      have dn:=Hid.mk_ (Ins.done HS2.out.2 hji (.inr (by rw[hx,hy]; exact lt)) haj)
      have CMc:=fun W h=>CMx W h
      simp only[hc]at CMc
      clear CMx hx hy hc
      repeat' (first | go_values | go_skip | go_guarded | go_step | go_upon)
      refine Reg.wp_chain (fun D v W=>Below wq.heap.size wq W∧True) (Reg.inl [14]) (Reg.gv [(14,fun z_=>z_ = .int .i64 c)]) Reg.None_ (fun _=>Reg.Any) (fun _ _=>False) (Reg.pl []) (Reg.pl [])
       (by kernel_rfl) (by kernel_rfl) (by kernel_rfl) (Reg.gvA _) (fun _=>⟨belowB,trivial⟩) (fun _ _ _ _ _ h=>h) (fun _ _ _ _ _ _ _ _ _ _ _ _ _=>Reg.none_) (fun _ _ _ _ h=>h.elim) (fun ops' Q' hops hQ=> ?_)
      repeat refine Reg.RP0 _ ?_
      refine Reg.RPg hops 22 ?_
      refine Reg.RPg hops 23 ?_
      refine Reg.RPg hops 24 ?_
      refine Reg.RPg hops 25 ?_
      apply Reg.RP rfl rfl (by rw[hops]; rfl) 26 rfl rfl
      ·
       intro D v W hc hj hf K' hK'
       obtain⟨j0,_⟩:=hj
       have c0:W.cell? ⟨g,j,none⟩=some (.int .i64 x):=(j0.cell (p:=⟨g,_,none⟩) gq).trans cj
       go_step
       exact hK'.out
      · rfl
      refine Reg.RPg hops 27 ?_
      refine Reg.RPg hops 28 ?_
      refine Reg.RPg hops 29 ?_
      refine Reg.RPg hops 30 ?_
      apply Reg.RP rfl rfl (by rw[hops]; rfl) 31 rfl rfl
      ·
       intro D v W hc hj hf K' hK'
       obtain⟨j0,_⟩:=hj
       have c0:W.cell? ⟨g,j-1,none⟩=some (.int .i64 y):=(j0.cell (p:=⟨g,_,none⟩) gq).trans cj1
       go_step
       exact hK'.out
      · rfl
      refine Reg.RC_call rfl (tlt rfl) (by rw[hops]; rfl) (fun D v W hc hj hf K' hK'=> ?_) ?_
      ·
       obtain⟨j0,_⟩:=hj
       go_step
       refine(CMc _ (below_steps Bq (Nat.le_of_lt gl) j0)).mono ?_
       rintro e W2 ⟨rfl,hs⟩
       exact hK'.out _ W2 Reg.any ⟨jst j0 hs,trivial⟩ trivial rfl
      rintro _ rfl
      refine Reg.at53 rfl ?_
      refine Reg.RPg hops 33 ?_
      refine Reg.RP0 34 ?_
      refine Reg.RC_end (fun D v w9 hd hj hf=> ?_)
      obtain⟨st9,_⟩:=hj
      clear hd hf
      refine hQ _ _ ?_
      clear hQ hops Q' ops'
      have B9:=below_steps Bq (Nat.le_of_lt gl) st9
      have hr9:=Hid.mk_ (HR2.out.steps st9)
      clear st9 HR2
      repeat' (first | go_values | go_skip | go_guarded | go_step | go_upon)
      go_roundw
      case rel=>exact⟨i+1,f2,by omega,by omega,by go_num,hr9.out,HS2.out.1,dn.out,B9⟩
      case measure=>simp[intOf]; omega
    ·
     obtain rfl:j=a:=by omega
     have hgt:decide ((j:Int)<(j:Int))=false:=decide_eq_false (by omega)
     have dn:=Hid.mk_ (Ins.done HS2.out.2 hji (.inl rfl) haj)
     repeat' (first | go_values | go_skip | go_guarded | go_step | go_upon)
     refine Reg.wp_chain (fun D v W=>Below wq.heap.size wq W∧True) (Reg.inl []) (Reg.gv []) Reg.None_ (fun _=>Reg.Any) (fun _ _=>False) (Reg.pl []) (Reg.pl [])
      (by kernel_rfl) (by kernel_rfl) (by kernel_rfl) (Reg.gvA _) (fun _=>⟨belowB,trivial⟩) (fun _ _ _ _ _ h=>h) (fun _ _ _ _ _ _ _ _ _ _ _ _ _=>Reg.none_) (fun _ _ _ _ h=>h.elim) (fun ops' Q' hops hQ=> ?_)
     repeat refine Reg.RP0 _ ?_
     refine Reg.sks hops 4 ?_ rfl
     refine Reg.at53 rfl ?_
     refine Reg.sks hops 4 ?_ rfl
     refine Reg.at53 rfl ?_
     refine Reg.sks hops 4 ?_ rfl
     refine Reg.at53 rfl ?_
     refine Reg.RP0 34 ?_
     refine Reg.RC_end (fun D v w9 hd hj hf=> ?_)
     obtain⟨st9,_⟩:=hj
     clear hd hf
     refine hQ _ _ ?_
     clear hQ hops Q' ops'
     have B9:=below_steps Bq (Nat.le_of_lt gl) st9
     have hr9:=Hid.mk_ (HR2.out.steps st9)
     clear st9 HR2
     repeat' (first | go_values | go_skip | go_guarded | go_step | go_upon)
     go_roundw
     case rel=>exact⟨i+1,f2,by omega,by omega,by go_num,hr9.out,HS2.out.1,dn.out,B9⟩
     case measure=>simp[intOf]; omega
  ·
   obtain rfl:i=b:=by omega
   have hlt:decide ((i:Int)<(i:Int))=false:=decide_eq_false (by omega)
   go_wp2_with fail
   go_returns
   exact⟨rfl,⟨f1,HR1.out,HS1.out.1,HS1.out.2⟩,B⟩
theorem vswapR {g n cap p:Nat} {f:Nat→Int} (w:World) (a b m:Nat) (hr:RowS w g n f) (ha:a+m≤n) (hb:b+m≤n) (hab:a≠b) (hn:n≤1000) :
  Calls Tryz.prog 170 #[.slice (some ⟨g,0,none⟩) n cap,.int .i64 a,.int .i64 b,.int .i64 m,.func (.func 137) #[] #[.pointer (some ⟨p,0,none⟩)]] w fun e w'=>e = .returned (.tuple #[])∧RowS w' g n (swR f a b m)∧Below g w w':=by
 have gl:=hr.lt
 have HR:=Hid.mk_ hr
 clear hr
 go_enter Tryz.func170,Tryz.ntmps170
 go_wp2_with fail
 go_loopw [10] (fun kk wr=>∃ (i:Nat),i≤m∧kk = .int .i64 i∧RowS wr g n (swR f a b i)∧Below g w wr) (fun kk _=>m-(intOf kk).toNat)
 case atStart=>exact⟨0,by omega,rfl,HR.out,Below.refl g w⟩
 case round=>
  obtain⟨i,hi,rfl,hr,B⟩:=hrel
  clear HR
  have gq:=hr.lt
  have HR:=Hid.mk_ hr
  clear hr
  rcases Nat.lt_or_ge i m with im | im
  ·
   have hlt:decide ((i:Int)<(m:Int))=true:=decide_eq_true (by omega)
   have ea:((a:Int)+(i:Int))=((a+i:Nat):Int):=by omega
   have eb:((b:Int)+(i:Int))=((b+i:Nat):Int):=by omega
   have ca:=HR.out.c (i:=a+i) (by omega)
   have cb:=HR.out.c (i:=b+i) (by omega)
   have fa:=HR.out.fr (a+i)
   have fb:=HR.out.fr (b+i)
   obtain⟨x,hx⟩:∃x,swR f a b i (a+i)=x:=⟨_,rfl⟩
   obtain⟨y,hy⟩:∃y,swR f a b i (b+i)=y:=⟨_,rfl⟩
   rw[hx]at ca
   rw[hy]at cb
   have HXY:=Hid.mk_ (And.intro hx hy)
   obtain⟨u,hu⟩:∃u,a+i=u:=⟨_,rfl⟩
   obtain⟨v,hv⟩:∃v,b+i=v:=⟨_,rfl⟩
   rw[hu]at ea ca fa
   rw[hv]at eb cb fb
   have un:u<n:=by omega
   have huv:u≠v:=by omega
   have hvu:v≠u:=by omega
   have vn:v<n:=by omega
   have HUV:=Hid.mk_ (And.intro hu hv)
   clear hx hy hu hv
   go_upto_region 3 with fail
   go_region
   have r2:RowS ((wr.setCell ⟨g,u,none⟩ (.int .i64 y)).setCell ⟨g,v,none⟩ (.int .i64 x)).drew g n (swR f a b (i+1)):=by
    have:=(HR.out.swap (i:=a+i) (j:=b+i) (by omega) (by omega)).drew
    rw[HXY.out.1,HXY.out.2,HUV.out.1,HUV.out.2]at this
    rw[show swR f a b (i+1)=swp (swR f a b i) u v by rw[← HUV.out.1,← HUV.out.2]; rfl]
    exact this
   have b2:Below g w ((wr.setCell ⟨g,u,none⟩ (.int .i64 y)).setCell ⟨g,v,none⟩ (.int .i64 x)).drew:=(Below.setCell (p:=⟨g,v,none⟩) (Below.setCell (p:=⟨g,u,none⟩) B (Nat.le_refl _) _) (Nat.le_refl _) _).drew
   have HZ:=Hid.mk_ (And.intro r2 b2)
   generalize ((wr.setCell ⟨g,u,none⟩ (.int .i64 y)).setCell ⟨g,v,none⟩ (.int .i64 x)).drew=w10 at *
   clear r2 b2 ca cb fa fb HR HXY HUV B
   repeat' (first | go_values | go_skip | go_guarded | go_step | go_upon)
   go_roundw
   case rel=>exact⟨i+1,by omega,by go_num,HZ.out.1,HZ.out.2⟩
   case measure=>simp[intOf]; omega
  ·
   obtain rfl:i=m:=by omega
   have hlt:decide ((i:Int)<(i:Int))=false:=decide_eq_false (by omega)
   go_wp2_with fail
   go_returns
   exact⟨rfl,HR.out,B⟩
theorem vrotate {g n cap p:Nat} {f:Nat→Int} (w:World) (a m b:Nat) (hr:RowS w g n f) (ha:a<m) (hm:m<b) (hb:b≤n) (hn:n≤1000) :
  Calls Tryz.prog 169 #[.slice (some ⟨g,0,none⟩) n cap,.int .i64 a,.int .i64 m,.int .i64 b,.func (.func 137) #[] #[.pointer (some ⟨p,0,none⟩)]] w fun e w'=>e = .returned (.tuple #[])∧RowS w' g n (rotF a m b f)∧Below g w w':=by
 have gl:=hr.lt
 have HR:=Hid.mk_ hr
 clear hr
 have e1:((m:Int)-(a:Int))=((m-a:Nat):Int):=by omega
 have e2:((b:Int)-(m:Int))=((b-m:Nat):Int):=by omega
 go_enter Tryz.func169,Tryz.ntmps169
 go_wp2_with fail
 go_loopw [10,11] (fun ki kj wr=>∃ (i j:Nat) (f':Nat→Int),0<i∧0<j∧i≤m∧m+j≤n∧ki = .int .i64 i∧kj = .int .i64 j∧RowS wr g n f'∧rotF (m-i) m (m+j) f'=rotF a m b f∧Below g w wr) (fun ki kj _=>(intOf ki).toNat+(intOf kj).toNat)
 case atStart=>exact⟨m-a,b-m,f,by omega,by omega,by omega,by omega,by go_num,by go_num,HR.out,by rw[show m-(m-a)=a by omega,show m+(b-m)=b by omega],Below.refl g w⟩
 case round=>
  clear HR e1 e2
  obtain⟨i,j,f1,i0,j0,im,jn,rfl,rfl,hr,hrot,B⟩:=hrel
  have HR:=Hid.mk_ (And.intro hr hrot)
  have gq:=hr.lt
  clear hr hrot
  have emi:((m:Int)-(i:Int))=((m-i:Nat):Int):=by omega
  rcases(show i=j∨j<i∨i<j by omega)with rfl | ji | ij
  ·
   have hne:((i:Int) != (i:Int))=false:=by simp
   have SW:=vswapR (cap:=cap) (p:=p) wr (m-i) m i HR.out.1 (by omega) (by omega) (by omega) hn
   go_wp2_with fail
   refine SW.mono ?_
   rintro e w2 ⟨rfl,h1,h2⟩
   have B2:Below g w w2:=B.trans h2
   go_wp2_with fail
   go_returns
   exact⟨rfl,by rw[← HR.out.2,rot_same f1 im]; exact h1,B2⟩
  ·
   have hne:((i:Int) != (j:Int))=true:=by rw[bne_iff_ne]; omega
   have hgt:decide ((j:Int)<(i:Int))=true:=decide_eq_true (by omega)
   have SW:=vswapR (cap:=cap) (p:=p) wr (m-i) m j HR.out.1 (by omega) (by omega) (by omega) hn
   have eij:((i:Int)-(j:Int))=((i-j:Nat):Int):=by omega
   go_wp2_with fail
   refine SW.mono ?_
   rintro e w2 ⟨rfl,h1,h2⟩
   have B2:Below g w w2:=B.trans h2
   have H1:=Hid.mk_ h1
   clear h1 h2 SW
   dsimp only
   go_wp2_with fail
   go_roundw
   case rel=>exact⟨i-j,j,_,by omega,by omega,by omega,by omega,by go_num,by go_num,H1.out,by rw[← HR.out.2,rot_more f1 im ji,show m-(i-j)=m-i+j by omega],B2⟩
   case measure=>simp[intOf]; omega
  ·
   have hne:((i:Int) != (j:Int))=true:=by rw[bne_iff_ne]; omega
   have hgt:decide ((j:Int)<(i:Int))=false:=decide_eq_false (by omega)
   have SW:=vswapR (cap:=cap) (p:=p) wr (m-i) (m+j-i) i HR.out.1 (by omega) (by omega) (by omega) hn
   have eij:((j:Int)-(i:Int))=((j-i:Nat):Int):=by omega
   have emj:((m:Int)+(j:Int)-(i:Int))=((m+j-i:Nat):Int):=by omega
   go_wp2_with fail
   refine SW.mono ?_
   rintro e w2 ⟨rfl,h1,h2⟩
   have B2:Below g w w2:=B.trans h2
   have H1:=Hid.mk_ h1
   clear h1 h2 SW
   dsimp only
   go_wp2_with fail
   go_roundw
   case rel=>exact⟨i,j-i,_,by omega,by omega,by omega,by omega,by go_num,by go_num,H1.out,by rw[← HR.out.2,rot_less f1 im ij],B2⟩
   case measure=>simp[intOf]; omega
theorem vsymA {g n cap p:Nat} {f:Nat→Int} (w:World) (a m b:Nat) (hr:RowS w g n f) (ha:m=a+1) (hm:m<b) (hb:b≤n) (hn:n≤1000) (u:Up f m b) (CM:∀W x y,Below g w W→Calls Tryz.prog 137 #[.int .i64 x,.int .i64 y,.pointer (some ⟨p,0,none⟩)] W fun e w2=>e = .returned (.int .i64 (cmpI x y))∧Steps W w2) :
  Calls Tryz.prog 166 #[.slice (some ⟨g,0,none⟩) n cap,.int .i64 a,.int .i64 m,.int .i64 b,.func (.func 137) #[] #[.pointer (some ⟨p,0,none⟩)]] w fun e w'=>e = .returned (.tuple #[])∧(∃f',RowS w' g n f'∧SP a b f f'∧Up f' a b)∧Below g w w':=by
 have gl:=hr.lt
 have HR:=Hid.mk_ hr
 clear hr
 have e1:((m:Int)-(a:Int))=1:=by omega
 have am:a<n:=by omega
 have am1:a<m:=by omega
 have HA:=Hid.mk_ ha
 clear ha
 go_enter Tryz.func166,Tryz.ntmps166
 go_wp2_with fail
 go_loopw [10,11] (fun ki kj wr=>∃ (i j:Nat),Sc1 f (f a) m b i j∧ki = .int .i64 i∧kj = .int .i64 j∧RowS wr g n f∧Below g w wr) (fun ki kj _=>(intOf kj).toNat-(intOf ki).toNat)
 case atStart=>exact⟨m,b,Sc1.start (by omega),rfl,rfl,HR.out,Below.refl g w⟩
 case round=>
  clear HR
  obtain⟨i,j,sc,rfl,rfl,hr,B⟩:=hrel
  have gq:=hr.lt
  have HR:=Hid.mk_ hr
  have s1:=sc.1
  have s2:=sc.2.1
  have s3:=sc.2.2.1
  have SC:=Hid.mk_ sc
  clear hr sc e1
  rcases Nat.lt_or_ge i j with ij | ij
  ·
   have hlt:decide ((i:Int)<(j:Int))=true:=decide_eq_true (by omega)
   obtain⟨s,hs⟩:∃s,i+j=s:=⟨_,rfl⟩
   obtain⟨h,hh⟩:∃h,s / 2=h:=⟨_,rfl⟩
   have es:((i:Int)+(j:Int))=(s:Int):=by omega
   have es2:(s:Int) / 2=(h:Int):=by omega
   have hi1:i≤h:=by omega
   have hj1:h<j:=by omega
   have hn1:h<n:=by omega
   have hx2:(s:Int)<2000:=by omega
   have cx:=HR.out.c (i:=h) hn1
   have cy:=HR.out.c (i:=a) am
   obtain⟨x,hx⟩:∃x,f h=x:=⟨_,rfl⟩
   obtain⟨y,hy⟩:∃y,f a=y:=⟨_,rfl⟩
   rw[hx]at cx
   rw[hy]at cy
   have CMc:=fun W q=>CM W x y q
   obtain⟨c,hc⟩:∃c,cmpI x y=c:=⟨_,rfl⟩
   simp only[hc]at CMc
   have HXY:=Hid.mk_ (And.intro hx hy)
   clear hx hy
   have HS:=Hid.mk_ (And.intro hs hh)
   clear hs hh
   by_cases lt:x<y
   ·
    have c0:c<0:=by rw[← hc]; exact cmpI_neg.2 lt
    clear hc
    repeat' (first | go_values | go_skip | go_guarded | go_step | go_upon)
    refine Reg.wp_chain (fun D v W=>Below wr.heap.size wr W∧True) (Reg.inl [9]) (Reg.gv [(9,fun z_=>z_ = .int .i64 c)]) Reg.None_ (fun _=>Reg.Any) (fun _ _=>False) (Reg.pl []) (Reg.pl [])
     (by kernel_rfl) (by kernel_rfl) (by kernel_rfl) (Reg.gvA _) (fun _=>⟨belowB,trivial⟩) (fun _ _ _ _ _ h=>h) (fun _ _ _ _ _ _ _ _ _ _ _ _ _=>Reg.none_) (fun _ _ _ _ h=>h.elim) (fun ops' Q' hops hQ=> ?_)
    repeat refine Reg.RP0 _ ?_
    apply Reg.RP rfl rfl rfl 44 rfl rfl
    ·
     intro D v W hc hj hf K' hK'
     obtain⟨j0,_⟩:=hj
     have c0:W.cell? ⟨g,h,none⟩=some (.int .i64 x):=(j0.cell (p:=⟨g,_,none⟩) gq).trans cx
     go_step
     exact hK'.out
    · rfl
    repeat refine Reg.RP0 _ ?_
    apply Reg.RP rfl rfl rfl 48 rfl rfl
    ·
     intro D v W hc hj hf K' hK'
     obtain⟨j0,_⟩:=hj
     have c0:W.cell? ⟨g,a,none⟩=some (.int .i64 y):=(j0.cell (p:=⟨g,_,none⟩) gq).trans cy
     go_step
     exact hK'.out
    · rfl
    refine Reg.RC_call rfl (tlt rfl) rfl (fun D v W hc hj hf K' hK'=> ?_) ?_
    ·
     obtain⟨j0,_⟩:=hj
     go_step
     refine(CMc _ (below_steps B (Nat.le_of_lt gl) j0)).mono ?_
     rintro e W2 ⟨rfl,hs⟩
     exact hK'.out _ W2 Reg.any ⟨jst j0 hs,trivial⟩ trivial rfl
    rintro _ rfl
    refine Reg.at220 rfl ?_
    refine Reg.RP0 50 ?_
    refine Reg.RC_end (fun D v w9 hd hj hf=> ?_)
    obtain⟨st9,_⟩:=hj
    clear hd hf
    refine hQ _ _ ?_
    clear hQ hops Q' ops'
    have B9:=below_steps B (Nat.le_of_lt gl) st9
    have hr9:=Hid.mk_ (HR.out.steps st9)
    clear st9 HR cx cy
    repeat' (first | go_values | go_skip | go_guarded | go_step | go_upon)
    go_roundw
    case rel=>exact⟨h+1,j,SC.out.up u hi1 hj1 (by rw[HXY.out.1,HXY.out.2]; exact lt),by go_num,by go_num,hr9.out,B9⟩
    case measure=>simp[intOf]; omega
   ·
    have c0:¬c<0:=fun h=>lt (cmpI_neg.1 (by rw[hc]; exact h))
    clear hc
    repeat' (first | go_values | go_skip | go_guarded | go_step | go_upon)
    refine Reg.wp_chain (fun D v W=>Below wr.heap.size wr W∧True) (Reg.inl [9]) (Reg.gv [(9,fun z_=>z_ = .int .i64 c)]) Reg.None_ (fun _=>Reg.Any) (fun _ _=>False) (Reg.pl []) (Reg.pl [])
     (by kernel_rfl) (by kernel_rfl) (by kernel_rfl) (Reg.gvA _) (fun _=>⟨belowB,trivial⟩) (fun _ _ _ _ _ h=>h) (fun _ _ _ _ _ _ _ _ _ _ _ _ _=>Reg.none_) (fun _ _ _ _ h=>h.elim) (fun ops' Q' hops hQ=> ?_)
    repeat refine Reg.RP0 _ ?_
    apply Reg.RP rfl rfl rfl 44 rfl rfl
    ·
     intro D v W hc hj hf K' hK'
     obtain⟨j0,_⟩:=hj
     have c0:W.cell? ⟨g,h,none⟩=some (.int .i64 x):=(j0.cell (p:=⟨g,_,none⟩) gq).trans cx
     go_step
     exact hK'.out
    · rfl
    repeat refine Reg.RP0 _ ?_
    apply Reg.RP rfl rfl rfl 48 rfl rfl
    ·
     intro D v W hc hj hf K' hK'
     obtain⟨j0,_⟩:=hj
     have c0:W.cell? ⟨g,a,none⟩=some (.int .i64 y):=(j0.cell (p:=⟨g,_,none⟩) gq).trans cy
     go_step
     exact hK'.out
    · rfl
    refine Reg.RC_call rfl (tlt rfl) rfl (fun D v W hc hj hf K' hK'=> ?_) ?_
    ·
     obtain⟨j0,_⟩:=hj
     go_step
     refine(CMc _ (below_steps B (Nat.le_of_lt gl) j0)).mono ?_
     rintro e W2 ⟨rfl,hs⟩
     exact hK'.out _ W2 Reg.any ⟨jst j0 hs,trivial⟩ trivial rfl
    rintro _ rfl
    refine Reg.at220 rfl ?_
    refine Reg.RP0 50 ?_
    refine Reg.RC_end (fun D v w9 hd hj hf=> ?_)
    obtain⟨st9,_⟩:=hj
    clear hd hf
    refine hQ _ _ ?_
    clear hQ hops Q' ops'
    have B9:=below_steps B (Nat.le_of_lt gl) st9
    have hr9:=Hid.mk_ (HR.out.steps st9)
    clear st9 HR cx cy
    repeat' (first | go_values | go_skip | go_guarded | go_step | go_upon)
    go_roundw
    case rel=>exact⟨i,h,SC.out.down u hi1 hj1 (by rw[HXY.out.1,HXY.out.2]; exact lt),by go_num,by go_num,hr9.out,B9⟩
    case measure=>simp[intOf]; omega
  ·
   obtain rfl:i=j:=by omega
   have hlt:decide ((i:Int)<(i:Int))=false:=decide_eq_false (by omega)
   obtain⟨q,hq⟩:∃q,i-1=q:=⟨_,rfl⟩
   have eq1:(i:Int)-1=(q:Int):=by omega
   have qa:a≤q:=by omega
   have qn:q<n:=by omega
   have HQ:=Hid.mk_ hq
   clear hq
   go_wp2_with fail
   go_loopw [13] (fun kk wr=>∃ (t k:Nat),a+t=k∧k≤q∧kk = .int .i64 k∧RowS wr g n (upR f a t)∧Below g w wr) (fun kk _=>q-(intOf kk).toNat)
   case atStart=>exact⟨0,a,by omega,qa,rfl,HR.out,B⟩
   case round=>
    rename World=>wq
    clear B HR
    obtain⟨t,k,hk,kq,rfl,hr,B⟩:=hrel
    have gq2:=hr.lt
    have HR:=Hid.mk_ hr
    have HK:=Hid.mk_ hk
    clear hr
    rcases Nat.lt_or_ge k q with kl | kl
    ·
     have hk2:decide ((k:Int)<(q:Int))=true:=decide_eq_true (by omega)
     obtain⟨v,hv⟩:∃v,k+1=v:=⟨_,rfl⟩
     have ev:(k:Int)+1=(v:Int):=by omega
     have vn:v<n:=by omega
     have un:k<n:=by omega
     have huv:k≠v:=by omega
     have hvu:v≠k:=by omega
     have HV:=Hid.mk_ hv
     have HVQ:=Hid.mk_ (show v≤q∧k<v by omega)
     clear hv hk
     have c1:=HR.out.c (i:=k) (by omega)
     have c2:=HR.out.c (i:=v) (by omega)
     have fa:=HR.out.fr k
     have fb:=HR.out.fr v
     obtain⟨x,hx⟩:∃x,upR f a t k=x:=⟨_,rfl⟩
     obtain⟨y,hy⟩:∃y,upR f a t v=y:=⟨_,rfl⟩
     rw[hx]at c1
     rw[hy]at c2
     have HXY:=Hid.mk_ (And.intro hx hy)
     clear hx hy
     go_upto_region 11 with fail
     go_region
     have r2:RowS ((wq.setCell ⟨g,k,none⟩ (.int .i64 y)).setCell ⟨g,v,none⟩ (.int .i64 x)).drew g n (upR f a (t+1)):=by
      have:=(HR.out.swap (i:=k) (j:=v) (by omega) (by omega)).drew
      rw[HXY.out.1,HXY.out.2]at this
      rw[show upR f a (t+1)=swp (upR f a t) k v by rw[← HV.out,← HK.out]; rfl]
      exact this
     have b2:Below g w ((wq.setCell ⟨g,k,none⟩ (.int .i64 y)).setCell ⟨g,v,none⟩ (.int .i64 x)).drew:=(Below.setCell (p:=⟨g,v,none⟩) (Below.setCell (p:=⟨g,k,none⟩) B (Nat.le_refl _) _) (Nat.le_refl _) _).drew
     have HZ:=Hid.mk_ (And.intro r2 b2)
     generalize ((wq.setCell ⟨g,k,none⟩ (.int .i64 y)).setCell ⟨g,v,none⟩ (.int .i64 x)).drew=w10 at *
     clear r2 b2 c1 c2 fa fb HR HXY B
     repeat' (first | go_values | go_skip | go_guarded | go_step | go_upon)
     go_roundw
     case rel=>exact⟨t+1,v,by have:=HV.out; have:=HK.out; omega,HVQ.out.1,by go_num,HZ.out.1,HZ.out.2⟩
     case measure=>
      have:=HVQ.out
      show q-v<q-k
      omega
    ·
     obtain rfl:q=k:=by omega
     have hk2:decide ((q:Int)<(q:Int))=false:=decide_eq_false (by omega)
     clear hk
     go_wp2_with fail
     go_returns
     refine⟨rfl,⟨upR f a t,HR.out,upR_sp f (Nat.le_refl _) t (by have:=HK.out; omega),?_⟩,B⟩
     have et:t=i-1-a:=by have:=HK.out; have:=HQ.out; omega
     have sc:=SC.out
     rw[et]
     have ha:=HA.out
     subst ha
     exact up_first u sc.1 sc.2.2.1 sc.2.2.2.1 sc.2.2.2.2
theorem vsymB {g n cap p:Nat} {f:Nat→Int} (w:World) (a m b:Nat) (hr:RowS w g n f) (ha:a+1<m) (hm:b=m+1) (hb:b≤n) (hn:n≤1000) (u:Up f a m) (CM:∀W x y,Below g w W→Calls Tryz.prog 137 #[.int .i64 x,.int .i64 y,.pointer (some ⟨p,0,none⟩)] W fun e w2=>e = .returned (.int .i64 (cmpI x y))∧Steps W w2) :
  Calls Tryz.prog 166 #[.slice (some ⟨g,0,none⟩) n cap,.int .i64 a,.int .i64 m,.int .i64 b,.func (.func 137) #[] #[.pointer (some ⟨p,0,none⟩)]] w fun e w'=>e = .returned (.tuple #[])∧(∃f',RowS w' g n f'∧SP a b f f'∧Up f' a b)∧Below g w w':=by
 have gl:=hr.lt
 have HR:=Hid.mk_ hr
 clear hr
 obtain⟨d,hd⟩:∃d,m-a=d:=⟨_,rfl⟩
 have e1:((m:Int)-(a:Int))=(d:Int):=by omega
 have e2:((d:Int)==1)=false:=by simp; omega
 have e3:((b:Int)-(m:Int))=1:=by omega
 have am:m<n:=by omega
 have HB:=Hid.mk_ hm
 clear hd hm
 go_enter Tryz.func166,Tryz.ntmps166
 go_wp2_with fail
 go_loopw [14,15] (fun ki kj wr=>∃ (i j:Nat),Sc2 f (f m) a m i j∧ki = .int .i64 i∧kj = .int .i64 j∧RowS wr g n f∧Below g w wr) (fun ki kj _=>(intOf kj).toNat-(intOf ki).toNat)
 case atStart=>exact⟨a,m,Sc2.start (by omega),rfl,rfl,HR.out,Below.refl g w⟩
 case round=>
  clear HR e1 e2 e3
  obtain⟨i,j,sc,rfl,rfl,hr,B⟩:=hrel
  have gq:=hr.lt
  have HR:=Hid.mk_ hr
  have s1:=sc.1
  have s2:=sc.2.1
  have s3:=sc.2.2.1
  have SC:=Hid.mk_ sc
  clear hr sc
  rcases Nat.lt_or_ge i j with ij | ij
  ·
   have hlt:decide ((i:Int)<(j:Int))=true:=decide_eq_true (by omega)
   obtain⟨s,hs⟩:∃s,i+j=s:=⟨_,rfl⟩
   obtain⟨h,hh⟩:∃h,s / 2=h:=⟨_,rfl⟩
   have es:((i:Int)+(j:Int))=(s:Int):=by omega
   have es2:(s:Int) / 2=(h:Int):=by omega
   have hi1:i≤h:=by omega
   have hj1:h<j:=by omega
   have hn1:h<n:=by omega
   have hx2:(s:Int)<2000:=by omega
   have cx:=HR.out.c (i:=m) am
   have cy:=HR.out.c (i:=h) hn1
   obtain⟨x,hx⟩:∃x,f m=x:=⟨_,rfl⟩
   obtain⟨y,hy⟩:∃y,f h=y:=⟨_,rfl⟩
   rw[hx]at cx
   rw[hy]at cy
   have CMc:=fun W q=>CM W x y q
   obtain⟨c,hc⟩:∃c,cmpI x y=c:=⟨_,rfl⟩
   simp only[hc]at CMc
   have HXY:=Hid.mk_ (And.intro hx hy)
   clear hx hy
   have HS:=Hid.mk_ (And.intro hs hh)
   clear hs hh
   by_cases lt:x<y
   ·
    have c0:c<0:=by rw[← hc]; exact cmpI_neg.2 lt
    clear hc
    repeat' (first | go_values | go_skip | go_guarded | go_step | go_upon)
    refine Reg.wp_chain (fun D v W=>Below wr.heap.size wr W∧True) (Reg.inl [9]) (Reg.gv [(9,fun z_=>z_ = .int .i64 c)]) Reg.None_ (fun _=>Reg.Any) (fun _ _=>False) (Reg.pl []) (Reg.pl [])
     (by kernel_rfl) (by kernel_rfl) (by kernel_rfl) (Reg.gvA _) (fun _=>⟨belowB,trivial⟩) (fun _ _ _ _ _ h=>h) (fun _ _ _ _ _ _ _ _ _ _ _ _ _=>Reg.none_) (fun _ _ _ _ h=>h.elim) (fun ops' Q' hops hQ=> ?_)
    repeat refine Reg.RP0 _ ?_
    apply Reg.RP rfl rfl rfl 96 rfl rfl
    ·
     intro D v W hc hj hf K' hK'
     obtain⟨j0,_⟩:=hj
     have c0:W.cell? ⟨g,m,none⟩=some (.int .i64 x):=(j0.cell (p:=⟨g,_,none⟩) gq).trans cx
     go_step
     exact hK'.out
    · rfl
    repeat refine Reg.RP0 _ ?_
    apply Reg.RP rfl rfl rfl 100 rfl rfl
    ·
     intro D v W hc hj hf K' hK'
     obtain⟨j0,_⟩:=hj
     have c0:W.cell? ⟨g,h,none⟩=some (.int .i64 y):=(j0.cell (p:=⟨g,_,none⟩) gq).trans cy
     go_step
     exact hK'.out
    · rfl
    refine Reg.RC_call rfl (tlt rfl) rfl (fun D v W hc hj hf K' hK'=> ?_) ?_
    ·
     obtain⟨j0,_⟩:=hj
     go_step
     refine(CMc _ (below_steps B (Nat.le_of_lt gl) j0)).mono ?_
     rintro e W2 ⟨rfl,hs⟩
     exact hK'.out _ W2 Reg.any ⟨jst j0 hs,trivial⟩ trivial rfl
    rintro _ rfl
    refine Reg.at220 rfl ?_
    repeat refine Reg.RP0 _ ?_
    refine Reg.RC_end (fun D v w9 hd hj hf=> ?_)
    obtain⟨st9,_⟩:=hj
    clear hd hf
    refine hQ _ _ ?_
    clear hQ hops Q' ops'
    have B9:=below_steps B (Nat.le_of_lt gl) st9
    have hr9:=Hid.mk_ (HR.out.steps st9)
    clear st9 HR cx cy
    repeat' (first | go_values | go_skip | go_guarded | go_step | go_upon)
    go_roundw
    case rel=>exact⟨i,h,SC.out.down u hi1 hj1 (by rw[HXY.out.1,HXY.out.2]; exact lt),by go_num,by go_num,hr9.out,B9⟩
    case measure=>simp[intOf]; omega
   ·
    have c0:¬c<0:=fun h=>lt (cmpI_neg.1 (by rw[hc]; exact h))
    clear hc
    repeat' (first | go_values | go_skip | go_guarded | go_step | go_upon)
    refine Reg.wp_chain (fun D v W=>Below wr.heap.size wr W∧True) (Reg.inl [9]) (Reg.gv [(9,fun z_=>z_ = .int .i64 c)]) Reg.None_ (fun _=>Reg.Any) (fun _ _=>False) (Reg.pl []) (Reg.pl [])
     (by kernel_rfl) (by kernel_rfl) (by kernel_rfl) (Reg.gvA _) (fun _=>⟨belowB,trivial⟩) (fun _ _ _ _ _ h=>h) (fun _ _ _ _ _ _ _ _ _ _ _ _ _=>Reg.none_) (fun _ _ _ _ h=>h.elim) (fun ops' Q' hops hQ=> ?_)
    repeat refine Reg.RP0 _ ?_
    apply Reg.RP rfl rfl rfl 96 rfl rfl
    ·
     intro D v W hc hj hf K' hK'
     obtain⟨j0,_⟩:=hj
     have c0:W.cell? ⟨g,m,none⟩=some (.int .i64 x):=(j0.cell (p:=⟨g,_,none⟩) gq).trans cx
     go_step
     exact hK'.out
    · rfl
    repeat refine Reg.RP0 _ ?_
    apply Reg.RP rfl rfl rfl 100 rfl rfl
    ·
     intro D v W hc hj hf K' hK'
     obtain⟨j0,_⟩:=hj
     have c0:W.cell? ⟨g,h,none⟩=some (.int .i64 y):=(j0.cell (p:=⟨g,_,none⟩) gq).trans cy
     go_step
     exact hK'.out
    · rfl
    refine Reg.RC_call rfl (tlt rfl) rfl (fun D v W hc hj hf K' hK'=> ?_) ?_
    ·
     obtain⟨j0,_⟩:=hj
     go_step
     refine(CMc _ (below_steps B (Nat.le_of_lt gl) j0)).mono ?_
     rintro e W2 ⟨rfl,hs⟩
     exact hK'.out _ W2 Reg.any ⟨jst j0 hs,trivial⟩ trivial rfl
    rintro _ rfl
    refine Reg.at220 rfl ?_
    repeat refine Reg.RP0 _ ?_
    refine Reg.RC_end (fun D v w9 hd hj hf=> ?_)
    obtain⟨st9,_⟩:=hj
    clear hd hf
    refine hQ _ _ ?_
    clear hQ hops Q' ops'
    have B9:=below_steps B (Nat.le_of_lt gl) st9
    have hr9:=Hid.mk_ (HR.out.steps st9)
    clear st9 HR cx cy
    repeat' (first | go_values | go_skip | go_guarded | go_step | go_upon)
    go_roundw
    case rel=>exact⟨h+1,j,SC.out.up u hi1 hj1 (by rw[HXY.out.1,HXY.out.2]; exact lt),by go_num,by go_num,hr9.out,B9⟩
    case measure=>simp[intOf]; omega
  ·
   obtain rfl:i=j:=by omega
   have hlt:decide ((i:Int)<(i:Int))=false:=decide_eq_false (by omega)
   go_wp2_with fail
   go_loopw [17] (fun kk wr=>∃ (t k:Nat),k+t=m∧i≤k∧kk = .int .i64 k∧RowS wr g n (dnR f m t)∧Below g w wr) (fun kk _=>(intOf kk).toNat)
   case atStart=>exact⟨0,m,by omega,s3,rfl,HR.out,B⟩
   case round=>
    rename World=>wq
    clear B HR
    obtain⟨t,k,hk,kq,rfl,hr,B⟩:=hrel
    have gq2:=hr.lt
    have HR:=Hid.mk_ hr
    have HK:=Hid.mk_ hk
    have km:k≤m:=by omega
    clear hr
    rcases Nat.lt_or_ge i k with kl | kl
    ·
     have hk2:decide ((i:Int)<(k:Int))=true:=decide_eq_true (by omega)
     obtain⟨v,hv⟩:∃v,k-1=v:=⟨_,rfl⟩
     have ev:(k:Int)-1=(v:Int):=by omega
     have vn:v<n:=by omega
     have un:k<n:=by omega
     have huv:k≠v:=by omega
     have hvu:v≠k:=by omega
     have iv:i≤v:=by omega
     have vk:v<k:=by omega
     have HV:=Hid.mk_ hv
     clear hv hk kl
     have c1:=HR.out.c (i:=k) (by omega)
     have c2:=HR.out.c (i:=v) (by omega)
     have fa:=HR.out.fr k
     have fb:=HR.out.fr v
     obtain⟨x,hx⟩:∃x,dnR f m t k=x:=⟨_,rfl⟩
     obtain⟨y,hy⟩:∃y,dnR f m t v=y:=⟨_,rfl⟩
     rw[hx]at c1
     rw[hy]at c2
     have HXY:=Hid.mk_ (And.intro hx hy)
     clear hx hy
     go_upto_region 23 with fail
     go_region
     have r2:RowS ((wq.setCell ⟨g,k,none⟩ (.int .i64 y)).setCell ⟨g,v,none⟩ (.int .i64 x)).drew g n (dnR f m (t+1)):=by
      have:=(HR.out.swap (i:=k) (j:=v) (by omega) (by omega)).drew
      rw[HXY.out.1,HXY.out.2]at this
      rw[show dnR f m (t+1)=swp (dnR f m t) k v by (have e1:m-t=k:=by (have:=HK.out; omega)); show _=swp (dnR f m t) k v; rw[← HV.out,← e1]; rfl]
      exact this
     have b2:Below g w ((wq.setCell ⟨g,k,none⟩ (.int .i64 y)).setCell ⟨g,v,none⟩ (.int .i64 x)).drew:=(Below.setCell (p:=⟨g,v,none⟩) (Below.setCell (p:=⟨g,k,none⟩) B (Nat.le_refl _) _) (Nat.le_refl _) _).drew
     have HZ:=Hid.mk_ (And.intro r2 b2)
     generalize ((wq.setCell ⟨g,k,none⟩ (.int .i64 y)).setCell ⟨g,v,none⟩ (.int .i64 x)).drew=w10 at *
     clear r2 b2 c1 c2 fa fb HR HXY B
     repeat' (first | go_values | go_skip | go_guarded | go_step | go_upon)
     go_roundw
     case rel=>exact⟨t+1,v,by have:=HV.out; have:=HK.out; omega,by omega,by go_num,HZ.out.1,HZ.out.2⟩
     case measure=>simp[intOf]; omega
    ·
     obtain rfl:i=k:=by omega
     have hk2:decide ((i:Int)<(i:Int))=false:=decide_eq_false (by omega)
     clear hk
     go_wp2_with fail
     go_returns
     refine⟨rfl,⟨dnR f m t,HR.out,dnR_sp f (by have:=HB.out; omega) t (by have:=HK.out; omega),?_⟩,B⟩
     have et:t=m-i:=by have:=HK.out; omega
     have sc:=SC.out
     rw[et]
     have hm:=HB.out
     subst hm
     exact up_last u sc.1 (by omega) sc.2.2.2.1 sc.2.2.2.2
theorem vsymC {g n cap p:Nat} {f:Nat→Int} (w:World) (a m b:Nat) (hr:RowS w g n f) (ha:a+1<m) (hm:m+1<b) (hb:b≤n) (hn:n≤1000) (u1:Up f a m) (u2:Up f m b) (CM:∀W x y,Below g w W→Calls Tryz.prog 137 #[.int .i64 x,.int .i64 y,.pointer (some ⟨p,0,none⟩)] W fun e w2=>e = .returned (.int .i64 (cmpI x y))∧Steps W w2) (IH:∀ (a' m' b':Nat) (f':Nat→Int) (w':World),b'-a'<b-a→RowS w' g n f'→a'<m'→m'<b'→b'≤n→Up f' a' m'→Up f' m' b'→Below g w w'→Calls Tryz.prog 166 #[.slice (some ⟨g,0,none⟩) n cap,.int .i64 a',.int .i64 m',.int .i64 b',.func (.func 137) #[] #[.pointer (some ⟨p,0,none⟩)]] w' fun e w2=>e = .returned (.tuple #[])∧(∃f2,RowS w2 g n f2∧SP a' b' f' f2∧Up f2 a' b')∧Below g w' w2) :
  Calls Tryz.prog 166 #[.slice (some ⟨g,0,none⟩) n cap,.int .i64 a,.int .i64 m,.int .i64 b,.func (.func 137) #[] #[.pointer (some ⟨p,0,none⟩)]] w fun e w'=>e = .returned (.tuple #[])∧(∃f',RowS w' g n f'∧SP a b f f'∧Up f' a b)∧Below g w w':=by
 have gl:=hr.lt
 have HR:=Hid.mk_ hr
 clear hr
 obtain⟨d,hd⟩:∃d,m-a=d:=⟨_,rfl⟩
 have e1:((m:Int)-(a:Int))=(d:Int):=by omega
 have e2:((d:Int)==1)=false:=by simp; omega
 obtain⟨d',hd'⟩:∃d,b-m=d:=⟨_,rfl⟩
 have e3:((b:Int)-(m:Int))=(d':Int):=by omega
 have e4:((d':Int)==1)=false:=by simp; omega
 obtain⟨s0,hs0⟩:∃s,a+b=s:=⟨_,rfl⟩
 obtain⟨mid,hmid⟩:∃s,s0 / 2=s:=⟨_,rfl⟩
 have es0:((a:Int)+(b:Int))=(s0:Int):=by omega
 have es1:(s0:Int) / 2=(mid:Int):=by omega
 have hx0:(s0:Int)<2000:=by omega
 obtain⟨q,hq⟩:∃q,mid+m=q:=⟨_,rfl⟩
 have eq1:((mid:Int)+(m:Int))=(q:Int):=by omega
 obtain⟨pp,hpp⟩:∃p,q-1=p:=⟨_,rfl⟩
 have epp:(q:Int)-1=(pp:Int):=by omega
 have m1:a<mid:=by omega
 have m2:mid<b:=by omega
 have m3:2*mid≤a+b:=by omega
 have m4:a+b≤2*mid+1:=by omega
 rcases Nat.lt_or_ge mid m with hw | hw
 focus
  obtain⟨lo,hlo⟩:∃l,q-b=l:=⟨_,rfl⟩
  obtain⟨hi,hhi⟩:∃l,mid=l:=⟨_,rfl⟩
  have elo:((q:Int)-(b:Int))=(lo:Int):=by omega
  have hgt:decide ((mid:Int)<(m:Int))=true:=decide_eq_true (by omega)
  have hgtN:decide (mid<m)=true:=decide_eq_true (by omega)
  have HP:=Hid.mk_ (show pp=mid+m-1∧lo=mid+m-b∧q=mid+m∧a≤lo by omega)
  have HD:Hid ((lo=a∧hi=m)∨(lo=mid+m-b∧hi=mid∧b≤mid+m)):=Hid.mk_ (.inr ⟨by omega,hhi.symm,by omega⟩)
  have HH:=Hid.mk_ (And.intro hlo hhi)
 rotate_left
 focus
  obtain⟨lo,hlo⟩:∃l,a=l:=⟨_,rfl⟩
  obtain⟨hi,hhi⟩:∃l,m=l:=⟨_,rfl⟩
  have elo:True:=trivial
  have hgt:decide ((mid:Int)<(m:Int))=false:=decide_eq_false (by omega)
  have hgtN:decide (mid<m)=false:=decide_eq_false (by omega)
  have HP:=Hid.mk_ (show pp=mid+m-1∧lo=a∧q=mid+m∧a≤lo by omega)
  have HD:Hid ((lo=a∧hi=m)∨(lo=mid+m-b∧hi=mid∧b≤mid+m)):=Hid.mk_ (.inl ⟨hlo.symm,hhi.symm⟩)
  have HH:=Hid.mk_ (And.intro hlo hhi)
 all_goals
  have loa:a≤lo:=by omega
  have lob:lo≤hi:=by omega
  have hib:hi≤m∧hi≤mid:=by omega
  have pb:pp<lo+b:=by omega
  have ph:m+hi≤pp+1:=by omega
  have MONO:=Hid.mk_ (sch_mono (p:=pp) (lo:=lo) (hi:=hi) u1 u2 (by omega) (by omega) ph pb)
  have UU:=Hid.mk_ (And.intro u1 u2)
  clear hd hd' hs0 hmid hpp u1 u2 hq hlo hhi
  go_enter Tryz.func166,Tryz.ntmps166
  repeat' (first | go_values | go_skip | go_guarded | go_step | go_upon)
  go_loopw [20,21] (fun ks kr wr=>∃ (st r:Nat),Sch f pp lo hi st r∧ks = .int .i64 st∧kr = .int .i64 r∧RowS wr g n f∧Below g w wr) (fun ks kr _=>(intOf kr).toNat-(intOf ks).toNat)
  case atStart=>exact⟨lo,hi,Sch.start (by omega),by have:=HH.out; go_num,by have:=HH.out; go_num,HR.out,Below.refl g w⟩
  case round=>
   clear HR e1 e2 e3 e4 es0 es1 eq1 epp hx0 hgt hgtN elo hw HH
   obtain⟨st,r,sc,rfl,rfl,hr,B⟩:=hrel
   have gq:=hr.lt
   have HR:=Hid.mk_ hr
   have s1:=sc.1
   have s2:=sc.2.1
   have s3:=sc.2.2.1
   have SC:=Hid.mk_ sc
   clear hr sc
   rcases Nat.lt_or_ge st r with ij | ij
   ·
    have hlt:decide ((st:Int)<(r:Int))=true:=decide_eq_true (by omega)
    obtain⟨s,hs⟩:∃s,st+r=s:=⟨_,rfl⟩
    obtain⟨h,hh⟩:∃h,s / 2=h:=⟨_,rfl⟩
    have es:((st:Int)+(r:Int))=(s:Int):=by omega
    have es2:(s:Int) / 2=(h:Int):=by omega
    have hi1:st≤h:=by omega
    have hj1:h<r:=by omega
    have hn1:h<n:=by omega
    have hx2:(s:Int)<2000:=by omega
    obtain⟨k,hk⟩:∃k,pp-h=k:=⟨_,rfl⟩
    have ek:(pp:Int)-(h:Int)=(k:Int):=by omega
    have kn:k<n:=by omega
    have HK:=Hid.mk_ hk
    have cx:=HR.out.c (i:=k) kn
    have cy:=HR.out.c (i:=h) hn1
    obtain⟨x,hx⟩:∃x,f k=x:=⟨_,rfl⟩
    obtain⟨y,hy⟩:∃y,f h=y:=⟨_,rfl⟩
    rw[hx]at cx
    rw[hy]at cy
    have CMc:=fun W q=>CM W x y q
    obtain⟨c,hc⟩:∃c,cmpI x y=c:=⟨_,rfl⟩
    simp only[hc]at CMc
    have HXY:=Hid.mk_ (And.intro hx hy)
    clear hx hy
    have HS:=Hid.mk_ (And.intro hs hh)
    clear hs hh hk
    by_cases lt:x<y
    ·
     have c0:c<0:=by rw[← hc]; exact cmpI_neg.2 lt
     clear hc
     repeat' (first | go_values | go_skip | go_guarded | go_step | go_upon)
     refine Reg.wp_chain (fun D v W=>Below wr.heap.size wr W∧True) (Reg.inl [11]) (Reg.gv [(11,fun z_=>z_ = .int .i64 c)]) Reg.None_ (fun _=>Reg.Any) (fun _ _=>False) (Reg.pl []) (Reg.pl [])
      (by kernel_rfl) (by kernel_rfl) (by kernel_rfl) (Reg.gvA _) (fun _=>⟨belowB,trivial⟩) (fun _ _ _ _ _ h=>h) (fun _ _ _ _ _ _ _ _ _ _ _ _ _=>Reg.none_) (fun _ _ _ _ h=>h.elim) (fun ops' Q' hops hQ=> ?_)
     repeat refine Reg.RP0 _ ?_
     apply Reg.RP rfl rfl rfl 164 rfl rfl
     ·
      intro D v W hc hj hf K' hK'
      obtain⟨j0,_⟩:=hj
      have c0:W.cell? ⟨g,k,none⟩=some (.int .i64 x):=(j0.cell (p:=⟨g,_,none⟩) gq).trans cx
      go_step
      exact hK'.out
     · rfl
     repeat refine Reg.RP0 _ ?_
     apply Reg.RP rfl rfl rfl 168 rfl rfl
     ·
      intro D v W hc hj hf K' hK'
      obtain⟨j0,_⟩:=hj
      have c0:W.cell? ⟨g,h,none⟩=some (.int .i64 y):=(j0.cell (p:=⟨g,_,none⟩) gq).trans cy
      go_step
      exact hK'.out
     · rfl
     refine Reg.RC_call rfl (tlt rfl) rfl (fun D v W hc hj hf K' hK'=> ?_) ?_
     ·
      obtain⟨j0,_⟩:=hj
      go_step
      refine(CMc _ (below_steps B (Nat.le_of_lt gl) j0)).mono ?_
      rintro e W2 ⟨rfl,hs⟩
      exact hK'.out _ W2 Reg.any ⟨jst j0 hs,trivial⟩ trivial rfl
     rintro _ rfl
     refine Reg.at220 rfl ?_
     repeat refine Reg.RP0 _ ?_
     refine Reg.RC_end (fun D v w9 hd hj hf=> ?_)
     obtain⟨st9,_⟩:=hj
     clear hd hf
     refine hQ _ _ ?_
     clear hQ hops Q' ops'
     have B9:=below_steps B (Nat.le_of_lt gl) st9
     have hr9:=Hid.mk_ (HR.out.steps st9)
     clear st9 HR cx cy
     repeat' (first | go_values | go_skip | go_guarded | go_step | go_upon)
     go_roundw
     case rel=>exact⟨st,h,SC.out.down hi1 hj1 MONO.out (by rw[HK.out,HXY.out.1,HXY.out.2]; exact lt),by go_num,by go_num,hr9.out,B9⟩
     case measure=>simp[intOf]; omega
    ·
     have c0:¬c<0:=fun h=>lt (cmpI_neg.1 (by rw[hc]; exact h))
     clear hc
     repeat' (first | go_values | go_skip | go_guarded | go_step | go_upon)
     refine Reg.wp_chain (fun D v W=>Below wr.heap.size wr W∧True) (Reg.inl [11]) (Reg.gv [(11,fun z_=>z_ = .int .i64 c)]) Reg.None_ (fun _=>Reg.Any) (fun _ _=>False) (Reg.pl []) (Reg.pl [])
      (by kernel_rfl) (by kernel_rfl) (by kernel_rfl) (Reg.gvA _) (fun _=>⟨belowB,trivial⟩) (fun _ _ _ _ _ h=>h) (fun _ _ _ _ _ _ _ _ _ _ _ _ _=>Reg.none_) (fun _ _ _ _ h=>h.elim) (fun ops' Q' hops hQ=> ?_)
     repeat refine Reg.RP0 _ ?_
     apply Reg.RP rfl rfl rfl 164 rfl rfl
     ·
      intro D v W hc hj hf K' hK'
      obtain⟨j0,_⟩:=hj
      have c0:W.cell? ⟨g,k,none⟩=some (.int .i64 x):=(j0.cell (p:=⟨g,_,none⟩) gq).trans cx
      go_step
      exact hK'.out
     · rfl
     repeat refine Reg.RP0 _ ?_
     apply Reg.RP rfl rfl rfl 168 rfl rfl
     ·
      intro D v W hc hj hf K' hK'
      obtain⟨j0,_⟩:=hj
      have c0:W.cell? ⟨g,h,none⟩=some (.int .i64 y):=(j0.cell (p:=⟨g,_,none⟩) gq).trans cy
      go_step
      exact hK'.out
     · rfl
     refine Reg.RC_call rfl (tlt rfl) rfl (fun D v W hc hj hf K' hK'=> ?_) ?_
     ·
      obtain⟨j0,_⟩:=hj
      go_step
      refine(CMc _ (below_steps B (Nat.le_of_lt gl) j0)).mono ?_
      rintro e W2 ⟨rfl,hs⟩
      exact hK'.out _ W2 Reg.any ⟨jst j0 hs,trivial⟩ trivial rfl
     rintro _ rfl
     refine Reg.at220 rfl ?_
     repeat refine Reg.RP0 _ ?_
     refine Reg.RC_end (fun D v w9 hd hj hf=> ?_)
     obtain⟨st9,_⟩:=hj
     clear hd hf
     refine hQ _ _ ?_
     clear hQ hops Q' ops'
     have B9:=below_steps B (Nat.le_of_lt gl) st9
     have hr9:=Hid.mk_ (HR.out.steps st9)
     clear st9 HR cx cy
     repeat' (first | go_values | go_skip | go_guarded | go_step | go_upon)
     go_roundw
     case rel=>exact⟨h+1,r,SC.out.up hi1 hj1 MONO.out (by rw[HK.out,HXY.out.1,HXY.out.2]; exact lt),by go_num,by go_num,hr9.out,B9⟩
     case measure=>simp[intOf]; omega
   ·
    obtain rfl:st=r:=by omega
    have hlt:decide ((st:Int)<(st:Int))=false:=decide_eq_false (by omega)
    obtain⟨en,hen⟩:∃e,q-st=e:=⟨_,rfl⟩
    have een:(q:Int)-(st:Int)=(en:Int):=by have:=HP.out; omega
    have sm:st≤m:=by omega
    have sq:st≤mid:=by have:=HP.out; omega
    have as_:a≤st:=by omega
    have me:m≤en:=by have:=HP.out; omega
    have de:mid≤en:=by have:=HP.out; omega
    have eb:en≤b:=by have:=HP.out; omega
    have HE:=Hid.mk_ (show en=mid+m-st∧(st=m→en=mid)∧(m=en→st=mid) by have:=HP.out; omega)
    have ends:=sch_ends (f:=f) (a:=a) (m:=m) (b:=b) (mid:=mid) (s:=st) (lo:=lo) (hi:=hi) (by have h1:=SC.out; rw[HP.out.1]at h1; exact h1) (by omega) HD.out
    have MH:=merge_halves (f:=f) mid UU.out.1 UU.out.2 as_ sm sq (by omega) (by omega) (by omega) (by have:=HE.out; omega) (by have:=HE.out; omega) ends.1 ends.2
    rw[← HE.out.1]at MH
    have MH':=Hid.mk_ MH
    clear MH ends hen SC
    rcases(show (st<m∧m<en)∨¬st<m∨(st<m∧¬m<en) by omega)with⟨g5,g6⟩ | g5 | ⟨g5,g6⟩
    focus
     have d1:decide ((st:Int)<(m:Int))=true:=decide_eq_true (by omega)
     have d2:decide ((m:Int)<(en:Int))=true:=decide_eq_true (by omega)
     have RO:=vrotate (cap:=cap) (p:=p) wr st m en HR.out g5 g6 (by omega) hn
     repeat' (first | go_values | go_skip | go_guarded | go_step | go_upon)
     refine RO.mono ?_
     rintro e wr ⟨rfl,h1,h2⟩
     have B:Below g w wr:=B.trans h2
     obtain⟨g1,hg1⟩:∃z,rotF st m en f=z:=⟨_,rfl⟩
     have G:=Hid.mk_ (show RowS wr g n g1∧SP a b f g1∧Up g1 a st∧Up g1 st mid∧Up g1 mid en∧Up g1 en b∧(∀x y,a≤x→x<mid→mid≤y→y<b→g1 x≤g1 y) from by
      rw[← hg1]; exact⟨h1,rotF_sp' f as_ g5 g6 eb,MH'.out⟩)
     clear h1 h2 hg1 RO MH' HR
     dsimp only
    rotate_left
    focus
     have d1:decide ((st:Int)<(m:Int))=false:=decide_eq_false (by omega)
     have G:=Hid.mk_ (show RowS wr g n f∧SP a b f f∧Up f a st∧Up f st mid∧Up f mid en∧Up f en b∧(∀x y,a≤x→x<mid→mid≤y→y<b→f x≤f y) from⟨HR.out,SP.refl f,by
      have:=MH'.out
      rw[rotF_id f sm me (by omega)]at this
      exact this⟩)
     have g1e:∃g1,g1=f:=⟨f,rfl⟩
     obtain⟨g1,hg1⟩:=g1e
     have G:Hid (RowS wr g n g1∧SP a b f g1∧Up g1 a st∧Up g1 st mid∧Up g1 mid en∧Up g1 en b∧(∀x y,a≤x→x<mid→mid≤y→y<b→g1 x≤g1 y)):=by rw[hg1]; exact G
     clear hg1 MH' HR
    rotate_left
    focus
     have d1:decide ((st:Int)<(m:Int))=true:=decide_eq_true (by omega)
     have d2:decide ((m:Int)<(en:Int))=false:=decide_eq_false (by omega)
     have G:=Hid.mk_ (show RowS wr g n f∧SP a b f f∧Up f a st∧Up f st mid∧Up f mid en∧Up f en b∧(∀x y,a≤x→x<mid→mid≤y→y<b→f x≤f y) from⟨HR.out,SP.refl f,by
      have:=MH'.out
      rw[rotF_id f sm me (by omega)]at this
      exact this⟩)
     have g1e:∃g1,g1=f:=⟨f,rfl⟩
     obtain⟨g1,hg1⟩:=g1e
     have G:Hid (RowS wr g n g1∧SP a b f g1∧Up g1 a st∧Up g1 st mid∧Up g1 mid en∧Up g1 en b∧(∀x y,a≤x→x<mid→mid≤y→y<b→g1 x≤g1 y)):=by rw[hg1]; exact G
     clear hg1 MH' HR
    rotate_left
    all_goals
     rcases(show (a<st∧st<mid)∨¬a<st∨(a<st∧¬st<mid) by omega)with⟨g3,g4⟩ | g3 | ⟨g3,g4⟩
     focus
      have d3:decide ((a:Int)<(st:Int))=true:=decide_eq_true (by omega)
      have d4:decide ((st:Int)<(mid:Int))=true:=decide_eq_true (by omega)
      have RC:=IH a st mid g1 wr (by omega) G.out.1 g3 g4 (by omega) G.out.2.2.1 G.out.2.2.2.1 B
      repeat' (first | go_values | go_skip | go_guarded | go_step | go_upon)
      refine RC.mono ?_
      rintro e wr ⟨rfl,⟨f7,h1,h2,h3⟩,h4⟩
      have B:Below g w wr:=B.trans h4
      have H7:=Hid.mk_ (show RowS wr g n f7∧SP a b f f7∧Up f7 mid en∧Up f7 en b∧SP a mid g1 f7∧Up f7 a mid∧(∀x y,a≤x→x<mid→mid≤y→y<b→g1 x≤g1 y) from⟨h1,G.out.2.1.trans (h2.mono (Nat.le_refl _) (by omega)),G.out.2.2.2.2.1.congr (fun k k1 _=>h2.out (.inr k1)),G.out.2.2.2.2.2.1.congr (fun k k1 _=>h2.out (.inr (by omega))),h2,h3,G.out.2.2.2.2.2.2⟩)
      clear h1 h2 h3 h4 RC G
      dsimp only
     rotate_left
     focus
      have d3:decide ((a:Int)<(st:Int))=false:=decide_eq_false (by omega)
      obtain⟨f7,hf7⟩:∃z,z=g1:=⟨_,rfl⟩
      have H7:=Hid.mk_ (show RowS wr g n f7∧SP a b f f7∧Up f7 mid en∧Up f7 en b∧SP a mid g1 f7∧Up f7 a mid∧(∀x y,a≤x→x<mid→mid≤y→y<b→g1 x≤g1 y) from by rw[hf7]; exact⟨G.out.1,G.out.2.1,G.out.2.2.2.2.1,G.out.2.2.2.2.2.1,SP.refl _,(by rw[show a=st by omega]; exact G.out.2.2.2.1),G.out.2.2.2.2.2.2⟩)
      clear G hf7
     rotate_left
     focus
      have d3:decide ((a:Int)<(st:Int))=true:=decide_eq_true (by omega)
      have d4:decide ((st:Int)<(mid:Int))=false:=decide_eq_false (by omega)
      obtain⟨f7,hf7⟩:∃z,z=g1:=⟨_,rfl⟩
      have H7:=Hid.mk_ (show RowS wr g n f7∧SP a b f f7∧Up f7 mid en∧Up f7 en b∧SP a mid g1 f7∧Up f7 a mid∧(∀x y,a≤x→x<mid→mid≤y→y<b→g1 x≤g1 y) from by rw[hf7]; exact⟨G.out.1,G.out.2.1,G.out.2.2.2.2.1,G.out.2.2.2.2.2.1,SP.refl _,(by have:=G.out.2.2.1; rw[show st=mid by omega]at this; exact this),G.out.2.2.2.2.2.2⟩)
      clear G hf7
     rotate_left
     all_goals
      rcases(show (mid<en∧en<b)∨¬mid<en∨(mid<en∧¬en<b) by omega)with⟨q1,q2⟩ | q1 | ⟨q1,q2⟩
      ·
       have d5:decide ((mid:Int)<(en:Int))=true:=decide_eq_true (by omega)
       have d6:decide ((en:Int)<(b:Int))=true:=decide_eq_true (by omega)
       have RC:=IH mid en b f7 wr (by omega) H7.out.1 q1 q2 hb (H7.out.2.2.1) (H7.out.2.2.2.1) B
       repeat' (first | go_values | go_skip | go_guarded | go_step | go_upon)
       refine RC.mono ?_
       rintro e w8 ⟨rfl,⟨f8,h1,h2,h3⟩,h4⟩
       have H8:=Hid.mk_ (And.intro h1 (And.intro h2 h3))
       have B8:Below g w w8:=B.trans h4
       clear h1 h2 h3 h4 RC
       dsimp only
       repeat' (first | go_values | go_skip | go_guarded | go_step | go_upon)
       go_returns
       exact⟨rfl,⟨f8,H8.out.1,H7.out.2.1.trans (H8.out.2.1.mono (by omega) (Nat.le_refl _)),merge_join (by omega) (by omega) H7.out.2.2.2.2.1 H8.out.2.1 H7.out.2.2.2.2.2.1 H8.out.2.2 H7.out.2.2.2.2.2.2⟩,B8⟩
      ·
       have d5:decide ((mid:Int)<(en:Int))=false:=decide_eq_false (by omega)
       repeat' (first | go_values | go_skip | go_guarded | go_step | go_upon)
       go_returns
       exact⟨rfl,⟨f7,H7.out.1,H7.out.2.1,merge_join (by omega) (by omega) H7.out.2.2.2.2.1 (SP.refl _) H7.out.2.2.2.2.2.1 (by rw[show mid=en by omega]; exact H7.out.2.2.2.1) H7.out.2.2.2.2.2.2⟩,B⟩
      ·
       have d5:decide ((mid:Int)<(en:Int))=true:=decide_eq_true (by omega)
       have d6:decide ((en:Int)<(b:Int))=false:=decide_eq_false (by omega)
       repeat' (first | go_values | go_skip | go_guarded | go_step | go_upon)
       go_returns
       exact⟨rfl,⟨f7,H7.out.1,H7.out.2.1,merge_join (by omega) (by omega) H7.out.2.2.2.2.1 (SP.refl _) H7.out.2.2.2.2.2.1 (by have:=H7.out.2.2.1; rw[show en=b by omega]at this; exact this) H7.out.2.2.2.2.2.2⟩,B⟩
theorem vsym {g n cap p:Nat} (hn:n≤1000):∀ (k:Nat) (a m b:Nat) (f:Nat→Int) (w:World),b-a≤k→RowS w g n f→a<m→m<b→b≤n→Up f a m→Up f m b→(∀W x y,Below g w W→Calls Tryz.prog 137 #[.int .i64 x,.int .i64 y,.pointer (some ⟨p,0,none⟩)] W fun e w2=>e = .returned (.int .i64 (cmpI x y))∧Steps W w2)→
  Calls Tryz.prog 166 #[.slice (some ⟨g,0,none⟩) n cap,.int .i64 a,.int .i64 m,.int .i64 b,.func (.func 137) #[] #[.pointer (some ⟨p,0,none⟩)]] w fun e w'=>e = .returned (.tuple #[])∧(∃f',RowS w' g n f'∧SP a b f f'∧Up f' a b)∧Below g w w'
 | 0,a,m,b,f,w,h,hr,h1,h2,h3,u1,u2,CM=>by omega
 | k+1,a,m,b,f,w,h,hr,h1,h2,h3,u1,u2,CM=>by
  by_cases c1:m=a+1
  · exact vsymA w a m b hr c1 h2 h3 hn u2 CM
  ·
   by_cases c2:b=m+1
   · exact vsymB w a m b hr (by omega) c2 h3 hn u1 CM
   ·
    have IH:=fun(a' m' b':Nat) (f':Nat→Int) (w':World) (l:b'-a'<b-a) (hr':RowS w' g n f') (h1':a'<m') (h2':m'<b') (h3':b'≤n) (u1':Up f' a' m') (u2':Up f' m' b') (hb:Below g w w')=>vsym (cap:=cap) (p:=p) hn k a' m' b' f' w' (by omega) hr' h1' h2' h3' u1' u2' (fun W x y hW=>CM W x y (hb.trans hW))
    exact vsymC w a m b hr (by omega) (by omega) h3 hn u1 u2 CM IH
theorem Up.one {f:Nat→Int} {a:Nat} : Up f a a:=Up.none (by omega)
def BUp (f:Nat→Int) (d n:Nat):Prop:=∀i j,i≤j→j<n→i / d=j / d→f i≤f j
theorem BUp.whole {f:Nat→Int} {d n:Nat} (h:BUp f d n) (hd:n≤d):Up f 0 n:=fun i j _ h2 h3=>h i j h2 h3 (by rw[Nat.div_eq_of_lt (by omega),Nat.div_eq_of_lt (by omega)])
theorem bup_ins {f f2:Nat→Int} {q a b:Nat} (ha:a=20*q) (hb:b≤a+20) (h:BUp f 20 a) (s:SP a b f f2) (u:Up f2 a b):BUp f2 20 b:=fun i j h1 h2 h3=>by
 rcases Nat.lt_or_ge j a with c | c
 ·
  rw[s.out (.inl (by omega)),s.out (.inl c)]
  exact h i j h1 c h3
 · exact u i j (by omega) h1 h2
theorem bup_low20 {f:Nat→Int} {q a n:Nat} (ha:a=40*q) (h:∀i j,a≤i→i≤j→j<n→i / 20=j / 20→f i≤f j) (hn:a+20≤n):Up f a (a+20):=fun i j h1 h2 h3=>h i j h1 h2 (by omega) (by omega)
theorem bup_top20 {f:Nat→Int} {q a b n:Nat} (ha:a=40*q) (h:∀i j,a≤i→i≤j→j<n→i / 20=j / 20→f i≤f j) (hb:b≤a+40) (hn:b≤n):Up f (a+20) b:=fun i j h1 h2 h3=>h i j (by omega) h2 (by omega) (by omega)
theorem bup_one20 {f:Nat→Int} {q a n:Nat} (ha:a=40*q) (h:∀i j,a≤i→i≤j→j<n→i / 20=j / 20→f i≤f j) (hn:n≤a+20):Up f a n:=fun i j h1 h2 h3=>h i j h1 h2 h3 (by omega)
theorem bup_mrg20 {f f2:Nat→Int} {q a b:Nat} (ha:a=40*q) (hb:b≤a+40) (h:BUp f 40 a) (s:SP a b f f2) (u:Up f2 a b):BUp f2 40 b:=fun i j h1 h2 h3=>by
 rcases Nat.lt_or_ge j a with c | c
 ·
  rw[s.out (.inl (by omega)),s.out (.inl c)]
  exact h i j h1 c h3
 · exact u i j (by omega) h1 h2
theorem bup_rest20 {f f2:Nat→Int} {a b n:Nat} (hb:a≤b) (h:∀i j,a≤i→i≤j→j<n→i / 20=j / 20→f i≤f j) (s:SP a b f f2):∀i j,b≤i→i≤j→j<n→i / 20=j / 20→f2 i≤f2 j:=fun i j h1 h2 h3 h4=>by
 rw[s.out (.inr h1),s.out (.inr (by omega))]
 exact h i j (by omega) h2 h3 h4
theorem bup_low40 {f:Nat→Int} {q a n:Nat} (ha:a=80*q) (h:∀i j,a≤i→i≤j→j<n→i / 40=j / 40→f i≤f j) (hn:a+40≤n):Up f a (a+40):=fun i j h1 h2 h3=>h i j h1 h2 (by omega) (by omega)
theorem bup_top40 {f:Nat→Int} {q a b n:Nat} (ha:a=80*q) (h:∀i j,a≤i→i≤j→j<n→i / 40=j / 40→f i≤f j) (hb:b≤a+80) (hn:b≤n):Up f (a+40) b:=fun i j h1 h2 h3=>h i j (by omega) h2 (by omega) (by omega)
theorem bup_one40 {f:Nat→Int} {q a n:Nat} (ha:a=80*q) (h:∀i j,a≤i→i≤j→j<n→i / 40=j / 40→f i≤f j) (hn:n≤a+40):Up f a n:=fun i j h1 h2 h3=>h i j h1 h2 h3 (by omega)
theorem bup_mrg40 {f f2:Nat→Int} {q a b:Nat} (ha:a=80*q) (hb:b≤a+80) (h:BUp f 80 a) (s:SP a b f f2) (u:Up f2 a b):BUp f2 80 b:=fun i j h1 h2 h3=>by
 rcases Nat.lt_or_ge j a with c | c
 ·
  rw[s.out (.inl (by omega)),s.out (.inl c)]
  exact h i j h1 c h3
 · exact u i j (by omega) h1 h2
theorem bup_rest40 {f f2:Nat→Int} {a b n:Nat} (hb:a≤b) (h:∀i j,a≤i→i≤j→j<n→i / 40=j / 40→f i≤f j) (s:SP a b f f2):∀i j,b≤i→i≤j→j<n→i / 40=j / 40→f2 i≤f2 j:=fun i j h1 h2 h3 h4=>by
 rw[s.out (.inr h1),s.out (.inr (by omega))]
 exact h i j (by omega) h2 h3 h4
theorem bup_low80 {f:Nat→Int} {q a n:Nat} (ha:a=160*q) (h:∀i j,a≤i→i≤j→j<n→i / 80=j / 80→f i≤f j) (hn:a+80≤n):Up f a (a+80):=fun i j h1 h2 h3=>h i j h1 h2 (by omega) (by omega)
theorem bup_top80 {f:Nat→Int} {q a b n:Nat} (ha:a=160*q) (h:∀i j,a≤i→i≤j→j<n→i / 80=j / 80→f i≤f j) (hb:b≤a+160) (hn:b≤n):Up f (a+80) b:=fun i j h1 h2 h3=>h i j (by omega) h2 (by omega) (by omega)
theorem bup_one80 {f:Nat→Int} {q a n:Nat} (ha:a=160*q) (h:∀i j,a≤i→i≤j→j<n→i / 80=j / 80→f i≤f j) (hn:n≤a+80):Up f a n:=fun i j h1 h2 h3=>h i j h1 h2 h3 (by omega)
theorem bup_mrg80 {f f2:Nat→Int} {q a b:Nat} (ha:a=160*q) (hb:b≤a+160) (h:BUp f 160 a) (s:SP a b f f2) (u:Up f2 a b):BUp f2 160 b:=fun i j h1 h2 h3=>by
 rcases Nat.lt_or_ge j a with c | c
 ·
  rw[s.out (.inl (by omega)),s.out (.inl c)]
  exact h i j h1 c h3
 · exact u i j (by omega) h1 h2
theorem bup_rest80 {f f2:Nat→Int} {a b n:Nat} (hb:a≤b) (h:∀i j,a≤i→i≤j→j<n→i / 80=j / 80→f i≤f j) (s:SP a b f f2):∀i j,b≤i→i≤j→j<n→i / 80=j / 80→f2 i≤f2 j:=fun i j h1 h2 h3 h4=>by
 rw[s.out (.inr h1),s.out (.inr (by omega))]
 exact h i j (by omega) h2 h3 h4
theorem vinsert0 {g n cap p:Nat} (w:World) (a:Nat) (ha:a≤1000) :
  Calls Tryz.prog 165 #[.slice (some ⟨g,0,none⟩) n cap,.int .i64 a,.int .i64 a,.func (.func 137) #[] #[.pointer (some ⟨p,0,none⟩)]] w fun e w'=>e = .returned (.tuple #[])∧w'=w:=by
 have hlt:decide ((a:Int)+1<(a:Int))=false:=decide_eq_false (by omega)
 go_enter Tryz.func165,Tryz.ntmps165
 go_wp2_with fail
 go_loopw [8] (fun kk wr=>kk = .int .i64 ((a:Int)+1)∧wr=w) (fun kk _=>0)
 case atStart=>exact⟨by go_num,rfl⟩
 case round=>
  obtain⟨rfl,rfl⟩:=hrel
  go_wp2_with fail
  go_returns
  exact⟨rfl,rfl⟩
theorem vstable100 {g n cap p:Nat} {f:Nat→Int} (w:World) (hr:RowS w g n f) (h0:0<n) (hn:n≤100) (CM:∀W x y,Below g w W→Calls Tryz.prog 137 #[.int .i64 x,.int .i64 y,.pointer (some ⟨p,0,none⟩)] W fun e w2=>e = .returned (.int .i64 (cmpI x y))∧Steps W w2) :
  Calls Tryz.prog 157 #[.slice (some ⟨g,0,none⟩) n cap,.int .i64 n,.func (.func 137) #[] #[.pointer (some ⟨p,0,none⟩)]] w fun e w'=>e = .returned (.tuple #[])∧(∃f',RowS w' g n f'∧SP 0 n f f'∧Up f' 0 n)∧Below g w w':=by
 have gl:=hr.lt
 have IL:=Hid.mk_ (fun a b f' w' (hr':RowS w' g n f') (hb:Below g w w') (h1:a<b) (h2:b≤n)=>vinsert (cap:=cap) (p:=p) (f:=f') w' a b hr' h1 h2 (by omega) (fun W x y hW=>CM W x y (hb.trans hW)))
 have I0:=Hid.mk_ (fun a (h:a≤1000) w'=>vinsert0 (g:=g) (n:=n) (cap:=cap) (p:=p) w' a h)
 have IS:=Hid.mk_ (fun a m b f' w' (hr':RowS w' g n f') (hb:Below g w w') (h1:a<m) (h2:m<b) (h3:b≤n) u1 u2=>vsym (cap:=cap) (p:=p) (by omega) n a m b f' w' (by omega) hr' h1 h2 h3 u1 u2 (fun W x y hW=>CM W x y (hb.trans hW)))
 have HR:=Hid.mk_ hr
 clear hr CM
 go_enter Tryz.func157,Tryz.ntmps157
 go_wp2_with fail
 go_loopw [7,8] (fun ka kb wr=>∃ (q a b:Nat) (f':Nat→Int),a=20*q∧b=a+20∧a≤n∧ka = .int .i64 a∧kb = .int .i64 b∧RowS wr g n f'∧SP 0 n f f'∧BUp f' 20 a∧Below g w wr) (fun ka kb _=>200-(intOf kb).toNat)
 case atStart=>exact⟨0,0,20,f,rfl,rfl,by omega,rfl,rfl,HR.out,SP.refl f,fun i j _ h=>absurd h (Nat.not_lt_zero _),Below.refl g w⟩
 case round=>
  clear HR
  obtain⟨q,a,b,f1,ha,hb,han,rfl,rfl,r1,s1,u1,B1⟩:=hrel
  have H1:=Hid.mk_ (And.intro r1 (And.intro s1 u1))
  have HA:=Hid.mk_ (And.intro ha hb)
  have b200:b≤120:=by omega
  have ab:a<b:=by omega
  clear r1 s1 u1 ha hb
  rcases Nat.lt_or_ge n b with bn | bn
  ·
   have hle:decide ((b:Int)≤(n:Int))=false:=decide_eq_false (by omega)
   have INS:Calls Tryz.prog 165 #[.slice (some ⟨g,0,none⟩) n cap,.int .i64 a,.int .i64 n,.func (.func 137) #[] #[.pointer (some ⟨p,0,none⟩)]] wr fun e w'=>e = .returned (.tuple #[])∧(∃f',RowS w' g n f'∧SP 0 n f f'∧BUp f' 20 n)∧Below g w w':=by
    rcases Nat.lt_or_ge a n with an | an
    ·
     refine(IL.out a n f1 wr H1.out.1 B1 an (Nat.le_refl _)).mono ?_
     rintro e w2 ⟨rfl,⟨f2,r2,s2,u2⟩,b2⟩
     exact⟨rfl,⟨f2,r2,H1.out.2.1.trans (s2.mono (Nat.zero_le _) (Nat.le_refl _)),bup_ins HA.out.1 (by have:=HA.out; omega) H1.out.2.2 s2 u2⟩,B1.trans b2⟩
    ·
     obtain rfl:a=n:=by omega
     refine(I0.out a (by omega) wr).mono ?_
     rintro e w2 ⟨rfl,rfl⟩
     exact⟨rfl,⟨f1,H1.out⟩,B1⟩
   clear H1
   go_wp2_with fail
   refine INS.mono ?_
   rintro e w2 ⟨rfl,⟨f2,r2,s2,u2⟩,B2⟩
   have H2:=Hid.mk_ (And.intro r2 (And.intro s2 u2))
   clear r2 s2 u2 INS B1 HA bn b200 ab han
   dsimp only
   go_wp2_with fail
   go_loopw [6] (fun ka wr=>∃ (d:Nat) (f':Nat→Int),(d=20∨d=40∨d=80∨d=160)∧ka = .int .i64 d∧RowS wr g n f'∧SP 0 n f f'∧BUp f' d n∧Below g w wr) (fun ka _=>200-(intOf ka).toNat)
   case atStart=>exact⟨20,f2,.inl rfl,rfl,H2.out.1,H2.out.2.1,H2.out.2.2,B2⟩
   case round=>
    rename World=>wq
    clear H2 B2
    obtain⟨d,f3,hd,rfl,r3,s3,u3,B3⟩:=hrel
    have H3:=Hid.mk_ (And.intro r3 (And.intro s3 u3))
    clear r3 s3 u3
    rcases Nat.lt_or_ge d n with dn | dn
    ·
     rcases hd with rfl | rfl | rfl | rfl
     ·
      have hlt:decide (((20:Nat):Int)<(n:Int))=true:=decide_eq_true (by omega)
      have hltc:decide ((20:Int)<(n:Int))=true:=decide_eq_true (by omega)
      go_wp2_with fail
      go_loopw [7,8] (fun ka kb wr=>∃ (q a b:Nat) (f':Nat→Int),a=40*q∧b=a+40∧a≤n∧ka = .int .i64 a∧kb = .int .i64 b∧RowS wr g n f'∧SP 0 n f f'∧BUp f' 40 a∧(∀i j,a≤i→i≤j→j<n→i / 20=j / 20→f' i≤f' j)∧Below g w wr) (fun ka kb _=>400-(intOf kb).toNat)
      case atStart=>exact⟨0,0,40,f3,rfl,rfl,by omega,rfl,by go_num,H3.out.1,H3.out.2.1,fun i j _ h=>absurd h (Nat.not_lt_zero _),fun i j _ h1 h2 h3=>H3.out.2.2 i j h1 h2 h3,B3⟩
      case round=>
       rename World=>wz
       clear H3 B3
       obtain⟨q4,a4,b4,f4,ha,hb,han,rfl,rfl,r4,s4,u4,v4,B4⟩:=hrel
       have H4:=Hid.mk_ (And.intro r4 (And.intro s4 (And.intro u4 v4)))
       have HA4:=Hid.mk_ (And.intro ha hb)
       have b400:b4≤300:=by omega
       obtain⟨m4,hm4⟩:∃m,a4+20=m:=⟨_,rfl⟩
       have em:(a4:Int)+20=(m4:Int):=by omega
       have am4:a4<m4:=by omega
       have mb4:m4<b4:=by omega
       have HM4:=Hid.mk_ hm4
       clear r4 s4 u4 v4 ha hb hm4
       rcases Nat.lt_or_ge n b4 with bn4 | bn4
       ·
        have hle4:decide ((b4:Int)≤(n:Int))=false:=decide_eq_false (by omega)
        rcases Nat.lt_or_ge m4 n with mn | mn
        ·
         have hmn:decide ((m4:Int)<(n:Int))=true:=decide_eq_true (by omega)
         have SY:=IS.out a4 m4 n f4 wz H4.out.1 B4 am4 mn (Nat.le_refl _) (by rw[← HM4.out]; exact bup_low20 HA4.out.1 H4.out.2.2.2 (by have:=HM4.out; omega)) (by rw[← HM4.out]; exact bup_top20 HA4.out.1 H4.out.2.2.2 (by have:=HA4.out; omega) (Nat.le_refl _))
         go_wp2_with fail
         refine SY.mono ?_
         rintro e w5 ⟨rfl,⟨f5,r5,s5,u5⟩,b5⟩
         have B5:Below g w w5:=B4.trans b5
         have H5:=Hid.mk_ (And.intro r5 (And.intro (H4.out.2.1.trans (s5.mono (Nat.zero_le _) (Nat.le_refl _))) (bup_mrg20 HA4.out.1 (by have:=HA4.out; omega) H4.out.2.2.1 s5 u5)))
         clear r5 s5 u5 b5 SY H4 B4
         dsimp only
         go_wp2_with fail
         go_roundw
         case rel=>exact⟨40,f5,by omega,by go_num,H5.out.1,H5.out.2.1,H5.out.2.2,B5⟩
         case measure=>simp[intOf]
        ·
         have hmn:decide ((m4:Int)<(n:Int))=false:=decide_eq_false (by omega)
         have H5:=Hid.mk_ (And.intro H4.out.1 (And.intro H4.out.2.1 (bup_mrg20 HA4.out.1 (by have:=HA4.out; omega) H4.out.2.2.1 (SP.refl f4) (bup_one20 HA4.out.1 H4.out.2.2.2 (by have:=HM4.out; omega)))))
         clear H4
         go_wp2_with fail
         go_roundw
         case rel=>exact⟨40,f4,by omega,by go_num,H5.out.1,H5.out.2.1,H5.out.2.2,B4⟩
         case measure=>simp[intOf]
       ·
        have hle4:decide ((b4:Int)≤(n:Int))=true:=decide_eq_true (by omega)
        have SY:=IS.out a4 m4 b4 f4 wz H4.out.1 B4 am4 mb4 bn4 (by rw[← HM4.out]; exact bup_low20 HA4.out.1 H4.out.2.2.2 (by have:=HM4.out; omega)) (by rw[← HM4.out]; exact bup_top20 HA4.out.1 H4.out.2.2.2 (by have:=HA4.out; omega) bn4)
        have hw4:IntKind.i64.wrap ((b4:Int)+40)=(b4:Int)+40:=by rw[IntKind.wrap_i64]; omega
        go_wp2_with fail
        refine SY.mono ?_
        rintro e w5 ⟨rfl,⟨f5,r5,s5,u5⟩,b5⟩
        have B5:Below g w w5:=B4.trans b5
        have H5:=Hid.mk_ (And.intro r5 (And.intro (H4.out.2.1.trans (s5.mono (Nat.zero_le _) bn4)) (And.intro (bup_mrg20 HA4.out.1 (by have:=HA4.out; omega) H4.out.2.2.1 s5 u5) (bup_rest20 (by omega) H4.out.2.2.2 s5))))
        clear r5 s5 u5 b5 SY H4 B4
        dsimp only
        go_wp2_with fail
        go_roundw
        case rel=>exact⟨q4+1,b4,b4+40,f5,by have:=HA4.out; omega,rfl,bn4,rfl,by go_num,H5.out.1,H5.out.2.1,H5.out.2.2.1,H5.out.2.2.2,B5⟩
        case measure=>simp[intOf]; omega
     ·
      have hlt:decide (((40:Nat):Int)<(n:Int))=true:=decide_eq_true (by omega)
      have hltc:decide ((40:Int)<(n:Int))=true:=decide_eq_true (by omega)
      go_wp2_with fail
      go_loopw [7,8] (fun ka kb wr=>∃ (q a b:Nat) (f':Nat→Int),a=80*q∧b=a+80∧a≤n∧ka = .int .i64 a∧kb = .int .i64 b∧RowS wr g n f'∧SP 0 n f f'∧BUp f' 80 a∧(∀i j,a≤i→i≤j→j<n→i / 40=j / 40→f' i≤f' j)∧Below g w wr) (fun ka kb _=>400-(intOf kb).toNat)
      case atStart=>exact⟨0,0,80,f3,rfl,rfl,by omega,rfl,by go_num,H3.out.1,H3.out.2.1,fun i j _ h=>absurd h (Nat.not_lt_zero _),fun i j _ h1 h2 h3=>H3.out.2.2 i j h1 h2 h3,B3⟩
      case round=>
       rename World=>wz
       clear H3 B3
       obtain⟨q4,a4,b4,f4,ha,hb,han,rfl,rfl,r4,s4,u4,v4,B4⟩:=hrel
       have H4:=Hid.mk_ (And.intro r4 (And.intro s4 (And.intro u4 v4)))
       have HA4:=Hid.mk_ (And.intro ha hb)
       have b400:b4≤300:=by omega
       obtain⟨m4,hm4⟩:∃m,a4+40=m:=⟨_,rfl⟩
       have em:(a4:Int)+40=(m4:Int):=by omega
       have am4:a4<m4:=by omega
       have mb4:m4<b4:=by omega
       have HM4:=Hid.mk_ hm4
       clear r4 s4 u4 v4 ha hb hm4
       rcases Nat.lt_or_ge n b4 with bn4 | bn4
       ·
        have hle4:decide ((b4:Int)≤(n:Int))=false:=decide_eq_false (by omega)
        rcases Nat.lt_or_ge m4 n with mn | mn
        ·
         have hmn:decide ((m4:Int)<(n:Int))=true:=decide_eq_true (by omega)
         have SY:=IS.out a4 m4 n f4 wz H4.out.1 B4 am4 mn (Nat.le_refl _) (by rw[← HM4.out]; exact bup_low40 HA4.out.1 H4.out.2.2.2 (by have:=HM4.out; omega)) (by rw[← HM4.out]; exact bup_top40 HA4.out.1 H4.out.2.2.2 (by have:=HA4.out; omega) (Nat.le_refl _))
         go_wp2_with fail
         refine SY.mono ?_
         rintro e w5 ⟨rfl,⟨f5,r5,s5,u5⟩,b5⟩
         have B5:Below g w w5:=B4.trans b5
         have H5:=Hid.mk_ (And.intro r5 (And.intro (H4.out.2.1.trans (s5.mono (Nat.zero_le _) (Nat.le_refl _))) (bup_mrg40 HA4.out.1 (by have:=HA4.out; omega) H4.out.2.2.1 s5 u5)))
         clear r5 s5 u5 b5 SY H4 B4
         dsimp only
         go_wp2_with fail
         go_roundw
         case rel=>exact⟨80,f5,by omega,by go_num,H5.out.1,H5.out.2.1,H5.out.2.2,B5⟩
         case measure=>simp[intOf]
        ·
         have hmn:decide ((m4:Int)<(n:Int))=false:=decide_eq_false (by omega)
         have H5:=Hid.mk_ (And.intro H4.out.1 (And.intro H4.out.2.1 (bup_mrg40 HA4.out.1 (by have:=HA4.out; omega) H4.out.2.2.1 (SP.refl f4) (bup_one40 HA4.out.1 H4.out.2.2.2 (by have:=HM4.out; omega)))))
         clear H4
         go_wp2_with fail
         go_roundw
         case rel=>exact⟨80,f4,by omega,by go_num,H5.out.1,H5.out.2.1,H5.out.2.2,B4⟩
         case measure=>simp[intOf]
       ·
        have hle4:decide ((b4:Int)≤(n:Int))=true:=decide_eq_true (by omega)
        have SY:=IS.out a4 m4 b4 f4 wz H4.out.1 B4 am4 mb4 bn4 (by rw[← HM4.out]; exact bup_low40 HA4.out.1 H4.out.2.2.2 (by have:=HM4.out; omega)) (by rw[← HM4.out]; exact bup_top40 HA4.out.1 H4.out.2.2.2 (by have:=HA4.out; omega) bn4)
        have hw4:IntKind.i64.wrap ((b4:Int)+80)=(b4:Int)+80:=by rw[IntKind.wrap_i64]; omega
        go_wp2_with fail
        refine SY.mono ?_
        rintro e w5 ⟨rfl,⟨f5,r5,s5,u5⟩,b5⟩
        have B5:Below g w w5:=B4.trans b5
        have H5:=Hid.mk_ (And.intro r5 (And.intro (H4.out.2.1.trans (s5.mono (Nat.zero_le _) bn4)) (And.intro (bup_mrg40 HA4.out.1 (by have:=HA4.out; omega) H4.out.2.2.1 s5 u5) (bup_rest40 (by omega) H4.out.2.2.2 s5))))
        clear r5 s5 u5 b5 SY H4 B4
        dsimp only
        go_wp2_with fail
        go_roundw
        case rel=>exact⟨q4+1,b4,b4+80,f5,by have:=HA4.out; omega,rfl,bn4,rfl,by go_num,H5.out.1,H5.out.2.1,H5.out.2.2.1,H5.out.2.2.2,B5⟩
        case measure=>simp[intOf]; omega
     ·
      have hlt:decide (((80:Nat):Int)<(n:Int))=true:=decide_eq_true (by omega)
      have hltc:decide ((80:Int)<(n:Int))=true:=decide_eq_true (by omega)
      go_wp2_with fail
      go_loopw [7,8] (fun ka kb wr=>∃ (q a b:Nat) (f':Nat→Int),a=160*q∧b=a+160∧a≤n∧ka = .int .i64 a∧kb = .int .i64 b∧RowS wr g n f'∧SP 0 n f f'∧BUp f' 160 a∧(∀i j,a≤i→i≤j→j<n→i / 80=j / 80→f' i≤f' j)∧Below g w wr) (fun ka kb _=>400-(intOf kb).toNat)
      case atStart=>exact⟨0,0,160,f3,rfl,rfl,by omega,rfl,by go_num,H3.out.1,H3.out.2.1,fun i j _ h=>absurd h (Nat.not_lt_zero _),fun i j _ h1 h2 h3=>H3.out.2.2 i j h1 h2 h3,B3⟩
      case round=>
       rename World=>wz
       clear H3 B3
       obtain⟨q4,a4,b4,f4,ha,hb,han,rfl,rfl,r4,s4,u4,v4,B4⟩:=hrel
       have H4:=Hid.mk_ (And.intro r4 (And.intro s4 (And.intro u4 v4)))
       have HA4:=Hid.mk_ (And.intro ha hb)
       have b400:b4≤300:=by omega
       obtain⟨m4,hm4⟩:∃m,a4+80=m:=⟨_,rfl⟩
       have em:(a4:Int)+80=(m4:Int):=by omega
       have am4:a4<m4:=by omega
       have mb4:m4<b4:=by omega
       have HM4:=Hid.mk_ hm4
       clear r4 s4 u4 v4 ha hb hm4
       rcases Nat.lt_or_ge n b4 with bn4 | bn4
       ·
        have hle4:decide ((b4:Int)≤(n:Int))=false:=decide_eq_false (by omega)
        rcases Nat.lt_or_ge m4 n with mn | mn
        ·
         have hmn:decide ((m4:Int)<(n:Int))=true:=decide_eq_true (by omega)
         have SY:=IS.out a4 m4 n f4 wz H4.out.1 B4 am4 mn (Nat.le_refl _) (by rw[← HM4.out]; exact bup_low80 HA4.out.1 H4.out.2.2.2 (by have:=HM4.out; omega)) (by rw[← HM4.out]; exact bup_top80 HA4.out.1 H4.out.2.2.2 (by have:=HA4.out; omega) (Nat.le_refl _))
         go_wp2_with fail
         refine SY.mono ?_
         rintro e w5 ⟨rfl,⟨f5,r5,s5,u5⟩,b5⟩
         have B5:Below g w w5:=B4.trans b5
         have H5:=Hid.mk_ (And.intro r5 (And.intro (H4.out.2.1.trans (s5.mono (Nat.zero_le _) (Nat.le_refl _))) (bup_mrg80 HA4.out.1 (by have:=HA4.out; omega) H4.out.2.2.1 s5 u5)))
         clear r5 s5 u5 b5 SY H4 B4
         dsimp only
         go_wp2_with fail
         go_roundw
         case rel=>exact⟨160,f5,by omega,by go_num,H5.out.1,H5.out.2.1,H5.out.2.2,B5⟩
         case measure=>simp[intOf]
        ·
         have hmn:decide ((m4:Int)<(n:Int))=false:=decide_eq_false (by omega)
         have H5:=Hid.mk_ (And.intro H4.out.1 (And.intro H4.out.2.1 (bup_mrg80 HA4.out.1 (by have:=HA4.out; omega) H4.out.2.2.1 (SP.refl f4) (bup_one80 HA4.out.1 H4.out.2.2.2 (by have:=HM4.out; omega)))))
         clear H4
         go_wp2_with fail
         go_roundw
         case rel=>exact⟨160,f4,by omega,by go_num,H5.out.1,H5.out.2.1,H5.out.2.2,B4⟩
         case measure=>simp[intOf]
       ·
        have hle4:decide ((b4:Int)≤(n:Int))=true:=decide_eq_true (by omega)
        have SY:=IS.out a4 m4 b4 f4 wz H4.out.1 B4 am4 mb4 bn4 (by rw[← HM4.out]; exact bup_low80 HA4.out.1 H4.out.2.2.2 (by have:=HM4.out; omega)) (by rw[← HM4.out]; exact bup_top80 HA4.out.1 H4.out.2.2.2 (by have:=HA4.out; omega) bn4)
        have hw4:IntKind.i64.wrap ((b4:Int)+160)=(b4:Int)+160:=by rw[IntKind.wrap_i64]; omega
        go_wp2_with fail
        refine SY.mono ?_
        rintro e w5 ⟨rfl,⟨f5,r5,s5,u5⟩,b5⟩
        have B5:Below g w w5:=B4.trans b5
        have H5:=Hid.mk_ (And.intro r5 (And.intro (H4.out.2.1.trans (s5.mono (Nat.zero_le _) bn4)) (And.intro (bup_mrg80 HA4.out.1 (by have:=HA4.out; omega) H4.out.2.2.1 s5 u5) (bup_rest80 (by omega) H4.out.2.2.2 s5))))
        clear r5 s5 u5 b5 SY H4 B4
        dsimp only
        go_wp2_with fail
        go_roundw
        case rel=>exact⟨q4+1,b4,b4+160,f5,by have:=HA4.out; omega,rfl,bn4,rfl,by go_num,H5.out.1,H5.out.2.1,H5.out.2.2.1,H5.out.2.2.2,B5⟩
        case measure=>simp[intOf]; omega
     · omega
    ·
     have hlt:decide ((d:Int)<(n:Int))=false:=decide_eq_false (by omega)
     have up:=H3.out.2.2.whole dn
     have H4:=Hid.mk_ (And.intro H3.out.1 (And.intro H3.out.2.1 up))
     clear hd up H3
     go_wp2_with fail
     go_returns
     exact⟨rfl,⟨f3,H4.out⟩,B3⟩
  ·
   have hle:decide ((b:Int)≤(n:Int))=true:=decide_eq_true (by omega)
   have INS:=IL.out a b f1 wr H1.out.1 B1 ab bn
   have hw:IntKind.i64.wrap ((b:Int)+20)=(b:Int)+20:=by rw[IntKind.wrap_i64]; omega
   go_wp2_with fail
   refine INS.mono ?_
   rintro e w2 ⟨rfl,⟨f2,r2,s2,u2⟩,b2⟩
   have B2:Below g w w2:=B1.trans b2
   have H2:=Hid.mk_ (And.intro r2 (And.intro (H1.out.2.1.trans (s2.mono (Nat.zero_le _) bn)) (bup_ins HA.out.1 (by have:=HA.out; omega) H1.out.2.2 s2 u2)))
   clear r2 s2 u2 b2 INS H1 B1
   dsimp only
   go_wp2_with fail
   go_roundw
   case rel=>exact⟨q+1,b,b+20,f2,by have:=HA.out; omega,rfl,bn,rfl,by go_num,H2.out.1,H2.out.2.1,H2.out.2.2,B2⟩
   case measure=>simp[intOf]; omega
theorem vsort {g n cap p:Nat} {f:Nat→Int} (w:World) (hr:RowS w g n f) (h0:0<n) (hn:n≤100) (CM:∀W x y,Below g w W→Calls Tryz.prog 137 #[.int .i64 x,.int .i64 y,.pointer (some ⟨p,0,none⟩)] W fun e w2=>e = .returned (.int .i64 (cmpI x y))∧Steps W w2) :
  Calls Tryz.prog 136 #[.slice (some ⟨g,0,none⟩) n cap,.func (.func 137) #[] #[.pointer (some ⟨p,0,none⟩)]] w fun e w'=>e = .returned (.tuple #[])∧(∃f',RowS w' g n f'∧SP 0 n f f'∧Up f' 0 n)∧Below g w w':=by
 have ST_:=vstable100 (cap:=cap) (p:=p) w hr h0 hn CM
 clear hr CM
 go_enter Tryz.func136,Tryz.ntmps136
 go_wp2_with fail
 refine ST_.mono ?_
 rintro e w2 ⟨rfl,h3,h4⟩
 have H3:=Hid.mk_ (And.intro h3 h4)
 clear h3 h4 ST_
 dsimp only
 go_wp2_with fail
 go_returns
 exact⟨rfl,H3.out.1,H3.out.2⟩
theorem vordered {vl:Value} {l:List Int} {f:Nat} (w:World) (hl:IntsR w vl l) (h0:l≠ []) (hn:l.length≤100) (hk:IdKey f) (he:∀args w,(callFunc f args).run Tryz.prog w = .ok (.enter f args) w) :
  Calls Tryz.prog 108 #[vl,.func (.func f) #[] #[]] w fun e w'=>∃v,e = .returned v∧IntsR w' v (srt l)∧Steps w w':=by
 have hp:=List.length_pos_iff.2 h0
 have CL:=fun w' (s:Steps w w')=>vclone w' (hl.steps s) h0 (by omega)
 have VS:=fun x y W hb=>vless (p:=w.heap.size) x y W hk he hb
 obtain⟨n,hN⟩:∃n,l.length=n:=⟨_,rfl⟩
 have HN:=Hid.mk_ hN
 rw[hN]at CL hp hn
 obtain⟨la,lc,rfl⟩:=hl.shape
 rw[hN]at CL⊢
 clear hl h0 hk he hN
 go_enter Tryz.func108,Tryz.ntmps108
 go_wp2_with fail
 refine(CL _ belowB).mono ?_
 rintro e w1 ⟨v,rfl,hv,hs⟩
 have oc:Blk w1 w.heap.size 154 #[.func (.func f) #[] #[]]:=Blk.stepsK hs
 have B:=bA w hs
 have hge:w.heap.size+1≤w1.heap.size:=by have:=oc.lt; omega
 obtain⟨g,cap,rfl,hg,hc,hr⟩:=rowS_of hv HN.out hp
 have gw:w.heap.size+1≤g:=by have:=hg; (try simp only[World.size_alloc]at this); omega
 have CM:∀W x y,Below g w1 W→_:=fun W x y hb=>VS x y W ((hb.block w.heap.size (by omega)).trans oc)
 have SO:=vsort (cap:=cap) w1 hr hp hn CM
 have HC:=Hid.mk_ hc
 clear hs CL VS CM hv hr
 dsimp only
 go_wp2_with fail
 refine SO.mono ?_
 rintro e w2 ⟨rfl,⟨f',h1,h2,h3⟩,h4⟩
 have B2:Below w.heap.size w w2:=B.trans (h4.mono (by omega))
 have hs2:=up_srt h2 h3
 have hm:(List.range n).map (fun i=>l.getD i 0)=l:=by rw[← HN.out]; exact map_getD l
 rw[hm]at hs2
 have HI:=Hid.mk_ (h1.il HC.out)
 have HS:=Hid.mk_ hs2
 clear h1 h2 h3 h4 hm hs2 SO
 dsimp only
 go_wp2_with fail
 go_returns
 exact⟨_,rfl,by rw[← HS.out]; exact HI.out,B2⟩
def midL (l:List Int):Prop:=l.length≤100∧∀x∈l,-1099511627776≤x∧x≤1099511627776
theorem midL.srt {l:List Int} (h:midL l) {i:Nat} (hi:i<l.length) : -1099511627776≤(Go.Proofs.YtdkcffnmlllamaaGreat.srt l).getD i 0∧(Go.Proofs.YtdkcffnmlllamaaGreat.srt l).getD i 0≤1099511627776:=
 h.2 _ ((srt_perm l).mem_iff.1 (getD_mem (by rw[srt_len]; exact hi)))
theorem valL.mid {l:List Int} (h:valL l) (hn:l.length≤100):midL l:=⟨hn,fun x hx=>by have:=h.2 x hx; omega⟩
theorem he_tw:∀args w,(callFunc 109 args).run Tryz.prog w = .ok (.enter 109 args) w:=enters_of Tryz.func109 (by kernel_rfl) rfl
theorem vtwice {vl:Value} {l:List Int} (w:World) (hl:IntsR w vl l) (h0:l≠ []) (hv:midL l) :
  Calls Tryz.prog 71 #[vl] w fun e w'=>e = .returned (.int .i64 (twI l))∧Steps w w':=by
 have hp:=List.length_pos_iff.2 h0
 have OR:=fun w' (s:Steps w w')=>vordered w' (hl.steps s) h0 hv.1 key_tw he_tw
 have r1:=hv.srt (i:=(l.length-1) / 2) (by omega)
 have r2:=hv.srt (i:=l.length / 2) (by omega)
 have sl:(srt l).length=l.length:=srt_len l
 have hn:=hv.1
 unfold twI
 obtain⟨s,hs⟩:∃s,srt l=s:=⟨_,rfl⟩
 rw[hs]at OR r1 r2 sl⊢
 obtain⟨n,hN⟩:∃n,l.length=n:=⟨_,rfl⟩
 rw[hN]at hp r1 r2 sl hn⊢
 obtain⟨la,lc,rfl⟩:=hl.shape
 rw[hN]at OR⊢
 obtain⟨x,hx⟩:∃x,s.getD ((n-1) / 2) 0=x:=⟨_,rfl⟩
 obtain⟨y,hy⟩:∃y,s.getD (n / 2) 0=y:=⟨_,rfl⟩
 rw[hx]at r1⊢
 rw[hy]at r2⊢
 have HX:=Hid.mk_ (And.intro hx hy)
 clear hl h0 hv hs hN hx hy
 go_enter Tryz.func71,Tryz.ntmps71
 go_wp2_with fail
 refine(OR _ belowB).mono ?_
 rintro e w1 ⟨v,rfl,hv,hs1⟩
 obtain⟨va,vc,rfl⟩:=hv.shape
 obtain⟨b,o,rfl,hb,hx0⟩:=hv.at' (t:=(n-1) / 2) (by omega)
 obtain⟨b',o',e2,hb',hy0⟩:=hv.at' (t:=n / 2) (by omega)
 cases e2
 rw[sl]
 rw[HX.out.1]at hx0
 rw[HX.out.2]at hy0
 have B1:Below w.heap.size w w1:=belowA hs1
 have q1:((n:Int)-1).tdiv 2=(((n-1) / 2:Nat):Int):=by rw[show (n:Int)-1=((n-1:Nat):Int) by omega]; rfl
 have q2:(n:Int).tdiv 2=((n / 2:Nat):Int):=rfl
 have i1:(n-1) / 2<n:=by omega
 have i2:n / 2<n:=by omega
 obtain⟨i,hi⟩:∃i,(n-1) / 2=i:=⟨_,rfl⟩
 obtain⟨k,hk⟩:∃k,n / 2=k:=⟨_,rfl⟩
 rw[hi]at hx0 q1 i1
 rw[hk]at hy0 q2 i2
 clear hv hs1 OR HX hi hk sl
 dsimp only
 repeat' (first | go_values | go_skip | go_guarded | go_step | go_upon)
 refine Reg.wp_chain (fun D v W=>Below w1.heap.size w1 W∧True) (Reg.inl []) (Reg.gv []) Reg.None_ (fun _=>Reg.Any) (fun _ _=>False) (Reg.pl []) (Reg.pl [])
  (by kernel_rfl) (by kernel_rfl) (by kernel_rfl) (Reg.gvA _) (fun _=>⟨belowB,trivial⟩) (fun _ _ _ _ _ h=>h) (fun _ _ _ _ _ _ _ _ _ _ _ _ _=>Reg.none_) (fun _ _ _ _ h=>h.elim) (fun ops' Q' hops hQ=> ?_)
 repeat refine Reg.RP0 _ ?_
 apply Reg.RP rfl rfl rfl 12 rfl rfl
 ·
  intro D v W hc hj hf K' hK'
  obtain⟨j0,_⟩:=hj
  have c0:W.cell? ⟨b,o+i,none⟩=some (.int .i64 x):=(j0.cell (p:=⟨b,_,none⟩) hb).trans hx0
  go_step
  exact hK'.out
 · rfl
 repeat refine Reg.RP0 _ ?_
 apply Reg.RP rfl rfl rfl 18 rfl rfl
 ·
  intro D v W hc hj hf K' hK'
  obtain⟨j0,_⟩:=hj
  have c0:W.cell? ⟨b,o+k,none⟩=some (.int .i64 y):=(j0.cell (p:=⟨b,_,none⟩) hb).trans hy0
  go_step
  exact hK'.out
 · rfl
 repeat refine Reg.RP0 _ ?_
 refine Reg.RC_end (fun D v w9 hd hj hf=> ?_)
 obtain⟨B,_⟩:=hj
 clear hd hf
 refine hQ _ _ ?_
 clear hQ hops Q' ops'
 repeat' (first | go_values | go_skip | go_guarded | go_step | go_upon)
 go_returns
 exact⟨rfl,below_steps B1 (Nat.le_refl _) B⟩
theorem tw_range {l:List Int} (h0:l≠ []) (hv:midL l) : -2199023255552≤twI l∧twI l≤2199023255552:=by
 have hp:=List.length_pos_iff.2 h0
 have r1:=hv.srt (i:=(l.length-1) / 2) (by omega)
 have r2:=hv.srt (i:=l.length / 2) (by omega)
 unfold twI
 omega
theorem vMedian {vl:Value} {l:List Int} (w:World) (hl:IntsR w vl l) (hn:l.length≤100000) (h20:askV l=0→l.length≤100) :
  Calls Tryz.prog 49 #[vl] w fun e w'=>∃v,e = .returned (.tuple #[v,.int .i64 (askV l)])∧FE w' v (askV l) (medQ l)∧Steps w w':=by
 have CS:∀w',Steps w w'→Calls Tryz.prog 66 #[vl] w' fun e w2=>e = .returned (.int .i64 (askV l))∧Steps w' w2:=fun w' s=>vstart w' (hl.steps s) hn
 by_cases hk:askV l=0
 ·
  rw[hk]at CS⊢
  obtain⟨hv,h0⟩:=askV_val hk
  have md:=hv.mid (h20 hk)
  have TW:∀w',Steps w w'→Calls Tryz.prog 71 #[vl] w' fun e w2=>e = .returned (.int .i64 (twI l))∧Steps w' w2:=fun w' s=>vtwice w' (hl.steps s) h0 md
  have tr:=tw_range h0 md
  have OF:∀w',Calls Tryz.prog 70 #[.int .i64 (twI l),.int .i64 2] w' fun e w2=>∃v,e = .returned (.tuple #[v,.int .i64 0])∧FR w2 v (medQ l)∧Steps w' w2:=fun w'=>by
   unfold medQ
   exact fofQ (twI l) 2 w' (by omega) (by omega) (by decide) (by decide) (by decide)
  obtain⟨la,lc,rfl⟩:=hl.shape
  generalize medQ l=mq at *
  generalize twI l=tw at *
  clear hl hn hk hv h0 md h20 tr
  go_enter Tryz.func49,Tryz.ntmps49
  go_wp2_with fail
  refine(CS _ belowB).mono ?_
  rintro e w1 ⟨rfl,hb1⟩
  have st:Steps _ w1:=hb1
  have B:=bA w st
  have or:Blk w1 (w.heap.size) 32 #[.bool false,.slice none 0 0,.bool false,.slice none 0 0]:=Blk.stepsK st
  clear st
  go_wp2_with fail
  refine(TW _ belowB).mono ?_
  rintro e w2 ⟨rfl,st⟩
  have sk:=bA w1 st
  replace B:=bS B sk
  replace or:=or.steps sk
  clear st sk
  go_wp2_with fail
  refine(OF _).mono ?_
  rintro e w3 ⟨vq,rfl,hvq,st⟩
  have sk:=bA w2 st
  replace B:=bS B sk
  replace or:=or.steps sk
  clear st sk
  obtain⟨cr0,cr1,cr2,cr3,fr,lr⟩:=or.s3
  obtain⟨q1,q2,q3,q4,q5,q6,q7,q8,rfl⟩:=hvq.shape
  have Fq:=Hid.mk_ hvq
  clear hvq
  go_wp2_with fail
  refine bodyPost_ret (by simp[results,Tryz.results49,go_sem,cr0,cr1,cr2,cr3,fr,lr]; rfl) rfl ?_
  exact⟨_,rfl,FE.ok (Fq.out.keeps keepsB),belowB⟩
 ·
  obtain⟨la,lc,rfl⟩:=hl.shape
  generalize medQ l=mq at *
  generalize askV l=c at *
  have h3:(c==0)=false:=by simpa using hk
  have h4:(c != 0)=true:=by simpa using hk
  have HK:=Hid.mk_ hk
  clear hl hn hk h20
  go_enter Tryz.func49,Tryz.ntmps49
  go_wp2_with fail
  refine(CS _ belowB).mono ?_
  rintro e w1 ⟨rfl,hb1⟩
  have st:Steps _ w1:=hb1
  have B:=bA w st
  have or:Blk w1 (w.heap.size) 32 #[.bool false,.slice none 0 0,.bool false,.slice none 0 0]:=Blk.stepsK st
  clear st
  obtain⟨cr0,cr1,cr2,cr3,fr,lr⟩:=or.s3
  go_wp2_with fail
  refine bodyPost_ret (by simp[results,Tryz.results49,go_sem,cr0,cr1,cr2,cr3,fr,lr]; rfl) rfl ?_
  exact⟨_,rfl,FE.bad HK.out,belowB⟩
theorem tw_val {l:List Int} (h0:l≠ []) (hv:valL l) : -8589934592≤twI l∧twI l≤8589934592:=by
 have hp:=List.length_pos_iff.2 h0
 have r1:=hv.2 _ ((srt_perm l).mem_iff.1 (getD_mem (l:=srt l) (i:=(l.length-1) / 2) (by rw[srt_len]; omega)))
 have r2:=hv.2 _ ((srt_perm l).mem_iff.1 (getD_mem (l:=srt l) (i:=l.length / 2) (by rw[srt_len]; omega)))
 unfold twI
 omega
def pctS (l:List Int) (num den:Int):Int×Int:=
 if askV l=0 then(if den<1∨1000<den∨num<0∨den<num then(0,2)else((srt l).getD (pctI l.length num den) 0,0))else(0,askV l)
def grB (n:Nat):Bool:=decide (1010<n)||(decide (24<n)&&decide (n≤1000))
theorem FE.keeps {w w':World} {v:Value} {c:Int} {r:Rat} (h:FE w v c r) (k:Keeps w w'):FE w' v c r:=by
 unfold FE at h⊢
 split
 · rename_i e; rw[if_pos e]at h; exact FR.keeps h k
 · rename_i e; rw[if_neg e]at h; exact h
theorem FE.steps {w w':World} {v:Value} {c:Int} {r:Rat} (h:FE w v c r) (s:Steps w w'):FE w' v c r:=h.keeps (Keeps.steps s)
theorem FE.shape {w:World} {v:Value} {c:Int} {r:Rat} (h:FE w v c r):∃ (a:Bool) (s:Option Addr) (n d:Nat) (b:Bool) (t:Option Addr) (m e:Nat),v = .agg #[.bool a,.slice s n d,.bool b,.slice t m e]:=by
 unfold FE at h
 split at h
 · exact FR.shape h
 · exact⟨_,_,_,_,_,_,_,_,h⟩
end Go.Proofs.YtdkcffnmlllamaaGreat
