import Derived.Test.YtdkcffnmlllamaaGreatMTz
import Derived.Deep.DeepAppendWide
import Derived.Test.YtdkcffnmlllamaaGreatMRound
/- Rows of the call's own whose cells are no limbs: what is appended, and what stays. -/
set_option linter.unusedVariables false
set_option linter.unusedSimpArgs false
set_option maxHeartbeats 6400000
set_option maxRecDepth 1000000
namespace Go.Proofs.YtdkcffnmlllamaaGreat
open Go.RowKit
structure RowU (w:World) (base:Nat) (e:TypeId) (size:Nat) (v:Value) (n:Nat) (xs:List Value):Prop where
 own:w.ownsRow base e size v n xs
 noU:∀g cur,v.ownBlock=some g→w.heap[g]? = some (.cells cur e (0,0))→noU32 cur=true
theorem RowU.nil (w:World) (base:Nat) (e:TypeId) (size:Nat):RowU w base e size (.slice none 0 0) 0 []:=⟨World.ownsRow_nil w base e size,fun _ _ h=>by cases h⟩
theorem noU32_arr {a b:Array Value} : noU32 (a++b)=(noU32 a&&noU32 b):=by unfold noU32; simp
theorem noU32_mem {l:List Value} : noU32 l.toArray=true↔∀u∈l,plainV u=true:=by unfold noU32; simp[List.all_eq_true]; rfl
theorem noU32_zero {z:Array Value} (h:noU32 z=true) (n:Nat):noU32 (Builtin.zeroCells z n)=true:=by
 have h':∀u∈z.toList,plainV u=true:=noU32_mem.1 (by simpa using h)
 unfold noU32
 rw[List.all_eq_true]
 intro v hv
 unfold Builtin.zeroCells at hv
 rw[Array.toList_map,List.mem_map]at hv
 obtain⟨i,hi,rfl⟩:=hv
 have hi':i<n*z.size:=by simpa using hi
 have hz:0<z.size:=by rcases Nat.eq_zero_or_pos z.size with h0 | h0; (rw[h0]at hi'; omega); exact h0
 have hm:i%z.size<z.size:=Nat.mod_lt _ hz
 rw[getElem!_pos z _ hm]
 exact h' _ (by simp)
theorem take_sub {l:List Value} {n:Nat} (h:∀u∈l,plainV u=true):∀u∈l.take n,plainV u=true:=fun u hu=>h u (List.mem_of_mem_take hu)
theorem drop_sub {l:List Value} {n:Nat} (h:∀u∈l,plainV u=true):∀u∈l.drop n,plainV u=true:=fun u hu=>h u (List.mem_of_mem_drop hu)
section
variable {P:Program} (w:World)
theorem run_append_U (base:Nat) (t ty e:TypeId) (i:TypeInfo) (z:Value) (size bytes:Nat) (ht:P.underlying t=some (.slice e)) (hi:P.info? e=some i) (hz:i.zero=some z)
  (hsize:i.size=size) (hby:i.bytes=bytes) (hzs:z.cells.size=size) (hzu:noU32 z.cells=true) (hsz:0<size)
  (v:Value) (n:Nat) (xs:List Value) (hown:RowU w base e size v n xs)
  (a:Addr) (m c:Nat) (news:List Value) (hm:0<m) (hl:news.length=m*size) (hnews:∀j u,news[j]? = some u→w.cell? (a.add j)=some u) (h1:∀u∈news,u.oneCell'=true) (hnu:noU32 news.toArray=true)
  (h63:n+m≤maxLen) (hbytes:((n+m)+(n+m) / 4+192)*bytes≤281474976710656) (hbase:base≤w.heap.size) :
  ∃v' w',(Builtin.append_ #[t,t] ty #[v,.slice (some a) m c]).run P w = .ok v' w'∧RowU w' base e size v' (n+m) (xs++news)∧w.grownBy w' v.ownBlock:=by
 obtain⟨v',w',hr,h2,h3,-⟩:=run_append_own_wide (P:=P) w base t ty e i z size bytes ht hi hz hsize hby hzs hsz v n xs hown.own a m c news hl hnews h1 h63 hbytes hbase
 refine⟨v',w',hr,⟨h2,?_⟩,h3⟩
 subst hsize
 subst hby
 intro g' cur' hv' hc'
 have hnu':=noU32_mem.1 hnu
 have h63':n+m≤9223372036854775807:=by simp only[maxLen]at h63; omega
 rcases hown.own.2 with⟨rfl,rfl⟩ | ⟨g,cap,cur,rfl,hbg,hg,hnc,hcm,hcs,htake⟩
 ·
  rw[run_append_nil (P:=P) w t ty e i z ht hi hz a m c news hl hnews hm (by omega) (by simp only[Nat.zero_add]at hbytes; exact Nat.le_trans (Nat.mul_le_mul_right _ (by omega)) hbytes)]at hr
  injection hr with e1 e2
  subst e1 e2
  injection hv' with hv'
  have hv2:w.heap.size=g':=hv'
  subst hv2
  have hx:=heap_alloc_new w.drew (.cells (news.toArray++Builtin.zeroCells z.cells (grownCap w m 0 e-m)) e)
  rw[show w.drew.heap.size=w.heap.size from rfl]at hx
  rw[hx]at hc'
  injection hc' with hc'
  injection hc' with hc'
  rw[← hc',noU32_arr,hnu,noU32_zero hzu]; rfl
 ·
  have hcu:=hown.noU g cur rfl hg
  have hcu':∀u∈cur.toList,plainV u=true:=noU32_mem.1 (by simpa using hcu)
  by_cases hroom:n+m≤cap
  ·
   have hfit:n*i.size+news.length≤cur.size:=by rw[hl,hcs,← Nat.add_mul]; exact Nat.mul_le_mul_right _ hroom
   rw[run_append_room (P:=P) w t ty e i ht hi g n cap cur hg a m c news hl hnews h1 hroom hfit]at hr
   injection hr with e1 e2
   subst e1 e2
   injection hv' with hv'
   have hv2:g=g':=hv'
   subst hv2
   rw[setRow_heap w g cur _ e _ hg]at hc'
   injection hc' with hc'
   injection hc' with hc'
   rw[← hc',noU32_mem]
   intro u hu
   simp only[List.mem_append]at hu
   rcases hu with(hu | hu) | hu
   · exact take_sub hcu' u hu
   · exact hnu' u hu
   · exact drop_sub hcu' u hu
  ·
   have holds:∀j u,xs[j]? = some u→w.cell? ((⟨g,0,none⟩:Addr).add j)=some u:=hown.own.cells (g:=g) rfl
   rw[run_append_grow (P:=P) w t ty e i z ht hi hz ⟨g,0,none⟩ n cap xs hown.own.1 holds a m c news hl hnews (by omega) (by omega) (growslice_fits_wide (by omega) hbytes)]at hr
   injection hr with e1 e2
   subst e1 e2
   injection hv' with hv'
   have hv2:w.heap.size=g':=hv'
   subst hv2
   have hx:=heap_alloc_new w.drew (.cells (xs.toArray++news.toArray++Builtin.zeroCells z.cells (grownCap w (n+m) cap e-(n+m))) e)
   rw[show w.drew.heap.size=w.heap.size from rfl]at hx
   rw[hx]at hc'
   injection hc' with hc'
   injection hc' with hc'
   have hxs:noU32 xs.toArray=true:=by rw[← htake,noU32_mem]; exact take_sub hcu'
   rw[← hc',noU32_arr,noU32_arr,hxs,hnu,noU32_zero hzu]; rfl
theorem wp_append_U {o:Oper} {a:Act} {K:Act→World→Prop} {Q:Exit→Act→World→Prop} (s x:Operand) (t:TypeId)
  (ho:o.op = .call { callee:= .builtin .append,args:=#[s,x],argTypes:=#[t,t] })
  (base:Nat) (e:TypeId) (i:TypeInfo) (z:Value) (size bytes:Nat) (ht:P.underlying t=some (.slice e)) (hi:P.info? e=some i) (hz:i.zero=some z)
  (hsize:i.size=size) (hby:i.bytes=bytes) (hzs:z.cells.size=size) (hzu:noU32 z.cells=true) (hsz:0<size)
  (v:Value) (n:Nat) (xs:List Value) (hs:a.eval s=v) (hown:RowU w base e size v n xs)
  (ad:Addr) (m c:Nat) (news:List Value) (hx:a.eval x = .slice (some ad) m c) (hm:0<m) (hl:news.length=m*size) (hnews:∀j u,news[j]? = some u→w.cell? (ad.add j)=some u) (h1:∀u∈news,u.oneCell'=true) (hnu:noU32 news.toArray=true)
  (h63:n+m≤maxLen) (hbytes:((n+m)+(n+m) / 4+192)*bytes≤281474976710656) (hbase:base≤w.heap.size)
  (h:∀v' w',RowU w' base e size v' (n+m) (xs++news)→w.grownBy w' v.ownBlock→K (a.put o.dst v') w'):o.wp P a w K Q:=by
 obtain⟨v',w',hr,h2,h3⟩:=run_append_U (P:=P) w base t o.type e i z size bytes ht hi hz hsize hby hzs hzu hsz v n xs hown ad m c news hm hl hnews h1 hnu h63 hbytes hbase
 unfold Oper.wp execOp
 simp only[ho,resolve,invoke,builtin,Sem.run_bind,Sem.run_pure,Result.andThen_ok,List.map_toArray,List.map_cons,List.map_nil,hs,hx,hr]
 exact h v' w' h2 h3
end
theorem RowU.drew {w:World} {base:Nat} {e:TypeId} {size n:Nat} {v:Value} {xs:List Value} (h:RowU w base e size v n xs):RowU w.drew base e size v n xs:=⟨h.own.drew,h.noU⟩
theorem RowU.keep {w w':World} {base:Nat} {e:TypeId} {size n:Nat} {v:Value} {xs:List Value} (h:RowU w base e size v n xs) (hk:∀g,v.ownBlock=some g→w'.heap[g]? = w.heap[g]?):RowU w' base e size v n xs:=by
 refine⟨⟨h.own.1,?_⟩,fun g cur hv hc=>h.noU g cur hv ((hk g hv).symm.trans hc)⟩
 rcases h.own.2 with a | ⟨g,cap,cur,rfl,hbg,hg,r⟩
 · exact .inl a
 · exact .inr ⟨g,cap,cur,rfl,hbg,(hk g rfl).trans hg,r⟩
theorem RowU.lt {w:World} {base:Nat} {e:TypeId} {size n:Nat} {v:Value} {xs:List Value} (h:RowU w base e size v n xs):∀g,v.ownBlock=some g→base≤g∧g<w.heap.size:=by
 intro g hg
 rcases h.own.2 with⟨rfl,_⟩ | ⟨g',cap,cur,rfl,hbg,hh,_⟩
 · cases hg
 · cases hg; exact⟨hbg,Blk.lt (w:=w) (t:=e) (cs:=cur) hh⟩
theorem RowU.steps {w w':World} {base:Nat} {e:TypeId} {size n:Nat} {v:Value} {xs:List Value} (h:RowU w base e size v n xs) (hs:Steps w w'):RowU w' base e size v n xs:=h.keep fun g hg=>hs.block g (h.lt g hg).2
theorem RowU.alloc {w:World} {base:Nat} {e:TypeId} {size n:Nat} {v:Value} {xs:List Value} (h:RowU w base e size v n xs) (o:Obj):RowU (w.alloc o) base e size v n xs:=h.steps ((Below.refl _ _).alloc (Nat.le_refl _) o)
theorem RowU.keeps {w w':World} {base:Nat} {e:TypeId} {size n:Nat} {v:Value} {xs:List Value} (h:RowU w base e size v n xs) (hg:w.grownBy w' v.ownBlock):Keeps w w':=by
 intro x l hl
 obtain⟨h0,ao,cap,rfl,h1,h3,h2⟩:=hl
 refine⟨h0,ao,cap,rfl,h1,h3,fun hn=> ?_⟩
 obtain⟨b,o,rfl,hb,hc⟩:=h2 hn
 have hne:v.ownBlock≠some b:=by
  intro e1
  rcases h.own.2 with⟨rfl,_⟩ | ⟨g,cap',cur,rfl,hbg,hh,_⟩
  · cases e1
  ·
   injection e1 with e1
   have e2:g=b:=e1
   subst e2
   have hp:0<l.length:=List.length_pos_iff.2 hn
   have hc0:=hc 0 hp
   rw[Blk.cell (w:=w) (t:=e) (cs:=cur) hh]at hc0
   exact noU32_get (h.noU g cur rfl hh) hc0
 refine⟨b,o,rfl,Nat.lt_of_lt_of_le hb hg.size,fun t ht=> ?_⟩
 have hcell:=hc t ht
 unfold World.cell? at hcell⊢
 rw[hg.block b hb (Ne.symm hne)]; exact hcell
def IntsR (w:World) (v:Value) (l:List Int):Prop:=∃ao cap,v = .slice ao l.length cap∧l.length≤cap∧(l≠ []→∃b o,ao=some ⟨b,o,none⟩∧b<w.heap.size∧∀t,t<l.length→w.cell? ⟨b,o+t,none⟩=some (.int .i64 (l.getD t 0)))
theorem IntsR.steps {w w':World} {v:Value} {l:List Int} (h:IntsR w v l) (s:Steps w w'):IntsR w' v l:=by
 obtain⟨ao,cap,e,hc,h2⟩:=h
 refine⟨ao,cap,e,hc,fun hn=> ?_⟩
 obtain⟨b,o,e2,hb,h3⟩:=h2 hn
 exact⟨b,o,e2,Nat.lt_of_lt_of_le hb s.size,fun t ht=>(s.cell (p:=⟨b,_,none⟩) hb).trans (h3 t ht)⟩
theorem IntsR.nil (w:World):IntsR w (.slice none 0 0) []:=⟨none,0,rfl,Nat.le_refl _,fun h=>absurd rfl h⟩
theorem IntsR.shape {w:World} {v:Value} {l:List Int} (h:IntsR w v l):∃ao cap,v = .slice ao l.length cap:=by obtain⟨ao,cap,e,_⟩:=h; exact⟨ao,cap,e⟩
def ints (l:List Int):List Value:=l.map (.int .i64)
theorem ints_snoc (l:List Int) (x:Int):ints (l ++ [x])=ints l ++ [.int .i64 x]:=by unfold ints; simp
theorem RowU.ints {w:World} {base n:Nat} {e:TypeId} {v:Value} {l:List Int} (h:RowU w base e 1 v n (ints l)):IntsR w v l:=by
 have hn:n=l.length:=by have:=h.own.1; unfold Go.Proofs.YtdkcffnmlllamaaGreat.ints at this; simpa using this.symm
 subst hn
 rcases h.own.2 with⟨rfl,h0⟩ | ⟨g,cap,cur,rfl,h1,h2,h3,h4,h5,h6⟩
 ·
  have:l = []:=List.eq_nil_of_length_eq_zero h0
  subst this
  exact IntsR.nil w
 ·
  refine⟨_,cap,rfl,h3,fun _=>⟨g,0,rfl,(Array.getElem?_eq_some_iff.1 h2).1,fun t ht=> ?_⟩⟩
  have c:=h.own.cells (g:=g) rfl t (.int .i64 (l.getD t 0)) (by unfold Go.Proofs.YtdkcffnmlllamaaGreat.ints; simp[List.getD,ht])
  rw[Addr.add_lit]at c
  exact c
section
variable {ops:Array Oper} {rest:List Oper} {o:Oper} {a:Act} {w:World} {Q:Exit→Act→World→Prop}
theorem infoI:∃ie z,Tryz.prog.info? 3=some ie∧ie.size=1∧ie.bytes=8∧ie.zero=some z∧z.cells=#[.int .i64 0]:=by
 obtain⟨ie,hie⟩:∃ie,Tryz.prog.info? 3=some ie:=Option.isSome_iff_exists.1 (by kernel_rfl)
 have h1:(Tryz.prog.info? 3).map (·.size)=some 1:=by kernel_rfl
 have h2:((Tryz.prog.info? 3).bind (·.zero)).map (·.cells)=some #[.int .i64 0]:=by kernel_rfl
 have h3:(Tryz.prog.info? 3).map (·.bytes)=some 8:=by kernel_rfl
 rw[hie]at h1 h2 h3
 simp only[Option.map_some,Option.some.injEq,Option.bind_some]at h1 h2 h3
 obtain⟨z,hz,e⟩:=Option.map_eq_some_iff.1 h2
 exact⟨ie,z,hie,h1,h3,hz,e⟩
theorem app_int (hgd:o.guard=none) (s x:Operand) (ho:o.op = .call { callee:= .builtin .append,args:=#[s,x],argTypes:=#[61,61] })
  (base n:Nat) (v:Value) (l:List Int) (hs:a.eval s=v) (hown:RowU w base 3 1 v n (ints l)) (g:Nat) (y:Int) (hx:a.eval x = .slice (some ⟨g,0,none⟩) 1 1) (hb:Blk w g 3 #[.int .i64 y]) (hn:n≤100000) (hbase:base≤w.heap.size)
  (h:∀v' w',RowU w' base 3 1 v' (n+1) (ints (l ++ [y]))→w.grownBy w' v.ownBlock→wpList Tryz.prog ops Q rest (a.put o.dst v') w'):wpList Tryz.prog ops Q (o::rest) a w:=by
 obtain⟨ie,z,h1,h2,h3,h4,h5⟩:=infoI
 refine wpList_plain hgd fun K hK=> ?_
 refine wp_append_U w s x 61 ho base 3 ie z 1 8 Tryz.underlying61 h1 h4 h2 h3 (by rw[h5]; rfl) (by rw[h5]; rfl) (by omega) v n (ints l) hs hown ⟨g,0,none⟩ 1 1 [.int .i64 y] hx (by omega) rfl (fun j u hj=> ?_) (fun u hu=> ?_) rfl (by unfold maxLen; omega) (by omega) hbase (fun v' w' hr hg=>hK _ _ (h v' w' ?_ hg))
 ·
  have hc:=hb.cell j
  rw[show (⟨g,0,none⟩:Addr).add j=⟨g,0+j,none⟩ from Addr.add_lit ..,Nat.zero_add,hc]
  simpa using hj
 ·
  simp only[List.mem_cons,List.not_mem_nil,or_false]at hu
  rw[hu]; rfl
 · rw[ints_snoc]; exact hr
theorem infoJ:∃ie z,Tryz.prog.info? 2=some ie∧ie.size=1∧ie.bytes=8∧ie.zero=some z∧z.cells=#[.int .i64 0]:=by
 obtain⟨ie,hie⟩:∃ie,Tryz.prog.info? 2=some ie:=Option.isSome_iff_exists.1 (by kernel_rfl)
 have h1:(Tryz.prog.info? 2).map (·.size)=some 1:=by kernel_rfl
 have h2:((Tryz.prog.info? 2).bind (·.zero)).map (·.cells)=some #[.int .i64 0]:=by kernel_rfl
 have h3:(Tryz.prog.info? 2).map (·.bytes)=some 8:=by kernel_rfl
 rw[hie]at h1 h2 h3
 simp only[Option.map_some,Option.some.injEq,Option.bind_some]at h1 h2 h3
 obtain⟨z,hz,e⟩:=Option.map_eq_some_iff.1 h2
 exact⟨ie,z,hie,h1,h3,hz,e⟩
theorem app_i64 (hgd:o.guard=none) (s x:Operand) (ho:o.op = .call { callee:= .builtin .append,args:=#[s,x],argTypes:=#[22,22] })
  (base n:Nat) (v:Value) (l:List Int) (hs:a.eval s=v) (hown:RowU w base 2 1 v n (ints l)) (g:Nat) (y:Int) (hx:a.eval x = .slice (some ⟨g,0,none⟩) 1 1) (hb:Blk w g 2 #[.int .i64 y]) (hn:n≤100000) (hbase:base≤w.heap.size)
  (h:∀v' w',RowU w' base 2 1 v' (n+1) (ints (l ++ [y]))→w.grownBy w' v.ownBlock→wpList Tryz.prog ops Q rest (a.put o.dst v') w'):wpList Tryz.prog ops Q (o::rest) a w:=by
 obtain⟨ie,z,h1,h2,h3,h4,h5⟩:=infoJ
 refine wpList_plain hgd fun K hK=> ?_
 refine wp_append_U w s x 22 ho base 2 ie z 1 8 Tryz.underlying22 h1 h4 h2 h3 (by rw[h5]; rfl) (by rw[h5]; rfl) (by omega) v n (ints l) hs hown ⟨g,0,none⟩ 1 1 [.int .i64 y] hx (by omega) rfl (fun j u hj=> ?_) (fun u hu=> ?_) rfl (by unfold maxLen; omega) (by omega) hbase (fun v' w' hr hg=>hK _ _ (h v' w' ?_ hg))
 ·
  have hc:=hb.cell j
  rw[show (⟨g,0,none⟩:Addr).add j=⟨g,0+j,none⟩ from Addr.add_lit ..,Nat.zero_add,hc]
  simpa using hj
 ·
  simp only[List.mem_cons,List.not_mem_nil,or_false]at hu
  rw[hu]; rfl
 · rw[ints_snoc]; exact hr
end
theorem RowU.len {w:World} {base:Nat} {e:TypeId} {size n:Nat} {v:Value} {xs:List Value} (h:RowU w base e size v n xs):∃a c,v = .slice a n c:=by
 rcases h.own.2 with⟨rfl,rfl⟩ | ⟨g,cap,cur,rfl,_⟩
 · exact⟨_,_,rfl⟩
 · exact⟨_,_,rfl⟩
theorem RowU.below {w w' w0:World} {base n size:Nat} {e:TypeId} {v:Value} {xs:List Value} (h:RowU w base e size v n xs) (hg:w.grownBy w' v.ownBlock) (hb:Below w0.heap.size w0 w) (hle:w0.heap.size≤base):Below w0.heap.size w0 w':=
 hb.grown hg hb.size fun k hk=>Nat.le_trans hle (h.lt k hk).1
theorem RowU.blk {w w':World} {base n b size:Nat} {e t:TypeId} {v:Value} {xs:List Value} {cs:Array Value} (h:RowU w base e size v n xs) (hg:w.grownBy w' v.ownBlock) (hb:Blk w b t cs) (hlt:b<base):Blk w' b t cs:=
 (hg.block b hb.lt fun e1=>by have:=(h.lt b e1.symm).1; omega).trans hb
theorem IntsR.at' {w:World} {ao:Option Addr} {n cap:Nat} {l:List Int} (h:IntsR w (.slice ao n cap) l) {t:Nat} (ht:t<l.length):∃b o,ao=some ⟨b,o,none⟩∧b<w.heap.size∧w.cell? ⟨b,o+t,none⟩=some (.int .i64 (l.getD t 0)):=by
 obtain⟨ao',cap',e,_,h2⟩:=h
 injection e with e1 e2 e3
 subst e1
 obtain⟨b,o,e,hb,hc⟩:=h2 (fun e=>by rw[e]at ht; cases ht)
 exact⟨b,o,e,hb,hc t ht⟩
theorem cur_get {cur:Array Value} {l:List Int} {n:Nat} (hn:l.length=n) (ht:cur.toList.take n=ints l) {k:Nat} (hk:k<n):cur[k]? = some (.int .i64 (l.getD k 0)):=by
 subst hn
 have h1:(cur.toList.take l.length)[k]? = (ints l)[k]? :=by rw[ht]
 rw[List.getElem?_take,if_pos hk]at h1
 rw[← Array.getElem?_toList,h1]
 unfold ints
 rw[List.getElem?_map,List.getD_eq_getElem?_getD,List.getElem?_eq_getElem hk]
 rfl
theorem noU_set {cs:Array Value} (h:noU32 cs=true) (i:Nat) (x:Int):noU32 (cs.setIfInBounds i (.int .i64 x))=true:=by
 unfold noU32 at h⊢
 rw[Array.toList_setIfInBounds]
 rw[List.all_eq_true]at h⊢
 intro v hv
 rcases List.mem_or_eq_of_mem_set hv with g | g
 · exact h v g
 · rw[g]
theorem IntsR.at {w:World} {ao:Option Addr} {n cap:Nat} {l:List Int} (h:IntsR w (.slice ao n cap) l) {t:Nat} (ht:t<l.length):∃b o,ao=some ⟨b,o,none⟩∧b<w.heap.size∧w.cell? ⟨b,o+t,none⟩=some (.int .i64 (l.getD t 0)):=by
 obtain⟨ao',cap',e,_,h2⟩:=h
 injection e with e1 e2 e3
 subst e1
 obtain⟨b,o,e,hb,hc⟩:=h2 (fun e=>by rw[e]at ht; cases ht)
 exact⟨b,o,e,hb,hc t ht⟩
def okV (l:List Int):Nat→Bool
 | 0=>true
 | t+1=>okV l t&&decide (-4294967296≤l.getD t 0∧l.getD t 0≤4294967296)
theorem okV_stay {l:List Int} {i:Nat} (h:okV l i=false):∀m,i≤m→okV l m=false:=by
 intro m hm
 induction m with
 | zero=>
  obtain rfl:i=0:=by omega
  exact h
 | succ m ih=>
  rcases Nat.lt_or_ge m i with g | g
  ·
   obtain rfl:i=m+1:=by omega
   exact h
  · unfold okV; rw[ih g]; rfl
theorem okV_get {l:List Int} : ∀{m:Nat},okV l m=true→∀t,t<m→-4294967296≤l.getD t 0∧l.getD t 0≤4294967296
 | m+1,h,t,ht=>by
  unfold okV at h
  rw[Bool.and_eq_true,decide_eq_true_iff]at h
  rcases Nat.lt_or_ge t m with g | g
  · exact okV_get h.1 t g
  ·
   obtain rfl:t=m:=by omega
   exact h.2
def chkV (l:List Int):Int:=if 1000<l.length then 4 else if okV l l.length then 0 else 8
def askV (l:List Int):Int:=if chkV l=0 then(if l.length=0 then 6 else 0)else chkV l
theorem askV_ok {l:List Int} (h:askV l=0):l≠ []∧l.length≤1000∧∀t,t<l.length→-4294967296≤l.getD t 0∧l.getD t 0≤4294967296:=by
 unfold askV at h
 by_cases hc:chkV l=0
 ·
  rw[if_pos hc]at h
  have hl:l.length≠0:=fun e=>by rw[if_pos e]at h; cases h
  unfold chkV at hc
  by_cases h1:1000<l.length
  · rw[if_pos h1]at hc; cases hc
  ·
   rw[if_neg h1]at hc
   refine⟨fun e=>hl (by rw[e]; rfl),by omega,?_⟩
   cases hk:okV l l.length with
   | true=>exact okV_get hk
   | false=>rw[hk]at hc; cases hc
 · rw[if_neg hc]at h; exact absurd h hc
theorem rchk1 (k:Int) (w:World) :
  Calls Tryz.prog 129 #[.int .i64 k] w fun e w'=>e = .returned (.bool (!decide (-4294967296≤k∧k≤4294967296)))∧Steps w w':=by
 by_cases h1:k < -4294967296
 ·
  rw[decide_eq_false (by omega)]
  go_enter Tryz.func129,Tryz.ntmps129
  go_wp2
  go_returns
  exact⟨rfl,belowB⟩
 ·
  by_cases h2:4294967296<k
  ·
   rw[decide_eq_false (by omega)]
   go_enter Tryz.func129,Tryz.ntmps129
   go_wp2
   go_returns
   exact⟨rfl,belowB⟩
  ·
   rw[decide_eq_true (by omega)]
   go_enter Tryz.func129,Tryz.ntmps129
   go_wp2
   go_returns
   exact⟨rfl,belowB⟩
theorem vindex {v:Value} {l:List Int} (w:World) (h:IntsR w v l) (hl:l.length≤100000) :
  Calls Tryz.prog 154 #[v,.func (.func 129) #[] #[]] w fun e w'=>∃i,e = .returned (.int .i64 i)∧decide (0≤i) = !okV l l.length∧Steps w w':=by
 obtain⟨ao,cap,rfl⟩:=h.shape
 have HC:=Hid.mk_ h
 obtain⟨n,hn⟩:∃n,l.length=n:=⟨_,rfl⟩
 have HL:=Hid.mk_ hn
 rw[hn]at HC hl⊢
 have CL:∀w',Steps w w'→∀k,Calls Tryz.prog 129 #[.int .i64 k] w' fun e w2=>e = .returned (.bool (!decide (-4294967296≤k∧k≤4294967296)))∧Steps w' w2:=fun w' s k=>rchk1 k w'
 clear h hn
 go_enter Tryz.func154,Tryz.ntmps154
 go_wp2_with fail
 go_loopw [8] (fun kk wr=>∃t:Nat,t≤n∧kk = .int .i64 t∧okV l t=true∧Below w.heap.size w wr) (fun kk _=>n-(intOf kk).toNat)
 case atStart=>exact⟨0,by omega,rfl,rfl,belowB⟩
 case round=>
  obtain⟨t,ht,rfl,hw,B⟩:=hrel
  rcases Nat.lt_or_ge t n with tn | tn
  ·
   have hlt:decide ((t:Int)<(n:Int))=true:=decide_eq_true (by omega)
   obtain⟨b,of,rfl,hbl,h0⟩:=HC.out.at' (t:=t) (by have:=HL.out; omega)
   have c0:wr.cell? ⟨b,of+t,none⟩=some (.int .i64 (l.getD t 0)):=(B.cell (p:=⟨b,_,none⟩) hbl).trans h0
   have ck:=fun w' (s:Steps w w')=>CL w' s (l.getD t 0)
   have NO:decide (-4294967296≤l.getD t 0∧l.getD t 0≤4294967296)=false→okV l n=false:=fun e=>okV_stay (i:=t+1) (by unfold okV; rw[e,Bool.and_false]) n (by omega)
   have YES:decide (-4294967296≤l.getD t 0∧l.getD t 0≤4294967296)=true→okV l (t+1)=true:=fun e=>by unfold okV; rw[hw,e]; rfl
   obtain⟨s,hs⟩:∃s,decide (-4294967296≤l.getD t 0∧l.getD t 0≤4294967296)=s:=⟨_,rfl⟩
   rw[hs]at ck NO YES
   obtain⟨y,hy⟩:∃y,l.getD t 0=y:=⟨_,rfl⟩
   rw[hy]at c0 ck
   clear h0 hy hs CL
   go_wp2_with fail
   refine(ck _ belowB).mono ?_
   rintro e w1 ⟨rfl,hs1⟩
   have B1:Below w.heap.size w w1:=belowA hs1
   clear ck hs1 B c0
   cases s with
   | false=>
    have N0:=NO rfl
    clear NO YES
    rw[show (!false)=true from rfl]
    go_wp2
    go_returns
    exact⟨_,rfl,by rw[N0]; simp,B1⟩
   | true=>
    have Y0:=YES rfl
    clear NO YES
    rw[show (!true)=false from rfl]
    go_wp2
    go_roundw
    case rel=>exact⟨t+1,by omega,by go_num,Y0,B1⟩
    case measure=>simp[intOf]; omega
  ·
   obtain rfl:t=n:=by omega
   go_wp2
   go_returns
   exact⟨_,rfl,by rw[hw]; rfl,B⟩
theorem vcontains {v:Value} {l:List Int} (w:World) (h:IntsR w v l) (hl:l.length≤100000) :
  Calls Tryz.prog 128 #[v,.func (.func 129) #[] #[]] w fun e w'=>e = .returned (.bool (!okV l l.length))∧Steps w w':=by
 have ix:=vindex w h hl
 obtain⟨ao,cap,rfl⟩:=h.shape
 clear h hl
 generalize okV l l.length=L at *
 go_enter Tryz.func128,Tryz.ntmps128
 go_wp2_with fail
 refine ix.mono ?_
 rintro e w1 ⟨i,rfl,hi,hs⟩
 clear ix
 cases L with
 | true=>
  have g1:¬0≤i:=by simpa using hi
  go_wp2
  go_returns
  exact⟨rfl,hs⟩
 | false=>
  have g1:0≤i:=by simpa using hi
  go_wp2
  go_returns
  exact⟨rfl,hs⟩
theorem vcheck {v:Value} {l:List Int} (w:World) (h:IntsR w v l) (hl:l.length≤100000) :
  Calls Tryz.prog 98 #[v] w fun e w'=>e = .returned (.int .i64 (chkV l))∧Steps w w':=by
 have CT:=fun w' (s:Steps w w')=>vcontains w' (h.steps s) hl
 obtain⟨ao,cap,rfl⟩:=h.shape
 clear h hl
 unfold chkV
 generalize okV l l.length=L at *
 generalize l.length=n at *
 by_cases h1:1000<n
 ·
  have h2:(1000:Int)<(n:Int):=by omega
  rw[if_pos h1]
  clear CT h1
  go_enter Tryz.func98,Tryz.ntmps98
  go_wp2
  go_returns
  exact⟨rfl,belowB⟩
 ·
  have h2:¬(1000:Int)<(n:Int):=by omega
  rw[if_neg h1]
  clear h1
  go_enter Tryz.func98,Tryz.ntmps98
  go_wp2_with fail
  refine(CT _ belowB).mono ?_
  rintro e w1 ⟨rfl,hs⟩
  have B:=bA w hs
  clear CT hs
  cases L with
  | true=>
   rw[show (!true)=false from rfl]
   go_wp2
   go_returns
   exact⟨rfl,B⟩
  | false=>
   rw[show (!false)=true from rfl]
   go_wp2
   go_returns
   exact⟨rfl,B⟩
theorem vstart {v:Value} {l:List Int} (w:World) (h:IntsR w v l) (hl:l.length≤100000) :
  Calls Tryz.prog 66 #[v] w fun e w'=>e = .returned (.int .i64 (askV l))∧Steps w w':=by
 have CK:=fun w' (s:Steps w w')=>vcheck w' (h.steps s) hl
 obtain⟨ao,cap,rfl⟩:=h.shape
 clear h hl
 unfold askV
 generalize chkV l=c at *
 generalize l.length=n at *
 by_cases h1:c=0
 ·
  subst h1
  rw[if_pos rfl]
  by_cases h2:n=0
  ·
   subst h2
   rw[if_pos rfl]
   go_enter Tryz.func66,Tryz.ntmps66
   go_wp2_with fail
   refine(CK _ belowB).mono ?_
   rintro e w1 ⟨rfl,hs⟩
   have B:=bA w hs
   clear CK hs
   go_wp2
   go_returns
   exact⟨rfl,B⟩
  ·
   rw[if_neg h2]
   have h3:((n:Int)==0)=false:=by simpa using h2
   clear h2
   go_enter Tryz.func66,Tryz.ntmps66
   go_wp2_with fail
   refine(CK _ belowB).mono ?_
   rintro e w1 ⟨rfl,hs⟩
   have B:=bA w hs
   clear CK hs
   go_wp2
   go_returns
   exact⟨rfl,B⟩
 ·
  rw[if_neg h1]
  have h3:(c==0)=false:=by simpa using h1
  have h4:(c != 0)=true:=by simpa using h1
  clear h1
  go_enter Tryz.func66,Tryz.ntmps66
  go_wp2_with fail
  refine(CK _ belowB).mono ?_
  rintro e w1 ⟨rfl,hs⟩
  have B:=bA w hs
  clear CK hs
  go_wp2
  go_returns
  exact⟨rfl,B⟩
theorem prvcheck {v:Value} {l:List Int} (w:World) (h:IntsR w v l) (hl:l.length≤100000) :
  Calls Tryz.prog 85 #[v] w fun e w'=>e = .returned (.int .i64 (chkV l))∧Steps w w':=by
 obtain⟨ao,cap,rfl⟩:=h.shape
 have HC:=Hid.mk_ h
 have HL:=Hid.mk_ (rfl:l.length=l.length)
 unfold chkV
 obtain⟨n,hn⟩:∃n,l.length=n:=⟨_,rfl⟩
 replace HL:=Hid.mk_ hn
 rw[hn]at HC hl⊢
 clear h hn
 by_cases g1:1000<n
 ·
  have g2:(1000:Int)<(n:Int):=by omega
  rw[if_pos g1]
  clear g1 HC HL
  go_enter Tryz.func85,Tryz.ntmps85
  go_wp2
  go_returns
  exact⟨rfl,belowB⟩
 rw[if_neg g1]
 have g2:¬(1000:Int)<(n:Int):=by omega
 clear g1
 obtain⟨A,hA⟩:∃A:Int,(if okV l n=true then(0:Int)else 8)=A:=⟨_,rfl⟩
 rw[hA]
 have HA:=Hid.mk_ hA
 clear hA
 go_enter Tryz.func85,Tryz.ntmps85
 go_wp2_with fail
 go_loopw [3] (fun kk wr=>∃t:Nat,t≤n∧kk = .int .i64 t∧okV l t=true∧Below w.heap.size w wr) (fun kk _=>n-(intOf kk).toNat)
 case atStart=>exact⟨0,by omega,rfl,rfl,belowB⟩
 case round=>
  obtain⟨t,ht,rfl,hw,B⟩:=hrel
  rcases Nat.lt_or_ge t n with tn | tn
  ·
   have hlt:decide ((t:Int)<(n:Int))=true:=decide_eq_true (by omega)
   obtain⟨b,of,rfl,hbl,h0⟩:=HC.out.at' (t:=t) (by have:=HL.out; omega)
   have c0:wr.cell? ⟨b,of+t,none⟩=some (.int .i64 (l.getD t 0)):=(B.cell (p:=⟨b,_,none⟩) hbl).trans h0
   have NO:¬(-4294967296≤l.getD t 0∧l.getD t 0≤4294967296)→okV l n=false:=fun e=>okV_stay (i:=t+1) (by unfold okV; rw[decide_eq_false e,Bool.and_false]) n (by omega)
   have YES:(-4294967296≤l.getD t 0∧l.getD t 0≤4294967296)→okV l (t+1)=true:=fun e=>by unfold okV; rw[hw,decide_eq_true e]; rfl
   obtain⟨y,hy⟩:∃y,l.getD t 0=y:=⟨_,rfl⟩
   rw[hy]at c0 NO YES
   clear h0 hy
   by_cases y1:y < -4294967296
   ·
    have N0:=NO (by omega)
    clear NO YES
    go_wp2
    go_returns
    exact⟨by rw[← HA.out,N0]; rfl,B⟩
   ·
    by_cases y2:4294967296<y
    ·
     have N0:=NO (by omega)
     clear NO YES
     go_wp2
     go_returns
     exact⟨by rw[← HA.out,N0]; rfl,B⟩
    ·
     have Y0:=YES (by omega)
     clear NO YES
     go_wp2
     go_roundw
     case rel=>exact⟨t+1,by omega,by go_num,Y0,B⟩
     case measure=>simp[intOf]; omega
  ·
   obtain rfl:t=n:=by omega
   go_wp2
   go_returns
   exact⟨by rw[← HA.out,hw]; rfl,B⟩
theorem pvasked {v:Value} {l:List Int} (w:World) (h:IntsR w v l) (hl:l.length≤100000) :
  Calls Tryz.prog 54 #[v] w fun e w'=>e = .returned (.int .i64 (askV l))∧Steps w w':=by
 have CK:=fun w' (s:Steps w w')=>prvcheck w' (h.steps s) hl
 obtain⟨ao,cap,rfl⟩:=h.shape
 clear h hl
 unfold askV
 generalize chkV l=c at *
 generalize l.length=n at *
 by_cases h1:c=0
 ·
  subst h1
  rw[if_pos rfl]
  by_cases h2:n=0
  ·
   subst h2
   rw[if_pos rfl]
   go_enter Tryz.func54,Tryz.ntmps54
   go_wp2_with fail
   refine(CK _ belowB).mono ?_
   rintro e w1 ⟨rfl,hs⟩
   have B:=bA w hs
   clear CK hs
   go_wp2
   go_returns
   exact⟨rfl,B⟩
  ·
   rw[if_neg h2]
   have h3:((n:Int)==0)=false:=by simpa using h2
   clear h2
   go_enter Tryz.func54,Tryz.ntmps54
   go_wp2_with fail
   refine(CK _ belowB).mono ?_
   rintro e w1 ⟨rfl,hs⟩
   have B:=bA w hs
   clear CK hs
   go_wp2
   go_returns
   exact⟨rfl,B⟩
 ·
  rw[if_neg h1]
  have h3:(c==0)=false:=by simpa using h1
  have h4:(c != 0)=true:=by simpa using h1
  clear h1
  go_enter Tryz.func54,Tryz.ntmps54
  go_wp2_with fail
  refine(CK _ belowB).mono ?_
  rintro e w1 ⟨rfl,hs⟩
  have B:=bA w hs
  clear CK hs
  go_wp2
  go_returns
  exact⟨rfl,B⟩
theorem run_max2B {P:Program} (ts:Array TypeId) (t:TypeId) (x y:Int) (w:World):(Builtin.max_ ts t #[.int .i64 x,.int .i64 y]).run P w = .ok (.int .i64 (max x y)) w:=by
 rw[run_max_int2]
 congr 2
 split<;>omega
theorem run_min2B {P:Program} (ts:Array TypeId) (t:TypeId) (x y:Int) (w:World):(Builtin.min_ ts t #[.int .i64 x,.int .i64 y]).run P w = .ok (.int .i64 (min x y)) w:=by
 rw[run_min_int2]
 congr 2
 split<;>omega
def mxI (l:List Int):Nat→Int
 | 0=>l.getD 0 0
 | i+1=>max (mxI l i) (l.getD (i+1) 0)
def mnI (l:List Int):Nat→Int
 | 0=>l.getD 0 0
 | i+1=>min (mnI l i) (l.getD (i+1) 0)
theorem mxI_le {l:List Int} {M:Int} : ∀i,mxI l i≤M↔∀t,t≤i→l.getD t 0≤M
 | 0=>by unfold mxI; exact⟨fun h t ht=>(by obtain rfl:t=0:=(by omega); exact h),fun h=>h 0 (Nat.le_refl _)⟩
 | i+1=>by
  unfold mxI
  rw[Int.max_le,mxI_le i]
  exact⟨fun h t ht=>(by rcases Nat.lt_or_ge i t with g | g; (obtain rfl:t=i+1:=(by omega)); exact h.2; exact h.1 t g),fun h=>⟨fun t ht=>h t (by omega),h _ (Nat.le_refl _)⟩⟩
theorem mnI_le {l:List Int} {M:Int} : ∀i,M≤mnI l i↔∀t,t≤i→M≤l.getD t 0
 | 0=>by unfold mnI; exact⟨fun h t ht=>(by obtain rfl:t=0:=(by omega); exact h),fun h=>h 0 (Nat.le_refl _)⟩
 | i+1=>by
  unfold mnI
  rw[Int.le_min,mnI_le i]
  exact⟨fun h t ht=>(by rcases Nat.lt_or_ge i t with g | g; (obtain rfl:t=i+1:=(by omega)); exact h.2; exact h.1 t g),fun h=>⟨fun t ht=>h t (by omega),h _ (Nat.le_refl _)⟩⟩
theorem okV_iff {l:List Int} : ∀n,okV l n=true↔∀t,t<n→-4294967296≤l.getD t 0∧l.getD t 0≤4294967296
 | 0=>⟨fun _ t ht=>by omega,fun _=>rfl⟩
 | n+1=>⟨fun h t ht=>okV_get h t ht,fun h=>by
  unfold okV
  rw[(okV_iff n).2 fun t ht=>h t (by omega),decide_eq_true (h n (by omega))]; rfl⟩
theorem okV_mm {l:List Int} {n:Nat} (h:0<n):okV l n=true↔mxI l (n-1)≤4294967296∧-4294967296≤mnI l (n-1):=by
 rw[okV_iff,mxI_le,mnI_le]
 exact⟨fun g=>⟨fun t ht=>(g t (by omega)).2,fun t ht=>(g t (by omega)).1⟩,fun g t ht=>⟨g.2 t (by omega),g.1 t (by omega)⟩⟩
theorem slmax {v:Value} {l:List Int} (w:World) (h:IntsR w v l) (hl:l.length≤100000) (h0:0<l.length) :
  Calls Tryz.prog 41 #[v] w fun e w'=>e = .returned (.int .i64 (mxI l (l.length-1)))∧Steps w w':=by
 obtain⟨ao,cap,rfl⟩:=h.shape
 have HC:=Hid.mk_ h
 obtain⟨n,hn⟩:∃n,l.length=n:=⟨_,rfl⟩
 have HL:=Hid.mk_ hn
 rw[hn]at HC hl h0⊢
 clear h hn
 obtain⟨f,hf⟩:∃f:Nat→Int,∀t,l.getD t 0=f t:=⟨_,fun _=>rfl⟩
 obtain⟨g,hg⟩:∃g:Nat→Int,∀t,mxI l t=g t:=⟨_,fun _=>rfl⟩
 have Hf:=Hid.mk_ hf
 have HG0:=Hid.mk_ (show g 0=f 0 by rw[← hg,← hf]; rfl)
 have HGS:=Hid.mk_ (show ∀t,g (t+1)=max (g t) (f (t+1)) from fun t=>by rw[← hg,← hg,← hf]; rfl)
 rw[hg]
 clear hf hg
 have h1:¬(n:Int)<1:=by omega
 obtain⟨b,of,rfl,hbl,x0⟩:=HC.out.at' (t:=0) (by have:=HL.out; omega)
 rw[Hf.out]at x0
 have c0:w.cell? ⟨b,of,none⟩=some (.int .i64 (f 0)):=x0
 go_enter Tryz.func41,Tryz.ntmps41
 go_wp2_with fail
 clear c0 x0 h1
 go_loopw [3,4] (fun mm kk wr=>∃t:Nat,1≤t∧t≤n∧kk = .int .i64 t∧mm = .int .i64 (g (t-1))∧Below w.heap.size w wr) (fun _ kk _=>n-(intOf kk).toNat)
 case atStart=>exact⟨1,Nat.le_refl _,by omega,rfl,by rw[← HG0.out],belowB⟩
 case round=>
  obtain⟨t,t1,ht,rfl,rfl,B⟩:=hrel
  rcases Nat.lt_or_ge t n with tn | tn
  ·
   have hlt:decide ((t:Int)<(n:Int))=true:=decide_eq_true (by omega)
   obtain⟨b',of',e',hbl',x1⟩:=HC.out.at' (t:=t) (by have:=HL.out; omega)
   simp only[Option.some.injEq,Addr.mk.injEq,and_true]at e'
   obtain⟨rfl,rfl⟩:=e'
   rw[Hf.out]at x1
   have c1:wr.cell? ⟨b,of+t,none⟩=some (.int .i64 (f t)):=(B.cell (p:=⟨b,_,none⟩) hbl).trans x1
   have HS:=Hid.mk_ (HGS.out (t-1))
   rw[show t-1+1=t by omega]at HS
   obtain⟨a,ha⟩:∃a,g (t-1)=a:=⟨_,rfl⟩
   rw[ha]at HS⊢
   generalize f t=x at *
   have mx:=fun ts ty W=>run_max2B (P:=Tryz.prog) ts ty a x W
   clear ha x1 hbl'
   go_wp2_with fail
   go_roundw
   case rel=>exact⟨t+1,by omega,by omega,by go_num,by rw[Nat.add_sub_cancel,HS.out],B⟩
   case measure=>simp[intOf]; omega
  ·
   obtain rfl:t=n:=by omega
   go_wp2_with fail
   go_returns
   exact⟨rfl,B⟩
theorem slmin {v:Value} {l:List Int} (w:World) (h:IntsR w v l) (hl:l.length≤100000) (h0:0<l.length) :
  Calls Tryz.prog 42 #[v] w fun e w'=>e = .returned (.int .i64 (mnI l (l.length-1)))∧Steps w w':=by
 obtain⟨ao,cap,rfl⟩:=h.shape
 have HC:=Hid.mk_ h
 obtain⟨n,hn⟩:∃n,l.length=n:=⟨_,rfl⟩
 have HL:=Hid.mk_ hn
 rw[hn]at HC hl h0⊢
 clear h hn
 obtain⟨f,hf⟩:∃f:Nat→Int,∀t,l.getD t 0=f t:=⟨_,fun _=>rfl⟩
 obtain⟨g,hg⟩:∃g:Nat→Int,∀t,mnI l t=g t:=⟨_,fun _=>rfl⟩
 have Hf:=Hid.mk_ hf
 have HG0:=Hid.mk_ (show g 0=f 0 by rw[← hg,← hf]; rfl)
 have HGS:=Hid.mk_ (show ∀t,g (t+1)=min (g t) (f (t+1)) from fun t=>by rw[← hg,← hg,← hf]; rfl)
 rw[hg]
 clear hf hg
 have h1:¬(n:Int)<1:=by omega
 obtain⟨b,of,rfl,hbl,x0⟩:=HC.out.at' (t:=0) (by have:=HL.out; omega)
 rw[Hf.out]at x0
 have c0:w.cell? ⟨b,of,none⟩=some (.int .i64 (f 0)):=x0
 go_enter Tryz.func42,Tryz.ntmps42
 go_wp2_with fail
 clear c0 x0 h1
 go_loopw [3,4] (fun mm kk wr=>∃t:Nat,1≤t∧t≤n∧kk = .int .i64 t∧mm = .int .i64 (g (t-1))∧Below w.heap.size w wr) (fun _ kk _=>n-(intOf kk).toNat)
 case atStart=>exact⟨1,Nat.le_refl _,by omega,rfl,by rw[← HG0.out],belowB⟩
 case round=>
  obtain⟨t,t1,ht,rfl,rfl,B⟩:=hrel
  rcases Nat.lt_or_ge t n with tn | tn
  ·
   have hlt:decide ((t:Int)<(n:Int))=true:=decide_eq_true (by omega)
   obtain⟨b',of',e',hbl',x1⟩:=HC.out.at' (t:=t) (by have:=HL.out; omega)
   simp only[Option.some.injEq,Addr.mk.injEq,and_true]at e'
   obtain⟨rfl,rfl⟩:=e'
   rw[Hf.out]at x1
   have c1:wr.cell? ⟨b,of+t,none⟩=some (.int .i64 (f t)):=(B.cell (p:=⟨b,_,none⟩) hbl).trans x1
   have HS:=Hid.mk_ (HGS.out (t-1))
   rw[show t-1+1=t by omega]at HS
   obtain⟨a,ha⟩:∃a,g (t-1)=a:=⟨_,rfl⟩
   rw[ha]at HS⊢
   generalize f t=x at *
   have mx:=fun ts ty W=>run_min2B (P:=Tryz.prog) ts ty a x W
   clear ha x1 hbl'
   go_wp2_with fail
   go_roundw
   case rel=>exact⟨t+1,by omega,by omega,by go_num,by rw[Nat.add_sub_cancel,HS.out],B⟩
   case measure=>simp[intOf]; omega
  ·
   obtain rfl:t=n:=by omega
   go_wp2_with fail
   go_returns
   exact⟨rfl,B⟩
def fchk (W H:Int) (l:List Int):Int:=if 1≤W∧W≤100∧1≤H∧H≤100∧(l.length:Int)=W*H∧okV l l.length=true then 0 else 8
theorem fchk_bad {W H:Int} {l:List Int} (h:¬(1≤W∧W≤100∧1≤H∧H≤100∧(l.length:Int)=W*H∧okV l l.length=true)):fchk W H l=8:=if_neg h
theorem fchk_ok {W H:Int} {l:List Int} (h1:1≤W) (h2:W≤100) (h3:1≤H) (h4:H≤100) (h5:(l.length:Int)=W*H) (h6:okV l l.length=true):fchk W H l=0:=if_pos ⟨h1,h2,h3,h4,h5,h6⟩
theorem mul_100 {W H:Int} (h1:1≤W) (h2:W≤100) (h3:1≤H) (h4:H≤100):1≤W*H∧W*H≤10000:=by
 have a:=Int.mul_le_mul h1 h3 (by omega) (by omega)
 have b:=Int.mul_le_mul h2 h4 (by omega) (by omega)
 omega
theorem pfcheck {ao:Option Addr} {n cap:Nat} {W H:Int} {l:List Int} (w:World) (h:IntsR w (.slice ao n cap) l) (hl:l.length≤100000) :
  Calls Tryz.prog 19 #[.agg #[.int .i64 W,.int .i64 H,.slice ao n cap]] w fun e w'=>e = .returned (.int .i64 (fchk W H l))∧Steps w w':=by
 have HC:=Hid.mk_ h
 obtain⟨ao',cap',e0,-⟩:=h
 simp only[Value.slice.injEq]at e0
 obtain⟨-,hn,-⟩:=e0
 have HL:=Hid.mk_ hn
 rw[← hn]at hl
 clear hn
 by_cases g1:W<1
 ·
  have e8:=fchk_bad (W:=W) (H:=H) (l:=l) (by omega)
  rw[e8]
  clear HC HL e8
  go_enter Tryz.func19,Tryz.ntmps19
  go_wp2
  go_returns
  exact⟨rfl,belowB⟩
 by_cases g2:100<W
 ·
  have e8:=fchk_bad (W:=W) (H:=H) (l:=l) (by omega)
  rw[e8]
  clear HC HL e8
  go_enter Tryz.func19,Tryz.ntmps19
  go_wp2
  go_returns
  exact⟨rfl,belowB⟩
 by_cases g3:H<1
 ·
  have e8:=fchk_bad (W:=W) (H:=H) (l:=l) (by omega)
  rw[e8]
  clear HC HL e8
  go_enter Tryz.func19,Tryz.ntmps19
  go_wp2
  go_returns
  exact⟨rfl,belowB⟩
 by_cases g4:100<H
 ·
  have e8:=fchk_bad (W:=W) (H:=H) (l:=l) (by omega)
  rw[e8]
  clear HC HL e8
  go_enter Tryz.func19,Tryz.ntmps19
  go_wp2
  go_returns
  exact⟨rfl,belowB⟩
 have p1:1≤W:=by omega
 have p2:W≤100:=by omega
 have p3:1≤H:=by omega
 have p4:H≤100:=by omega
 have hm:=mul_100 p1 p2 p3 p4
 obtain⟨M,hM⟩:∃M,W*H=M:=⟨_,rfl⟩
 have HM:=Hid.mk_ hM
 rw[hM]at hm
 have hw:IntKind.i64.wrap (W*H)=M:=by rw[hM,IntKind.wrap_i64]; omega
 clear hM
 by_cases g5:(n:Int)=M
 case neg=>
  have d5:((n:Int) != M)=true:=by simpa using g5
  have d6:((n:Int)==M)=false:=by simpa using g5
  have e8:=fchk_bad (W:=W) (H:=H) (l:=l) (by intro h; exact g5 (by rw[HL.out,← HM.out]; exact h.2.2.2.2.1))
  rw[e8]
  clear HC HL HM e8 g5
  go_enter Tryz.func19,Tryz.ntmps19
  go_wp2
  go_returns
  exact⟨rfl,belowB⟩
 case pos=>
  subst g5
  obtain⟨A,hA⟩:∃A:Int,(if okV l n=true then(0:Int)else 8)=A:=⟨_,rfl⟩
  have HA:=Hid.mk_ hA
  have HE:=Hid.mk_ (show fchk W H l=A by
   rw[← hA,HL.out]
   by_cases h:okV l l.length=true
   · rw[if_pos h,fchk_ok p1 p2 p3 p4 (by rw[← HL.out,HM.out]) h]
   · rw[if_neg h,fchk_bad fun g=>h g.2.2.2.2.2])
  rw[HE.out]
  clear hA HE HM
  go_enter Tryz.func19,Tryz.ntmps19
  go_wp2_with fail
  go_loopw [3] (fun kk wr=>∃t:Nat,t≤n∧kk = .int .i64 t∧okV l t=true∧Blk wr w.heap.size 26 #[.int .i64 W,.int .i64 H,.slice ao n cap]∧Below w.heap.size w wr) (fun kk _=>n-(intOf kk).toNat)
  case atStart=>exact⟨0,by omega,rfl,rfl,ownK,belowB⟩
  case round=>
   obtain⟨t,ht,rfl,hw',of,B⟩:=hrel
   have cf2:=of.c 2 rfl
   rcases Nat.lt_or_ge t n with tn | tn
   ·
    have hlt:decide ((t:Int)<(n:Int))=true:=decide_eq_true (by omega)
    obtain⟨b,off,rfl,hbl,h0⟩:=HC.out.at' (t:=t) (by have:=HL.out; omega)
    have c0:wr.cell? ⟨b,off+t,none⟩=some (.int .i64 (l.getD t 0)):=(B.cell (p:=⟨b,_,none⟩) hbl).trans h0
    have NO:¬(-4294967296≤l.getD t 0∧l.getD t 0≤4294967296)→okV l n=false:=fun e=>okV_stay (i:=t+1) (by unfold okV; rw[decide_eq_false e,Bool.and_false]) n (by omega)
    have YES:(-4294967296≤l.getD t 0∧l.getD t 0≤4294967296)→okV l (t+1)=true:=fun e=>by unfold okV; rw[hw',decide_eq_true e]; rfl
    obtain⟨y,hy⟩:∃y,l.getD t 0=y:=⟨_,rfl⟩
    rw[hy]at c0 NO YES
    clear h0 hy
    by_cases y1:y < -4294967296
    ·
     have N0:=NO (by omega)
     clear NO YES
     go_wp2
     go_returns
     exact⟨by rw[← HA.out,N0]; rfl,B⟩
    ·
     by_cases y2:4294967296<y
     ·
      have N0:=NO (by omega)
      clear NO YES
      go_wp2
      go_returns
      exact⟨by rw[← HA.out,N0]; rfl,B⟩
     ·
      have Y0:=YES (by omega)
      clear NO YES
      go_wp2_with fail
      go_roundw
      case rel=>exact⟨t+1,by omega,by go_num,Y0,of,B⟩
      case measure=>simp[intOf]; omega
   ·
    obtain rfl:t=n:=by omega
    go_wp2
    go_returns
    exact⟨by rw[← HA.out,hw']; rfl,B⟩
theorem cfcheck {ao:Option Addr} {n cap:Nat} {W H:Int} {l:List Int} (w:World) (h:IntsR w (.slice ao n cap) l) (hl:l.length≤100000) :
  Calls Tryz.prog 29 #[.agg #[.int .i64 W,.int .i64 H,.slice ao n cap]] w fun e w'=>e = .returned (.int .i64 (fchk W H l))∧Steps w w':=by
 have HC:=Hid.mk_ h
 obtain⟨ao',cap',e0,-⟩:=h
 simp only[Value.slice.injEq]at e0
 obtain⟨-,hn,-⟩:=e0
 have HL:=Hid.mk_ hn
 rw[← hn]at hl
 clear hn
 by_cases g1:W<1
 ·
  have e8:=fchk_bad (W:=W) (H:=H) (l:=l) (by omega)
  rw[e8]
  clear HC HL e8
  go_enter Tryz.func29,Tryz.ntmps29
  go_wp2
  go_returns
  exact⟨rfl,belowB⟩
 by_cases g2:100<W
 ·
  have e8:=fchk_bad (W:=W) (H:=H) (l:=l) (by omega)
  rw[e8]
  clear HC HL e8
  go_enter Tryz.func29,Tryz.ntmps29
  go_wp2
  go_returns
  exact⟨rfl,belowB⟩
 by_cases g3:H<1
 ·
  have e8:=fchk_bad (W:=W) (H:=H) (l:=l) (by omega)
  rw[e8]
  clear HC HL e8
  go_enter Tryz.func29,Tryz.ntmps29
  go_wp2
  go_returns
  exact⟨rfl,belowB⟩
 by_cases g4:100<H
 ·
  have e8:=fchk_bad (W:=W) (H:=H) (l:=l) (by omega)
  rw[e8]
  clear HC HL e8
  go_enter Tryz.func29,Tryz.ntmps29
  go_wp2
  go_returns
  exact⟨rfl,belowB⟩
 have p1:1≤W:=by omega
 have p2:W≤100:=by omega
 have p3:1≤H:=by omega
 have p4:H≤100:=by omega
 have hm:=mul_100 p1 p2 p3 p4
 obtain⟨M,hM⟩:∃M,W*H=M:=⟨_,rfl⟩
 have HM:=Hid.mk_ hM
 rw[hM]at hm
 have hw:IntKind.i64.wrap (W*H)=M:=by rw[hM,IntKind.wrap_i64]; omega
 clear hM
 by_cases g5:(n:Int)=M
 case neg=>
  have d5:((n:Int) != M)=true:=by simpa using g5
  have d6:((n:Int)==M)=false:=by simpa using g5
  have e8:=fchk_bad (W:=W) (H:=H) (l:=l) (by intro h; exact g5 (by rw[HL.out,← HM.out]; exact h.2.2.2.2.1))
  rw[e8]
  clear HC HL HM e8 g5
  go_enter Tryz.func29,Tryz.ntmps29
  go_wp2
  go_returns
  exact⟨rfl,belowB⟩
 case pos=>
  subst g5
  have MX:∀w',Steps w w'→Calls Tryz.prog 41 #[.slice ao n cap] w' fun e w2=>e = .returned (.int .i64 (mxI l (n-1)))∧Steps w' w2:=fun w' s=>by
   have:=slmax w' (HC.out.steps s) (by have:=HL.out; omega) (by have:=HL.out; omega)
   rwa[← HL.out]at this
  have MN:∀w',Steps w w'→Calls Tryz.prog 42 #[.slice ao n cap] w' fun e w2=>e = .returned (.int .i64 (mnI l (n-1)))∧Steps w' w2:=fun w' s=>by
   have:=slmin w' (HC.out.steps s) (by have:=HL.out; omega) (by have:=HL.out; omega)
   rwa[← HL.out]at this
  have HK:=Hid.mk_ (show okV l l.length=true↔mxI l (n-1)≤4294967296∧-4294967296≤mnI l (n-1) by rw[← HL.out]; exact okV_mm (by omega))
  generalize mxI l (n-1)=mx at *
  generalize mnI l (n-1)=mn at *
  by_cases g6:4294967296<mx
  ·
   have e8:=fchk_bad (W:=W) (H:=H) (l:=l) (fun g=>by have:=HK.out.1 g.2.2.2.2.2; omega)
   rw[e8]
   clear HC HL HM HK e8 MN
   go_enter Tryz.func29,Tryz.ntmps29
   have kk:=Keeps.refl w
   go_wp2_with fail
   refine(MX _ belowB).mono ?_
   rintro e w1 ⟨rfl,hb1⟩
   have st:Steps _ w1:=hb1
   have B:=bA w st
   have kp:=kB w st
   replace kk:=kk.trans kp
   have of:Blk w1 (w.heap.size) 26 #[.int .i64 W,.int .i64 H,.slice ao n cap]:=Blk.stepsK st
   clear kp
   clear st
   go_wp2_with fail
   refine bodyPost_ret (by simp[results,Tryz.results29,go_sem,]; rfl) rfl ?_
   exact⟨rfl,belowB⟩
  ·
   by_cases g7:mn < -4294967296
   focus
    have e8:=fchk_bad (W:=W) (H:=H) (l:=l) (fun g=>by have:=HK.out.1 g.2.2.2.2.2; omega)
    rw[e8]
    clear HC HL HM HK e8
   rotate_left
   focus
    have e0:=fchk_ok p1 p2 p3 p4 (by rw[← HL.out,HM.out]) (HK.out.2 ⟨by omega,by omega⟩)
    rw[e0]
    clear HC HL HM HK e0
   rotate_left
   all_goals
    go_enter Tryz.func29,Tryz.ntmps29
    have kk:=Keeps.refl w
    go_wp2_with fail
    refine(MX _ belowB).mono ?_
    rintro e w1 ⟨rfl,hb1⟩
    have st:Steps _ w1:=hb1
    have B:=bA w st
    have kp:=kB w st
    replace kk:=kk.trans kp
    have of:Blk w1 (w.heap.size) 26 #[.int .i64 W,.int .i64 H,.slice ao n cap]:=Blk.stepsK st
    clear kp
    clear st
    obtain⟨cf0,cf1,cf2⟩:=of.r2
    have lf:=of.lt
    go_wp2_with fail
    refine(MN _ belowB).mono ?_
    rintro e w2 ⟨rfl,hb2⟩
    have st:Steps _ w2:=hb2
    have sk:=bA w1 st
    replace B:=bS B sk
    replace of:=of.steps sk
    replace kk:=kk.then_ sk
    clear st sk cf0 cf1 cf2 lf
    go_wp2_with fail
    refine bodyPost_ret (by simp[results,Tryz.results29,go_sem,]; rfl) rfl ?_
    exact⟨rfl,belowB⟩
end Go.Proofs.YtdkcffnmlllamaaGreat
