import Derived.Deep.DeepAppendWide
import Derived.Test.YtffmbepfbienaaaGreatZQg
import Derived.Deep.Upon
set_option linter.unusedVariables false
set_option linter.unusedSimpArgs false
set_option maxHeartbeats 6400000
set_option maxRecDepth 1000000
/- Rows of the call's own whose cells are no zn: what is appended, and what stays. -/
open Go.Value renaming slice->Cq,bool->Cx,int->Cz,agg->Cy,pointer->Cj
open Go.IntKind renaming i64->Cv
open Go.Ending renaming returned->Cg
open Go.Proofs.Tryz renaming prog->Ch
open Go renaming Calls->Cb,World->Cc,Value->Cd,TypeId->Ce,undef->Cf
open Nat renaming le_refl->Cl
namespace Go.Proofs.YtffmbepfbienaaaGreat
section
open Go.RowKit
variable {l xs:List Cd} {a9 n size:Nat} {e:Ce} {v:Cd} {w':Cc}
structure aW (w:Cc) (a9:Nat) (e:Ce) (size:Nat) (v:Cd) (n:Nat) (xs:List Cd):Prop where
 own:w.ownsRow a9 e size v n xs
 eD:∀g cur,v.ownBlock=some g->w.heap[g]? = some (.cells cur e (0,0))->zL cur=true
theorem aW.nil (w:Cc) (a9:Nat) (e:Ce) (size:Nat):aW w a9 e size (Cq none 0 0) 0 []:=⟨World.ownsRow_nil w a9 e size,fun _ _ h=>by cases h⟩
theorem k_ {a b:Array Cd} : zL (a++b)=(zL a&&zL b):=by unfold zL; simp
theorem qZ : zL l.toArray=true↔∀u∈l,qi u=true:=by unfold zL; simp[List.all_eq_true]; rfl
theorem ZW {z:Array Cd} (h:zL z=true) (n:Nat):zL (Builtin.zeroCells z n)=true:=by
 have J:∀u∈z.toList,qi u=true:=qZ.1 (by simpa using h);unfold zL;rw[List.all_eq_true];intro v hv;unfold Builtin.zeroCells at hv;rw[Array.toList_map,List.mem_map]at hv;obtain⟨i,I,rfl⟩:=hv;have E:i<n*z.size:=by simpa using I
 have H:0<z.size:=by rcases Nat.eq_zero_or_pos z.size with h0 | h0; (rw[h0]at E; omega); exact h0
 have M:i%z.size<z.size:=Nat.mod_lt _ H;rw[getElem!_pos z _ M];exact J _ C3
theorem XR (h:∀u∈l,qi u=true):∀u∈l.take n,qi u=true:=fun u E=>h u (List.mem_of_mem_take E)
theorem Vu (h:∀u∈l,qi u=true):∀u∈l.drop n,qi u=true:=fun u E=>h u (List.mem_of_mem_drop E)
section
variable {P:Program} (w:Cc)
theorem Y5 (a9:Nat) (t ty e:Ce) (i:TypeInfo) (z:Cd) (size T:Nat) (ht:P.underlying t=some (.slice e)) (hi:P.info? e=some i) (hz:i.zero=some z)
  (Z:i.size=size) (bg:i.bytes=T) (bl:z.cells.size=size) (bh:zL z.cells=true) (bt:0<size)
  (v:Cd) (n:Nat) (xs:List Cd) (N:aW w a9 e size v n xs)
  (a:Addr) (m c:Nat) (E:List Cd) (hm:0<m) (hl:E.length=m*size) (M:∀j u,E[j]? = some u->w.cell? (a.add j)=some u) (h1:∀u∈E,u.oneCell'=true) (ah:zL E.toArray=true)
  (bf:n+m<=maxLen) (I:((n+m)+(n+m) / 4+192)*T<=281474976710656) (b9:a9<=w.heap.size) :
  ∃v' w',(Builtin.append_ #[t,t] ty #[v,Cq (some a) m c]).run P w = .ok v' w'/\aW w' a9 e size v' (n+m) (xs++E)/\w.grownBy w' v.ownBlock:=by
 obtain⟨v',w',hr,h2,h3,-⟩:=run_append_own_wide (P:=P) w a9 t ty e i z size T ht hi hz Z bg bl bt v n xs N.own a m c E hl M h1 bf I b9;refine⟨v',w',hr,⟨h2,?_⟩,h3⟩;subst Z;subst bg
 intro g' ce J H;have be:=qZ.1 ah;have cg:n+m<=9223372036854775807:=by simp only[maxLen]at bf; omega
 rcases N.own.2 with⟨rfl,rfl⟩ | ⟨g,cap,cur,rfl,hbg,hg,hnc,hcm,hcs,htake⟩
 .
  rw[run_append_nil (P:=P) w t ty e i z ht hi hz a m c E hl M hm B_ (by simp only[Nat.zero_add]at I; exact Nat.le_trans (Nat.mul_le_mul_right _ B_) I)]at hr
  injection hr with e1 e2
  subst e1 e2
  injection J with J
  have Y:w.heap.size=g':=J;subst Y;have hx:=heap_alloc_new w.drew (.cells (E.toArray++Builtin.zeroCells z.cells (grownCap w m 0 e-m)) e);rw[show w.drew.heap.size=w.heap.size from rfl]at hx;rw[hx]at H
  injection H with H
  injection H with H
  rw[<- H,k_,ah,ZW bh]; rfl
 .
  have bq:=N.eD g cur rfl hg;have X:∀u∈cur.toList,qi u=true:=qZ.1 (by simpa using bq)
  by_cases hroom:n+m<=cap
  .
   have bi:n*i.size+E.length<=cur.size:=by rw[hl,hcs,<- Nat.add_mul]; exact Nat.mul_le_mul_right _ hroom
   rw[run_append_room (P:=P) w t ty e i ht hi g n cap cur hg a m c E hl M h1 hroom bi]at hr
   injection hr with e1 e2
   subst e1 e2
   injection J with J
   have Y:g=g':=J;subst Y;rw[setRow_heap w g cur _ e _ hg]at H
   injection H with H
   injection H with H
   rw[<- H,qZ];intro u hu;simp only[List.mem_append]at hu
   rcases hu with(hu | hu) | hu
   . exact XR X u hu
   . exact be u hu
   . exact Vu X u hu
  .
   have holds:∀j u,xs[j]? = some u->w.cell? ((⟨g,0,none⟩:Addr).add j)=some u:=N.own.cells (g:=g) rfl;rw[run_append_grow (P:=P) w t ty e i z ht hi hz ⟨g,0,none⟩ n cap xs N.own.1 holds a m c E hl M B_ B_ (growslice_fits_wide B_ I)]at hr
   injection hr with e1 e2
   subst e1 e2
   injection J with J
   have Y:w.heap.size=g':=J;subst Y;have hx:=heap_alloc_new w.drew (.cells (xs.toArray++E.toArray++Builtin.zeroCells z.cells (grownCap w (n+m) cap e-(n+m))) e);rw[show w.drew.heap.size=w.heap.size from rfl]at hx;rw[hx]at H
   injection H with H
   injection H with H
   have br:zL xs.toArray=true:=by rw[<- htake,qZ]; exact XR X
   rw[<- H,k_,k_,br,ah,ZW bh]; rfl
theorem vJ {o:Oper} {a:Act} {K:Act->Cc->Prop} {Q:Exit->Act->Cc->Prop} (s x:Operand) (t:Ce)
  (ho:o.op = .call { callee:= .builtin .append,args:=#[s,x],argTypes:=#[t,t] })
  (a9:Nat) (e:Ce) (i:TypeInfo) (z:Cd) (size H:Nat) (ht:P.underlying t=some (.slice e)) (hi:P.info? e=some i) (hz:i.zero=some z)
  (M:i.size=size) (b9:i.bytes=H) (bf:z.cells.size=size) (be:zL z.cells=true) (bg:0<size)
  (v:Cd) (n:Nat) (xs:List Cd) (hs:a.eval s=v) (T:aW w a9 e size v n xs)
  (Z:Addr) (m c:Nat) (E:List Cd) (hx:a.eval x = Cq (some Z) m c) (hm:0<m) (hl:E.length=m*size) (N:∀j u,E[j]? = some u->w.cell? (Z.add j)=some u) (h1:∀u∈E,u.oneCell'=true) (Y:zL E.toArray=true)
  (ah:n+m<=maxLen) (I:((n+m)+(n+m) / 4+192)*H<=281474976710656) (J:a9<=w.heap.size)
  (h:∀X w',aW w' a9 e size X (n+m) (xs++E)->w.grownBy w' v.ownBlock->K (a.put o.dst X) w'):o.wp P a w K Q:=by
 obtain⟨X,w',hr,h2,h3⟩:=Y5 (P:=P) w a9 t o.type e i z size H ht hi hz M b9 bf be bg v n xs T Z m c E hm hl N h1 Y ah I J;unfold Oper.wp execOp;simp only[ho,resolve,invoke,builtin,Sem.run_bind,Sem.run_pure,Result.andThen_ok,List.map_toArray,List.map_cons,List.map_nil,hs,hx,hr];exact h X w' h2 h3
end
theorem aW.drew {w:Cc} (h:aW w a9 e size v n xs):aW w.drew a9 e size v n xs:=⟨h.own.drew,h.eD⟩
theorem aW.bM {w:Cc} (h:aW w a9 e size v n xs) (I:∀g,v.ownBlock=some g->w'.heap[g]? = w.heap[g]?):aW w' a9 e size v n xs:=by
 refine⟨⟨h.own.1,?_⟩,fun g E hv hc=>h.eD g E hv ((I g hv).symm.trans hc)⟩
 rcases h.own.2 with a | ⟨g,cap,E,rfl,H,J,r⟩
 . exact .inl a
 . exact .inr ⟨g,cap,E,rfl,H,(I g rfl).trans J,r⟩
theorem aW.lt {w:Cc} (h:aW w a9 e size v n xs):∀g,v.ownBlock=some g->a9<=g/\g<w.heap.size:=by
 intro g E
 rcases h.own.2 with⟨rfl,_⟩ | ⟨g',cap,cur,rfl,hbg,hh,_⟩
 . cases E
 . cases E; exact⟨hbg,ai.lt (w:=w) (t:=e) (cs:=cur) hh⟩
theorem aW.ae {w:Cc} (h:aW w a9 e size v n xs) (H:zf w w'):aW w' a9 e size v n xs:=h.bM fun g E=>H.block g (h.lt g E).2
theorem aW.alloc {w:Cc} (h:aW w a9 e size v n xs) (o:Obj):aW (w.alloc o) a9 e size v n xs:=h.ae ((Below.refl _ _).alloc (Cl _) o)
theorem aW.af {w:Cc} (h:aW w a9 e size v n xs) (M:w.grownBy w' v.ownBlock):av w w':=by
 intro x l Y;obtain⟨h0,ao,cap,rfl,h1,X,h2⟩:=Y;refine⟨h0,ao,cap,rfl,h1,X,fun T=> ?_⟩;obtain⟨b,o,rfl,N,hc⟩:=h2 T
 have J:v.ownBlock≠some b:=by
  intro I
  rcases h.own.2 with⟨rfl,_⟩ | ⟨g,cap',cur,rfl,hbg,hh,_⟩
  . cases I
  .
   injection I with I
   have Z:g=b:=I;subst Z;have hp:0<l.length:=List.length_pos_iff.2 T;have H:=hc 0 hp;rw[ai.cell (w:=w) (t:=e) (cs:=cur) hh]at H;exact Yr (h.eD g cur rfl hh) H
 refine⟨b,o,rfl,Nat.lt_of_lt_of_le N M.size,fun t ht=> ?_⟩;have E:=hc t ht;unfold World.cell? at E|-;rw[M.block b N (Ne.symm J)]; exact E
end
section
open Go.RowKit
variable {l:List Int} {xs:List Cd} {a9 n size:Nat} {e:Ce} {v:Cd} {w':Cc}
def aC (w:Cc) (v:Cd) (l:List Int):Prop:=∃ao cap,v = Cq ao l.length cap/\l.length<=cap/\(l≠ []->∃b o,ao=some ⟨b,o,none⟩/\b<w.heap.size/\∀t,t<l.length->w.cell? ⟨b,o+t,none⟩=some (Cz Cv (l.getD t 0)))
theorem aC.ae {w:Cc} (h:aC w v l) (s:zf w w'):aC w' v l:=by
 obtain⟨ao,cap,e,hc,J⟩:=h;refine⟨ao,cap,e,hc,fun M=> ?_⟩;obtain⟨b,o,I,E,H⟩:=J M;exact⟨b,o,I,Nat.lt_of_lt_of_le E s.size,fun t ht=>(s.cell (p:=⟨b,_,none⟩) E).trans (H t ht)⟩
theorem aC.nil (w:Cc):aC w (Cq none 0 0) []:=⟨none,0,rfl,Cl _,fun h=>absurd rfl h⟩
theorem aC.au {w:Cc} (h:aC w v l):∃ao cap,v = Cq ao l.length cap:=by obtain⟨ao,cap,e,_⟩:=h; exact⟨ao,cap,e⟩
def ints (l:List Int):List Cd:=l.map (Cz Cv)
theorem YA (l:List Int) (x:Int):ints (l ++ [x])=ints l ++ [Cz Cv x]:=by unfold ints; simp
theorem aW.ints {w:Cc} (h:aW w a9 e 1 v n (ints l)):aC w v l:=by
 have E:n=l.length:=by have:=h.own.1; unfold Go.Proofs.YtffmbepfbienaaaGreat.ints at this; simpa using this.symm
 subst E
 rcases h.own.2 with⟨rfl,h0⟩ | ⟨g,cap,cur,rfl,h1,h2,h3,h4,h5,h6⟩
 .
  have:l = []:=List.eq_nil_of_length_eq_zero h0;subst this;exact aC.nil w
 .
  refine⟨_,cap,rfl,h3,fun _=>⟨g,0,rfl,(Array.getElem?_eq_some_iff.1 h2).1,fun t ht=> ?_⟩⟩;have c:=h.own.cells (g:=g) rfl t (Cz Cv (l.getD t 0)) (by unfold Go.Proofs.YtffmbepfbienaaaGreat.ints; simp[List.getD,ht]);rw[Addr.add_lit]at c;exact c
section
variable {ops:Array Oper} {rest:List Oper} {o:Oper} {a:Act} {w:Cc} {Q:Exit->Act->Cc->Prop}
theorem GS:∃E z,Tryz.prog.info? 3=some E/\E.size=1/\E.bytes=8/\E.zero=some z/\z.cells=#[Cz Cv 0]:=by
 obtain⟨E,H⟩:∃E,Tryz.prog.info? 3=some E:=Option.isSome_iff_exists.1 B';have J:(Tryz.prog.info? 3).map (·.size)=some 1:=by kernel_rfl
 have M:((Tryz.prog.info? 3).bind (·.zero)).map (·.cells)=some #[Cz Cv 0]:=by kernel_rfl
 have I:(Tryz.prog.info? 3).map (·.bytes)=some 8:=by kernel_rfl
 rw[H]at J M I;simp only[Option.map_some,Option.some.injEq,Option.bind_some]at J M I;obtain⟨z,N,e⟩:=Option.map_eq_some_iff.1 M;exact⟨E,z,H,J,I,N,e⟩
theorem UE (J:o.guard=none) (s x:Operand) (ho:o.op = .call { callee:= .builtin .append,args:=#[s,x],argTypes:=#[46,46] })
  (a9 n:Nat) (v:Cd) (l:List Int) (hs:a.eval s=v) (H:aW w a9 3 1 v n (ints l)) (g:Nat) (y:Int) (hx:a.eval x = Cq (some ⟨g,0,none⟩) 1 1) (hb:ai w g 3 #[Cz Cv y]) (hn:n<=100000) (E:a9<=w.heap.size)
  (h:∀I w',aW w' a9 3 1 I (n+1) (ints (l ++ [y]))->w.grownBy w' v.ownBlock->wpList Ch ops Q rest (a.put o.dst I) w'):wpList Ch ops Q (o::rest) a w:=by
 obtain⟨ie,z,Y,h2,Z,h4,M⟩:=GS;refine wpList_plain J fun K hK=> ?_;refine vJ w s x 46 ho a9 3 ie z 1 8 Tryz.underlying46 Y h4 h2 Z (by rw[M]; rfl) (by rw[M]; rfl) B_ v n (ints l) hs H ⟨g,0,none⟩ 1 1 [Cz Cv y] hx B_ rfl (fun j u X=> ?_) (fun u N=> ?_) rfl (by unfold maxLen; omega) B_ E (fun I w' hr T=>hK _ _ (h I w' ?_ T))
 .
  have hc:=hb.cell j;rw[show (⟨g,0,none⟩:Addr).add j=⟨g,0+j,none⟩ from Addr.add_lit ..,Nat.zero_add,hc];simpa using X
 .
  simp only[List.mem_cons,List.not_mem_nil,or_false]at N;rw[N]; rfl
 . rw[YA]; exact hr
end
def vK (n:Nat) (R:Nat->Nat->Option Rat) (q:Nat->Option Rat) (o:Option Rat):List Int×Int:=
 if 500<n then([],4)else if yN R n&&yw q 4 then(if ZQ o then(qD R q (rq (fun _=>o) 0) n,0)else([],2))else([],8)
theorem Vv (R:Nat->Nat->Option Rat) (q:Nat->Option Rat) (off:Rat) {n:Nat} (E:n<=1000):(qD R q off n).length<=100000:=by have:=kY R q off n; omega
theorem aW.len {w:Cc} (h:aW w a9 e size v n xs):∃a c,v = Cq a n c:=by
 rcases h.own.2 with⟨rfl,rfl⟩ | ⟨g,cap,cur,rfl,_⟩
 . exact⟨_,_,rfl⟩
 . exact⟨_,_,rfl⟩
theorem aW.below {w E:Cc} (h:aW w a9 e size v n xs) (J:w.grownBy w' v.ownBlock) (I:Below E.heap.size E w) (H:E.heap.size<=a9):Below E.heap.size E w':=
 I.grown J I.size fun k M=>Nat.le_trans H (h.lt k M).1
theorem aW.bP {w:Cc} {b:Nat} {t:Ce} {cs:Array Cd} (h:aW w a9 e size v n xs) (J:w.grownBy w' v.ownBlock) (E:ai w b t cs) (I:b<a9):ai w' b t cs:=
 (J.block b E.lt fun H=>by have:=(h.lt b H.symm).1; omega).trans E
theorem GT {vf:Cd} {CS:Nat->Array Cd} {R:Nat->Nat->Option Rat} {X:Array Cd} {q:Nat->Option Rat} {o:Option Rat} (w:Cc) (h:dH w v n CS R) (hn:n<=1000) (hq:QX w X q) (hf:FB w vf o) (sR:∀t,t<n->∀i,i<4->sz (rq (R t) i) 500) (sq:∀i,i<4->sz (rq q i) 500) (sf:sz (rq (fun _=>o) 0) 500) :
  Cb Ch 110 #[v,Cy X,vf] w fun e w'=>∃u,e = Cg (.tuple #[u,Cz Cv (vK n R q o).2])/\aC w' u (vK n R q o).1/\zf w w':=by
 have ia:(Tryz.prog.info? 83).map (·.size)=some X.size:=by rw[hq.1]; kernel_rfl
 have za:=hq.1;obtain⟨t1,t2,t3,t4,t5,t6,t7,t8,rfl⟩:=hf.au;obtain⟨ao,cap,rfl⟩:=h.au;have HS:=C5 h;have wl:∀w',zf w w'->Cb Ch 146 #[Cq ao n cap] w' fun e w2=>e = Cg (Cx (yN R n))/\zf w' w2:=fun w' s=>Vi w' (h.ae s) hn
 have wq:∀w' g,av w w'->ai w' g 83 X->Cb Ch 146 #[Cq (some ⟨g,0,none⟩) 1 1] w' fun e w2=>e = Cg (Cx (yw q 4))/\zf w' w2:=fun w' g k hb=>by
  have:=Vi w' ((hq.af k).one hb) B_;rw[QJ]at this;exact this
 have ck:∀w',av w w'->Cb Ch 58 #[Cy #[Cx t1,Cq t2 t3 t4,Cx t5,Cq t6 t7 t8]] w' fun e w2=>e = Cg (Cz Cv (Ki o.isSome))/\zf w' w2:=fun w' k=>k9 w' (hf.af k)
 have Z:yN R n=true->yw q 4=true->ZQ o=true->∀t,t<n->∀w',av w w'->Cb Ch 147 #[Cy (CS t),Cy X,Cy #[Cx t1,Cq t2 t3 t4,Cx t5,Cq t6 t7 t8]] w' fun e w2=>e = Cg (.tuple #[Cx (qg (rq (R t)) (rq q) (rq (fun _=>o) 0) 4),Cz Cv 0])/\zf w' w2:=fun h1 h2 h3 t ht w' k=>by
  obtain⟨z,rfl,-⟩:=XO h3;exact GH w' (((h.1 t ht).qv (ZO h1 t ht)).af k) ((hq.qv h2).af k) (FR.af hf k) (sR t ht) sq sf
 have hl:=hf.neg;have HN:Hid (vK n R q o=if 500<n then([],4)else if yN R n&&yw q 4 then(if ZQ o then(qD R q (rq (fun _=>o) 0) n,0)else([],2))else([],8)):=C5 rfl;generalize vK n R q o=N at *;have HF:∀t,qD R q (rq (fun _=>o) 0) (t+1)=if qg (rq (R t)) (rq q) (rq (fun _=>o) 0) 4 then qD R q (rq (fun _=>o) 0) t ++ [(t:Int)]else qD R q (rq (fun _=>o) 0) t:=fun t=>rfl
 have f9:qD R q (rq (fun _=>o) 0) 0 = []:=rfl;have cY:∀t,t<=n->(qD R q (rq (fun _=>o) 0) t).length<=100000:=fun t ht=>Vv _ _ _ B_;generalize hfd:qD R q (rq (fun _=>o) 0)=fd at *;obtain⟨nf,dk⟩:∃nf:Nat->Bool,∀t,qg (rq (R t)) (rq q) (rq (fun _=>o) 0) 4=nf t:=⟨_,fun _=>rfl⟩;simp only[dk]at Z HF;have eM:=C5 HF;have d9:=C5 cY;clear HF cY hfd dk;generalize yN R n=wa at *;generalize yw q 4=wb at *;generalize ZQ o=lo at *;generalize o.isSome=so at *;clear h hq hf sR sq sf
 go_enter Tryz.func110,Tryz.ntmps110
 by_cases g5:500<n
 .
  have er:(500:Int)<(n:Int):=B_
  have M:Hid (N=([],4)):=C5 (by rw[HN.out,C7 g5]);clear HN wl wq ck Z;go_wp2_with fail
  go_returns
  exact⟨_,by rw[M.out]; rfl,by rw[M.out]; exact aC.nil _,zi⟩
 have er:¬(500:Int)<(n:Int):=B_
 have E:Hid (N=if wa&&wb then(if lo then(fd n,0)else([],2))else([],8)):=C5 (by rw[HN.out,C8 g5]);clear HN;go_wp2_with fail
 refine(wl _ zi).mono ?_;rintro e w1 ⟨rfl,bf⟩;have I:av w w1:=av.aI zo bf;have oq:ai w1 w.heap.size 83 X:=ai.ak bf;have H:ai w1 (w.heap.size+1) 28 #[Cx t1,Cq t2 t3 t4,Cx t5,Cq t6 t7 t8]:=ai.ak bf;have B:Below w.heap.size w w1:=yQ bf;clear bf;clear wl
 cases wa with
 | false=>
  have M:Hid (N=([],8)):=C5 E.out;clear E wq ck Z;go_wp2_with fail
  go_returns
  exact⟨_,by rw[M.out]; rfl,by rw[M.out]; exact aC.nil _,zi⟩
 | true=>
  have fm:=B.size;dsimp only
  repeat' (first | ((with_reducible show wpList _ _ _ (⟨some 22,_,_,_,_,_⟩::_) _ _); refine Yv rfl 83 (.tmp 4) rfl w.heap.size rfl 83 X _ oq Tryz.underlying83 rfl ia ?_) | ((with_reducible show wpList _ _ _ (⟨some 23,_,_,_,_,_⟩::_) _ _); refine WE rfl (.tmp 22) rfl X rfl za ?_) | go_values | go_skip | go_guarded | go_step | go_upon)
  refine(wq _ _ (I.trans zo) zw).mono ?_;rintro e w2 ⟨rfl,bi⟩;replace I:av w w2:=(I.trans zo).aI bi;replace oq:ai w2 w.heap.size 83 X:=ai.ak bi;replace H:ai w2 (w.heap.size+1) 28 #[Cx t1,Cq t2 t3 t4,Cx t5,Cq t6 t7 t8]:=ai.ak bi;replace B:Below w.heap.size w w2:=yQ bi;clear bi;clear wq
  cases wb with
  | false=>
   have M:Hid (N=([],8)):=C5 E.out;clear E ck Z;go_wp2_with fail
   go_returns
   exact⟨_,by rw[M.out]; rfl,by rw[M.out]; exact aC.nil _,zi⟩
  | true=>
   replace Z:=Z rfl rfl;have bl:=H.c 0 rfl;have bh:=H.c 1 rfl;have b9:=H.c 2 rfl;have be:=H.c 3 rfl;go_wp2_with fail
   refine(ck _ (I.trans zo)).mono ?_;rintro e w3 ⟨rfl,bg⟩;clear bl bh b9 be;replace I:av w w3:=(I.trans zo).aI bg;replace oq:ai w3 w.heap.size 83 X:=ai.ak bg;replace H:ai w3 (w.heap.size+1) 28 #[Cx t1,Cq t2 t3 t4,Cx t5,Cq t6 t7 t8]:=ai.ak bg;replace B:Below w.heap.size w w3:=yQ bg;clear bg;clear ck;have bl:=H.c 0 rfl;have bh:=H.c 1 rfl;have b9:=H.c 2 rfl;have be:=H.c 3 rfl
   cases so with
   | false=>
    have e0:lo=false:=hl;rw[e0]at E;have M:Hid (N=([],2)):=C5 E.out;clear E Z hl;rw[show Ki false=8 from rfl];go_wp2_with fail
    go_returns
    exact⟨_,by rw[M.out]; rfl,by rw[M.out]; exact aC.nil _,zi⟩
   | true=>
    rw[show Ki true=0 from rfl]
    cases t1 with
    | true=>
     have e0:lo=false:=hl;rw[e0]at E;have M:Hid (N=([],2)):=C5 E.out;clear E Z hl;go_wp2_with fail
     go_returns
     exact⟨_,by rw[M.out]; rfl,by rw[M.out]; exact aC.nil _,zi⟩
    | false=>
     have e0:lo=true:=hl;rw[e0]at E;have dc:Hid (N=(fd n,0)):=C5 E.out;replace Z:=Z e0;clear hl e0 E;go_wp2_with fail
     clear bl bh b9 be
     go_loopw [8,38] (fun oo I wr=>∃ (t:Nat) (ow:Cd),ow=oo/\t<=n/\I = Cz Cv t/\aW wr (w.heap.size+2) 3 1 ow (fd t).length (ints (fd t))/\ai wr w.heap.size 83 X/\ai wr (w.heap.size+1) 28 #[Cx false,Cq t2 t3 t4,Cx t5,Cq t6 t7 t8]/\Below w.heap.size w wr/\av w wr) (fun _ I _=>n-(intOf I).toNat)
     case atStart=>exact⟨0,_,rfl,Nat.zero_le _,rfl,by rw[f9]; exact aW.nil _ _ _ _,zw,zw,zi,I.trans zo⟩
     case round=>
      obtain⟨t,ow,rfl,ht,rfl,hr,zq,zc,zB,zk⟩:=hrel;clear oq H B I;have oq:=zq;have H:=zc;have B:=zB;have I:=zk;clear zq zc zB zk;obtain⟨oa,ce,rfl⟩:=hr.len;have HR:=C5 hr;clear hr
      rcases Nat.lt_or_ge t n with tn | tn
      .
       have fl:decide ((t:Int)<(n:Int))=true:=C9 B_;obtain⟨b,o',rfl,hb,J⟩:=HS.out.at tn;have qx:=HS.out.1 t tn;have nc:=Z t tn;have dy:=C5 (eM.out t);have cN:=d9.out t ht;obtain⟨C,hC⟩:∃C,CS t=C:=⟨_,rfl⟩;rw[hC]at J qx nc;have ci:=qx.1;have bt:=qx.2.1;have dl:∀j,j<C.size->wr.cell? ⟨b,o'+t*20+j,none⟩=C[j]? :=fun j hj=>(B.cell (p:=⟨b,_,none⟩) hb).trans (J j B_);have ic:(Tryz.prog.info? 83).map (·.size)=some C.size:=by rw[ci]; kernel_rfl
       generalize nf t=nt at *;have zz:=B.size;have bl:=H.c 0 rfl;have bh:=H.c 1 rfl;have b9:=H.c 2 rfl;have be:=H.c 3 rfl;have lc:=H.lt;clear J hC qx Z
       repeat' (first | ((with_reducible show wpList _ _ _ (⟨some 42,_,_,_,_,_⟩::_) _ _); refine kJ rfl 83 (.tmp 41) rfl b (o'+t*20) rfl C _ dl Tryz.underlying83 rfl ic ?_) | ((with_reducible show wpList _ _ _ (⟨none,.store _ _ _,_,_,_,_⟩::_) _ _); refine zE rfl 83 (.tmp 10) (.tmp 42) rfl wr.heap.size C rfl rfl 83 Jf zw ic ci.symm bt (fun w5 r5=> ?_); have cg:=r5.a_ (oq.alloc _) B_; have Y:=r5.a_ (H.alloc _) B_; have dd:=r5.bP; have f8:=Y.c 0 rfl; have dP:=Y.c 1 rfl; have eW:=Y.c 2 rfl; have f7:=Y.c 3 rfl) | ((with_reducible show wpList _ _ _ (⟨some 44,_,_,_,_,_⟩::_) _ _); refine zP rfl 83 (.tmp 10) rfl wr.heap.size rfl 83 C _ dd Tryz.underlying83 rfl ic ?_) | ((with_reducible show wpList _ _ _ (⟨some 45,_,_,_,_,_⟩::_) _ _); refine zP rfl 83 (.tmp 4) rfl w.heap.size rfl 83 X _ cg Tryz.underlying83 rfl ia ?_) | go_values | go_skip | go_guarded | go_step | go_upon)
       have B5:Below w.heap.size w w5:=r5.below (B.alloc B.size _) B.size;have kw:av wr w5:=av.trans zo (r5.af rfl);have dx:aW w5 (w.heap.size+2) 3 1 (Cq oa (fd t).length ce) (fd t).length (ints (fd t)):=(HR.out.alloc _).bM fun g hg=>r5.only.2 g (by have:=(HR.out.lt g hg).2; omega);refine(nc _ (I.trans kw)).mono ?_;rintro e w6 ⟨rfl,T⟩;have cy:ai w6 w.heap.size 83 X:=cg.ae T;have br:ai w6 (w.heap.size+1) 28 #[Cx false,Cq t2 t3 t4,Cx t5,Cq t6 t7 t8]:=Y.ae T;have B6:Below w.heap.size w w6:=zp B5 (Cl _) T;have k6:av w w6:=(I.trans kw).aI T;have bq:=C5 (dx.ae T);clear r5 cg Y dd f8 dP eW f7 bl bh b9 be T B5 kw dx nc dl ic bt oq H B I HR lc zz ci;have zz:=B6.size;have lc:=br.lt
       cases nt with
       | false=>
        go_wp2_with fail
        go_roundw
        case rel=>exact⟨t+1,_,rfl,by omega,by go_num,by rw[dy.out]; exact bq.out,cy,br,B6,k6⟩
        case measure=>simp[intOf]; omega
       | true=>
        dsimp only
        repeat' (first | ((with_reducible show wpList _ _ _ (⟨some 57,_,_,_,_,_⟩::_) _ _); refine UE rfl (.tmp 54) (.tmp 56) rfl (w.heap.size+2) (fd t).length (Cq oa (fd t).length ce) (fd t) rfl (bq.out.alloc _) w6.heap.size t rfl (ai.new _ _ _) cN C4 (fun v' w7 cx ah=> ?_)) | go_values | go_skip | go_guarded | go_step | go_upon)
        obtain⟨fe,ek,rfl⟩:=cx.len;have r6:=bq.out.alloc (.cells #[Cz Cv (t:Int)] 3);have eF:=r6.bP ah (cy.alloc _) B_;have ec:=r6.bP ah (br.alloc _) B_;have B7:=r6.below ah (B6.alloc B6.size _) B_;have k7:av w w7:=(k6.alloc _).trans (r6.af ah);have em:=C5 cx;clear r6 ah cx bq cy br B6 k6 cN
        go_roundw
        case rel=>exact⟨t+1,_,rfl,by omega,by go_num,by rw[dy.out]; simpa using em.out,eF,ec,B7,k7⟩
        case measure=>simp[intOf]; omega
      .
       obtain rfl:t=n:=B_
       go_wp2_with fail
       go_returns
       exact⟨_,by rw[dc.out]; rfl,by rw[dc.out]; exact HR.out.ints,B⟩
theorem aC.at {w:Cc} {ao:Option Addr} {cap:Nat} (h:aC w (Cq ao n cap) l) {t:Nat} (ht:t<l.length):∃b o,ao=some ⟨b,o,none⟩/\b<w.heap.size/\w.cell? ⟨b,o+t,none⟩=some (Cz Cv (l.getD t 0)):=by
 obtain⟨H,E,e,_,I⟩:=h
 injection e with M N T
 subst M;obtain⟨b,o,e,J,hc⟩:=I (fun e=>by rw[e]at ht; cases ht);exact⟨b,o,e,J,hc t ht⟩
theorem YB {va vb:Cd} (w:Cc) (h:aC w va l) (Y:aC w vb l) (hl:l.length<=100000):Cb Ch 27 #[va,vb] w fun e w'=>e = Cg (Cx true)/\zf w w':=by
 have HA:=C5 h;have HB:=C5 Y;obtain⟨ao,cap,rfl⟩:=h.au;obtain⟨bo,be,rfl⟩:=Y.au;obtain⟨n,T⟩:∃n,l.length=n:=⟨_,rfl⟩;have HL:=C5 T;rw[T]at HA HB hl|-;clear h Y T
 go_enter Tryz.func27,Tryz.ntmps27
 go_wp2_with fail
 go_loopw [5] (fun X wr=>∃i:Nat,i<=n/\X = Cz Cv i/\Below w.heap.size w wr) (fun X _=>n-(intOf X).toNat)
 case atStart=>exact⟨0,by omega,rfl,zi⟩
 case round=>
  obtain⟨i,hi,rfl,B⟩:=hrel
  rcases Nat.lt_or_ge i n with i4 | i4
  .
   have b9:decide ((i:Int)<(n:Int))=true:=C9 B_;obtain⟨b,o,rfl,hb,ha⟩:=HA.out.at (t:=i) (by have:=HL.out; omega);obtain⟨b',o',rfl,Z,J⟩:=HB.out.at (t:=i) (by have:=HL.out; omega);obtain⟨x,hx⟩:∃x,l.getD i 0=x:=⟨_,rfl⟩;rw[hx]at ha J;have ah:(x==x)=true:=by simp
   clear hx
   repeat' (first | go_values | go_skip | go_guarded | go_step | go_upon)
   refine aj.aM (fun D v W=>Below wr.heap.size wr W/\True) (aj.inl []) (aj.gv []) aj.aU (fun _=>aj.Any) (fun _ _=>False) (aj.pl []) (aj.pl [])
    B' B' B' (aj.dK _) (fun _=>⟨zi,trivial⟩) (fun _ _ _ _ _ h=>h) (fun _ _ _ _ _ _ _ _ _ _ _ _ _=>aj.none_) (fun _ _ _ _ h=>h.elim) (fun M Q' I hQ=> ?_)
   repeat refine aj.aK _ ?_
   apply aj.RP rfl rfl rfl 20 rfl rfl
   .
    intro D v W hc H hf K' E;obtain⟨N,_⟩:=H;have c0:W.cell? ⟨b,o+i,none⟩=some (Cz Cv x):=(zp B (Cl _) N).cell (p:=⟨b,_,none⟩) hb |>.trans ha
    go_step;exact E.out
   . rfl
   repeat refine aj.aK _ ?_
   apply aj.RP rfl rfl rfl 24 rfl rfl
   .
    intro D v W hc H hf K' E;obtain⟨N,_⟩:=H;have c0:W.cell? ⟨b',o'+i,none⟩=some (Cz Cv x):=(zp B (Cl _) N).cell (p:=⟨b',_,none⟩) Z |>.trans J
    go_step;exact E.out
   . rfl
   refine aj.aK 25 ?_;refine aj.aH (fun D v w9 hd H hf=> ?_);obtain⟨B9,_⟩:=H;clear hd hf;refine hQ _ _ ?_;clear hQ I Q' M;have B6:=zp B (Cl _) B9
   go_wp2
   go_roundw
   case rel=>exact⟨i+1,by omega,by go_num,B6⟩
   case measure=>simp[intOf]; omega
  .
   obtain rfl:i=n:=B_
   go_wp2
   go_returns
   exact⟨rfl,B⟩
def WK (la lb:Nat->Nat):Nat->Bool
 | 0=>false
 | i+1=>WK la lb i||(decide (6<la i)||decide (6<lb i))
end
section
open Go.RowKit
variable {cs:Array Cd} {x y:Int} {k p q:Nat->Int} {a b c d v:Cd} {w w':Cc}
def et (w:Cc) (x y:Int) (a b c d:Cd):Prop:=az w (Cy #[a,b]) x/\az w (Cy #[c,d]) y
theorem et.af (h:et w x y a b c d) (k:av w w'):et w' x y a b c d:=⟨h.1.af k,h.2.af k⟩
theorem az.bG (h:az w (Cy #[a,b]) x):∃g s n c,a = Cx g/\b = Cq s n c:=by
 obtain⟨s,e,E⟩:=h;obtain⟨ao,cap,rfl⟩:=E.au;simp only[Value.agg.injEq,Array.mk.injEq,List.cons.injEq,and_true]at e;exact⟨_,_,_,_,e.1,e.2⟩
set_option maxHeartbeats 6400000 in
set_option maxRecDepth 1000000 in
theorem QP {X b' c' T:Cd} (w:Cc) (h:et w x y a b c d) (I:et w x y X b' c' T) (fx:fits x) (Z:fits y) :
  Cb Ch 16 #[Cy #[a,b,c,d],Cy #[X,b',c',T]] w fun e w'=>e = Cg (Cx true)/\zf w w':=by
 have s1:∀w',zf w w'->Cb Ch 44 #[Cy #[a,b],Cy #[X,b']] w' fun e M=>e = Cg (Cx true)/\zf w' M:=fun w' J=>by
  have:=UY w' (h.1.ae J) (I.1.ae J) fx fx
  rwa[C9 rfl]at this
 have s2:∀w',zf w w'->Cb Ch 44 #[Cy #[c,d],Cy #[c',T]] w' fun e M=>e = Cg (Cx true)/\zf w' M:=fun w' J=>by
  have:=UY w' (h.2.ae J) (I.2.ae J) Z Z
  rwa[C9 rfl]at this
 obtain⟨g1,t1,n1,q1,rfl,rfl⟩:=h.1.bG;obtain⟨g2,t2,n2,q2,rfl,rfl⟩:=h.2.bG;obtain⟨g3,t3,n3,q3,rfl,rfl⟩:=I.1.bG;obtain⟨g4,t4,n4,q4,rfl,rfl⟩:=I.2.bG;clear h I fx Z
 go_enter Tryz.func16,Tryz.ntmps16
 go_wp2_with fail
 refine(s1 _ zi).mono ?_;rintro e w1 ⟨rfl,E⟩;have B:Below w.heap.size w w1:=yQ E;have oa:ai w1 w.heap.size 28 #[Cx g1,Cq t1 n1 q1,Cx g2,Cq t2 n2 q2]:=ai.ak E;have Y:ai w1 (w.heap.size+1) 28 #[Cx g3,Cq t3 n3 q3,Cx g4,Cq t4 n4 q4]:=ai.ak E;clear E s1;have N:=oa.q2;have be:=oa.q3;have ah:=Y.q2;have b9:=Y.q3;go_wp2_with fail
 refine(s2 _ B).mono ?_;rintro e M ⟨rfl,H⟩;have B2:=zp B (Cl _) H;clear oa Y N be ah b9 H B s2
 go_wp2
 go_returns
 exact⟨rfl,zi⟩
def QM (w:Cc) (cs:Array Cd) (k p q:Nat->Int):Prop:=cs.size=20/\cs.all (·.oneCell')=true/\(∀i,i<4->cs[i]? = some (Cz Cv (k i)))/\
 ∀i,i<4->∃a b c d,cs[4+i*4]? = some a/\cs[4+i*4+1]? = some b/\cs[4+i*4+2]? = some c/\cs[4+i*4+3]? = some d/\et w (p i) (q i) a b c d
theorem QM.af (h:QM w cs k p q) (X:av w w'):QM w' cs k p q:=by
 obtain⟨N,T,E,I⟩:=h;refine⟨N,T,E,fun i H=> ?_⟩;obtain⟨a,b,c,d,Z,M,J,Y,f⟩:=I i H;exact⟨a,b,c,d,Z,M,J,Y,f.af X⟩
theorem QM.ae (h:QM w cs k p q) (s:zf w w'):QM w' cs k p q:=h.af (av.ae s)
theorem QN.qm {a:aT} (h:QN w v a):∃cs,v = Cy cs/\QM w cs (kA a) (fun i=>cP (cA a i) a.n) (fun i=>cQ (cA a i) a.n):=by
 obtain⟨c0,c1,c2,c3,c4,c5,c6,c7,c8,c9,M,N,X,Z,Y,T,rfl,h0,E,I,H⟩:=h;refine⟨_,rfl,rfl,?_,fun i J=> ?_,fun i J=> ?_⟩
 .
  obtain⟨_,_,_,_,rfl,rfl⟩:=h0.1.bG;obtain⟨_,_,_,_,rfl,rfl⟩:=h0.2.bG;obtain⟨_,_,_,_,rfl,rfl⟩:=E.1.bG;obtain⟨_,_,_,_,rfl,rfl⟩:=E.2.bG;obtain⟨_,_,_,_,rfl,rfl⟩:=I.1.bG;obtain⟨_,_,_,_,rfl,rfl⟩:=I.2.bG;obtain⟨_,_,_,_,rfl,rfl⟩:=H.1.bG;obtain⟨_,_,_,_,rfl,rfl⟩:=H.2.bG;simp[Value.oneCell']
 . rcases(show i=0\/i=1\/i=2\/i=3 by omega)with rfl | rfl | rfl | rfl<;>rfl
 .
  rcases(show i=0\/i=1\/i=2\/i=3 by omega)with rfl | rfl | rfl | rfl
  . exact⟨_,_,_,_,rfl,rfl,rfl,rfl,h0⟩
  . exact⟨_,_,_,_,rfl,rfl,rfl,rfl,E⟩
  . exact⟨_,_,_,_,rfl,rfl,rfl,rfl,I⟩
  . exact⟨_,_,_,_,rfl,rfl,rfl,rfl,H⟩
def Ho:PL:= [(0,0),(4,0),(1,1),(3,2)]
def H7 (i:Nat):Int:=match i with | 0=>0 | 1=>1 | 2=>2 | _=>3
def kT (k:Nat->Int) (i:Nat):Int:=k (Xd 2 0 3 1 i)
def GR (l:PL):List Cd:=l.flatMap fun p=> [Cz Cv p.1,Cz Cv p.2]
theorem UB (l:PL):(GR l).length=l.length*2:=by
 induction l with
 | nil=>rfl
 | cons p r ih=>show ((GR r).length+1+1)=_; rw[ih]; simp only[List.length_cons]; omega
theorem Jt (l:PL):∀t,t<l.length->(GR l)[t*2]? = some (Cz Cv (l.getD t (0,0)).1)/\(GR l)[t*2+1]? = some (Cz Cv (l.getD t (0,0)).2):=by
 induction l with
 | nil=>intro t h; cases h
 | cons p r ih=>
  intro t h
  match t with
  | 0=>exact⟨rfl,rfl⟩
  | t+1=>
   have:=ih t (by simp only[List.length_cons]at h; omega);rw[show (t+1)*2=t*2+1+1 by omega];exact this
theorem bJ.own {a9 n:Nat} {l:PL} (h:w.ownsRow a9 23 2 v n (GR l)) (E:∀k,-9223372036854775808<=(l.getD k (0,0)).1/\(l.getD k (0,0)).1<=9223372036854775807/\-9223372036854775808<=(l.getD k (0,0)).2/\(l.getD k (0,0)).2<=9223372036854775807):bJ w v l:=by
 have H:n=l.length:=by have:=h.1; rw[UB]at this; omega
 subst H
 rcases h.2 with⟨rfl,h0⟩ | ⟨g,cap,cur,rfl,h1,h2,h3,h4,h5,h6⟩
 .
  have:l = []:=List.eq_nil_of_length_eq_zero h0;subst this;exact⟨E,none,0,rfl,Cl _,fun h=>absurd rfl h⟩
 .
  refine⟨E,_,cap,rfl,h3,fun _=>⟨g,0,rfl,?_,fun t ht=> ?_⟩⟩
  . exact(Array.getElem?_eq_some_iff.1 h2).1
  .
   have c:=h.cells (g:=g) rfl;have a:=c (t*2) _ (Jt l t ht).1;have b:=c (t*2+1) _ (Jt l t ht).2;rw[Addr.add_lit]at a b;rw[Nat.zero_add]at *;exact⟨a,b⟩
def Br (n:Nat) (x:Cd):Prop:=∃a c,x = Cq a n c
def Hp (a:aT) (x:Int):Nat->Nat
 | 0=>0
 | m+1=>Hp a x m+if kA a m=x then 1 else 0
open Go.RowKit
theorem QM.qf {a:aT} (T:0<a.n) (Z:dp a) (h:QM w cs (kA a) (fun i=>cP (cA a i) a.n) (fun i=>cQ (cA a i) a.n)):QF w cs (kA a) (rA a):=by
 obtain⟨N,h2,X,h4⟩:=h;refine⟨N,h2,X,fun i I=> ?_⟩;obtain⟨a',b,c,d,c0,M,c2,c3,E,H⟩:=h4 i I;have Y:cP (cA a i) a.n=(rA a i).num:=by unfold cP rA; rw[C8 B_]
 have J:cQ (cA a i) a.n=((rA a i).den:Int):=by unfold cQ rA; rw[C8 B_]
 dsimp only at E H;rw[Y]at E;rw[J]at H;obtain⟨g,s,m,t,rfl,rfl⟩:=E.bG;obtain⟨g',s',m',t',rfl,rfl⟩:=H.bG;have z:=(U7 Z T i).fits B_;exact⟨_,_,_,_,_,_,_,_,c0,M,c2,c3,cB.mk' E H (qc _) (Jm _) z.1 z.2⟩
structure fv (l:PL) (a:aT) (m:Nat->Nat):Prop where
 lt:∀i,i<4->m i<l.length
 k:∀i,i<4->kA a i=(m i:Int)
 x2:rA a 0*(((pt l (m 1)).1-(pt l (m 0)).1:Int):Rat)-rA a 1*(((pt l (m 1)).2-(pt l (m 0)).2:Int):Rat)=(((pt l (m 2)).1-(pt l (m 0)).1:Int):Rat)
 y2:rA a 0*(((pt l (m 1)).2-(pt l (m 0)).2:Int):Rat)+rA a 1*(((pt l (m 1)).1-(pt l (m 0)).1:Int):Rat)=(((pt l (m 2)).2-(pt l (m 0)).2:Int):Rat)
 x3:rA a 2*(((pt l (m 1)).1-(pt l (m 0)).1:Int):Rat)-rA a 3*(((pt l (m 1)).2-(pt l (m 0)).2:Int):Rat)=(((pt l (m 3)).1-(pt l (m 0)).1:Int):Rat)
 y3:rA a 2*(((pt l (m 1)).2-(pt l (m 0)).2:Int):Rat)+rA a 3*(((pt l (m 1)).1-(pt l (m 0)).1:Int):Rat)=(((pt l (m 3)).2-(pt l (m 0)).2:Int):Rat)
end
end Go.Proofs.YtffmbepfbienaaaGreat
/- Lists of quads that a function collects. -/
namespace Go.Proofs.YtffmbepfbienaaaGreat
section
open Go.RowKit
variable {qa:List aT} {a9:Nat} {ow v:Cd} {w':Cc}
def dA (w:Cc) (v:Cd) (qa:List aT):Prop:=∃ao cap,v = Cq ao qa.length cap/\qa.length<=cap/\∃E:Nat->Array Cd,(∀t,t<qa.length->QF w (E t) (kA (qa.getD t zM)) (rA (qa.getD t zM)))/\
 (0<qa.length->∃b o,ao=some ⟨b,o,none⟩/\b<w.heap.size/\Ve w b o qa.length E)
theorem dA.ae {w:Cc} (h:dA w v qa) (s:zf w w'):dA w' v qa:=by
 obtain⟨ao,cap,e,hc,N,M,T⟩:=h;refine⟨ao,cap,e,hc,N,fun t ht=>(M t ht).ae s,fun X=> ?_⟩;obtain⟨b,o,J,E,H⟩:=T X;exact⟨b,o,J,Nat.lt_of_lt_of_le E s.size,fun t ht j I=>(s.cell (p:=⟨b,_,none⟩) E).trans (H t ht j I)⟩
theorem dA.nil (w:Cc):dA w (Cq none 0 0) []:=⟨none,0,rfl,Cl _,fun _=>#[],fun t ht=>(by cases ht),fun h=>(by cases h)⟩
theorem dA.au {w:Cc} (h:dA w v qa):∃ao cap,v = Cq ao qa.length cap:=by obtain⟨ao,cap,e,_⟩:=h; exact⟨ao,cap,e⟩
theorem QF.qx {w:Cc} {cs:Array Cd} {k:Nat->Int} {r:Nat->Rat} (h:QF w cs k r):QX w cs (fun i=>some (r i)):=by
 refine⟨h.1,h.2.1,h.eD,fun i H=> ?_⟩;obtain⟨a1,a2,Y,a4,J,N,X,T,Z,M,I,E,f⟩:=h.2.2.2 i H;exact⟨a1,a2,Y,a4,J,N,X,T,Z,M,I,E,f⟩
theorem dA.fk {w:Cc} (h:dA w v qa):∃E,dH w v qa.length E (fun t i=>some (rA (qa.getD t zM) i))/\∀t,t<qa.length->QF w (E t) (kA (qa.getD t zM)) (rA (qa.getD t zM)):=by
 obtain⟨ao,cap,e,hc,E,H,I⟩:=h;exact⟨E,⟨fun t ht=>(H t ht).qx,ao,cap,e,hc,I⟩,H⟩
def Y6 (l:List (Array Cd)):List Cd:=l.flatMap (·.toList)
theorem J7 (l:List (Array Cd)) (c:Array Cd):Y6 (l ++ [c])=Y6 l++c.toList:=by unfold Y6; simp
theorem XS:∀ (l:List (Array Cd)) (t j:Nat),(∀c∈l,c.size=20)->t<l.length->j<20->(Y6 l)[t*20+j]? = (l.getD t #[])[j]?
 | [],t,j,_,ht,_=>by cases ht
 | c::l,0,j,hs,_,hj=>by
  have h0:c.size=20:=hs c (List.mem_cons.2 (.inl rfl))
  show (c.toList++Y6 l)[0*20+j]? = _
  rw[List.getElem?_append_left (by simp; omega),show 0*20+j=j by omega];simp[List.getD]
 | c::l,t+1,j,hs,ht,hj=>by
  have h0:c.size=20:=hs c (List.mem_cons.2 (.inl rfl));have E:=XS l t j (fun x H=>hs x (List.mem_cons.2 (.inr H))) (by simpa using ht) hj
  show (c.toList++Y6 l)[(t+1)*20+j]? = _
  rw[List.getElem?_append_right (by simp; omega)];rw[show (t+1)*20+j-c.toList.length=t*20+j by simp; omega,E];simp[List.getD]
def bF (w:Cc) (a9:Nat) (ow:Cd) (qa:List aT):Prop:=∃cs:List (Array Cd),aW w a9 83 20 ow qa.length (Y6 cs)/\cs.length=qa.length/\∀t,t<qa.length->QF w (cs.getD t #[]) (kA (qa.getD t zM)) (rA (qa.getD t zM))
theorem bF.nil (w:Cc) (a9:Nat):bF w a9 (Cq none 0 0) []:=⟨[],aW.nil _ _ _ _,rfl,fun t ht=>(by cases ht)⟩
theorem bF.bM {w:Cc} (h:bF w a9 ow qa) (M:∀g,ow.ownBlock=some g->w'.heap[g]? = w.heap[g]?) (J:av w w'):bF w' a9 ow qa:=by
 obtain⟨cs,H,I,E⟩:=h;exact⟨cs,H.bM M,I,fun t ht=>(E t ht).af J⟩
theorem bF.lt {w:Cc} (h:bF w a9 ow qa):∀g,ow.ownBlock=some g->a9<=g/\g<w.heap.size:=by obtain⟨cs,E,_⟩:=h; exact E.lt
theorem bF.ae {w:Cc} (h:bF w a9 ow qa) (s:zf w w'):bF w' a9 ow qa:=h.bM (fun g E=>s.block g (h.lt g E).2) (av.ae s)
theorem bF.len {w:Cc} (h:bF w a9 ow qa):∃a c,ow = Cq a qa.length c:=by obtain⟨cs,E,_⟩:=h; exact E.len
theorem bF.fC {w:Cc} (h:bF w a9 ow qa):dA w ow qa:=by
 obtain⟨cs,H,T,E⟩:=h
 rcases H.own.2 with⟨rfl,h0⟩ | ⟨g,cap,cur,rfl,g1,g2,g3,g4,g5,g6⟩
 .
  have:qa = []:=List.eq_nil_of_length_eq_zero h0;subst this;exact dA.nil w
 .
  refine⟨_,cap,rfl,g3,fun t=>cs.getD t #[],E,fun _=>⟨g,0,rfl,(Array.getElem?_eq_some_iff.1 g2).1,fun t ht j J=> ?_⟩⟩
  have M:∀c∈cs,c.size=20:=fun c hc=>by
   obtain⟨i,I,e⟩:=List.getElem_of_mem hc;have:=(E i B_).1;rw[List.getD,List.getElem?_eq_getElem I,Option.getD_some,e]at this;exact this
  have e:=XS cs t j M B_ J;have N:=(E t ht).1;have hv:(cs.getD t #[])[j]? = some ((cs.getD t #[])[j]'B_):=by rw[Array.getElem?_eq_getElem]
  have c:=H.own.cells (g:=g) rfl (t*20+j) _ (e.trans hv);rw[Addr.add_lit]at c;rw[<- Nat.add_assoc]at c;rw[c,hv]
theorem bF.snoc {w:Cc} {ow I:Cd} {a:aT} {c:Array Cd} {xs:List Cd} {cs:List (Array Cd)} (T:aW w' a9 83 20 I (qa.length+1) (Y6 cs++c.toList)) (J:cs.length=qa.length) (N:∀t,t<qa.length->QF w' (cs.getD t #[]) (kA (qa.getD t zM)) (rA (qa.getD t zM)))
  (M:QF w' c (kA a) (rA a)):bF w' a9 I (qa ++ [a]):=by
 refine⟨cs ++ [c],by rw[J7]; simpa using T,by simp[J],fun t ht=> ?_⟩;simp only[List.length_append,List.length_cons,List.length_nil]at ht
 rcases Nat.lt_or_ge t qa.length with g | g
 .
  have H:(cs ++ [c]).getD t #[]=cs.getD t #[]:=by simp[List.getD,List.getElem?_append_left (show t<cs.length by omega)]
  have E:(qa ++ [a]).getD t zM=qa.getD t zM:=by simp[List.getD,List.getElem?_append_left g]
  rw[H,E]; exact N t g
 .
  obtain rfl:t=qa.length:=B_
  have H:(cs ++ [c]).getD qa.length #[]=c:=by simp[List.getD,<- J]
  have E:(qa ++ [a]).getD qa.length zM=a:=by simp[List.getD]
  rw[H,E]; exact M
theorem WL:∃E z,Tryz.prog.info? 83=some E/\E.size=20/\E.bytes<=1000/\E.zero=some z/\z.cells.size=20/\zL z.cells=true:=by
 obtain⟨E,z,J,N,M,I⟩:=U5;have H:((Tryz.prog.info? 83).map (fun i=>decide (i.bytes<=1000)))=some true:=by kernel_rfl
 rw[J]at H;simp only[Option.map_some,Option.some.injEq,decide_eq_true_eq]at H;exact⟨E,z,J,N,H,M,by rw[I]; rfl,by rw[I]; rfl⟩
section
variable {ops:Array Oper} {rest:List Oper} {o:Oper} {a:Act} {w:Cc} {Q:Exit->Act->Cc->Prop}
theorem XT {K:Act->Cc->Prop} (s x:Operand) (ho:o.op = .call { callee:= .builtin .append,args:=#[s,x],argTypes:=#[76,76] })
  (a9:Nat) (v:Cd) (qa:List aT) (A:aT) (c:Array Cd) (hs:a.eval s=v) (M:bF w a9 v qa) (g:Nat) (hx:a.eval x = Cq (some ⟨g,0,none⟩) 1 1) (hb:ai w g 83 c) (N:QF w c (kA A) (rA A)) (hn:qa.length<=100000) (H:a9<=w.heap.size)
  (h:∀T w',bF w' a9 T (qa ++ [A])->w.grownBy w' v.ownBlock->av w w'->K (a.put o.dst T) w'):o.wp Ch a w K Q:=by
 obtain⟨Y,z,h1,h2,h3,h4,h5,h6⟩:=WL;obtain⟨cs,r1,r2,r3⟩:=M;have J:=N.1;have I:=N.2.1
 have E:((qa.length+1)+(qa.length+1) / 4+192)*Y.bytes<=281474976710656:=
  Nat.le_trans (Nat.mul_le_mul (show (qa.length+1)+(qa.length+1) / 4+192<=200000 by omega) h3) B_
 refine vJ w s x 76 ho a9 83 Y z 20 Y.bytes Tryz.underlying76 h1 h4 h2 rfl h5 h6 B_ v qa.length (Y6 cs) hs r1 ⟨g,0,none⟩ 1 1 c.toList hx B_ (by simp[J]) (fun j u hj=> ?_) (fun u hu=> ?_) (by simpa using N.eD) (by unfold maxLen; omega) E H (fun T w' hr hg=> ?_)
 .
  have Z:=hb.cell j;rw[show (⟨g,0,none⟩:Addr).add j=⟨g,0+j,none⟩ from Addr.add_lit ..,Nat.zero_add,Z];simpa using hj
 . exact(Array.all_eq_true_iff_forall_mem.1 I) u (by simpa using hu)
 .
  have X:=r1.af hg;exact h T w' (bF.snoc (w:=w) (ow:=v) (xs:= []) hr r2 (fun t ht=>(r3 t ht).af X) (N.af X)) hg X
theorem Vw (J:o.guard=none) (s x:Operand) (X:o.op = .call { callee:= .builtin .append,args:=#[s,x],argTypes:=#[76,76] })
  (a9:Nat) (v:Cd) (qa:List aT) (A:aT) (c:Array Cd) (hs:a.eval s=v) (H:bF w a9 v qa) (g:Nat) (Z:a.eval x = Cq (some ⟨g,0,none⟩) 1 1) (hb:ai w g 83 c) (M:QF w c (kA A) (rA A)) (hn:qa.length<=100000) (E:a9<=w.heap.size)
  (h:∀I w',bF w' a9 I (qa ++ [A])->w.grownBy w' v.ownBlock->av w w'->wpList Ch ops Q rest (a.put o.dst I) w'):wpList Ch ops Q (o::rest) a w:=
 wpList_plain J fun _ T=>XT s x X a9 v qa A c hs H g Z hb M hn E fun I w' Y h2 N=>T _ _ (h I w' Y h2 N)
theorem GU (E:o.guard=none) (x:Operand) (I:o.op = .buildSlice 76 1 #[(0,x)]) (C:Array Cd) (J:a.eval x = Cy C) (h:C.size=20)
  (M:wpList Ch ops Q rest (a.put o.dst (Cq (some ⟨w.heap.size,0,none⟩) 1 1)) (w.alloc (.cells C 83))):wpList Ch ops Q (o::rest) a w:=
 wpList_plain E fun _ H=>XN x I C J h (H _ _ M)
end
def yp (l:PL) (most:Int):Int×List aT:=
 if zQ l≠0 then(zQ l,[])else if most<0\/12<most then(2,[])else(0,qs l (yh (min most (l.length:Int)).toNat))
theorem UF {l:PL} (n i:Nat):(qs l ((yh n).take i)).length<=(yh n).length:=by
 have:=Va l ((yh n).take i);rw[List.length_take]at this;omega
theorem U8 {n m:Nat} {x:P4} (h:ZI n x=true) (E:n<=m) (i:Nat):K4 x i<m:=by
 have:=kW h;unfold K4 Xd
 split<;>omega
end
section
open Go.RowKit Go.Shelf
variable {cs:Array Cd} {qa:List aT} {Bs G a9 g i:Nat} {l:PL} {t:Ce} {ow v:Cd} {A B C W W' w w':Cc}
theorem XW {P:Program} (E:Array Ce) (t:Ce) (x y:Int) (w:Cc):(Builtin.min_ E t #[Cz Cv x,Cz Cv y]).run P w = .ok (Cz Cv (min x y)) w:=by
 have e:min x y=if y<x then y else x:=by split<;>omega
 rw[e]
 by_cases h1:y<x<;>simp[Builtin.min_,Builtin.min2,go_sem,h1]
attribute [local go_sem] Oper.semAt_some
attribute [local go_sem high] XW
def dg (w:Cc) (l:PL) (most:Int) (e:Ending) (w':Cc):Prop:=∃u,e = Cg (.tuple #[u,Cz Cv (yp l most).1])/\dA w' u (yp l most).2/\zf w w'
theorem dg.none {most c:Int} (h:yp l most=(c,[])) (st:zf w w'):dg w l most (Cg (.tuple #[Cq none 0 0,Cz Cv c])) w':=
 ⟨_,by rw[h],by rw[h]; exact dA.nil w',st⟩
theorem Vy (most:Int) (w:Cc) (hv:bJ w v l) (hl:l.length<=1000) (h:zQ l≠0\/most<0\/12<most) :
  Cb Ch 71 #[v,Cz Cv most] w (dg w l most):=by
 have Y:∀w',zf w w'->Cb Ch 37 #[v] w' fun e w2=>e = Cg (Cz Cv (zQ l))/\zf w' w2:=fun w' hs=>xX w' (hv.ae hs) hl;obtain⟨ao,cap,rfl⟩:=hv.au;have I:zQ l≠0->Hid (yp l most=(zQ l,[])):=fun h=>C5 (by unfold yp; rw[C7 h]);have E:zQ l=0->Hid (yp l most=(2,[])):=fun h0=>C5 (by unfold yp; rw[C8 (by rw[h0]; simp),C7 (h.resolve_left (by rw[h0]; simp))]);have M:zQ l=0->most<0\/12<most:=fun h0=>h.resolve_left (by rw[h0]; simp);generalize l.length=n at *;obtain⟨c,J⟩:∃c,zQ l=c:=⟨_,rfl⟩;rw[J]at Y I E M;clear hv J h
 go_enter Tryz.func71,Tryz.ntmps71
 go_wp2_with fail
 refine(Y _ zi).mono ?_;rintro e w1 ⟨rfl,H⟩;have B:Below w.heap.size w w1:=yQ H;have o4:ai w1 (w.heap.size+1) 76 #[Cq none 0 0]:=ai.ak H;have o5:ai w1 (w.heap.size+1+1) 32 #[Cz Cv 0]:=ai.ak H;clear H Y;have Z:=o4.c 0 rfl;have c5:=o5.c 0 rfl;have f4:=o4.fr;have N:=o5.fr;have X:=o4.lt;have T:=o5.lt
 by_cases hc:c=0
 .
  have h2:=E hc;replace M:=M hc;clear I E;subst hc
  by_cases g1:most<0
  .
   go_wp2_with fail
   refine bodyPost_ret (by simp[results,Tryz.results71,go_sem,Z,c5,f4,N,X,T]; rfl) rfl ?_;exact dg.none h2.out zi
  .
   have g2:12<most:=M.resolve_left g1;go_wp2_with fail
   refine bodyPost_ret (by simp[results,Tryz.results71,go_sem,Z,c5,f4,N,X,T]; rfl) rfl ?_;exact dg.none h2.out zi
 .
  have h1:=I hc;have ah:(c==0)=false:=by simpa using hc
  clear I E M;go_wp2_with fail
  refine bodyPost_ret (by simp[results,Tryz.results71,go_sem,Z,c5,f4,N,X,T]; rfl) rfl ?_;exact dg.none h1.out zi
theorem KF.trans (h:KF Bs G A B) (k:KF Bs G B C):KF Bs G A C:=⟨k.1.trans h.1,k.2.trans h.2⟩
def NA (W:Cc) (G:Nat):Prop:=W.heap.size<=G\/∃t cs,ai W G t cs/\zL cs=true
structure AK (Bs G:Nat) (W W':Cc):Prop where
 others:KeepsOthers W W'
 kf:KF Bs G W W'
theorem AK.trans (h:AK Bs G A B) (k:AK Bs G B C):AK Bs G A C:=⟨h.others.trans k.others,KF.trans h.kf k.kf⟩
theorem AK.ae (h:zf W W') (h0:Bs<W.heap.size) (H:G<W.heap.size):AK Bs G W W':=
 ⟨⟨h.size,fun k o E _=>(h.block k (Array.getElem?_eq_some_iff.1 E).1).trans E⟩,h.block _ h0,h.block _ H⟩
theorem AK.alloc (o:Obj) (h0:Bs<W.heap.size) (E:G<W.heap.size):AK Bs G W (W.alloc o):=AK.ae ((Below.refl _ _).alloc (Cl _) o) h0 E
theorem AK.row {old:Array Cd} (h:bD g t old cs W W') (h0:Bs≠g) (H:G≠g):AK Bs G W W':=by
 refine⟨⟨Nat.le_of_eq h.only.1.symm,fun k o E hc=> ?_⟩,h.only.2 _ h0,h.only.2 _ H⟩;rw[h.only.2 k (fun e=>by subst e; rw[show W.heap[k]? = _ from h.was]at E; cases E; cases hc)]; exact E
theorem bF.cells (h:bF W a9 ow qa):∀g,ow.ownBlock=some g->∃cs t,W.heap[g]? = some (.cells cs t (0,0)):=by
 obtain⟨cs,H,_⟩:=h;intro g E
 rcases H.own.2 with⟨rfl,_⟩ | ⟨g',cap,cur,rfl,hbg,hh,_⟩
 . cases E
 . cases E; exact⟨_,_,hh⟩
theorem bF.bP {b:Nat} (h:bF w a9 ow qa) (J:w.grownBy w' ow.ownBlock) (E:ai w b t cs) (I:b<a9):ai w' b t cs:=
 (J.block b E.lt fun H=>by have:=(h.lt b H.symm).1; omega).trans E
theorem bF.below {E:Cc} (h:bF w a9 ow qa) (J:w.grownBy w' ow.ownBlock) (I:Below E.heap.size E w) (H:E.heap.size<=a9):Below E.heap.size E w':=
 I.grown J I.size fun k M=>Nat.le_trans H (h.lt k M).1
theorem AK.grow (h:bF W a9 ow qa) (E:W.grownBy W' ow.ownBlock) (h0:Bs<a9) (N:G<a9) (I:Bs<W.heap.size) (J:G<W.heap.size):AK Bs G W W':=by
 refine⟨KeepsOthers.of_grownBy E fun j o M H=> ?_,E.block _ I fun e=> ?_,E.block _ J fun e=> ?_⟩
 .
  obtain⟨cs,t,e⟩:=h.cells j M;rw[e]at H; cases H; rfl
 . have:=(h.lt _ e.symm).1; omega
 . have:=(h.lt _ e.symm).1; omega
theorem AK.cell (h0:Bs≠g) (E:G≠g):AK Bs G W (W.setCell ⟨g,i,none⟩ v):=
 ⟨KeepsOthers.setCell _ _ _,Below.heap_setCell _ _ _ _ h0,Below.heap_setCell _ _ _ _ E⟩
theorem NA.alloc (h:NA W G) (o:Obj) (H:W.heap.size=G->∃cs t,o = .cells cs t/\zL cs=true):NA (W.alloc o) G:=by
 rcases h with h | ⟨t,cs,h,E⟩
 .
  rcases Nat.lt_or_ge W.heap.size G with g | g
  . exact .inl C4
  .
   have e:W.heap.size=G:=B_
   obtain⟨cs,t,rfl,E⟩:=H e;exact .inr ⟨t,cs,ai.bO e,E⟩
 . exact .inr ⟨t,cs,h.alloc o,E⟩
theorem NA.kept (h:NA W G) (k:W'.heap[G]? = W.heap[G]?):NA W' G:=by
 rcases h with h | ⟨t,cs,h,E⟩
 .
  left
  rw[Array.getElem?_eq_none h]at k;exact Array.getElem?_eq_none_iff.1 k
 . exact .inr ⟨t,cs,k.trans h,E⟩
theorem NA.set {x:Int} (h:NA W G):NA (W.setCell ⟨G,i,none⟩ (Cz Cv x)) G/\av W (W.setCell ⟨G,i,none⟩ (Cz Cv x)):=by
 rcases h with h | ⟨t,cs,h,H⟩
 .
  have I:(W.setCell ⟨G,i,none⟩ (Cz Cv x)).heap.size=W.heap.size:=World.size_setCell ..;refine⟨.inl (by rw[I]; exact h),fun v l M=> ?_⟩;obtain⟨h0,ao,cap,rfl,N,J,T⟩:=M;refine⟨h0,ao,cap,rfl,N,J,fun E=> ?_⟩;obtain⟨b,o,rfl,X,hc⟩:=T E;refine⟨b,o,rfl,by rw[I]; exact X,fun t ht=> ?_⟩;have e:=Below.heap_setCell W ⟨G,i,none⟩ (Cz Cv x) b (show b≠G by omega);have:=hc t ht;unfold World.cell? at this|-;rw[e]; exact this
 . exact⟨.inr ⟨t,_,h.bI i _,qp H rfl⟩,av.only h H ((bC.refl _ _).set)⟩
theorem UG (most:Int) (w:Cc) (hv:bJ w v l) (hl:l.length<=1000) (hc:zQ l=0) (h0:0<=most) (h1:most<=12) (h7:(min most (l.length:Int)).toNat<=7) :
  Cb Ch 71 #[v,Cz Cv most] w (dg w l most):=by
 have cN:Fence.wide.round=none:=rfl
 have ck:∀w',zf w w'->Cb Ch 37 #[v] w' fun e w2=>e = Cg (Cz Cv 0)/\zf w' w2:=fun w' hs=>by
  have:=xX w' (hv.ae hs) hl
  rwa[hc]at this
 have HS:Hid (yp l most=(0,qs l (yh (min most (l.length:Int)).toNat))):=C5 (by unfold yp; rw[C8 (by rw[hc]; simp),C8 B_]);have HP:=C5 hv;have ft:=C5 hc;obtain⟨ao,cap,rfl⟩:=hv.au;obtain⟨len,bq⟩:∃n,l.length=n:=⟨_,rfl⟩;have HL:=C5 bq;rw[bq]at HP HS h7 ck|-;obtain⟨n,hn⟩:∃n,(min most (len:Int)).toNat=n:=⟨_,rfl⟩;rw[hn]at HS h7;have gp:min most (len:Int)=(n:Int):=B_
 have gz:n<=len:=B_
 clear hv bq hc hn;have g1:decide (most<0)=false:=C_ B_;have g2:decide (12<most)=false:=C_ B_;refine(callsIn_wide (n:=3)).1 ?_;refine callsIn_of_wp_marks Tryz.func71 rfl trivial ?_ cN;simp only[Tryz.ntmps71,List.size_toArray,List.length_cons,List.length_nil,Nat.reduceAdd,Nat.reduceSub,Array.replicate_succ,Array.replicate_zero,List.push_toArray,List.append_toArray,List.nil_append,List.cons_append]
 gi_wp2_with fail
 refine⟨trivial,?_⟩
 gi_at_call 37
 refine(callsIn_wide (n:=2)).2 ?_;refine(ck _ zi).mono ?_;rintro e E ⟨rfl,bf⟩;have B:Below w.heap.size w E:=yQ bf;have o2:ai E w.heap.size 55 #[Cq ao len cap]:=ai.ak bf;have o4:ai E (w.heap.size+1) 76 #[Cq none 0 0]:=ai.ak bf;have o5:ai E (w.heap.size+1+1) 32 #[Cz Cv 0]:=ai.ak bf;clear bf ck;have c2:World.cell? E ⟨w.heap.size,0,none⟩=_:=o2.c 0 rfl;have l2:=o2.lt;have f2:=o2.fr
 gi_wp2_with (refine⟨trivial,?_⟩; gi_at_call 106; refine(Vx Fence.wide 2 trivial cN _ _).mono ?_; rintro e w' ⟨rfl,rfl⟩)
 obtain⟨W0,N⟩:∃W0,(E.alloc (.cells #[Cq none 0 0] 76)).alloc (.cells #[Cz Cv (n:Nat)] 3)=W0:=⟨_,rfl⟩;rw[N];have zB:=B.size;have b2:ai W0 w.heap.size 55 #[Cq ao len cap]:=by rw[<- N]; exact zw
 have b4:ai W0 (w.heap.size+1) 76 #[Cq none 0 0]:=by rw[<- N]; exact zw
 have b5:ai W0 (w.heap.size+1+1) 32 #[Cz Cv 0]:=by rw[<- N]; exact zw
 have b7:ai W0 E.heap.size 76 #[Cq none 0 0]:=by rw[<- N]; exact zw
 have bn:ai W0 (E.heap.size+1) 3 #[Cz Cv (n:Nat)]:=by rw[<- N]; exact ai.bO C3
 have g9:Below w.heap.size w W0:=by rw[<- N]; exact zi
 have gB:W0.heap.size=E.heap.size+2:=by rw[<- N]; simp
 have l5:=o5.lt;clear N o2 o4 o5 c2 l2 f2 B;have hG:W0.heap.size+2=E.heap.size+4:=B_
 have hL:W0.heap.size+1=E.heap.size+3:=B_
 refine QS cN (show 1<=3 by omega) (gf:=141) (lb:=#[Cj (some ⟨E.heap.size+1,0,none⟩)]) rfl trivial (enters_of Tryz.func141 B' rfl)
  (Kp:=KF (E.heap.size+1) (E.heap.size+4)) (S:=fun xs=>xs=yh n) (El:=fun pre x=>ZI n x=true/\pre.length<36/\pre=(yh n).take pre.length) (Pr:=fun A=>ai A (E.heap.size+1) 3 #[Cz Cv (n:Nat)])
  (by rw[hG]; exact XV 2 (E.heap.size+1) (E.heap.size+4) n h7 B_) (fun o o'=>(bn.alloc o).alloc o') (fun _=>rfl) KF.trans
  (fun A o o' ho hc=>⟨World.putObj_heap_other B_,World.putObj_heap_other B_⟩)
  (fun(pre:List P4) W=>ai W w.heap.size 55 #[Cq ao len cap]/\ai W (w.heap.size+1) 76 #[Cq none 0 0]/\ai W (w.heap.size+1+1) 32 #[Cz Cv 0]/\(∃ow,ai W E.heap.size 76 #[ow]/\bF W (E.heap.size+5) ow (qs l pre))/\Below w.heap.size w W/\NA W (E.heap.size+4))
  ⟨?al,?dr,?st⟩ ?io ?h0
  (fun(x:P4) a' W=>∃p,a' = { tmps:=#[Cq ao len cap,Cz Cv most,Cj (some ⟨w.heap.size,0,none⟩),Cf,Cj (some ⟨w.heap.size+1,0,none⟩),Cj (some ⟨w.heap.size+1+1,0,none⟩),Cz Cv 0,Cj (some ⟨E.heap.size,0,none⟩),Cj (some ⟨p,0,none⟩),Cf,Cf,Cf,Cf,Cq ao len cap,Cz Cv 0,Cz Cv 0,Cx false,Cf,Cz Cv most,Cx false,Cx false,Cz Cv most,Cx false,Cx false,Cz Cv most,Cq ao len cap,Cz Cv (len:Nat),Cz Cv (n:Nat),.func (.func 141) #[] #[Cj (some ⟨E.heap.size+1,0,none⟩)],Cy #[Cz Cv (x.1:Nat),Cz Cv (x.2.1:Nat),Cz Cv (x.2.2.1:Nat),Cz Cv (x.2.2.2:Nat)],Cf,Cf,Cf,Cf,Cf,Cf,Cf,Cf,Cf,Cf,Cf,Cf,Cf,Cf,Cf,Cf,Cf,Cf,Cf,Cf,Cf],defers:= [] }/\ai W p 80 #[Cz Cv (x.1:Nat),Cz Cv (x.2.1:Nat),Cz Cv (x.2.2.1:Nat),Cz Cv (x.2.2.2:Nat)])
  ?ao ?assign ?body ?done
 case al=>
  rintro pre W o ho ⟨a2,I,J,⟨ow,H,hc⟩,T,hN⟩;rw[hG]at ho;exact⟨a2.alloc o,I.alloc o,J.alloc o,⟨ow,H.alloc o,hc.ae ((Below.refl _ _).alloc (Cl _) o)⟩,T.alloc T.size o,hN.alloc o ho⟩
 case dr=>
  rintro pre W m ⟨a2,I,J,⟨ow,H,hc⟩,T,hN⟩;exact⟨a2.drewN m,I.drewN m,J.drewN m,⟨ow,H.drewN m,hc.bM (fun _ _=>rfl) ((av.refl _).drewN m)⟩,yD T m,hN.kept rfl⟩
 case st=>
  rintro pre W i x ⟨a2,I,J,⟨ow,H,hc⟩,T,hN⟩;rw[hG];exact⟨a2.aG B_,I.aG B_,J.aG B_,⟨ow,H.aG B_,hc.bM (fun g hg=>Below.heap_setCell _ _ _ g (show g≠E.heap.size+4 by have:=(hc.lt g hg).1; omega)) (hN.set).2⟩,T.setCell (p:=⟨E.heap.size+4,i,none⟩) (show w.heap.size<=E.heap.size+4 by omega) _,(hN.set).1⟩
 case io=>
  rintro pre W o o' ⟨a2,I,J,⟨ow,H,hc⟩,T,hN⟩ ho Z;rw[hL]at ho|-;have nb:∀g t cs,ai W g t cs->g≠E.heap.size+3:=fun g t cs h e=>by subst e; rw[show W.heap[E.heap.size+3]? = _ from h]at ho; cases ho; cases Z
  have kp:av W (W.putObj (E.heap.size+3) o'):=fun v l h=>jA h (grownBy_putObj' W _ o') (fun r e=>by cases e; exact⟨o,ho,Z⟩);refine⟨?_,?_,?_,⟨ow,?_,hc.bM (fun g hg=>World.putObj_heap_other (by have:=(hc.lt g hg).1; omega)) kp⟩,?_,hN.kept (World.putObj_heap_other B_)⟩
  . exact zZ a2 (grownBy_putObj' W _ o') (fun r e=>by cases e; exact⟨o,ho,Z⟩)
  . exact zZ I (grownBy_putObj' W _ o') (fun r e=>by cases e; exact⟨o,ho,Z⟩)
  . exact zZ J (grownBy_putObj' W _ o') (fun r e=>by cases e; exact⟨o,ho,Z⟩)
  . exact zZ H (grownBy_putObj' W _ o') (fun r e=>by cases e; exact⟨o,ho,Z⟩)
  . exact T.grown (grownBy_putObj' W _ o') T.size (fun k hk=>by cases hk; omega)
 case h0=>exact⟨b2,b4,b5,⟨_,b7,bF.nil _ _⟩,g9,.inl B_⟩
 case ao=>
  rintro x a' W o o' ⟨p,e,hb⟩ ho Z;exact⟨p,e,zZ hb (grownBy_putObj' W _ o') (fun r e=>by cases e; exact⟨o,ho,Z⟩)⟩
 case assign=>
  rintro pre x W K' ⟨a2,I,J,⟨ow,H,hc⟩,T,hN⟩ dx bh;have z:=H.lt;unfold QU QT;dsimp only;generalize x.1=ka at bh|-;generalize x.2.1=kb at bh|-;generalize x.2.2.1=kc at bh|-;generalize x.2.2.2=kd at bh|-
  gi_wp2
  have st:zf W (W.alloc (.cells #[Cz Cv (ka:Nat),Cz Cv (kb:Nat),Cz Cv (kc:Nat),Cz Cv (kd:Nat)] 80)):=(Below.refl _ _).alloc (Cl _) _;exact bh _ _ (KeepsOthers.alloc _ _) ⟨st.block _ B_,st.block _ B_⟩ ⟨a2.alloc _,I.alloc _,J.alloc _,⟨ow,H.alloc _,hc.ae st⟩,T.alloc T.size _,hN.kept (st.block _ B_)⟩ ⟨_,rfl,ai.new _ _ _⟩
 case body=>
  rintro pre x a' W ⟨gk,ek⟩ ⟨a2,I,J,⟨ow,H,hc⟩,T,hN⟩ ⟨p,rfl,bo⟩ ⟨bi,fe,bt⟩ dx;rw[hG]at dx;have f9:bJ W (Cq ao len cap) l:=HP.out.ae T;have cY:∀i,K4 x i<l.length:=U8 bi (by have:=HL.out; omega);have ce:∀i,vX (pt l (K4 x i)).1 (pt l (K4 x i)).2:=fun i=>Y4 ft.out _ (cY i);have HA:Hid (qs l (pre ++ [x])=if 0<jT l (K4 x)then qs l pre ++ [yB l (K4 x)]else qs l pre):=C5 (Up l pre x)
  have gj:(qs l pre).length<=100000:=by
   rw[bt];have:=UF (l:=l) n pre.length;have:=(Jq n h7).1;omega
  have cf:Cb Ch 107 #[Cq ao len cap,Cy #[Cz Cv (x.1:Nat),Cz Cv (x.2.1:Nat),Cz Cv (x.2.2.1:Nat),Cz Cv (x.2.2.2:Nat)]] W fun e w'=>e = Cg (.tuple #[Cy (qj (yB l (K4 x))),Cx (decide (0<(yB l (K4 x)).n))])/\zf W w':=WH x.1 x.2.1 x.2.2.1 x.2.2.2 W f9 cY ce;have hz:jT l (K4 x)=0->(yB l (K4 x)).n=0:=fun h=>by rw[XH _ _ h]; rfl
  have hp:0<jT l (K4 x)->0<(yB l (K4 x)).n/\dp (yB l (K4 x)):=fun h=>⟨by rw[(qd l _ h).2.1]; exact h,ZU ce h⟩;have hw:=Qv l (K4 x);obtain⟨A,hA⟩:∃A,yB l (K4 x)=A:=⟨_,rfl⟩;rw[hA]at cf HA hz hp;obtain⟨wd,ec⟩:∃z,jT l (K4 x)=z:=⟨_,rfl⟩;rw[ec]at HA hz hp hw;generalize x.1=ka at *;generalize x.2.1=kb at *;generalize x.2.2.1=kc at *;generalize x.2.2.2=kd at *;clear hA ec f9 cY ce bi bt ek gk;have l7:=H.lt;have zW:=T.size;obtain⟨oa,oc,rfl⟩:=hc.len;have HC:=C5 hc;clear hc;have gh:W.cell? ⟨w.heap.size,0,none⟩=some (Cq ao len cap):=a2.c 0 rfl;have fW:W.cell? ⟨p,0,none⟩=some (Cz Cv (ka:Nat)):=bo.c 0 rfl;have fl:W.cell? ⟨p,1,none⟩=some (Cz Cv (kb:Nat)):=bo.c 1 rfl;have fm:W.cell? ⟨p,2,none⟩=some (Cz Cv (kc:Nat)):=bo.c 2 rfl;have fV:W.cell? ⟨p,3,none⟩=some (Cz Cv (kd:Nat)):=bo.c 3 rfl
  gi_upto_region 9 with fail
  refine yo B' ?_
  repeat' (first | go_values | go_skip | go_guarded | go_step | go_upon)
  refine cf.mono ?_;rintro e W1 ⟨rfl,Y⟩;have d9:AK (E.heap.size+1) (E.heap.size+4) W W1:=AK.ae Y B_ B_;replace a2:=a2.ae Y;replace I:=I.ae Y;replace J:=J.ae Y;replace H:=H.ae Y;have B1:Below w.heap.size w W1:=zp T (Cl _) Y;have cx:=C5 (HC.out.ae Y);have N1:=hN.kept d9.kf.2;have gE:E.heap.size+4<W1.heap.size:=Nat.lt_of_lt_of_le dx Y.size;clear gh fW fl fm fV bo cf Y HC T l7;have l7:=H.lt;dsimp only
  repeat' (first | ((with_reducible show wpList _ _ _ (⟨none,.store _ _ _,_,_,_,_⟩::_) _ _); refine zE rfl 160 (.tmp 9) (.tmp 34) rfl W1.heap.size (qj A) rfl rfl 160 #[Cz Cv 0,Cz Cv 0,Cz Cv 0,Cz Cv 0,Cz Cv 0,Cz Cv 0,Cz Cv 0,Cz Cv 0,Cz Cv 0] zw B' rfl (kK A) (fun W2 r2=> ?_)) | go_values | go_skip | go_guarded | go_step | go_upon)
  have o9:=r2.bP;have br:AK (E.heap.size+1) (E.heap.size+4) W W2:=(d9.trans (AK.alloc _ B_ B_)).trans (AK.row r2 B_ B_);replace a2:=r2.a_ (a2.alloc _) B_;replace I:=r2.a_ (I.alloc _) B_;replace J:=r2.a_ (J.alloc _) B_;replace H:=r2.a_ (H.alloc _) B_;have B2:Below w.heap.size w W2:=r2.below (B1.alloc B1.size _) B1.size;have dk:=C5 ((cx.out.ae ((Below.refl _ _).alloc (Cl _) _)).bM (fun g hg=>r2.only.2 g (by have:=(cx.out.lt g hg).2; omega)) (r2.af rfl));have N2:=N1.kept (show W2.heap[E.heap.size+4]? = _ from((AK.alloc (.cells Km 160) B_ B_).trans (AK.row r2 B_ B_)).kf.2);have s2:W2.heap.size=W1.heap.size+1:=by rw[r2.only.1,World.size_alloc]
  have fX:E.heap.size+4<W2.heap.size:=B_
  clear d9 r2 cx N1 B1;dsimp only[yM,Act.put];generalize W1.heap.size=pa at *
  by_cases hd:0<wd
  .
   obtain⟨ah,be⟩:=hp hd;have ci:Hid (qs l (pre ++ [x])=qs l pre ++ [A]):=C5 (by rw[HA.out,C7 hd]);have gi:decide (0<A.n)=true:=C9 ah;have cq:=WI A W2 be ah;have dl:=C5 (C6 ah be);clear HA hz hp ah be
   gi_upto_region 11 with fail
   refine yo B' ?_
   repeat' (first | ((with_reducible show wpList _ _ _ (⟨some 39,_,_,_,_,_⟩::_) _ _); refine zP rfl 160 (.tmp 9) rfl pa rfl 160 (qj A) _ o9 Tryz.underlying160 rfl B' ?_) | go_values | go_skip | go_guarded | go_step | go_upon)
   refine cq.mono ?_;rintro e W3 ⟨cs,rfl,f8,⟨cy,dy⟩,M⟩;have er:=br.trans (AK.ae M B_ B_);replace a2:=a2.ae M;replace I:=I.ae M;replace J:=J.ae M;replace H:=H.ae M;have B3:Below w.heap.size w W3:=zp B2 (Cl _) M;have cg:=C5 (dk.out.ae M);have N3:=N2.kept (AK.ae M (Bs:=E.heap.size+1) (G:=E.heap.size+4) B_ B_).kf.2;have gC:E.heap.size+4<W3.heap.size:=Nat.lt_of_lt_of_le fX M.size
   have hq:QF W3 cs (kA A) (rA A):=by
    obtain⟨CA,e,qm⟩:=f8.qm
    injection e with e
    subst e;exact QM.qf dl.out.1 dl.out.2 qm
   have em:=C5 hq;have ic:(Tryz.prog.info? 83).map (·.size)=some cs.size:=by rw[cy]; kernel_rfl
   clear hq f8 cq M dk N2 B2 dl o9 br l7;have l7:=H.lt;dsimp only
   repeat' (first | ((with_reducible show wpList _ _ _ (⟨none,.store _ _ _,_,_,_,_⟩::_) _ _); refine zE rfl 83 (.tmp 11) (.tmp 41) rfl W3.heap.size cs rfl rfl 83 Jf zw ic cy.symm dy (fun W4 r4=> ?_)) | go_values | go_skip | go_guarded | go_step | go_upon)
   have fY:=r4.bP;have g8:AK (E.heap.size+1) (E.heap.size+4) W W4:=(er.trans (AK.alloc _ B_ B_)).trans (AK.row r4 B_ B_);replace a2:=r4.a_ (a2.alloc _) B_;replace I:=r4.a_ (I.alloc _) B_;replace J:=r4.a_ (J.alloc _) B_;replace H:=r4.a_ (H.alloc _) B_;have B4:Below w.heap.size w W4:=r4.below (B3.alloc B3.size _) B3.size;have eM:av W3 W4:=av.trans zo (r4.af rfl);have dd:=C5 ((cg.out.ae ((Below.refl _ _).alloc (Cl _) _)).bM (fun g hg=>r4.only.2 g (by have:=(cg.out.lt g hg).2; omega)) (r4.af rfl));have gg:=C5 (em.out.af eM);have N4:=N3.kept (show W4.heap[E.heap.size+4]? = _ from((AK.alloc (.cells Jf 83) B_ B_).trans (AK.row r4 B_ B_)).kf.2);have s4:W4.heap.size=W3.heap.size+1:=by rw[r4.only.1,World.size_alloc]
   have gt:E.heap.size+4<W4.heap.size:=B_
   clear er r4 cg N3 B3 em eM;dsimp only[yM,Act.put];generalize W3.heap.size=pq at *;have c7:W4.cell? ⟨E.heap.size,0,none⟩=some (Cq oa (qs l pre).length oc):=H.c 0 rfl
   gi_upto_region 14 with fail
   refine yo B' ?_
   repeat' (first | ((with_reducible show wpList _ _ _ (⟨some 47,_,_,_,_,_⟩::_) _ _); refine zP rfl 83 (.tmp 11) rfl pq rfl 83 cs _ fY Tryz.underlying83 rfl ic ?_) | ((with_reducible show wpList _ _ _ (⟨some 48,_,_,_,_,_⟩::_) _ _); refine GU rfl (.tmp 47) rfl cs rfl cy ?_) | ((with_reducible show wpList _ _ _ (⟨some 49,_,_,_,_,_⟩::_) _ _); refine Vw rfl (.tmp 46) (.tmp 48) rfl (E.heap.size+5) (Cq oa (qs l pre).length oc) (qs l pre) A cs rfl (dd.out.ae ((Below.refl _ _).alloc (Cl _) _)) W4.heap.size rfl (ai.new _ _ _) (gg.out.af zo) gj C4 (fun v' W5 dc b9 k5=> ?_); obtain⟨fZ,gn,rfl⟩:=dc.len; have bg:ai W5 E.heap.size 76 #[Cq oa (qs l pre).length oc]:=(b9.block _ (H.alloc _).lt (fun e=>by have:=(dd.out.lt _ e.symm).1; omega)).trans (H.alloc _); have gA:W5.cell? ⟨E.heap.size,0,none⟩=some (Cq oa (qs l pre).length oc):=bg.c 0 rfl; have gr:=bg.fr; have gD:=bg.lt) | go_values | go_skip | go_guarded | go_step | go_upon)
   dsimp only[yM,Act.put]
   gi_wp2
   have r4:=dd.out.ae ((Below.refl W4.heap.size W4).alloc (Cl _) (.cells cs 83));have dP:AK (E.heap.size+1) (E.heap.size+4) W4 (W4.alloc (.cells cs 83)):=AK.alloc _ B_ B_;have fd:AK (E.heap.size+1) (E.heap.size+4) (W4.alloc (.cells cs 83)) W5:=AK.grow r4 b9 B_ B_ C4 C4;have eW:AK (E.heap.size+1) (E.heap.size+4) W5 (W5.setCell ⟨E.heap.size,0,none⟩ (Cq fZ ((qs l pre).length+1) gn)):=AK.cell B_ B_;have eF:=((g8.trans dP).trans fd).trans eW;have d2:=r4.bP b9 (a2.alloc _) B_;have d4:=r4.bP b9 (I.alloc _) B_;have d5:=r4.bP b9 (J.alloc _) B_;have B5:=r4.below b9 (B4.alloc B4.size (.cells cs 83)) B_;refine⟨eF.others.from _,eF.kf,d2.aG B_,d4.aG B_,d5.aG B_,⟨_,bg.bI 0 _,?_⟩,B5.setCell (p:=⟨E.heap.size,0,none⟩) (show w.heap.size<=E.heap.size by omega) _,((N4.kept dP.kf.2).kept fd.kf.2).kept eW.kf.2⟩;rw[ci.out,show (qs l pre).length+1=(qs l pre ++ [A]).length by simp];exact dc.bM (fun g hg=>Below.heap_setCell _ _ _ g (show g≠E.heap.size by have:=(dc.lt g hg).1; omega)) (av.only bg rfl ((bC.refl _ _).set))
  .
   have h0:wd=0:=B_
   have gd:=hz h0;have gi:decide (0<A.n)=false:=C_ B_;have ci:Hid (qs l (pre ++ [x])=qs l pre):=C5 (by rw[HA.out,C8 hd]);clear HA hz hp gd
   gi_wp2
   exact⟨br.others.from _,br.kf,a2,I,J,⟨_,H,by rw[ci.out]; exact dk.out⟩,B2,N2⟩
 case done=>
  rintro D xs W hD rfl ⟨a2,I,J,⟨ow,H,hc⟩,T,hN⟩ hKd;obtain⟨oa,oc,rfl⟩:=hc.len;have nD:∀g t cs,ai W g t cs->g≠D:=fun g t cs h e=>by subst e; rw[show W.heap[g]? = _ from h]at hKd; cases hKd
  have n4:=nD _ _ _ I;have n5:=nD _ _ _ J;have c7:W.cell? ⟨E.heap.size,0,none⟩=_:=H.c 0 rfl;have c4:W.cell? ⟨w.heap.size+1,0,none⟩=_:=I.c 0 rfl;have c5:W.cell? ⟨w.heap.size+1+1,0,none⟩=_:=J.c 0 rfl;have l4:=I.lt;have l7:=H.lt;have f4:=I.fr;have f5:=J.fr;have f7:=H.fr;clear nD
  gi_wp2
  have d7:=H.lt;have e4:ai ((W.setCell ⟨w.heap.size+1,0,none⟩ (Cq oa (qs l (yh n)).length oc)).setCell ⟨w.heap.size+1+1,0,none⟩ (Cz Cv 0)) (w.heap.size+1) 76 #[Cq oa (qs l (yh n)).length oc]:=(I.bI 0 _).aG B_;have e5:ai ((W.setCell ⟨w.heap.size+1,0,none⟩ (Cq oa (qs l (yh n)).length oc)).setCell ⟨w.heap.size+1+1,0,none⟩ (Cz Cv 0)) (w.heap.size+1+1) 32 #[Cz Cv 0]:=(J.aG B_).bI 0 _;have k1:av W (W.setCell ⟨w.heap.size+1,0,none⟩ (Cq oa (qs l (yh n)).length oc)):=av.only I rfl ((bC.refl _ _).set);have k2:av (W.setCell ⟨w.heap.size+1,0,none⟩ (Cq oa (qs l (yh n)).length oc)) ((W.setCell ⟨w.heap.size+1,0,none⟩ (Cq oa (qs l (yh n)).length oc)).setCell ⟨w.heap.size+1+1,0,none⟩ (Cz Cv 0)):=av.only (J.aG B_) rfl ((bC.refl _ _).set);have hX:∀k,k≠w.heap.size+1->k≠w.heap.size+1+1->((W.setCell ⟨w.heap.size+1,0,none⟩ (Cq oa (qs l (yh n)).length oc)).setCell ⟨w.heap.size+1+1,0,none⟩ (Cz Cv 0)).heap[k]? = W.heap[k]? :=fun k h1 h2=>(Below.heap_setCell _ ⟨w.heap.size+1+1,0,none⟩ _ k h2).trans (Below.heap_setCell _ ⟨w.heap.size+1,0,none⟩ _ k h1);have BX:=(T.setCell (p:=⟨w.heap.size+1,0,none⟩) (show w.heap.size<=w.heap.size+1 by omega) (Cq oa (qs l (yh n)).length oc)).setCell (p:=⟨w.heap.size+1+1,0,none⟩) (show w.heap.size<=w.heap.size+1+1 by omega) (Cz Cv 0);have CX:=hc.bM (fun g hg=>hX g (by have:=(hc.lt g hg).1; omega) (by have:=(hc.lt g hg).1; omega)) (k1.trans k2);have jd:=(hX D (Ne.symm n4) (Ne.symm n5)).trans hKd;generalize (W.setCell ⟨w.heap.size+1,0,none⟩ (Cq oa (qs l (yh n)).length oc)).setCell ⟨w.heap.size+1+1,0,none⟩ (Cz Cv 0)=X at e4 e5 BX CX jd|-;clear hX k1 k2 c4 c5 c7 f4 f5 f7 l4 l7;have bl:∀r,some D=some r->∃o:Obj,X.heap[r]? = some o/\o.isCells=false:=fun r e=>by cases e; exact⟨_,jd,rfl⟩
  have E4:=zZ e4 (grownBy_putObj' X D (.deferred none)) bl;have E5:=zZ e5 (grownBy_putObj' X D (.deferred none)) bl;have q4:World.cell? (X.putObj D (.deferred none)) ⟨w.heap.size+1,0,none⟩=_:=E4.c 0 rfl;have q5:World.cell? (X.putObj D (.deferred none)) ⟨w.heap.size+1+1,0,none⟩=_:=E5.c 0 rfl;refine⟨by simp,.inl ⟨_,_,rfl,run_takeDeferred jd,?_⟩⟩;refine⟨.tuple #[Cq oa (qs l (yh n)).length oc,Cz Cv 0],?_,⟨_,by rw[HS.out],?_,?_⟩⟩
  . simp[results,Tryz.results71,go_sem,q4,q5]
  .
   rw[HS.out];exact(CX.bM (fun g hg=>World.putObj_heap_other (fun e=>by subst e; obtain⟨cs,t,h⟩:=CX.cells g hg; rw[h]at jd; cases jd)) (fun v l h=>jA h (grownBy_putObj' X D _) bl)).fC
  . exact BX.grown (grownBy_putObj' X D _) BX.size (fun k hk=>by cases hk; omega)
theorem UH (most:Int) (w:Cc) (hv:bJ w v l) (I:l.length<=1000) (J:0<=most->most<=12->(min most (l.length:Int)).toNat<=7):Cb Ch 71 #[v,Cz Cv most] w (dg w l most):=by
 by_cases h:zQ l≠0\/most<0\/12<most
 . exact Vy most w hv I h
 .
  have M:zQ l=0:=by
   rcases Decidable.em (zQ l=0)with g | g
   . exact g
   . exact absurd (.inl g) h
  have H:0<=most:=B_
  have E:most<=12:=B_
  exact UG most w hv I M H E (J H E)
end
section
open Go.RowKit
attribute [local go_sem high] XW
end
section
open Go.RowKit
variable {w:Cc}
theorem QF.fits {cs:Array Cd} {k:Nat->Int} {r:Nat->Rat} (h:QF w cs k r) (i:Nat) (E:i<4):Go.Proofs.YtffmbepfbienaaaGreat.fits (r i).num/\Go.Proofs.YtffmbepfbienaaaGreat.fits ((r i).den:Int):=by
 obtain⟨a1,a2,Y,a4,J,N,X,T,Z,M,I,H,f⟩:=h.2.2.2 i E;exact f.fit
theorem dA.at {v:Cd} {qa:List aT} (h:dA w v qa):∃ (ao:Option Addr) (cap:Nat) (E:Nat->Array Cd),v = Cq ao qa.length cap/\∀t,t<qa.length->∃b o,ao=some ⟨b,o,none⟩/\b<w.heap.size/\QF w (E t) (kA (qa.getD t zM)) (rA (qa.getD t zM))/\∀j,j<20->w.cell? ⟨b,o+t*20+j,none⟩=(E t)[j]? :=by
 obtain⟨ao,cap,e,hc,E,J,M⟩:=h;refine⟨ao,cap,E,e,fun t ht=> ?_⟩;obtain⟨b,o,I,N,H⟩:=M B_;exact⟨b,o,I,N,J t ht,H t ht⟩
end
end Go.Proofs.YtffmbepfbienaaaGreat
/- QuadNear without the program: Find's answers with G9 limits, the greedy look for one in the other. -/
namespace Go.Proofs.YtffmbepfbienaaaGreat
open Go.RowKit
variable {r:Rat}
theorem Vz:∀n,n<=6->(yh n).length<=15/\∀x∈yh n,ZI n x=true:=by
 intro n E
 rcases(show n=0\/n=1\/n=2\/n=3\/n=4\/n=5\/n=6 by omega)with rfl | rfl | rfl | rfl | rfl | rfl | rfl<;>decide
theorem jK (f:Nat->Rat):∀n,yw (fun i=>some (f i)) n=true
 | 0=>rfl
 | n+1=>by unfold yw; rw[jK f n]; rfl
theorem vL (f:Nat->Nat->Rat):∀n,yN (fun t i=>some (f t i)) n=true
 | 0=>rfl
 | n+1=>by unfold yN; rw[vL f n,jK]; rfl
theorem J8 (h:0<=r):ZQ (some r)=true:=by
 have:¬r<0:=Rat.not_lt.2 h;simp[ZQ,this]
theorem QW {n:Nat} {f:Nat->Nat->Rat} {g:Nat->Rat} (E:n<=500) (h:0<=r):vK n (fun t i=>some (f t i)) (fun i=>some (g i)) (some r)=(qD (fun t i=>some (f t i)) (fun i=>some (g i)) r n,0):=by
 unfold vK;rw[C8 B_,vL,jK,J8 h]; rfl
def Bu (p:Int->Bool) (L:List Int) (s:Nat):Nat:=((L.take s).filter p).length
structure eX (A N:List Int) (ns:Nat->Nat):Prop where
 zero:ns 0=0
 all:ns A.length=N.length
 le:∀s,ns s<=N.length
 step:∀s,s<A.length->(ns s<N.length/\N.getD (ns s) 0=A.getD s 0/\ns (s+1)=ns s+1)\/(ns (s+1)=ns s/\(ns s<N.length->N.getD (ns s) 0≠A.getD s 0))
end Go.Proofs.YtffmbepfbienaaaGreat
