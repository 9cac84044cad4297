import Derived.Test.YtffmbepfbienaaaGreatOQc
import Derived.Sort.CutIn
set_option linter.unusedVariables false
set_option linter.unusedSimpArgs false
set_option maxHeartbeats 6400000
set_option maxRecDepth 1000000
/- Great values stored and loaded whole: one step each. -/
open Go.Value renaming slice->Ex,bool->Ez,int->Ey,agg->Ej,pointer->Ek,tuple->Ev
open Go.IntKind renaming i64->Ew
open Go.Ending renaming returned->Eh
open Go.Proofs.Tryz renaming prog->Ed
open Go renaming Calls->Ee,World->Ef,Value->Ei,TypeId->Em,undef->En,bodyPost_ret->Eo
open Nat renaming le_refl->Ep,lt_or_ge->Er
open Go.World renaming cell?->Es
namespace Go.Proofs.YtffmbepfbienaaaGreat
open Go.RowKit
variable {cs old:Array Ei} {g:Nat} {t:Em} {w' w0:Ef}
theorem Ce {w:Ef} {cs':Array Ei} (h:ai w g t cs) (e:cs=cs'):ai w g t cs':=e▸h
theorem Zq {w:World} (h:ai w g t cs:=by (apply Ce; (focus (repeat' first | with_reducible assumption | with_reducible apply ai.alloc | with_reducible apply ai.drew | with_reducible apply ai.drewN | with_reducible apply ai.bH | with_reducible apply ai.aK | (show _≠_; omega))); rfl)):ai w g t cs:=h
structure bz (g:Nat) (t:Em) (old cs:Array Ei) (w w':Ef):Prop where
 bI:ai w' g t cs
 was:ai w g t old
 is:w'=w.setRow g cs
theorem bz.eQ {w:Ef} (h:ai w g t old):bz g t old cs w (w.setRow g cs):=by
 refine⟨?_,h,rfl⟩;unfold ai at *;simp[World.setRow,Array.getElem?_modify,h]
theorem bz.bc {w:Ef} (h:bz g t old cs w w') {H:Nat} {I:Em} {cs':Array Ei} (J:ai w H I cs') (E:H≠g):ai w' H I cs':=by
 obtain⟨_,_,rfl⟩:=h;unfold ai at *;simp only[World.setRow,Array.getElem?_modify];rw[E_ (Ne.symm E)]; exact J
theorem bz.only {w:Ef} (h:bz g t old cs w w'):bJ g w w':=by
 obtain⟨_,_,rfl⟩:=h;refine⟨by simp[World.setRow],fun k E=> ?_⟩;simp only[World.setRow,Array.getElem?_modify];rw[E_ (Ne.symm E)]
theorem bz.af {w:Ef} (h:bz g t old cs w w') (E:zV old=true):av w w':=av.only h.was E h.only
theorem bz.below {n:Nat} {w:Ef} (h:bz g t old cs w w') (E:Below n w0 w) (hg:n<=g):Below n w0 w':=by
 have H:=h.only;obtain⟨_,_,rfl⟩:=h;refine⟨E.os,E.tape,E.output,by rw[H.1]; exact E.size,fun k I=> ?_⟩;rw[H.2 k D6]; exact E.block k I
theorem bz.ae {w:Ef} (h:bz g t old cs w w') (E:zf w0 w) (hg:w0.heap.size<=g):zf w0 w':=h.below E hg
section
variable {P:Program} {ops:Array Oper} {rest:List Oper} {o:Oper} {a:Act} {w:Ef} {Q:Exit->Act->Ef->Prop}
theorem zL (H:o.guard=none) (ty:Em) (x y:Operand) (J:o.op = .store ty x y) (g:Nat) (cells:Array Ei) (M:a.eval x = Ek (some ⟨g,0,none⟩)) (I:a.eval y = Ej cells)
  (t:Em) (old:Array Ei) (hg:ai w g t old) (T:(P.info? ty).map (·.size)=some cells.size) (E:old.size=cells.size) (N:cells.all (·.oneCell')=true)
  (h:∀w',bz g t old cells w w'->wpList P ops Q rest (a.put o.dst En) w'):wpList P ops Q (o::rest) a w:=
 wpList_store_row H ty x y J g cells M I t old hg T E N (h _ (bz.eQ hg))
theorem yg (E:o.guard=none) (ty:Em) (x:Operand) (H:o.op = .load ty x) (g:Nat) (I:a.eval x = Ek (some ⟨g,0,none⟩)) (t:Em) (cs:Array Ei) (d:TypeDesc) (hg:ai w g t cs)
  (J:P.underlying ty=some d) (hd:(match d with | .struct _ | .array _ _=>true | _=>false)=true) (M:(P.info? ty).map (·.size)=some cs.size)
  (h:wpList P ops Q rest (a.put o.dst (Ej cs)) w):wpList P ops Q (o::rest) a w:=
 wpList_load_row E ty x H g I t cs (0,0) d hg J hd M h
theorem yW (E:o.guard=none) (t:Em) (parts:Array (Nat×Operand)) (H:o.op = .build t parts) (v:Array Ei) (hv:P.built t (parts.map fun(i,x)=>(i,a.eval x)).toList=some v)
  (h:wpList P ops Q rest (a.put o.dst (Ej v)) w):wpList P ops Q (o::rest) a w:=
 wpList_build E t parts H (by rw[hv]; rfl) (by rw[hv]; exact h)
end
theorem yf {P:Program} {fn:Func} {p q:Tmp} {ty:Em} (h:fn.results=#[.cell p ty,.tmp q]) (tmps:Array Ei) (w:Ef) (g:Nat) {t:Em} {cs:Array Ei} {d:TypeDesc}
  (I:tmps.getD p En = Ek (some ⟨g,0,none⟩)) (hg:ai w g t cs)
  (H:P.underlying ty=some d) (hd:(match d with | .struct _ | .array _ _=>true | _=>false)=true) (J:(P.info? ty).map (·.size)=some cs.size) :
  (results fn tmps).run P w = .ok (Ev #[Ej cs,tmps.getD q En]) w:=by
 have E:tmps[p]?.getD En = Ek (some ⟨g,0,none⟩):=by simpa using I
 simp[results,h,E,asAddr,run_loadVar_row w g t ty cs (0,0) d hg H hd J]
theorem jW {P:Program} {fn:Func} {p:Tmp} {ty:Em} (h:fn.results=#[.cell p ty]) (tmps:Array Ei) (w:Ef) (g:Nat) {t:Em} {cs:Array Ei} {d:TypeDesc}
  (H:tmps.getD p En = Ek (some ⟨g,0,none⟩)) (hg:ai w g t cs)
  (E:P.underlying ty=some d) (hd:(match d with | .struct _ | .array _ _=>true | _=>false)=true) (I:(P.info? ty).map (·.size)=some cs.size) :
  (results fn tmps).run P w = .ok (Ej cs) w:=results_cell_row h tmps w g t cs (0,0) d H hg E hd I
end Go.Proofs.YtffmbepfbienaaaGreat
/- A region in the text's order in a round of a range X7 a function: walked by the plain words; what a round leaves as it lay. -/
namespace Go.Proofs.YtffmbepfbienaaaGreat
open Go.RowKit
variable {Q:Exit->Act->Ef->Prop} {Bs g n n₀:Nat} {P:Program} {W W':Ef}
theorem JS {ops:Array Oper} {l:Nat} (hd:jQ ops=true):∀ (rest:List Oper) (_:∀o∈rest,∃i:Nat,ops[i]? = some o) (a:Act) (w:Ef),
  wpList P ops (y_ Q) rest a w->wpListIn (Fence.wide.inRound l) n P ops Q rest a w:=by
 intro rest
 induction rest with
 | nil=>intro _ a w h; exact h
 | cons o rest ih=>
  intro H a w h;unfold wpList at h;unfold wpListIn;obtain⟨i,J⟩:=H o (.head _);have E:=ih (fun M I=>H M (.tail _ I))
  by_cases hw:Region.wanted o (yielded ops a.tmps)=true
  .
   rw[E9 hw]at h|-
   rcases h with h | ⟨_,h⟩
   . exact Yl (vJ hd J) h (fun a w=>E a w)
   . exact(kV Q h).elim
  .
   rw[E_ hw]at h|-;exact⟨fun _ _=>trivial,E _ _ h⟩
theorem yD {l:List Oper} {r H:Nat} {a:Act} {w:Ef} (hd:jQ l.toArray=true) (h:wpList P l.toArray (y_ Q) l a w) :
  (Code.region H l.toArray false).wpIn (Fence.wide.inRound r) n P Q a w:=
 wpIn_region_lit (JS hd l (fun o I=>by obtain⟨i,E,e⟩:=List.getElem_of_mem I; exact⟨i,by simp[E,e]⟩) a w h)
structure Al (n₀ Bs:Nat) (W W':Ef):Prop where
 others:KeepsOthers W W'
 kd:KD n₀ Bs W W'
theorem Al.refl (n₀ Bs:Nat) (W:Ef):Al n₀ Bs W W:=⟨KeepsOthers.refl _,KD.refl _ _ _⟩
theorem Al.trans {A B C:Ef} (h:Al n₀ Bs A B) (k:Al n₀ Bs B C):Al n₀ Bs A C:=⟨h.others.trans k.others,h.kd.trans k.kd⟩
theorem Al.ae (h:zf W W') (h0:n₀<=W.heap.size) (H:Bs<W.heap.size):Al n₀ Bs W W':=
 ⟨⟨h.size,fun k o E _=>(h.block k (Array.getElem?_eq_some_iff.1 E).1).trans E⟩,⟨h.mono h0,h.block Bs H⟩⟩
theorem Al.row {t:Em} {old cs:Array Ei} (h:bz g t old cs W W') (h0:n₀<=g) (J:Bs≠g):Al n₀ Bs W W':=by
 have H:=h.only;have I:=h.was;refine⟨⟨Nat.le_of_eq H.1.symm,fun k o E hc=>(H.2 k ?_).trans E⟩,⟨h.below (Below.refl _ _) h0,H.2 Bs J⟩⟩;rintro rfl;unfold ai at I;rw[I]at E
 injection E with E
 subst E
 cases hc
theorem Al.set {i:Nat} {u:Ei} (h0:n₀<=g) (E:Bs≠g):Al n₀ Bs W (W.setCell ⟨g,i,none⟩ u):=
 ⟨KeepsOthers.setCell _ _ _,⟨(Below.refl _ _).setCell (p:=⟨g,i,none⟩) h0 _,Below.heap_setCell _ _ _ _ E⟩⟩
theorem Al.alloc (o:Obj) (h0:n₀<=W.heap.size) (E:Bs<W.heap.size):Al n₀ Bs W (W.alloc o):=Al.ae ((Below.refl _ _).alloc (Ep _) _) h0 E
theorem Al.drewN (m:Nat):Al n₀ Bs W (W.drewN m):=⟨⟨Ep _,fun _ _ h _=>h⟩,⟨⟨rfl,rfl,rfl,Ep _,fun _ _=>rfl⟩,rfl⟩⟩
end Go.Proofs.YtffmbepfbienaaaGreat
/- A drawn region in a round of a range X7 a function, by XSk's laws X7 a list of entries. -/
namespace Go.Proofs.YtffmbepfbienaaaGreat
open Go.RowKit
variable {Q:Exit->Act->Ef->Prop} {P:Program} {w:Ef}
theorem aj.ew {ops:Array Oper} {l n id:Nat} {E:Act} (M w0:Ef) (L:List aH) (cs:List Nat) (J:List (Nat×(Ei->Prop))) (N:List (Nat×(Ei->Ef->Prop))) (X:List (Nat×List (Nat×Option Tmp))) (qs:List (Nat×List Nat))
  (hi:Below M.heap.size M w.drew/\av w0 w.drew/\aV w.drew L)
  (h:∀Y,Hid (Y=w.heap.size)->∀H Z,H=ops->(∀a W,Q .normal a W->Z .normal a W)->aj.RC P H Z (SJ M w0 Y L) (aj.inl cs) (aj.gv J) (gw N) (fun _=>av) (fun _ _=>False) (aj.pl X) (aj.pl qs) 0 ops.toList E)
  (hv:∀p∈J,∃x,p.2 x) (hg:∀p∈N,∀x W W',av W W'->p.2 x W->p.2 x W') (hd:jQ ops=true:=by kernel_rfl) (hm:P.follows .mixedOrders=true:=by kernel_rfl) (ht:aj.tidy ops E.tmps.size=true:=by kernel_rfl) (I:aj.cX ops (aj.inl cs) (aj.pl X) (aj.pl qs)=true:=by kernel_rfl) :
  (Code.region id ops true).wpIn (Fence.wide.inRound l) n P Q E w:=
 jg (SJ M w0 w.heap.size L) (aj.inl cs) (aj.gv J) (gw N) (fun _=>av) (fun _ _=>False) (aj.pl X) (aj.pl qs) hd hm ht I (aj.aY J hv) (fun v=>SJ.start hi v) (fun _ _ _ _ T hj=>hj.vv T) (fun _ _ _ _ _ _ _ _ _ _ _ hk hx=>qN N hg hk hx) (fun _ _ _ _ h=>h.elim) (h _ (E7 rfl))
theorem JT {o:Oper} {a:Act} {K:Act->Ef->Prop} (t:Em) (parts:Array (Nat×Operand)) (E:o.op = .build t parts) (v:Array Ei) (hv:P.built t (parts.map fun(i,x)=>(i,a.eval x)).toList=some v)
  (h:K (a.put o.dst (Ej v)) w):o.wp P a w K Q:=wp_build t parts E (by rw[hv]; rfl) (by rw[hv]; exact h)
end Go.Proofs.YtffmbepfbienaaaGreat
/- Quads as they come in: four indices, four fractions that are zU or not; lists of quads. -/
namespace Go.Proofs.YtffmbepfbienaaaGreat
open Go.RowKit
variable {cs:Array Ei} {i n:Nat} {CS:Nat->Array Ei} {R:Nat->Nat->Option Rat} {r:Nat->Option Rat} {v:Ei} {w w':Ef}
def xw (r:Rat):Rat:=if r<0 then -r else r
theorem ZF (r:Rat):r<0↔r.num<0:=by rw[<- Rat.not_le,<- Rat.num_nonneg]; omega
theorem QK (r:Rat):(xw r).num=zi r.num/\((xw r).den:Int)=r.den:=by
 unfold xw zi
 by_cases h:r<0
 .
  have:=(ZF r).1 h;rw[E9 h,Rat.neg_num,Rat.neg_den]; exact⟨by omega,rfl⟩
 .
  have:¬r.num<0:=fun g=>h ((ZF r).2 g);rw[E_ h]; exact⟨by omega,rfl⟩
theorem Gj (x y:Int):yn (zi x) y=yn x y:=by unfold yn zi; simp[Int.gcd]
theorem Yz (x:Int):zi (zi x)=zi x:=by unfold zi; omega
theorem FR.abs {a b:Bool} {s t:Ei} {r:Rat} (h:FR w (Ej #[Ez a,s,Ez b,t]) r):FR w (Ej #[Ez false,s,Ez b,t]) (xw r):=by
 obtain⟨Z,Y,e,I,M,q0,hg,E,H⟩:=h;simp only[Value.agg.injEq,Array.mk.injEq,List.cons.injEq,and_true,Value.bool.injEq]at e;obtain⟨T,rfl,rfl,rfl⟩:=e;obtain⟨N,J⟩:=QK r;have X:=zD r.num;unfold FR;rw[N,J];refine⟨s,t,?_,by rw[Yz]; exact I,M,q0,by rw[Gj]; exact hg,?_,H⟩
 . rw[Ea D6]
 . unfold fits at E|-; rw[Yz]; exact E
theorem sz.abs {r:Rat} {k:Nat} (h:sz r k):sz (xw r) k:=by
 obtain⟨E,H⟩:=QK r;unfold sz;rw[E,H,Yz]; exact h
def FB (w:Ef) (v:Ei):Option Rat->Prop
 | some r=>FR w v r
 | none=>eD w v
theorem FB.af {o:Option Rat} (h:FB w v o) (k:av w w'):FB w' v o:=by
 cases o with
 | none=>exact eD.af h k
 | some r=>exact FR.af h k
def QX (w:Ef) (cs:Array Ei) (r:Nat->Option Rat):Prop:=cs.size=20/\cs.all (·.oneCell')=true/\zV cs=true/\
 ∀i,i<4->∃a1 a2 I H E J N M,cs[4+i*4]? = some (Ez a1)/\cs[4+i*4+1]? = some (Ex a2 I H)/\cs[4+i*4+2]? = some (Ez E)/\cs[4+i*4+3]? = some (Ex J N M)/\FB w (Ej #[Ez a1,Ex a2 I H,Ez E,Ex J N M]) (r i)
theorem QX.af (h:QX w cs r) (N:av w w'):QX w' cs r:=by
 obtain⟨h1,X,h3,h4⟩:=h;refine⟨h1,X,h3,fun i Y=> ?_⟩;obtain⟨a1,a2,T,J,E,a6,a7,a8,H,Z,M,I,f⟩:=h4 i Y;exact⟨a1,a2,T,J,E,a6,a7,a8,H,Z,M,I,f.af N⟩
theorem QX.ae (h:QX w cs r) (s:zf w w'):QX w' cs r:=h.af (av.ae s)
def U0 (w:Ef) (b o n:Nat) (CS:Nat->Array Ei):Prop:=∀t,t<n->∀j,j<20->w.cell? ⟨b,o+t*20+j,none⟩=(CS t)[j]?
def dO (w:Ef) (v:Ei) (n:Nat) (CS:Nat->Array Ei) (R:Nat->Nat->Option Rat):Prop:=
 (∀t,t<n->QX w (CS t) (R t))/\∃ao cap,v = Ex ao n cap/\n<=cap/\(0<n->∃b o,ao=some ⟨b,o,none⟩/\b<w.heap.size/\U0 w b o n CS)
theorem dO.ae (h:dO w v n CS R) (s:zf w w'):dO w' v n CS R:=by
 obtain⟨M,ao,cap,e,hc,I⟩:=h;refine⟨fun t ht=>(M t ht).ae s,ao,cap,e,hc,fun T=> ?_⟩;obtain⟨b,o,H,E,J⟩:=I T;exact⟨b,o,H,Nat.lt_of_lt_of_le E s.size,fun t ht j N=>(s.cell (p:=⟨b,_,none⟩) E).trans (J t ht j N)⟩
theorem dO.ak (h:dO w v n CS R):∃ao cap,v = Ex ao n cap:=by obtain⟨_,ao,cap,e,_⟩:=h; exact⟨ao,cap,e⟩
theorem dO.at {ao:Option Addr} {cap:Nat} (h:dO w (Ex ao n cap) n CS R) {t:Nat} (ht:t<n) :
  ∃b o,ao=some ⟨b,o,none⟩/\b<w.heap.size/\∀j,j<20->w.cell? ⟨b,o+t*20+j,none⟩=(CS t)[j]? :=by
 obtain⟨_,I,H,e,_,J⟩:=h
 injection e with M E X
 subst M;obtain⟨b,o,E,N,T⟩:=J D6;exact⟨b,o,E,N,T t ht⟩
section
variable {P:Program}
theorem YA (w:Ef) (g off:Nat) (ty:Em) (cs:Array Ei) (d:TypeDesc) (hg:∀j,j<cs.size->w.cell? ⟨g,off+j,none⟩=cs[j]?)
  (T:P.underlying ty=some d) (hd:(match d with | .struct _ | .array _ _=>true | _=>false)=true) (J:(P.info? ty).map (·.size)=some cs.size) :
  (loadVar ty ⟨g,off,none⟩).run P w = .ok (Ej cs) w:=by
 have M:(loadCells ⟨g,off,none⟩ cs.toList.length).run P w = .ok cs.toList.toArray w:=
  run_loadCells_list (P:=P) w ⟨g,off,none⟩ cs.toList (fun j v hv=>by
   have H:(⟨g,off,none⟩:Addr).add j=⟨g,off+j,none⟩:=by unfold Addr.add; split<;>simp_all
   have E:cs[j]? = some v:=by simpa using hv
   have X:j<cs.size:=by
    rcases Er j cs.size with h | h
    . exact h
    . rw[Array.getElem?_eq_none h]at E; cases E
   rw[H,hg j X]
   exact E)
 cases hq:P.info? ty with
 | none=>simp[hq]at J
 | some i=>
  have N:i.size=cs.size:=by simpa[hq]using J
  have I:(isAgg ty).run P w = .ok true w:=by
   unfold isAgg;rw[Sem.run_bind,run_underlying T w]
   cases d<;>simp_all
  simp only[Array.length_toList,Array.toArray_toList]at M;simp[loadVar,Sem.run_bind,I,sizeOf,typeInfo,hq,N,M]
theorem YB {o:Oper} {a:Act} {w:Ef} {K:Act->Ef->Prop} {Q:Exit->Act->Ef->Prop} (ty:Em) (x:Operand) (I:o.op = .load ty x)
  (g off:Nat) (J:a.eval x = Ek (some ⟨g,off,none⟩)) (cs:Array Ei) (d:TypeDesc) (hg:∀j,j<cs.size->w.cell? ⟨g,off+j,none⟩=cs[j]?)
  (E:P.underlying ty=some d) (hd:(match d with | .struct _ | .array _ _=>true | _=>false)=true) (H:(P.info? ty).map (·.size)=some cs.size)
  (h:K (a.put o.dst (Ej cs)) w):o.wp P a w K Q:=by
 unfold Oper.wp execOp;simp only[I,J,Instr.loadAt,Instr.sureAddr,Sem.run_bind,Sem.run_pure,Result.andThen_ok,YA w g off ty cs d hg E hd H];exact h
theorem Xt {ops:Array Oper} {rest:List Oper} {o:Oper} {a:Act} {w:Ef} {Q:Exit->Act->Ef->Prop} (hw:Region.wanted o (yielded ops a.tmps)=true) (ty:Em) (x:Operand) (I:o.op = .load ty x) (g:Nat) (J:a.eval x = Ek (some ⟨g,0,none⟩)) (t:Em) (cs:Array Ei) (d:TypeDesc) (hg:ai w g t cs)
  (E:P.underlying ty=some d) (hd:(match d with | .struct _ | .array _ _=>true | _=>false)=true) (H:(P.info? ty).map (·.size)=some cs.size)
  (h:wpList P ops Q rest (a.put o.dst (Ej cs)) w):wpList P ops Q (o::rest) a w:=by
 unfold wpList;rw[E9 hw];exact .inl (wp_load_row ty x I g J t cs (0,0) d hg E hd H h)
theorem kK {ops:Array Oper} {rest:List Oper} {o:Oper} {a:Act} {w:Ef} {Q:Exit->Act->Ef->Prop} (E:o.guard=none) (ty:Em) (x:Operand) (H:o.op = .load ty x) (g off:Nat) (I:a.eval x = Ek (some ⟨g,off,none⟩)) (cs:Array Ei) (d:TypeDesc)
  (hg:∀j,j<cs.size->w.cell? ⟨g,off+j,none⟩=cs[j]?)
  (J:P.underlying ty=some d) (hd:(match d with | .struct _ | .array _ _=>true | _=>false)=true) (N:(P.info? ty).map (·.size)=some cs.size)
  (h:wpList P ops Q rest (a.put o.dst (Ej cs)) w):wpList P ops Q (o::rest) a w:=
 wpList_plain E fun _ M=>YB ty x H g off I cs d hg J hd N (M _ _ h)
end
def qP (a b:Nat->Rat) (off:Rat):Nat->Bool
 | 0=>true
 | i+1=>qP a b off i&&decide (xw (a i-b i)<=off)
theorem JU {a b:Nat->Rat} {off:Rat} (h:qP a b off i=false):∀m,i<=m->qP a b off m=false:=by
 intro m E
 induction m with
 | zero=>
      obtain rfl:i=0:=D6
      exact h
 | succ m ih=>
  rcases Er m i with g | g
  .
   obtain rfl:i=m+1:=D6
   exact h
  . unfold qP; rw[ih g]; rfl
def yM (r:Nat->Option Rat):Nat->Bool
 | 0=>true
 | i+1=>yM r i&&(r i).isSome
theorem YC : ∀{n:Nat},yM r n=true->∀i,i<n->∃q,r i=some q
 | n+1,h,i,hi=>by
  unfold yM at h;simp only[Bool.and_eq_true]at h
  rcases Er i n with g | g
  . exact YC h.1 i g
  .
   obtain rfl:i=n:=D6
   exact Option.isSome_iff_exists.1 h.2
theorem QO (h:yM r i=false):∀m,i<=m->yM r m=false:=by
 intro m E
 induction m with
 | zero=>
      obtain rfl:i=0:=D6
      exact h
 | succ m ih=>
  rcases Er m i with g | g
  .
   obtain rfl:i=m+1:=D6
   exact h
  . unfold yM; rw[ih g]; rfl
def xe (R:Nat->Nat->Option Rat):Nat->Bool
 | 0=>true
 | t+1=>xe R t&&yM (R t) 4
theorem YD : ∀{n:Nat},xe R n=true->∀i,i<n->yM (R i) 4=true
 | n+1,h,i,hi=>by
  unfold xe at h;simp only[Bool.and_eq_true]at h
  rcases Er i n with g | g
  . exact YD h.1 i g
  .
   obtain rfl:i=n:=D6
   exact h.2
theorem QP (h:xe R i=false):∀m,i<=m->xe R m=false:=by
 intro m E
 induction m with
 | zero=>
      obtain rfl:i=0:=D6
      exact h
 | succ m ih=>
  rcases Er m i with g | g
  .
   obtain rfl:i=m+1:=D6
   exact h
  . unfold xe; rw[ih g]; rfl
def rq (r:Nat->Option Rat) (i:Nat):Rat:=(r i).getD 0
def jo (R:Nat->Nat->Option Rat) (q:Nat->Option Rat) (off:Rat):Nat->List Int
 | 0=> []
 | t+1=>if qP (rq (R t)) (rq q) off 4 then jo R q off t ++ [(t:Int)]else jo R q off t
theorem Zr (R:Nat->Nat->Option Rat) (q:Nat->Option Rat) (off:Rat):∀n,(jo R q off n).length<=n
 | 0=>Ep _
 | n+1=>by have:=Zr R q off n; unfold jo; split<;>simp<;>omega
end Go.Proofs.YtffmbepfbienaaaGreat
/- Similarities, yy and odds (plain). -/
namespace Go.Proofs.YtffmbepfbienaaaGreat
theorem YE (x:Int):(x:Rat) / ((1:Int):Rat)=(x:Rat):=by
 have E:((1:Int):Rat)≠0:=by decide
 exact qC E (by rw[Rat.intCast_one,Rat.mul_one])
def XS (t:Nat->Rat) (p:Int×Int):Rat:=t 0*(p.1:Rat)-t 1*(p.2:Rat)+t 2
def XT (t:Nat->Rat) (p:Int×Int):Rat:=t 1*(p.1:Rat)+t 0*(p.2:Rat)+t 3
def Xu (a b p q:Int×Int):Rat:=(kJ (b.1-a.1) (b.2-a.2) (q.1-p.1) (q.2-p.2):Rat) / (j5 (b.1-a.1) (b.2-a.2):Rat)
def Xv (a b p q:Int×Int):Rat:=(kZ (b.1-a.1) (b.2-a.2) (q.1-p.1) (q.2-p.2):Rat) / (j5 (b.1-a.1) (b.2-a.2):Rat)
def v_ (a b p q:Int×Int) (i:Nat):Rat:=match i with
 | 0=>Xu a b p q
 | 1=>Xv a b p q
 | 2=>(p.1:Rat)-(Xu a b p q*(a.1:Rat)-Xv a b p q*(a.2:Rat)+0)
 | _=>(p.2:Rat)-(Xv a b p q*(a.1:Rat)+Xu a b p q*(a.2:Rat)+0)
def yP (x y:Rat) (q:Int×Int):Rat:=if xw (x-(q.1:Rat))<xw (y-(q.2:Rat))then xw (y-(q.2:Rat))else xw (x-(q.1:Rat))
def xp (x y E:Rat) (m:PL):Nat->Int×Rat
 | 0=>(-1,E)
 | k+1=>if yP x y (pt m k)<(xp x y E m k).2\/(yP x y (pt m k)=(xp x y E m k).2/\(xp x y E m k).1<0)then((k:Int),yP x y (pt m k))else xp x y E m k
theorem Xw (x y E:Rat) (m:PL):∀n,-1<=(xp x y E m n).1/\(xp x y E m n).1<(n:Int)/\((xp x y E m n).1<0->(xp x y E m n).2=E)/\
  (0<=(xp x y E m n).1->(xp x y E m n).2=yP x y (pt m (xp x y E m n).1.toNat))/\(xp x y E m n).2<=E/\
  ∀k,k<n->(xp x y E m n).2<=yP x y (pt m k)/\¬(yP x y (pt m k)=(xp x y E m n).2/\(k:Int)<(xp x y E m n).1)/\¬(yP x y (pt m k)=(xp x y E m n).2/\(xp x y E m n).1<0)
 | 0=>⟨by show (-1:Int)<=-1; omega,by show (-1:Int)<0; omega,fun _=>rfl,fun h=>absurd h (by show ¬(0:Int)<=-1; omega),Rat.le_refl,fun k I=>absurd I (Nat.not_lt_zero _)⟩
 | n+1=>by
  obtain⟨X,Z,T,N,J,M⟩:=Xw x y E m n;unfold xp
  by_cases h:yP x y (pt m n)<(xp x y E m n).2\/(yP x y (pt m n)=(xp x y E m n).2/\(xp x y E m n).1<0)
  .
   rw[E9 h]
   have H:yP x y (pt m n)<=(xp x y E m n).2:=by
    rcases h with h | ⟨h,_⟩
    . exact Rat.le_of_lt h
    . rw[h]; exact Rat.le_refl
   refine⟨by dsimp only; omega,by dsimp only; omega,fun g=>by dsimp only at g; omega,fun _=>rfl,Rat.le_trans H J,fun k I=> ?_⟩;dsimp only
   rcases Er k n with g | g
   .
    obtain⟨q1,q2,q3⟩:=M k g;refine⟨Rat.le_trans H q1,fun⟨e,_⟩=> ?_,fun⟨_,e⟩=>by omega⟩;rw[e]at q1
    rcases h with h | ⟨h,Y⟩
    . exact Rat.not_le.2 h q1
    . exact q3 ⟨by rw[e,h],Y⟩
   .
    obtain rfl:k=n:=D6
    exact⟨Rat.le_refl,fun⟨_,e⟩=>by omega,fun⟨_,e⟩=>by omega⟩
  .
   rw[E_ h];refine⟨X,by omega,T,N,J,fun k I=> ?_⟩
   rcases Er k n with g | g
   . exact M k g
   .
    obtain rfl:k=n:=D6
    refine⟨Rat.not_lt.1 fun g=>h (.inl g),fun⟨e,g⟩=>by omega,fun⟨e,g⟩=>h (.inr ⟨e,g⟩)⟩
def yy (t:Nat->Rat) (E:Rat) (l m:PL):Nat->List Int
 | 0=> []
 | i+1=>yy t E l m i ++ [(xp (XS t (pt l i)) (XT t (pt l i)) E m m.length).1]
theorem qg (t:Nat->Rat) (E:Rat) (l m:PL):∀n,(yy t E l m n).length=n
 | 0=>rfl
 | n+1=>by unfold yy; rw[List.length_append,qg t E l m n]; rfl
theorem Za (t:Nat->Rat) (E:Rat) (l m:PL):∀n i,i<n->(yy t E l m n).getD i 0=(xp (XS t (pt l i)) (XT t (pt l i)) E m m.length).1
 | n+1,i,h=>by
  unfold yy;have H:=qg t E l m n
  rcases Er i n with g | g
  .
   rw[<- Za t E l m n i g];simp only[List.getD];rw[List.getElem?_append_left D6]
  .
   obtain rfl:i=n:=D6
   simp only[List.getD];rw[List.getElem?_append_right D6,H];simp
/- odds -/
def zF (R A n:Int):Rat:=((n*4*R*R:Int):Rat) / (A:Rat)
def yU (s h:Rat):Rat:=(1-s+s*h) / h
def xu (w s:Rat) (l:List Int) (out:Nat->Bool):Nat->Rat
 | 0=>1
 | i+1=>if out i then xu w s l out i else xu w s l out i*(if 0<=l.getD i 0 then w else s)
def YF (_:Nat):Bool:=false
def jy (w s:Rat):List Int->Rat
 | []=>1
 | k::l=>(if 0<=k then w else s)*jy w s l
theorem Xx (w s:Rat) (a b:List Int):jy w s (a++b)=jy w s a*jy w s b:=by
 induction a with
 | nil=>simp[jy]
 | cons k a ih=>simp only[List.cons_append,jy,ih]; grind
theorem YG (w s:Rat) (l:List Int):∀n,n<=l.length->xu w s l YF n=jy w s (l.take n)
 | 0,_=>by simp[xu,jy]
 | n+1,h=>by
  unfold xu;rw[YG w s l n D6,List.take_add_one,List.getElem?_eq_getElem D6,Xx];simp only[YF,Bool.false_eq_true,if_false,Option.toList,jy,List.getD,List.getElem?_eq_getElem (show n<l.length by omega),Option.getD_some]
  grind
theorem VU (w s:Rat) (l:List Int):xu w s l YF l.length=jy w s l:=by rw[YG w s l _ (Ep _),List.take_length]
section
open Go.RowKit
variable {cs:Array Ei} {i:Nat} {a b:Nat->Rat} {off:Rat} {w:Ef}
def QV (w:Ef) (cs:Array Ei) (r:Nat->Rat):Prop:=cs.size=20/\cs.all (·.oneCell')=true/\zV cs=true/\
 ∀i,i<4->∃a1 a2 I H E J N M,cs[4+i*4]? = some (Ez a1)/\cs[4+i*4+1]? = some (Ex a2 I H)/\cs[4+i*4+2]? = some (Ez E)/\cs[4+i*4+3]? = some (Ex J N M)/\FR w (Ej #[Ez a1,Ex a2 I H,Ez E,Ex J N M]) (r i)
theorem QV.af {w':Ef} {r:Nat->Rat} (h:QV w cs r) (N:av w w'):QV w' cs r:=by
 obtain⟨h1,X,h3,h4⟩:=h;refine⟨h1,X,h3,fun i Y=> ?_⟩;obtain⟨a1,a2,T,J,E,a6,a7,a8,H,Z,M,I,f⟩:=h4 i Y;exact⟨a1,a2,T,J,E,a6,a7,a8,H,Z,M,I,f.af N⟩
theorem QX.qv {r:Nat->Option Rat} (h:QX w cs r) (hw:yM r 4=true):QV w cs (rq r):=by
 obtain⟨h1,X,h3,h4⟩:=h;refine⟨h1,X,h3,fun i E=> ?_⟩;obtain⟨a1,a2,Y,N,H,a6,a7,a8,I,Z,T,M,f⟩:=h4 i E;obtain⟨q,J⟩:=YC hw i E;refine⟨a1,a2,Y,N,H,a6,a7,a8,I,Z,T,M,?_⟩;unfold rq;rw[J]at f|-;exact f
theorem Gl (E:i<4) (h:¬xw (a i-b i)<=off):qP a b off 4=false:=
 JU (i:=i+1) (by unfold qP; rw[Ea h,Bool.and_false]) 4 D6
theorem U2 (E:qP a b off i=true) (h:xw (a i-b i)<=off):qP a b off (i+1)=true:=by
 unfold qP; rw[E,E' h]; rfl
set_option maxHeartbeats 6400000 in
set_option maxRecDepth 1000000 in
theorem Ci {CA CB:Array Ei} {vf:Ei} {J I:Nat->Rat} (w:Ef) (ha:QV w CA J) (hb:QV w CB I) (Y:FR w vf off) (sa:∀i,i<4->sz (J i) 500) (sb:∀i,i<4->sz (I i) 500) (sf:sz off 500) :
  Ee Ed 147 #[Ej CA,Ej CB,vf] w fun e w'=>e = Eh (Ev #[Ez (qP J I off 4),Ey Ew 0])/\zf w w':=by
 have HA:=E7 ha.2.2.2;have HB:=E7 hb.2.2.2;obtain⟨t1,t2,t3,t4,t5,t6,t7,t8,rfl⟩:=Y.ak;have HF:=E7 Y;clear ha hb Y
 go_enter Tryz.func147,Tryz.ntmps147
 go_wp2_with fail
 go_loopw [12] (fun sl0 wr=>∃i:Nat,i<=4/\sl0 = Ey Ew i/\qP J I off i=true/\ai wr w.heap.size 83 CA/\ai wr (w.heap.size+1) 83 CB/\ai wr (w.heap.size+1+1) 28 #[Ez t1,Ex t2 t3 t4,Ez t5,Ex t6 t7 t8]/\Below w.heap.size w wr/\av w wr) (fun sl0 _=>4-(intOf sl0).toNat)
 case atStart=>exact⟨0,by omega,rfl,rfl,zC,zC,zC,zh,zw⟩
 case round=>
  obtain⟨i,hi,rfl,hn,oa,ob,oc,B,kk⟩:=hrel
  rcases Er i 4 with i4 | i4
  .
   have dl:decide ((i:Int)<4)=true:=E' D6;obtain⟨a1,a2,a3,a4,a5,a6,a7,a8,cg,cN,ci,bt,fa⟩:=HA.out i i4;obtain⟨b1,b2,b3,b4,b5,b6,b7,b8,cZ,bh,bl,bi,fb⟩:=HB.out i i4;have a9:=sa i i4;have Z:=sb i i4;have SB:∀w',av w w'->Ee Ed 119 #[Ej #[Ez a1,Ex a2 a3 a4,Ez a5,Ex a6 a7 a8],Ej #[Ez b1,Ex b2 b3 b4,Ez b5,Ex b6 b7 b8]] w' fun e X=>∃v,e = Eh (Ev #[v,Ey Ew 0])/\FR X v (J i-I i)/\zf w' X:=fun w' k=>GS w' (fa.af k) (fb.af k) a9 Z D6;have NO:=fun h=>Gl (a:=J) (b:=I) (off:=off) i4 h;have N:=fun h=>U2 (a:=J) (b:=I) (off:=off) hn h;have CM:∀w' v,av w w'->FR w' v (xw (J i-I i))->Ee Ed 21 #[v,Ej #[Ez t1,Ex t2 t3 t4,Ez t5,Ex t6 t7 t8]] w' fun e X=>e = Eh (Ev #[Ey Ew (z9 (xw (J i-I i)) off),Ey Ew 0])/\zf w' X:=fun w' v k h=>UX w' h (HF.out.af k) (a9.sub Z).abs sf D6;have ah:¬0<z9 (xw (J i-I i)) off↔xw (J i-I i)<=off:=by rw[qW,Rat.not_lt]
   obtain⟨c,hc⟩:∃c,z9 (xw (J i-I i)) off=c:=⟨_,rfl⟩;rw[hc]at CM ah;rw[<- ah]at NO N;clear hc ah hn fa fb a9 Z sa sb;generalize J i-I i=df at SB CM;have dk:w.heap.size+1+1<wr.heap.size:=oc.lt;have dt:=B.size
   go_upto_region 4 with fail
   refine aj.c_ w wr [.o w.heap.size 83 CA,.o (w.heap.size+1) 83 CB,.o (w.heap.size+1+1) 28 #[Ez t1,Ex t2 t3 t4,Ez t5,Ex t6 t7 t8],.n 12 28 #[Ez false,Ex none 0 0,Ez false,Ex none 0 0] 13 [8] (aj.vT 0)] [8,12,13] [(8,UN 0),(12,jE)] [(8,cT (df) 0)] [(13,[(8,some 24),(12,some 9)]),(15,[(8,some 24),(12,some 9)])] [(12,[13]),(8,[13])] (by simp only[aV]; exact⟨zh,zw,zC,zC,zC,trivial⟩) (fun N0 dc b9 Q' E hQ=> ?_);clear dc
   repeat refine aj.aG _ ?_
   apply aj.RP rfl rfl rfl 19 rfl rfl
   .
    intro D v' W' hc hj Y K hK;have T:ai W' w.heap.size 83 CA:=hj.e.1;have c0:Es W' ⟨w.heap.size,4+i*4,none⟩=_:=T.c _ cg;have c1:Es W' ⟨w.heap.size,4+i*4+1,none⟩=_:=T.c _ cN;have c2:Es W' ⟨w.heap.size,4+i*4+2,none⟩=_:=T.c _ ci;have c3:Es W' ⟨w.heap.size,4+i*4+3,none⟩=_:=T.c _ bt;go_step;exact hK.out
   . rfl
   repeat refine aj.aG _ ?_
   apply aj.RP rfl rfl rfl 23 rfl rfl
   .
    intro D v' W' hc hj Y K hK;have M:ai W' (w.heap.size+1) 83 CB:=hj.e.2.1;have c0:Es W' ⟨w.heap.size+1,4+i*4,none⟩=_:=M.c _ cZ;have c1:Es W' ⟨w.heap.size+1,4+i*4+1,none⟩=_:=M.c _ bh;have c2:Es W' ⟨w.heap.size+1,4+i*4+2,none⟩=_:=M.c _ bl;have c3:Es W' ⟨w.heap.size+1,4+i*4+3,none⟩=_:=M.c _ bi;go_step;exact hK.out
   . rfl
   refine aj.sC E (fun D v' W' h _=>SB W' (kk.trans h.k)) ?_;rintro _ ⟨d1,d2,d3,d4,d5,d6,d7,d8,rfl⟩;refine aj.aB (b:=⟨#[_,_,_,_,_,_,_,_,_,_,_,_,_,_,_,_,_,_,_,_,_,_,_,_,_,_,_,_,_,_,_,_,_,_,_,_,_,_,_,_,_,_,_,_,_,_],_⟩) rfl ?_
   repeat refine aj.aG _ ?_
   refine aj.sA E ?_;rintro _ ⟨p9,rfl⟩;refine aj.aB (b:=⟨#[_,_,_,_,_,_,_,_,_,_,_,_,_,_,_,_,_,_,_,_,_,_,_,_,_,_,_,_,_,_,_,_,_,_,_,_,_,_,_,_,_,_,_,_,_,_],_⟩) rfl ?_;refine aj.sN E ?_;refine aj.aG 10 ?_;refine aj.sE (fun _ v' w1 B jk hl _ be Y=> ?_);simp only[xZ,qk,WX]at hl be;obtain⟨oa,ob,oc,H,-⟩:=hl;obtain⟨zd,od⟩:N0<=p9/\ai w1 p9 28 #[Ez d1,Ex d2 d3 d4,Ez d5,Ex d6 d7 d8]:=H p9 rfl;clear H;have Fd:=E7 (cT.get (r:=df) (e:=0) (v:= Ej #[Ez d1,Ex d2 d3 d4,Ez d5,Ex d6 d7 d8]) (Y (8,some 24) (.head _) rfl).2.2);replace kk:=kk.trans jk;clear Y jk;refine hQ _ _ ?_;clear hQ E Q' b9;have la:=oa.lt;have lb:=ob.lt;obtain⟨bf,br,cx,cy⟩:=oc.r3;have lc:=oc.lt;obtain⟨d9,ce,cn,bg,fd,ld⟩:=od.s3;have Fe:Hid (FR _ (Ej #[Ez false,Ex d2 d3 d4,Ez d5,Ex d6 d7 d8]) (xw df)):=E7 Fd.out.abs;go_wp2_with fail
   refine(CM _ _ (kk.trans zw) (Fe.out.af zw)).mono ?_;rintro e X ⟨rfl,st⟩;have Bn:=bA w st;have kp:=kB w1 st;replace kk:=kk.trans kp;replace oa:ai X w.heap.size 83 CA:=ai.au st;replace ob:ai X (w.heap.size+1) 83 CB:=ai.au st;replace oc:ai X (w.heap.size+1+1) 28 #[Ez t1,Ex t2 t3 t4,Ez t5,Ex t6 t7 t8]:=ai.au st;replace od:ai X (p9) 28 #[Ez false,Ex d2 d3 d4,Ez d5,Ex d6 d7 d8]:=ai.au st;clear la lb bf br cx cy lc d9 ce cn bg fd ld;replace B:=Bn;replace Fd:=E7 (Fd.out.af kp);replace Fe:=E7 (Fe.out.af kp);clear kp;clear st
   rcases Int.lt_or_le 0 c with hc | hc
   .
    have N0:=NO D6;clear NO N SB CM;go_wp2_with fail
    refine Eo (by simp[results,Tryz.results147,go_sem,]; rfl) rfl ?_;exact⟨by rw[N0],zh⟩
   .
    have Y0:=N D6;clear NO N SB CM
    go_wp2
    go_roundw
    case rel=>exact⟨i+1,by omega,by go_num,Y0,zC,zC,zC,zh,kk.trans zw⟩
    case measure=>simp[intOf]; omega
  .
   obtain rfl:i=4:=D6
   go_wp2_with fail
   refine Eo (by simp[results,Tryz.results147,go_sem,]; rfl) rfl ?_;exact⟨by rw[hn],zh⟩
end
section
open Go.RowKit Go.Shelf
def qS (a:aU):Array Ei:=#[Ey Ew a.k0,Ey Ew a.k1,Ey Ew a.k2,Ey Ew a.k3,Ey Ew a.a1,Ey Ew a.a2,Ey Ew a.b1,Ey Ew a.b2,Ey Ew a.n]
theorem Gp (a b:aU) (g:Nat) (w:Ef) (J:ai w g 160 (qS b)) (Z:WY a) (ob:WY b) :
  Ee Ed 142 #[V2 a,Ek (some ⟨g,0,none⟩)] w fun e w'=>e = Eh (Ez (a.aO b))/\zf w w':=by
 have hc:∀w',Ee Ed 143 #[V2 a,V2 b] w' fun e w2=>e = Eh (Ey Ew (jj a b))/\zf w' w2:=fun w'=>U9 a b w' Z ob;obtain⟨c,H⟩:∃c,jj a b=c:=⟨_,rfl⟩;rw[H]at hc;have X:b.n<a.n->Hid (a.aO b=true):=fun h=>yR.2 (.inl h)
 have Y:a.n<b.n->Hid (a.aO b=false):=fun h=>by
  show a.aO b=false
  cases hq:a.aO b
  . rfl
  . rw[yR]at hq; omega
 have T:a.n=b.n->¬0<a.n->Hid (a.aO b=false):=fun h h2=>by
  show a.aO b=false
  cases hq:a.aO b
  . rfl
  . rw[yR]at hq; omega
 have I:a.n=b.n->0<a.n->Hid (a.aO b=decide (c<0)):=fun h h2=>by
  show a.aO b=_
  rw[Bool.eq_iff_iff,yR,decide_eq_true_eq,H];omega
 clear H Z ob;obtain⟨k0,k1,k2,k3,A1,A2,B1,B2,N⟩:=a;obtain⟨l0,l1,l2,l3,C1,C2,D1,D2,M⟩:=b;unfold V2 at *;unfold qS at J;dsimp only at hc J X Y T I|-;have lb:=J.lt;have fb:=J.fr;have bi:=J.q8
 rcases(show M<N\/N<M\/N=M by omega)with h | h | h
 .
  have E:=X h;clear X Y T I hc
  go_enter Tryz.func142,Tryz.ntmps142
  go_wp2
  go_returns
  exact⟨YW E.out.symm,zh⟩
 .
  have E:=Y h;have h1:¬M<N:=D6
  have h2:(N==M)=false:=by simp; omega
  clear X Y T I hc
  go_enter Tryz.func142,Tryz.ntmps142
  go_wp2
  go_returns
  exact⟨YW E.out.symm,zh⟩
 .
  subst h
  by_cases h0:0<N
  .
   have E:=I rfl h0;clear X Y T I;obtain⟨be,bg,a9,bh,ah,bf,bl,b9⟩:=J.r7
   go_enter Tryz.func142,Tryz.ntmps142
   go_wp2_with fail
   refine(hc _).mono ?_;rintro e w1 ⟨rfl,st⟩;have B:=bA w st;have Z:ai w1 w.heap.size 160 #[Ey Ew k0,Ey Ew k1,Ey Ew k2,Ey Ew k3,Ey Ew A1,Ey Ew A2,Ey Ew B1,Ey Ew B2,Ey Ew N]:=ai.au st;have ob:ai w1 (g) 160 #[Ey Ew l0,Ey Ew l1,Ey Ew l2,Ey Ew l3,Ey Ew C1,Ey Ew C2,Ey Ew D1,Ey Ew D2,Ey Ew N]:=ai.au st;clear st
   go_wp2
   go_returns
   exact⟨YW E.out.symm,zh⟩
  .
   have E:=T rfl h0;clear X Y T I hc
   go_enter Tryz.func142,Tryz.ntmps142
   go_wp2
   go_returns
   exact⟨YW E.out.symm,zh⟩
end
section
open Go.RowKit Go.Shelf
attribute [local go_sem] Oper.semAt_some
def QW (K:Nat->Nat) (p:P4):Ei:= Ej #[Ey Ew (K p.1),Ey Ew (K p.2.1),Ey Ew (K p.2.2.1),Ey Ew (K p.2.2.2)]
def Gq (K:Nat->Nat) (p:P4):Array Ei:=#[QW K p]
theorem V4:∀a,a<4->∀b,b<4->∀c,c<4->a≠b/\a≠c/\b≠c->(xF a b c).length<24:=by
 intro a H b E c hc
 rcases(show a=0\/a=1\/a=2\/a=3 by omega)with rfl | rfl | rfl | rfl<;>rcases(show b=0\/b=1\/b=2\/b=3 by omega)with rfl | rfl | rfl | rfl<;>rcases(show c=0\/c=1\/c=2\/c=3 by omega)with rfl | rfl | rfl | rfl<;>decide
theorem V5 (F:Fence) (n:Nat) (J:F.fn 144) (E:F.round=none) (H I x2 x3:Ei) (w:Ef) :
  CallsIn F n Ed 144 #[Ej #[H,I,x2,x3]] w fun e w'=>e = Eh (.func (.func 176) #[] #[Ek (some ⟨w.heap.size,0,none⟩)])/\w'=w.alloc (.cells #[H,I,x2,x3] 80):=by
 refine callsIn_of_wp Tryz.func144 rfl J ?_ E;simp only[Tryz.ntmps144,List.size_toArray,List.length_cons,List.length_nil,Nat.reduceAdd,Nat.reduceSub,Array.replicate_succ,Array.replicate_zero,List.push_toArray,List.append_toArray,List.nil_append,List.cons_append]
 gi_wp2
 go_ret
 exact⟨rfl,rfl⟩
theorem J3 (n l Bs n₀ B0 k0 k1 k2 k3:Nat) (J Jx:List P4->Ef->Prop) (hJ:AbidesFrom B0 J)
  (hY:∀pre (x:P4) W,J pre W->pre.length<24->YieldAt Fence.wide (n-1) Ed l (Gq (Xq k0 k1 k2 k3) x) W fun e W'=>
   (e = Eh (Ez true)/\J (pre ++ [x]) W'/\KD n₀ Bs W W')\/(e = Eh (Ez false)/\Jx (pre ++ [x]) W'))
  (W:Ef) (ci:ai W Bs 80 #[Ey Ew k0,Ey Ew k1,Ey Ew k2,Ey Ew k3]) (h0:J [] W) :
  CallsIn Fence.wide n Ed 176 #[.func (.yield l) #[] #[],Ek (some ⟨Bs,0,none⟩)] W fun e W'=>(∃v,e = Eh v)/\
   ((∃ys,ys=bP/\J ys W')\/(∃pre:List P4,True/\Jx pre W')):=by
 have bt:Fence.wide.round=none:=rfl;have Z:∀i,i<4->(#[Ey Ew k0,Ey Ew k1,Ey Ew k2,Ey Ew k3]:Array Ei)[i]? = some (Ey Ew (Xq k0 k1 k2 k3 i:Nat)):=fun i hi=>by rcases(show i=0\/i=1\/i=2\/i=3 by omega)with rfl | rfl | rfl | rfl<;>rfl
 refine callsIn_of_wp Tryz.func176 rfl trivial ?_ bt;simp only[Tryz.ntmps176,List.size_toArray,List.length_cons,List.length_nil,Nat.reduceAdd,Nat.reduceSub,Array.replicate_succ,Array.replicate_zero,List.push_toArray,List.append_toArray,List.nil_append,List.cons_append]
 gi_wp2
 gi_loopw [6] (fun i wr=>∃a:Nat,a<=4/\i = Ey Ew a/\J (xF a 0 0) wr/\KD n₀ Bs W wr) (fun i _=>4-(intOf i).toNat)
 case atStart=>exact⟨0,by omega,rfl,by rw[KU]; exact h0,KD.refl _ _ _⟩
 case round=>
  obtain⟨a,ha,rfl,b9,ce⟩:=hrel
  rcases Er a 4 with a4 | a4
  .
   have cy:decide ((a:Int)<4)=true:=E' D6
   gi_wp2
   gi_loopw [9] (fun i wr=>∃b:Nat,b<=4/\i = Ey Ew b/\J (xF a b 0) wr/\KD n₀ Bs W wr) (fun i _=>4-(intOf i).toNat)
   case atStart=>exact⟨0,by omega,rfl,b9,ce⟩
   case round=>
    obtain⟨b,hb,rfl,a9,bh⟩:=hrel
    rcases Er b 4 with b4 | b4
    .
     have cN:decide ((b:Int)<4)=true:=E' D6
     gi_wp2
     gi_loopw [12] (fun i wr=>∃c:Nat,c<=4/\i = Ey Ew c/\J (xF a b c) wr/\KD n₀ Bs W wr) (fun i _=>4-(intOf i).toNat)
     case atStart=>exact⟨0,by omega,rfl,a9,bh⟩
     case round=>
      obtain⟨c,hc,rfl,X,T⟩:=hrel
      rcases Er c 4 with c4 | c4
      .
       have cZ:decide ((c:Int)<4)=true:=E' D6;have M:=ZX a a4 b b4 c c4
       by_cases e1:a=b
       .
        have q1:((a:Int) != (b:Int))=false:=by simp[e1]
        rw[E_ (fun h=>h.1 e1)]at M;replace M:=E7 M;clear e1
        gi_wp2_with fail
        refine aR.bL (fun D _ W'=>∃m,W'=wr.drewN m) (aj.inl []) (aj.gv []) aj.aQ (fun _=>aj.Any) (fun _ _=>False) (aj.pl []) (aj.pl [])
         D7 D7 D7 (aj.dB _) (fun _=>⟨1,rfl⟩) (fun _ _ _ _ _ h=>h) (fun _ _ _ _ _ _ _ _ _ _ _ _ _=>aj.none_) (fun _ _ _ _ h=>h.elim) (fun H Q' E Y=> ?_)
        repeat (first | refine aR.RY E _ ?_ | (refine aR.sk E ?_; refine aR.aB (b:=⟨#[_,_,_,_,_,_,_,_,_,_,_,_,_,_,_,_,_,_,_,_,_,_,_,_,_,_,_,_,_,_,_,_,_,_,_,_,_,_,_,_,_,_,_,_,_,_,_,_,_,_,_,_,_,_],_⟩) rfl ?_))
        refine aR.aE (fun Dn v' W4 hd I N=> ?_);obtain⟨m,rfl⟩:=I;clear hd N;refine Y _ _ ?_;clear Y E Q' H
        gi_wp2
        go_roundw
        case rel=>exact⟨c+1,by omega,by go_num,by rw[M.out]; exact hJ _ _ _ none X ⟨rfl,rfl,rfl,Ep _,fun _ _ _=>rfl⟩ (fun _ e=>by cases e),T.trans ⟨⟨rfl,rfl,rfl,Ep _,fun _ _=>rfl⟩,rfl⟩⟩
        case measure=>simp[intOf]; omega
       have q1:((a:Int) != (b:Int))=true:=by simp; omega
       by_cases e2:a=c
       .
        have q2:((a:Int) != (c:Int))=false:=by simp[e2]
        rw[E_ (fun h=>h.2.1 e2)]at M;replace M:=E7 M;clear e1 e2
        gi_wp2_with fail
        refine aR.bL (fun D _ W'=>∃m,W'=wr.drewN m) (aj.inl []) (aj.gv []) aj.aQ (fun _=>aj.Any) (fun _ _=>False) (aj.pl []) (aj.pl [])
         D7 D7 D7 (aj.dB _) (fun _=>⟨1,rfl⟩) (fun _ _ _ _ _ h=>h) (fun _ _ _ _ _ _ _ _ _ _ _ _ _=>aj.none_) (fun _ _ _ _ h=>h.elim) (fun H Q' E Y=> ?_)
        repeat (first | refine aR.RY E _ ?_ | (refine aR.sk E ?_; refine aR.aB (b:=⟨#[_,_,_,_,_,_,_,_,_,_,_,_,_,_,_,_,_,_,_,_,_,_,_,_,_,_,_,_,_,_,_,_,_,_,_,_,_,_,_,_,_,_,_,_,_,_,_,_,_,_,_,_,_,_],_⟩) rfl ?_))
        refine aR.aE (fun Dn v' W4 hd I N=> ?_);obtain⟨m,rfl⟩:=I;clear hd N;refine Y _ _ ?_;clear Y E Q' H
        gi_wp2
        go_roundw
        case rel=>exact⟨c+1,by omega,by go_num,by rw[M.out]; exact hJ _ _ _ none X ⟨rfl,rfl,rfl,Ep _,fun _ _ _=>rfl⟩ (fun _ e=>by cases e),T.trans ⟨⟨rfl,rfl,rfl,Ep _,fun _ _=>rfl⟩,rfl⟩⟩
        case measure=>simp[intOf]; omega
       have q2:((a:Int) != (c:Int))=true:=by simp; omega
       by_cases e3:b=c
       .
        have q3:((b:Int) != (c:Int))=false:=by simp[e3]
        rw[E_ (fun h=>h.2.2 e3)]at M;replace M:=E7 M;clear e1 e2 e3
        gi_wp2_with fail
        refine aR.bL (fun D _ W'=>∃m,W'=wr.drewN m) (aj.inl []) (aj.gv []) aj.aQ (fun _=>aj.Any) (fun _ _=>False) (aj.pl []) (aj.pl [])
         D7 D7 D7 (aj.dB _) (fun _=>⟨1,rfl⟩) (fun _ _ _ _ _ h=>h) (fun _ _ _ _ _ _ _ _ _ _ _ _ _=>aj.none_) (fun _ _ _ _ h=>h.elim) (fun H Q' E Y=> ?_)
        repeat (first | refine aR.RY E _ ?_ | (refine aR.sk E ?_; refine aR.aB (b:=⟨#[_,_,_,_,_,_,_,_,_,_,_,_,_,_,_,_,_,_,_,_,_,_,_,_,_,_,_,_,_,_,_,_,_,_,_,_,_,_,_,_,_,_,_,_,_,_,_,_,_,_,_,_,_,_],_⟩) rfl ?_))
        refine aR.aE (fun Dn v' W4 hd I N=> ?_);obtain⟨m,rfl⟩:=I;clear hd N;refine Y _ _ ?_;clear Y E Q' H
        gi_wp2
        go_roundw
        case rel=>exact⟨c+1,by omega,by go_num,by rw[M.out]; exact hJ _ _ _ none X ⟨rfl,rfl,rfl,Ep _,fun _ _ _=>rfl⟩ (fun _ e=>by cases e),T.trans ⟨⟨rfl,rfl,rfl,Ep _,fun _ _=>rfl⟩,rfl⟩⟩
        case measure=>simp[intOf]; omega
       have q3:((b:Int) != (c:Int))=true:=by simp; omega
       have bf:=V4 a a4 b b4 c c4 ⟨e1,e2,e3⟩;rw[E9 ⟨e1,e2,e3⟩]at M;obtain⟨d,hd⟩:∃d,6-a-b-c=d:=⟨_,rfl⟩;have cx:(6:Int)-a-b-c=(d:Int):=D6
       have d4:d<4:=D6
       rw[hd]at M;replace M:=E7 M;have bI:ai wr Bs 80 #[Ey Ew k0,Ey Ew k1,Ey Ew k2,Ey Ew k3]:=(T.2).trans ci;have ca:=bI.c a (Z a a4);have cb:=bI.c b (Z b b4);have cc:=bI.c c (Z c c4);have cd:=bI.c d (Z d d4);obtain⟨ka,br⟩:∃z,Xq k0 k1 k2 k3 a=z:=⟨_,rfl⟩;obtain⟨kb,bl⟩:∃z,Xq k0 k1 k2 k3 b=z:=⟨_,rfl⟩;obtain⟨kc,bg⟩:∃z,Xq k0 k1 k2 k3 c=z:=⟨_,rfl⟩;obtain⟨kd,be⟩:∃z,Xq k0 k1 k2 k3 d=z:=⟨_,rfl⟩;rw[br]at ca;rw[bl]at cb;rw[bg]at cc;rw[be]at cd;clear hd e1 e2 e3 bI Z
       gi_wp2_with fail
       refine aR.bL (fun D _ W'=>D 33=false->∃m,W'=wr.drewN m) (aj.inl [33]) (aj.gv [(33,fun x=>x = Ez true\/x = Ez false)])
        (gw [(33,fun x W'=>(x = Ez true/\J (xF a b c ++ [(a,b,c,d)]) W'/\KD n₀ Bs wr W')\/(x = Ez false/\Jx (xF a b c ++ [(a,b,c,d)]) W'))]) (fun _=>aj.Any) (fun _ _=>False) (aj.pl [(36,[(33,some 48)])]) (aj.pl [(17,[33]),(20,[33]),(23,[33]),(31,[33])])
        D7 D7 D7 (aj.aY _ (by intro p hp; simp only[List.mem_cons,List.not_mem_nil,or_false]at hp; rcases hp with rfl; exact⟨_,.inl rfl⟩)) (fun _ _=>⟨1,rfl⟩) (fun _ _ _ _ _ h=>h)
        (fun D v k j W W' x cg I hk _ _ _=>absurd ((by simpa[aj.inl]using I:j=33).trans (by simpa[aj.inl]using hk:k=33).symm) cg) (fun _ _ _ _ h=>h.elim) (fun H Q' E Y=> ?_)
       repeat refine aR.RY E _ ?_
       apply aR.bD (hc:=rfl) (hst:=rfl) (hw:=by rw[E]; rfl) (t:=32) (hd:=rfl) (ht:=Ec rfl)
       .
        intro D v' W' hc I N K hK;obtain⟨m,rfl⟩:=I (hc.2 33 D8);go_step;exact hK.out
       . rfl
       repeat refine aR.RY E _ ?_
       apply aR.bD (hc:=rfl) (hst:=rfl) (hw:=by rw[E]; rfl) (t:=35) (hd:=rfl) (ht:=Ec rfl)
       .
        intro D v' W' hc I N K hK;obtain⟨m,rfl⟩:=I (hc.2 33 D8);go_step;exact hK.out
       . rfl
       repeat refine aR.RY E _ ?_
       apply aR.bD (hc:=rfl) (hst:=rfl) (hw:=by rw[E]; rfl) (t:=38) (hd:=rfl) (ht:=Ec rfl)
       .
        intro D v' W' hc I N K hK;obtain⟨m,rfl⟩:=I (hc.2 33 D8);go_step;exact hK.out
       . rfl
       repeat refine aR.RY E _ ?_
       apply aR.bD (hc:=rfl) (hst:=rfl) (hw:=by rw[E]; rfl) (t:=46) (hd:=rfl) (ht:=Ec rfl)
       .
        intro D v' W' hc I N K hK;obtain⟨m,rfl⟩:=I (hc.2 33 D8);go_step;exact hK.out
       . rfl
       refine aR.RY E _ ?_;refine aR.aC (n:=n) rfl (by intro t ht; cases ht; exact Ec rfl) (by rw[E]; rfl) (fun D v' W' hc I N K hK=> ?_) ?_
       .
        obtain⟨m,rfl⟩:=I hc.1;obtain⟨fn,tmps,assign,body,hy,hR⟩:=hY _ (a,b,c,d) (wr.drewN m) (hJ _ _ _ none X ⟨rfl,rfl,rfl,Ep _,fun _ _ _=>rfl⟩ (fun _ e=>by cases e)) bf;unfold Gq QW at hy;dsimp only at hy;rw[br,bl,bg,be]at hy;unfold Oper.wpIn;refine⟨fun _ _=>trivial,?_⟩;rw[show Oper.semAt Fence.wide.round _ _=execOp _ _ from rfl];have bi:∀x y,x=Sem.run Ed (Instr.yield l #[Ej #[Ey Ew ka,Ey Ew kb,Ey Ew kc,Ey Ew kd]]) (wr.drewN m)->y=x->y = .ok (.round l fn tmps assign body) (wr.drewN m):=fun x y e1 e2=>by rw[e2,e1]; exact hy
        rw[bi _ (Sem.run _ _ _) rfl (by simp[execOp,go_sem,Act.eval]),Oper.uponIn_round];refine⟨fun h=>(by cases h),ju (hR.mono ?_)⟩;rintro e W3 (⟨rfl,hJ3,hk3⟩ | ⟨rfl,hJx3⟩)
        . exact hK.out _ _ aj.any (fun h=>by cases h) (.inl ⟨rfl,hJ3,⟨⟨hk3.1.os,hk3.1.tape,hk3.1.output,hk3.1.size,hk3.1.block⟩,hk3.2⟩⟩) (.inl rfl)
        . exact hK.out _ _ aj.any (fun h=>by cases h) (.inr ⟨rfl,hJx3⟩) (.inr rfl)
       rintro _ (rfl | rfl)
       .
        refine aR.aB (b:=⟨#[_,_,_,_,_,_,_,_,_,_,_,_,_,_,_,_,_,_,_,_,_,_,_,_,_,_,_,_,_,_,_,_,_,_,_,_,_,_,_,_,_,_,_,_,_,_,_,_,_,_,_,_,_,_],_⟩) rfl ?_
        repeat refine aR.RY E _ ?_
        refine aR.aE (fun Dn v' W4 hd I N=> ?_);have hg:=(N (33,some 48) (.head _) rfl).2.2;clear hd N I;obtain⟨ah,cn⟩:J (xF a b c ++ [(a,b,c,d)]) W4/\KD n₀ Bs wr W4:=hg.elim (fun h=>h.2) (fun h=>by cases h.1);clear hg;refine Y _ _ ?_;clear Y E Q' H
        gi_wp2
        go_roundw
        case rel=>exact⟨c+1,by omega,by go_num,by rw[M.out]; exact ah,T.trans cn⟩
        case measure=>simp[intOf]; omega
       .
        refine aR.aB (b:=⟨#[_,_,_,_,_,_,_,_,_,_,_,_,_,_,_,_,_,_,_,_,_,_,_,_,_,_,_,_,_,_,_,_,_,_,_,_,_,_,_,_,_,_,_,_,_,_,_,_,_,_,_,_,_,_],_⟩) rfl ?_
        repeat refine aR.RY E _ ?_
        refine aR.aE (fun Dn v' W4 hd I N=> ?_);have hg:=(N (33,some 48) (.head _) rfl).2.2;clear hd N I;obtain ah:Jx (xF a b c ++ [(a,b,c,d)]) W4:=hg.elim (fun h=>by cases h.1) (fun h=>h.2);clear hg;refine Y _ _ ?_;clear Y E Q' H
        gi_wp2
        refine Eo (results_none rfl _ _ _) rfl ?_;exact⟨⟨_,rfl⟩,.inr ⟨_,trivial,ah⟩⟩
      .
       obtain rfl:c=4:=D6
       rw[KQ a a4 b b4]at X
       gi_wp2
       go_roundw
       case rel=>exact⟨b+1,by omega,by go_num,X,T⟩
       case measure=>simp[intOf]; omega
    .
     obtain rfl:b=4:=D6
     rw[KS a a4]at a9
     gi_wp2
     go_roundw
     case rel=>exact⟨a+1,by omega,by go_num,a9,bh⟩
     case measure=>simp[intOf]; omega
  .
   obtain rfl:a=4:=D6
   rw[Xp]at b9
   gi_wp2
   go_end0
   exact⟨⟨_,rfl⟩,.inl ⟨_,rfl,b9⟩⟩
theorem XV (n Bs n₀ k0 k1 k2 k3:Nat) (w:Ef) (E:ai w Bs 80 #[Ey Ew k0,Ey Ew k1,Ey Ew k2,Ey Ew k3]) :
  SeqStopsK Fence.wide n Ed 176 #[Ek (some ⟨Bs,0,none⟩)] (Gq (Xq k0 k1 k2 k3)) (KD n₀ Bs) (fun T=>T=bP) (fun _=>True) 24 w:=fun l J N W H I _ M h0=>
 J3 n l Bs n₀ W.heap.size k0 k1 k2 k3 J N I M W ((H.block Bs E.lt).trans E) h0
end
section
open Go.RowKit Go.Shelf
variable {K:Nat->Nat} {l:PL} {v:Ei}
theorem YI {P:Program} {w:Ef} {a:Addr} {m:Mode} (f:Fn) (H E:_):(store a (.func f H E) m).run P w=stored P w a (.func f H E) m:=run_store P w a _ m rfl
attribute [local go_sem] Oper.semAt_some YI
theorem K7 {p q r s:Int×Int} (k0 k1 k2 k3:Nat) (h0:ku p.1 p.2) (E:ku q.1 q.2) (I:ku r.1 r.2) (H:ku s.1 s.2):WY (UR k0 k1 k2 k3 p q r s):=by
 have a:=jB (xI I h0) (xI E h0);have b:=jB (xI H h0) (xI E h0);unfold WY UR kJ;dsimp only;omega
theorem Hx (x:P4) (w:Ef) (h:bT w v l) (H:∀i,K i<l.length) (E:∀i,ku (pt l (K i)).1 (pt l (K i)).2) :
  Ee Ed 145 #[v,QW K x] w fun e w'=>e = Eh (Ej (qS (yL l K x)))/\zf w w':=
 U4 (K x.1) (K x.2.1) (K x.2.2.1) (K x.2.2.2) (pt l (K x.1)).1 (pt l (K x.1)).2 (pt l (K x.2.1)).1 (pt l (K x.2.1)).2 (pt l (K x.2.2.1)).1 (pt l (K x.2.2.1)).2 (pt l (K x.2.2.2)).1 (pt l (K x.2.2.2)).2 w
  ⟨h,⟨H _,H _,H _,H _⟩,rfl,rfl,rfl,rfl⟩ (E _) (E _) (E _) (E _)
theorem Zb (A:aU):(qS A).all (·.oneCell')=true:=by simp[qS,Value.oneCell']
def jz (l:PL) (K:Nat->Nat) (pre:List P4):aU:=xE (pre.map (yL l K))
theorem YJ (l:PL) (K:Nat->Nat) (pre:List P4) (x:P4):jz l K (pre ++ [x])=if(yL l K x).aO (jz l K pre)then yL l K x else jz l K pre:=by
 unfold jz; rw[List.map_append]; exact ZE _ _
theorem U_ (E:∀i,ku (pt l (K i)).1 (pt l (K i)).2) (pre:List P4):WY (jz l K pre):=by
 have key:∀r:List P4,WY (jz l K r.reverse):=by
  intro r
  induction r with
  | nil=>exact(show WY zH from⟨by decide,by decide,by decide,by decide⟩)
  | cons x r ih=>
   rw[List.reverse_cons,YJ]
   split
   . exact K7 _ _ _ _ (E _) (E _) (E _) (E _)
   . exact ih
 have:=key pre.reverse
 rwa[List.reverse_reverse]at this
set_option maxHeartbeats 6400000 in
set_option maxRecDepth 1000000 in
theorem Gr (k0 k1 k2 k3:Nat) (K:Nat->Nat) (hK:Xq k0 k1 k2 k3=K) (w:Ef) (h:bT w v l) (hk:∀i,K i<l.length) (hp:∀i,ku (pt l (K i)).1 (pt l (K i)).2) :
  Ee Ed 107 #[v,Ej #[Ey Ew k0,Ey Ew k1,Ey Ew k2,Ey Ew k3]] w fun e w'=>e = Eh (Ev #[Ej (qS (jz l K bP)),Ez (decide (0<(jz l K bP).n))])/\zf w w':=by
 have b9:Fence.wide.round=none:=rfl;have HP:=E7 h;obtain⟨ao,cap,rfl⟩:=h.ak;clear h;obtain⟨len,bi⟩:∃n,l.length=n:=⟨_,rfl⟩;rw[bi]at HP|-;refine(callsIn_wide (n:=3)).1 ?_;refine callsIn_of_wp_marks Tryz.func107 rfl trivial ?_ b9;simp only[Tryz.ntmps107,List.size_toArray,List.length_cons,List.length_nil,Nat.reduceAdd,Nat.reduceSub,Array.replicate_succ,Array.replicate_zero,List.push_toArray,List.append_toArray,List.nil_append,List.cons_append]
 gi_wp2_with (refine⟨trivial,?_⟩; gi_at_call 144; refine(V5 Fence.wide 2 trivial b9 _ _ _ _ _).mono ?_; rintro e w' ⟨rfl,rfl⟩)
 obtain⟨T,H⟩:∃T,(((((w.alloc (.cells #[Ex ao len cap] 55)).alloc (.cells #[Ey Ew k0,Ey Ew k1,Ey Ew k2,Ey Ew k3] 80)).alloc (.cells #[Ey Ew 0,Ey Ew 0,Ey Ew 0,Ey Ew 0,Ey Ew 0,Ey Ew 0,Ey Ew 0,Ey Ew 0,Ey Ew 0] 160)).alloc (.cells #[Ey Ew 0,Ey Ew 0,Ey Ew 0,Ey Ew 0,Ey Ew 0,Ey Ew 0,Ey Ew 0,Ey Ew 0,Ey Ew 0] 160)).alloc (.cells #[.func (.func 142) #[] #[Ek (some ⟨w.heap.size+1+1+1,0,none⟩)]] 190)).alloc (.cells #[Ey Ew k0,Ey Ew k1,Ey Ew k2,Ey Ew k3] 80)=T:=⟨_,rfl⟩;rw[H];have M:ai T w.heap.size 55 #[Ex ao len cap]:=by rw[<- H]; exact zC
 have b2:ai T (w.heap.size+1+1) 160 Up:=by rw[<- H]; exact zC
 have b3:ai T (w.heap.size+1+1+1) 160 Up:=by rw[<- H]; exact zC
 have b4:ai T (w.heap.size+1+1+1+1) 190 #[.func (.func 142) #[] #[Ek (some ⟨w.heap.size+1+1+1,0,none⟩)]]:=by rw[<- H]; exact zC
 have b5:ai T (w.heap.size+1+1+1+1+1) 80 #[Ey Ew k0,Ey Ew k1,Ey Ew k2,Ey Ew k3]:=by rw[<- H]; exact ai.bK D9
 have cg:Below w.heap.size w T:=by rw[<- H]; exact zh
 have d9:T.heap.size=w.heap.size+1+1+1+1+1+1:=by rw[<- H]; simp
 clear H;have OS:=XV 2 (w.heap.size+1+1+1+1+1) w.heap.size k0 k1 k2 k3 T b5;rw[hK]at OS
 refine wpIn_rangeFunc_ownH b9 (show 1<=3 by omega) (gf:=176) (lb:=#[Ek (some ⟨w.heap.size+1+1+1+1+1,0,none⟩)]) rfl trivial (enters_of Tryz.func176 D7 rfl)
  OS KD.trans (He D6 D6) (Below.refl _ _) (fun _=>rfl)
  (fun(pre:List P4) W=>(ai W w.heap.size 55 #[Ex ao len cap]/\ai W (w.heap.size+1+1) 160 Up/\ai W (w.heap.size+1+1+1) 160 (qS (jz l K pre))/\ai W (w.heap.size+1+1+1+1) 190 #[.func (.func 142) #[] #[Ek (some ⟨w.heap.size+1+1+1,0,none⟩)]]/\ai W (w.heap.size+1+1+1+1+1) 80 #[Ey Ew k0,Ey Ew k1,Ey Ew k2,Ey Ew k3])/\Below w.heap.size w W)
  (fun _ _ _=>False)
  (OwnFrom.and (Own.from (fun s A B row hs hg hr=>⟨z' hs.1 hg hr,z' hs.2.1 hg hr,z' hs.2.2.1 hg hr,z' hs.2.2.2.1 hg hr,z' hs.2.2.2.2 hg hr⟩) _) (ownFrom_below (Ep _) D6))
  (fun _ _ _ _ _ hs _ _=>hs)
  ⟨⟨M,b2,b3,b4,b5⟩,cg⟩
  (fun(x:P4) a' W=>∃p,a' = { tmps:=#[Ex ao len cap,Ej #[Ey Ew k0,Ey Ew k1,Ey Ew k2,Ey Ew k3],Ek (some ⟨w.heap.size,0,none⟩),Ek (some ⟨w.heap.size+1,0,none⟩),Ek (some ⟨w.heap.size+1+1,0,none⟩),Ez false,Ek (some ⟨w.heap.size+1+1+1,0,none⟩),Ek (some ⟨w.heap.size+1+1+1+1,0,none⟩),Ek (some ⟨p,0,none⟩),En,.func (.func 142) #[] #[Ek (some ⟨w.heap.size+1+1+1,0,none⟩)],Ej #[Ey Ew k0,Ey Ew k1,Ey Ew k2,Ey Ew k3],.func (.func 176) #[] #[Ek (some ⟨w.heap.size+1+1+1+1+1,0,none⟩)],Ej #[Ey Ew (K x.1:Nat),Ey Ew (K x.2.1:Nat),Ey Ew (K x.2.2.1:Nat),Ey Ew (K x.2.2.2:Nat)],En,En,En,En,En,En,En,En,En,En,En],defers:= [] }/\ai W p 80 #[Ey Ew (K x.1:Nat),Ey Ew (K x.2.1:Nat),Ey Ew (K x.2.2.1:Nat),Ey Ew (K x.2.2.2:Nat)])
  (fun x a' s A B row hs hg hr=>by obtain⟨p,e,hb⟩:=hs; exact⟨p,e,z' hb hg (fun r e=>(hr r e).2)⟩) ?assign ?body ?done ?stop
 case assign=>
  rintro l' pre x W K' ⟨⟨M,b2,b3,b4,b5⟩,Y⟩ E;have X:=b5.lt;have N:=Y.size;unfold Gq QW;dsimp only;generalize K x.1=ka at E|-;generalize K x.2.1=kb at E|-;generalize K x.2.2.1=kc at E|-;generalize K x.2.2.2=kd at E|-
  gi_wp2
  have AL:=Al.alloc (n₀:=w.heap.size) (Bs:=w.heap.size+1+1+1+1+1) (W:=W) (.cells #[Ey Ew ka,Ey Ew kb,Ey Ew kc,Ey Ew kd] 80) N X;exact E _ _ (AL.others.from _) AL.kd ⟨⟨zC,zC,zC,zC,zC⟩,Y.trans AL.kd.1⟩ ⟨_,rfl,ai.new _ _ _⟩
 case body=>
  rintro l' pre x a' W hl ⟨dk,dc⟩ ⟨⟨M,b2,b3,b4,b5⟩,Y⟩ ⟨p,rfl,bo⟩ _;have bt:bT W (Ex ao len cap) l:=HP.out.ae Y;have X:=b5.lt;have N:=Y.size;have HA:Hid (jz l K (pre ++ [x])=if(yL l K x).aO (jz l K pre)then yL l K x else jz l K pre):=YJ l K pre x;have Z:=Hx (K:=K) x W bt hk hp;have be:WY (yL l K x):=K7 _ _ _ _ (hp _) (hp _) (hp _) (hp _);have bh:=U_ hp pre;obtain⟨A,hA⟩:∃A,yL l K x=A:=⟨_,rfl⟩;obtain⟨B,ah⟩:∃B,jz l K pre=B:=⟨_,rfl⟩;rw[hA]at Z HA be;rw[ah]at b3 HA bh;unfold QW at Z;generalize K x.1=ka at *;generalize K x.2.1=kb at *;generalize K x.2.2.1=kc at *;generalize K x.2.2.2=kd at *;clear hA ah bt hk hp d9 cg OS;have cx:W.cell? ⟨w.heap.size,0,none⟩=some (Ex ao len cap):=M.c 0 rfl;have ci:W.cell? ⟨p,0,none⟩=some (Ey Ew ka):=bo.c 0 rfl;have cN:W.cell? ⟨p,1,none⟩=some (Ey Ew kb):=bo.c 1 rfl;have cy:W.cell? ⟨p,2,none⟩=some (Ey Ew kc):=bo.c 2 rfl;have cn:W.cell? ⟨p,3,none⟩=some (Ey Ew kd):=bo.c 3 rfl
  gi_upto_region 5 with fail
  refine yD D7 ?_
  repeat' (first | go_values | go_skip | go_guarded | go_step | go_upon)
  refine Z.mono ?_;rintro e W1 ⟨rfl,I⟩;have ce:Al w.heap.size (w.heap.size+1+1+1+1+1) W W1:=Al.ae I N X;replace M:=M.ae I;replace b2:=b2.ae I;replace b3:=b3.ae I;replace b4:=b4.ae I;replace b5:=b5.ae I;replace N:=Nat.le_trans N I.size;clear cx ci cN cy cn bo Z X I;have X:=b5.lt;dsimp only
  repeat' (first | (refine zL rfl 160 (.tmp 9) (.tmp 16) rfl W1.heap.size (qS A) rfl rfl 160 #[Ey Ew 0,Ey Ew 0,Ey Ew 0,Ey Ew 0,Ey Ew 0,Ey Ew 0,Ey Ew 0,Ey Ew 0,Ey Ew 0] zC D7 rfl (Zb A) (fun W2 r2=> ?_)) | go_values | go_skip | go_guarded | go_step | go_upon)
  have n5:∀g,g<=w.heap.size+1+1+1+1+1->g≠W1.heap.size:=fun g hg=>by omega
  have bg:Al w.heap.size (w.heap.size+1+1+1+1+1) W W2:=(ce.trans (Al.alloc _ N X)).trans (Al.row r2 N (n5 _ (Ep _)));replace M:=r2.bc (M.alloc _) (n5 _ D6);replace b2:=r2.bc (b2.alloc _) (n5 _ D6);replace b3:=r2.bc (b3.alloc _) (n5 _ D6);replace b4:=r2.bc (b4.alloc _) (n5 _ D6);replace b5:=r2.bc (b5.alloc _) (n5 _ D6);have ba:=r2.bI;have cZ:W2.cell? ⟨w.heap.size+1+1+1+1,0,none⟩=some (.func (.func 142) #[] #[Ek (some ⟨w.heap.size+1+1+1,0,none⟩)]):=b4.c 0 rfl;have cb:Ee Ed 142 #[Ej (qS A),Ek (some ⟨w.heap.size+1+1+1,0,none⟩)] W2 fun e w2=>e = Eh (Ez (A.aO B))/\zf W2 w2:=Gp A B _ W2 b3 be bh;replace N:=Y.size;replace N:=Nat.le_trans N bg.others.size;have za:=ba.lt;clear ce r2 X be bh;have X:=b5.lt;have n9:=n5 (w.heap.size+1+1+1) D6;clear n5;generalize W1.heap.size=pa at *;dsimp only[y_,Act.put]
  gi_upto_region 6 with fail
  refine yD D7 ?_
  repeat' (first | (refine yg rfl 160 (.tmp 9) rfl pa rfl 160 (qS A) _ ba Tryz.underlying160 rfl D7 ?_) | go_values | go_skip | go_guarded | go_step | go_upon)
  refine cb.mono ?_;rintro e W3 ⟨rfl,J⟩;have a9:=bg.trans (Al.ae J N X);replace M:=M.ae J;replace b2:=b2.ae J;replace b3:=b3.ae J;replace b4:=b4.ae J;replace b5:=b5.ae J;replace ba:=ba.ae J;clear cZ cb bg J X za N
  cases hb:A.aO B
  .
   dsimp only
   repeat' (first | go_values | go_skip | go_guarded | go_step | go_upon)
   dsimp only[y_,Act.put]
   gi_wp2
   exact⟨a9.others.from _,a9.kd,⟨M,b2,by rw[HA.out,E_ (by rw[hb]; simp)]; exact b3,b4,b5⟩,Y.trans a9.kd.1⟩
  .
   dsimp only
   repeat' (first | go_values | go_skip | go_guarded | go_step | go_upon)
   dsimp only[y_,Act.put]
   gi_upto_region 7 with fail
   refine yD D7 ?_
   repeat' (first | (refine yg rfl 160 (.tmp 9) rfl pa rfl 160 (qS A) _ ba Tryz.underlying160 rfl D7 ?_) | (refine zL rfl 160 (.tmp 6) (.tmp 20) rfl (w.heap.size+1+1+1) (qS A) rfl rfl 160 (qS B) b3 D7 rfl (Zb A) (fun W4 r4=> ?_)) | go_values | go_skip | go_guarded | go_step | go_upon)
   have bf:=a9.trans (Al.row r4 D6 D6);dsimp only[y_,Act.put]
   gi_wp2
   exact⟨bf.others.from _,bf.kd,⟨r4.bc M D6,r4.bc b2 D6,by rw[HA.out,E9 hb]; exact r4.bI,r4.bc b4 D6,r4.bc b5 D6⟩,Y.trans bf.kd.1⟩
 case done=>
  rintro Dk ys W hD rfl ⟨⟨M,b2,b3,b4,b5⟩,Y⟩ hKd;obtain⟨C,hC⟩:∃C,jz l K bP=C:=⟨_,rfl⟩;rw[hC]at b3;have HC:=E7 hC;clear hC M b4 b5
  gi_upto_region 8 with fail
  refine wpIn_wide.2 ?_
  refine aj.aJ (fun D _ W'=>Below w.heap.size w W'/\ai W' (w.heap.size+1+1+1) 160 (qS C)/\(D 4=false->ai W' (w.heap.size+1+1) 160 Up)/\(D 4=true->ai W' (w.heap.size+1+1) 160 (qS C))/\W'.heap[Dk]? = some (.deferred (some [])))
   (aj.inl [4]) (aj.ge []) aj.aQ (fun _=>aj.Any) (fun _ _=>False) (aj.pl []) (aj.pl [])
   D7 D7 D7 (aj.cC _) (fun v=>⟨Y.drew,b3.drew,fun _=>b2.drew,(fun h=>by cases h),hKd⟩) (fun _ _ _ _ _ h=>h) (fun _ _ _ _ _ _ _ _ _ _ _ _ _=>aj.none_) (fun _ _ _ _ h=>h.elim) (fun bl Q' br hQ=> ?_)
  apply aj.RP rfl rfl rfl 21 rfl rfl
  .
   intro D v' W' hc hj hf K' E;obtain⟨j0,j3,-,-,-⟩:=hj;exact wp_load_row 160 (.tmp 6) rfl (w.heap.size+1+1+1) rfl 160 (qS C) (0,0) _ j3 Tryz.underlying160 rfl D7 E.out
  . rfl
  refine aj.aG 22 ?_;apply aj.RP rfl rfl rfl 23 rfl rfl
  .
   intro D v' W' hc hj hf K' E;obtain⟨j0,j3,-,-,-⟩:=hj;have c8:W'.cell? ⟨w.heap.size+1+1+1,8,none⟩=some (Ey Ew C.n):=j3.c 8 rfl;go_step;exact E.out
  . rfl
  refine aj.aG 24 ?_;refine aj.aC rfl (by intro t ht; cases ht) rfl (fun D v' W' hc hj hf K' E=> ?_) (fun _ _=>aj.aB (b:=⟨#[_,_,_,_,_,_,_,_,_,_,_,_,_,_,_,_,_,_,_,_,_,_,_,_,_],_⟩) rfl ?_)
  .
   obtain⟨j0,j3,ja,-,jd⟩:=hj;have r:=bz.eQ (cs:=qS C) (ja hc.1);refine wp_store_row 160 (.tmp 4) (.tmp 21) rfl (w.heap.size+1+1) (qS C) rfl rfl 160 #[Ey Ew 0,Ey Ew 0,Ey Ew 0,Ey Ew 0,Ey Ew 0,Ey Ew 0,Ey Ew 0,Ey Ew 0,Ey Ew 0] (ja hc.1) D7 rfl (Zb C) ?_;exact E.out En _ aj.any ⟨r.below j0 D6,r.bc j3 D6,(fun h=>Bool.noConfusion h),fun _=>r.bI,(r.only.2 Dk D6).trans jd⟩ aj.none_ trivial
  refine aj.aG 5 ?_;refine aj.aE (fun D v' W' hd hj hf=> ?_);obtain⟨j0,-,-,jb,jd⟩:=hj;replace jb:=jb (hd 4 D8);clear hd hf;refine hQ _ _ ?_;clear hQ br Q' bl
  gi_wp2
  refine⟨by simp,.inl ⟨_,_,rfl,run_takeDeferred jd,?_⟩⟩;refine⟨Ev #[Ej (qS C),Ez (decide (0<C.n))],?_,by rw[HC.out],j0.trans (belowK_b (w:=w) (Ep _) _ Dk _ _ D6 jd rfl rfl)⟩;refine yf (p:=4) (q:=5) (ty:=160) (t:=160) (cs:=qS C) rfl _ _ (w.heap.size+1+1) ?_ ?_ Tryz.underlying160 rfl D7
  . rfl
  . exact z' jb (grownBy_putObj' _ Dk (.deferred none)) (fun r e=>by cases e; exact⟨_,jd,rfl⟩)
 case stop=>exact fun _ _ _ _ _ _ h _=>h.elim
theorem Hy (k0 k1 k2 k3:Nat) (w:Ef) (h:bT w v l) (H:∀i,Xq k0 k1 k2 k3 i<l.length) (E:∀i,ku (pt l (Xq k0 k1 k2 k3 i)).1 (pt l (Xq k0 k1 k2 k3 i)).2) :
  Ee Ed 107 #[v,Ej #[Ey Ew k0,Ey Ew k1,Ey Ew k2,Ey Ew k3]] w fun e w'=>e = Eh (Ev #[Ej (qS (yt l (Xq k0 k1 k2 k3))),Ez (decide (0<(yt l (Xq k0 k1 k2 k3)).n))])/\zf w w':=
 Gr k0 k1 k2 k3 _ rfl w h H E
end
section
open Go.RowKit
variable {k0 k1 k2 k3:Int} {r0 r1 r2 r3:Rat} {v:Ei} {w w':Ef}
def QD (w:Ef) (v:Ei) (k0 k1 k2 k3:Int) (r0 r1 r2 r3:Rat):Prop:=
 ∃a b c d e f g h i j k l m n o p,v = Ej #[Ey Ew k0,Ey Ew k1,Ey Ew k2,Ey Ew k3,a,b,c,d,e,f,g,h,i,j,k,l,m,n,o,p]/\
  FR w (Ej #[a,b,c,d]) r0/\FR w (Ej #[e,f,g,h]) r1/\FR w (Ej #[i,j,k,l]) r2/\FR w (Ej #[m,n,o,p]) r3
theorem QD.af (h:QD w v k0 k1 k2 k3 r0 r1 r2 r3) (k:av w w'):QD w' v k0 k1 k2 k3 r0 r1 r2 r3:=by
 obtain⟨a,b,c,d,e,f,g,h,i,j,N,l,m,n,o,p,E,I,H,J,M⟩:=h;exact⟨a,b,c,d,e,f,g,h,i,j,N,l,m,n,o,p,E,I.af k,H.af k,J.af k,M.af k⟩
theorem QD.ae (h:QD w v k0 k1 k2 k3 r0 r1 r2 r3) (k:zf w w'):QD w' v k0 k1 k2 k3 r0 r1 r2 r3:=h.af (av.ae k)
set_option maxHeartbeats 6400000 in
set_option maxRecDepth 1000000 in
theorem Co (k0 k1 k2 k3 A1 A2 B1 B2 N:Int) (w:Ef) (gL : -9223372036854775808<=A1/\A1<=9223372036854775807) (gM : -9223372036854775808<=A2/\A2<=9223372036854775807) (gN : -9223372036854775808<=B1/\B1<=9223372036854775807) (gK : -9223372036854775808<=B2/\B2<=9223372036854775807) (hN:0<N/\N<=9223372036854775807) :
  Ee Ed 108 #[Ej #[Ey Ew k0,Ey Ew k1,Ey Ew k2,Ey Ew k3,Ey Ew A1,Ey Ew A2,Ey Ew B1,Ey Ew B2,Ey Ew N]] w fun e w'=>
   ∃v,e = Eh (Ev #[v,Ey Ew 0])/\QD w' v k0 k1 k2 k3 ((A1:Rat) / (N:Rat)) ((A2:Rat) / (N:Rat)) ((B1:Rat) / (N:Rat)) ((B2:Rat) / (N:Rat))/\zf w w':=by
 have o0:=fun w'=>QJ A1 N w' gL.1 gL.2 D6 hN.2 D6;have o1:=fun w'=>QJ A2 N w' gM.1 gM.2 D6 hN.2 D6;have o2:=fun w'=>QJ B1 N w' gN.1 gN.2 D6 hN.2 D6;have o3:=fun w'=>QJ B2 N w' gK.1 gK.2 D6 hN.2 D6;clear gL gM gN gK hN;have ij:∀w':Ef,(Instr.index 158 (Ej #[Ey Ew A1,Ey Ew A2,Ey Ew B1,Ey Ew B2]) (Ey Ew 0)).run Ed w' = .ok (Ey Ew A1) w':=fun w'=>by kernel_rfl
 have h9:∀w':Ef,(Instr.index 158 (Ej #[Ey Ew A1,Ey Ew A2,Ey Ew B1,Ey Ew B2]) (Ey Ew 1)).run Ed w' = .ok (Ey Ew A2) w':=fun w'=>by kernel_rfl
 have i8:∀w':Ef,(Instr.index 158 (Ej #[Ey Ew A1,Ey Ew A2,Ey Ew B1,Ey Ew B2]) (Ey Ew 2)).run Ed w' = .ok (Ey Ew B1) w':=fun w'=>by kernel_rfl
 have ig:∀w':Ef,(Instr.index 158 (Ej #[Ey Ew A1,Ey Ew A2,Ey Ew B1,Ey Ew B2]) (Ey Ew 3)).run Ed w' = .ok (Ey Ew B2) w':=fun w'=>by kernel_rfl
 go_enter Tryz.func108,Tryz.ntmps108
 go_wp2_with (first
  | (
    refine yW rfl 83 #[(0,.tmp 10)] rfl #[Ey Ew k0,Ey Ew k1,Ey Ew k2,Ey Ew k3,Ez false,Ex none 0 0,Ez false,Ex none 0 0,Ez false,Ex none 0 0,Ez false,Ex none 0 0,Ez false,Ex none 0 0,Ez false,Ex none 0 0,Ez false,Ex none 0 0,Ez false,Ex none 0 0] D7 ?_
    skip)
  | (
    refine zL rfl 83 (.tmp 4) (.tmp 11) rfl (w.heap.size+1+1) #[Ey Ew k0,Ey Ew k1,Ey Ew k2,Ey Ew k3,Ez false,Ex none 0 0,Ez false,Ex none 0 0,Ez false,Ex none 0 0,Ez false,Ex none 0 0,Ez false,Ex none 0 0,Ez false,Ex none 0 0,Ez false,Ex none 0 0,Ez false,Ex none 0 0] rfl rfl 83 #[Ey Ew 0,Ey Ew 0,Ey Ew 0,Ey Ew 0,Ez false,Ex none 0 0,Ez false,Ex none 0 0,Ez false,Ex none 0 0,Ez false,Ex none 0 0,Ez false,Ex none 0 0,Ez false,Ex none 0 0,Ez false,Ex none 0 0,Ez false,Ex none 0 0] zC D7 rfl (by simp[Value.oneCell']) (fun w1 E=> ?_);have Bn:Below w.heap.size w w1:=E.below zh D6;have oa:ai w1 w.heap.size 160 #[Ey Ew k0,Ey Ew k1,Ey Ew k2,Ey Ew k3,Ey Ew A1,Ey Ew A2,Ey Ew B1,Ey Ew B2,Ey Ew N]:=E.bc zC (show w.heap.size≠w.heap.size+1+1 by omega);have or:ai w1 (w.heap.size+1) 83 Zz:=E.bc zC (show w.heap.size+1≠w.heap.size+1+1 by omega);have oq:ai w1 (w.heap.size+1+1) 83 #[Ey Ew k0,Ey Ew k1,Ey Ew k2,Ey Ew k3,Ez false,Ex none 0 0,Ez false,Ex none 0 0,Ez false,Ex none 0 0,Ez false,Ex none 0 0,Ez false,Ex none 0 0,Ez false,Ex none 0 0,Ez false,Ex none 0 0,Ez false,Ex none 0 0]:=E.bI;have B:=Bn;clear Bn E;obtain⟨gC,gd,gt,gD,fe,gE,fl,fd,gz⟩:=oa.r8;have la:=oa.lt;have lr:=or.lt;have lq:=oq.lt
    skip)
  )
 skip
 refine wp_loop_rounds 5 ?_;rw[rounds_succ];go_wp2_with fail
 refine(o0 _).mono ?_;rintro e w2 ⟨gV,rfl,gr,st⟩;have sk:=bA w1 st;replace B:=bS B sk;replace oa:=oa.ae sk;replace or:=or.ae sk;replace oq:=oq.ae sk;clear st sk gC gd gt gD fe gE fl fd gz la lr lq;obtain⟨gC,gd,gt,gD,fe,gE,fl,fd,gz⟩:=oa.r8;have la:=oa.lt;have lr:=or.lt;obtain⟨gn,g8,ft,g9,f9,gj,f8,gp,gi,gA,dc,dP,dx,d9,dl,dt,cZ,dk,dy,ec,fq,lq⟩:=oq.fj;obtain⟨Y,Z,J,X,H,T,M,I,rfl⟩:=gr.ak;have bg:=E7 gr;clear gr;clear o0;have gZ:w.heap.size+1+1<w2.heap.size:=oq.lt;have i6:=B.size;go_wp2_with fail
 rw[rounds_succ];go_wp2_with fail
 refine(o1 _).mono ?_;rintro e w3 ⟨gW,rfl,gF,st⟩;have Bn:=bA w st;have kp:=kB w2 st;replace oa:ai w3 w.heap.size 160 #[Ey Ew k0,Ey Ew k1,Ey Ew k2,Ey Ew k3,Ey Ew A1,Ey Ew A2,Ey Ew B1,Ey Ew B2,Ey Ew N]:=ai.au st;replace or:ai w3 (w.heap.size+1) 83 Zz:=ai.au st;replace oq:ai w3 (w.heap.size+1+1) 83 #[Ey Ew k0,Ey Ew k1,Ey Ew k2,Ey Ew k3,Ez Y,Ex Z J X,Ez H,Ex T M I,Ez false,Ex none 0 0,Ez false,Ex none 0 0,Ez false,Ex none 0 0,Ez false,Ex none 0 0,Ez false,Ex none 0 0,Ez false,Ex none 0 0]:=ai.ae Zq st;have gG:ai w3 w2.heap.size 28 #[Ez Y,Ex Z J X,Ez H,Ex T M I]:=ai.au st;clear gC gd gt gD fe gE fl fd gz la lr gn g8 ft g9 f9 gj f8 gp gi gA dc dP dx d9 dl dt cZ dk dy ec fq lq;replace B:=Bn;replace bg:=E7 (bg.out.af kp);clear kp;clear st;obtain⟨gC,gd,gt,gD,fe,gE,fl,fd,gz⟩:=oa.r8;have la:=oa.lt;have lr:=or.lt;obtain⟨gn,g8,ft,g9,f9,gj,f8,gp,gi,gA,dc,dP,dx,d9,dl,dt,cZ,dk,dy,ec,fq,lq⟩:=oq.fj;obtain⟨bf,ah,b9,be,bi,a9,bh,bl,rfl⟩:=gF.ak;have cN:=E7 gF;clear gF;clear o1;have gT:w2.heap.size<w3.heap.size:=gG.lt;have i7:=B.size;go_wp2_with fail
 rw[rounds_succ];go_wp2_with fail
 refine(o2 _).mono ?_;rintro e w4 ⟨gY,rfl,gB,st⟩;have Bn:=bA w st;have kp:=kB w3 st;have na:=oa.dG st;have nr:=or.dG st;replace oq:ai w4 (w.heap.size+1+1) 83 #[Ey Ew k0,Ey Ew k1,Ey Ew k2,Ey Ew k3,Ez Y,Ex Z J X,Ez H,Ex T M I,Ez bf,Ex ah b9 be,Ez bi,Ex a9 bh bl,Ez false,Ex none 0 0,Ez false,Ex none 0 0,Ez false,Ex none 0 0,Ez false,Ex none 0 0]:=ai.ae Zq st;have gH:=gG.dG st;have gJ:ai w4 w3.heap.size 28 #[Ez bf,Ex ah b9 be,Ez bi,Ex a9 bh bl]:=ai.au st;clear gC gd gt gD fe gE fl fd gz la lr gn g8 ft g9 f9 gj f8 gp gi gA dc dP dx d9 dl dt cZ dk dy ec fq lq;replace B:=Bn;replace oa:=na;clear na;replace or:=nr;clear nr;replace gG:=gH;clear gH;replace bg:=E7 (bg.out.af kp);replace cN:=E7 (cN.out.af kp);clear kp;clear st;obtain⟨gC,gd,gt,gD,fe,gE,fl,fd,gz⟩:=oa.r8;have la:=oa.lt;have lr:=or.lt;obtain⟨gn,g8,ft,g9,f9,gj,f8,gp,gi,gA,dc,dP,dx,d9,dl,dt,cZ,dk,dy,ec,fq,lq⟩:=oq.fj;obtain⟨cx,bt,cg,ci,cn,ce,cy,br,rfl⟩:=gB.ak;have f7:=E7 gB;clear gB;clear o2;have gQ:w3.heap.size<w4.heap.size:=gJ.lt;have i4:=B.size;go_wp2_with fail
 rw[rounds_succ];go_wp2_with fail
 refine(o3 _).mono ?_;rintro e w5 ⟨gX,rfl,gk,st⟩;have Bn:=bA w st;have kp:=kB w4 st;have na:=oa.dG st;have nr:=or.dG st;replace oq:ai w5 (w.heap.size+1+1) 83 #[Ey Ew k0,Ey Ew k1,Ey Ew k2,Ey Ew k3,Ez Y,Ex Z J X,Ez H,Ex T M I,Ez bf,Ex ah b9 be,Ez bi,Ex a9 bh bl,Ez cx,Ex bt cg ci,Ez cn,Ex ce cy br,Ez false,Ex none 0 0,Ez false,Ex none 0 0]:=ai.ae Zq st;have gH:=gG.dG st;have gP:=gJ.dG st;have gO:ai w5 w4.heap.size 28 #[Ez cx,Ex bt cg ci,Ez cn,Ex ce cy br]:=ai.au st;clear gC gd gt gD fe gE fl fd gz la lr gn g8 ft g9 f9 gj f8 gp gi gA dc dP dx d9 dl dt cZ dk dy ec fq lq;replace B:=Bn;replace oa:=na;clear na;replace or:=nr;clear nr;replace gG:=gH;clear gH;replace gJ:=gP;clear gP;replace bg:=E7 (bg.out.af kp);replace cN:=E7 (cN.out.af kp);replace f7:=E7 (f7.out.af kp);clear kp;clear st;have la:=oa.lt;have lr:=or.lt;obtain⟨gn,g8,ft,g9,f9,gj,f8,gp,gi,gA,dc,dP,dx,d9,dl,dt,cZ,dk,dy,ec,fq,lq⟩:=oq.fj;obtain⟨er,ey,eW,em,ed,ek,eM,eS,rfl⟩:=gk.ak;have gI:=E7 gk;clear gk;clear o3;have gR:w4.heap.size<w5.heap.size:=gO.lt;have i5:=B.size;go_wp2_with fail
 rw[rounds_succ]
 go_wp2_with (first
  | (
    refine yg rfl 83 (.tmp 4) rfl (w.heap.size+1+1) rfl 83 #[Ey Ew k0,Ey Ew k1,Ey Ew k2,Ey Ew k3,Ez Y,Ex Z J X,Ez H,Ex T M I,Ez bf,Ex ah b9 be,Ez bi,Ex a9 bh bl,Ez cx,Ex bt cg ci,Ez cn,Ex ce cy br,Ez er,Ex ey eW em,Ez ed,Ex ek eM eS] _ Zq Tryz.underlying83 rfl D7 ?_
    skip)
  | (
    refine zL rfl 83 (.tmp 2) (.tmp 34) rfl (w.heap.size+1) #[Ey Ew k0,Ey Ew k1,Ey Ew k2,Ey Ew k3,Ez Y,Ex Z J X,Ez H,Ex T M I,Ez bf,Ex ah b9 be,Ez bi,Ex a9 bh bl,Ez cx,Ex bt cg ci,Ez cn,Ex ce cy br,Ez er,Ex ey eW em,Ez ed,Ex ek eM eS] rfl rfl 83 #[Ey Ew 0,Ey Ew 0,Ey Ew 0,Ey Ew 0,Ez false,Ex none 0 0,Ez false,Ex none 0 0,Ez false,Ex none 0 0,Ez false,Ex none 0 0,Ez false,Ex none 0 0,Ez false,Ex none 0 0,Ez false,Ex none 0 0,Ez false,Ex none 0 0] zC D7 rfl (by simp[Value.oneCell']) (fun w6 E=> ?_);have Bn:Below w.heap.size w w6:=E.below zh D6;have kp:av w5 w6:=av.trans zw (E.af rfl);replace oa:ai w6 w.heap.size 160 #[Ey Ew k0,Ey Ew k1,Ey Ew k2,Ey Ew k3,Ey Ew A1,Ey Ew A2,Ey Ew B1,Ey Ew B2,Ey Ew N]:=E.bc zC (show w.heap.size≠w.heap.size+1 by omega);replace or:ai w6 (w.heap.size+1) 83 #[Ey Ew k0,Ey Ew k1,Ey Ew k2,Ey Ew k3,Ez Y,Ex Z J X,Ez H,Ex T M I,Ez bf,Ex ah b9 be,Ez bi,Ex a9 bh bl,Ez cx,Ex bt cg ci,Ez cn,Ex ce cy br,Ez er,Ex ey eW em,Ez ed,Ex ek eM eS]:=E.bI;replace oq:ai w6 (w.heap.size+1+1) 83 #[Ey Ew k0,Ey Ew k1,Ey Ew k2,Ey Ew k3,Ez Y,Ex Z J X,Ez H,Ex T M I,Ez bf,Ex ah b9 be,Ez bi,Ex a9 bh bl,Ez cx,Ex bt cg ci,Ez cn,Ex ce cy br,Ez er,Ex ey eW em,Ez ed,Ex ek eM eS]:=E.bc Zq (show w.heap.size+1+1≠w.heap.size+1 by omega);replace gG:ai w6 w2.heap.size 28 #[Ez Y,Ex Z J X,Ez H,Ex T M I]:=E.bc zC (show w2.heap.size≠w.heap.size+1 by omega);replace gJ:ai w6 w3.heap.size 28 #[Ez bf,Ex ah b9 be,Ez bi,Ex a9 bh bl]:=E.bc zC (show w3.heap.size≠w.heap.size+1 by omega);replace gO:ai w6 w4.heap.size 28 #[Ez cx,Ex bt cg ci,Ez cn,Ex ce cy br]:=E.bc zC (show w4.heap.size≠w.heap.size+1 by omega);have ik:ai w6 w5.heap.size 28 #[Ez er,Ex ey eW em,Ez ed,Ex ek eM eS]:=E.bc zC (show w5.heap.size≠w.heap.size+1 by omega);clear la lr gn g8 ft g9 f9 gj f8 gp gi gA dc dP dx d9 dl dt cZ dk dy ec fq lq;replace B:=Bn;clear Bn E;replace bg:=E7 (bg.out.af kp);replace cN:=E7 (cN.out.af kp);replace f7:=E7 (f7.out.af kp);replace gI:=E7 (gI.out.af kp);clear kp
    skip)
  )
 skip
 refine Eo (yf rfl _ _ (w.heap.size+1) rfl (cs:=#[Ey Ew k0,Ey Ew k1,Ey Ew k2,Ey Ew k3,Ez Y,Ex Z J X,Ez H,Ex T M I,Ez bf,Ex ah b9 be,Ez bi,Ex a9 bh bl,Ez cx,Ex bt cg ci,Ez cn,Ex ce cy br,Ez er,Ex ey eW em,Ez ed,Ex ek eM eS]) zC Tryz.underlying83 rfl D7) rfl ?_;exact⟨_,rfl,⟨_,_,_,_,_,_,_,_,_,_,_,_,_,_,_,_,rfl,bg.out.af zw,cN.out.af zw,f7.out.af zw,gI.out.af zw⟩,zh⟩
end
end Go.Proofs.YtffmbepfbienaaaGreat
/- A range X7 a function whose iterator has a variable of its own in memory, which it writes between CZ rounds. -/
namespace Go.Proofs.YtffmbepfbienaaaGreat
open Go.RowKit
structure Calm {α : Type} (G:Nat) (J:List α->Ef->Prop):Prop where
 al:∀{xs A} (o:Obj),(A.heap.size=G->∃cs t,o = .cells cs t/\zV cs=true)->J xs A->J xs (A.alloc o)
 dr:∀{xs A} (m:Nat),J xs A->J xs (A.drewN m)
 st:∀{xs A} (i:Nat) (x:Int),J xs A->J xs (A.setCell ⟨G,i,none⟩ (Ey Ew x))
def Vg {α : Type} (F:Fence) (m:Nat) (P:Program) (gf:Nat) (lb:Array Ei) (encs : α->Array Ei) (Kp:Ef->Ef->Prop) (S:List α->Prop) (El:List α->α->Prop) (G:Nat) (Pr:Ef->Prop):Prop:=
 ∀ (l:Nat) (J:List α->Ef->Prop) (A:Ef),Pr A->A.heap.size=G->Calm G J->
  (∀pre x B,J pre B->El pre x->G<B.heap.size->YieldAt F (m-1) P l (encs x) B fun e C=>e = Eh (Ez true)/\J (pre ++ [x]) C/\Kp B C)->
  J [] A->CallsIn F m P gf (#[.func (.yield l) #[] #[]]++lb) A fun e C=>(∃v,e = Eh v)/\∃xs,S xs/\J xs C
section
variable {α : Type} {P:Program} {F:Fence} {n:Nat}
theorem J' {g:Operand} {ps:Array Tmp} {assign body:Code} {Q:Exit->Act->Ef->Prop} {a:Act} {w:Ef}
  (br:F.round=none) (h1:1<=n) {gf:Nat} {lb:Array Ei} (hg:a.eval g = .func (.func gf) #[] lb) (d9:F.fn gf) (eg:∀args w,(callFunc gf args).run P w = .ok (.enter gf args) w)
  {encs : α->Array Ei} {Kp:Ef->Ef->Prop} {S:List α->Prop} {El:List α->α->Prop} {Pr:Ef->Prop} (bi:Vg F (n-1) P gf lb encs Kp S El (w.heap.size+2) Pr) (bt:∀o Y,Pr ((w.alloc o).alloc Y)) (cg:∀x,(encs x).size=ps.size)
  (a9:∀{A B C:Ef},Kp A B->Kp B C->Kp A C) (bf:∀ (A:Ef) (o Y:Obj),A.heap[w.heap.size+1]? = some o->o.isCells=false->Kp A (A.putObj (w.heap.size+1) Y))
  (I:List α->Ef->Prop) (hI:Calm (w.heap.size+2) I) (ah:∀xs A (o Y:Obj),I xs A->A.heap[w.heap.size+1]? = some o->o.isCells=false->I xs (A.putObj (w.heap.size+1) Y))
  (h0:I [] w) (Ax : α->Act->Ef->Prop) (cZ:∀x X A (o Y:Obj),Ax x X A->A.heap[w.heap.size+1]? = some o->o.isCells=false->Ax x X (A.putObj (w.heap.size+1) Y))
  (N:∀ (pre:List α) (x : α) (A:Ef) (K:Act->Ef->Prop),I pre A->w.heap.size+2<A.heap.size->(∀X T,KeepsOthers A T->Kp A T->I pre T->Ax x X T->K X T)->
   assign.wpIn (F.inRound (w.heap.size+1)) (n-1-1) P (Exit.then K (fun _ _ _=>False)) { tmps:=(ps.zip (encs x)).foldl (fun t (p,v)=>t.setIfInBounds p v) a.tmps,defers:= [] } A)
  (b9:∀ (pre:List α) (x : α) (X:Act) (A:Ef),(∃r,A.heap[w.heap.size+1]? = some (.loop r))->I pre A->Ax x X A->El pre x->w.heap.size+2<A.heap.size->
   body.wpIn (F.inRound (w.heap.size+1)) (n-1-1) P (ownPostG w.heap.size Kp I (fun _ _ _=>False) (pre ++ [x]) A) X A)
  (Z:∀ (D:Nat) (xs:List α) (A:Ef),w.heap.size<=D->S xs->I xs A->A.heap[D]? = some (.deferred (some []))->Q .normal { a with defers:={ target:= .collected D,args:=#[] } :: a.defers } A) :
  (Code.rangeFunc g ps assign body).wpIn F n P Q a w:=by
 refine wpIn_rangeFunc fun fn ce=> ?_;rw[br]
 -- the loop's record in its states
 obtain⟨H,E⟩:∃H:LoopState->Option Code->Loop,∀s p,H s p = { state:=s,pending:=p,fn:=fn,tmps:=a.tmps,params:=ps,assign:=assign,body:=body,defers:=w.heap.size }:=⟨_,fun _ _=>rfl⟩
 let D:=w.heap.size
 let L:=w.heap.size+1
 have hL:L=w.heap.size+1:=rfl
 let Ok:Ef->Prop:=fun A=>A.heap[L]? = some (.loop (H .ready none))/\A.heap[D]? = some (.deferred (some []))
 let W:=(w.alloc (.deferred (some []))).alloc (.loop (H .ready none))
 have dk:W.heap.size=w.heap.size+2:=by simp[W]
 have dl:Ok W:=by
  constructor
  .
   have:=World.alloc_heap_new (w.alloc (.deferred (some []))) (.loop (H .ready none))
   rwa[World.size_alloc]at this
  . exact(Below.heap_alloc _ _ _ (by simp[D])).trans (World.alloc_heap_new w _)
 have M:∀{A B:Ef},KeepsOthers A B->Ok A->Ok B:=fun k h=>⟨k.same _ _ h.1 rfl,k.same _ _ h.2 rfl⟩
 have bg:Calm (w.heap.size+2) (fun pre A=>I pre A/\Ok A):=
  ⟨fun o ho h=>⟨hI.al o ho h.1,M (KeepsOthers.alloc _ o) h.2⟩,fun m h=>⟨hI.dr m h.1,h.2⟩,fun i v h=>⟨hI.st i v h.1,M (KeepsOthers.setCell _ _ _) h.2⟩⟩
 refine⟨L,[{ target:= .collected D,args:=#[] }],W,{ target:= .fn (.func gf) lb,args:=#[.func (.yield L) #[] #[]] },W,gf,#[.func (.yield L) #[] #[]]++lb,W,?_,?_,?_,?_,fun _=>h1,?_⟩
 .
  show _=Result.ok _ ((w.alloc _).alloc (.loop (H .ready none)))
  rw[E]; exact run_enterLoop_outer _ _ _ _ _
 . simp only[resolve,hg]; simp[go_sem]
 . intro f' bh; simp[Target.leads]at bh; subst bh; exact d9
 . simp[invoke,go_sem,eg]
 refine(bi L (fun pre A=>I pre A/\Ok A) W (bt _ _) dk bg ?_ ⟨hI.al _ (fun h=>by rw[World.size_alloc]at h; omega) (hI.al _ (fun h=>by omega) h0),dl⟩).mono ?_
 .
  rintro pre x B ⟨hi,hb⟩ be dc;have hy:=run_yield (P:=P) (args:=encs x) hb.1 (by rw[E]; exact cg x);rw[E]at hy;refine⟨fn,_,assign,body,hy,roundIn_of_wpIn ce (N pre x B _ hi dc fun X T ko kp ci cy=> ?_)⟩;have J:=M ko hb;have cN:L<T.heap.size:=(Array.getElem?_eq_some_iff.1 J.1).1;refine⟨_,run_beginRound J.1 (by rw[E]),?_⟩;generalize hbusy : { H .ready none with state:=LoopState.busy } = busy;have e2:(T.putObj L (.loop busy)).heap[L]? = some (.loop busy):=World.putObj_heap_same cN;have e3:(T.putObj L (.loop busy)).heap[D]? = some (.deferred (some [])):=(World.putObj_heap_other (show D≠L by omega)).trans J.2;refine wpIn_mono (b9 pre x X _ ⟨_,e2⟩ (ah _ _ _ _ ci J.1 rfl) (cZ _ _ _ _ _ cy J.1 rfl) be (by have h3:=ko.size; have h4:=(grownBy_putObj' T L (.loop busy)).size; omega)) ?_;rintro e a3 C hp
  cases e with
  | normal=>
   obtain⟨k3,bl,i3⟩:=hp;have e4:C.heap[L]? = some (.loop busy):=k3.same _ _ (show w.heap.size<=L by omega) e2 rfl;have e5:C.heap[D]? = some (.deferred (some [])):=k3.same _ _ (Ep _) e3 rfl;have cn:L<C.heap.size:=(Array.getElem?_eq_some_iff.1 e4).1;have hr:=run_endRound (P:=P) none e4;have cx : { busy with state:=if(none:Option Code).isNone then LoopState.ready else .done,pending:=none } = H .ready none:=by rw[<- hbusy,E]; rfl
   rw[cx]at hr;exact⟨_,_,hr,rfl,⟨ah _ _ _ _ i3 e4 rfl,World.putObj_heap_same cn,(World.putObj_heap_other (show D≠L by omega)).trans e5⟩,a9 kp (a9 (a9 (bf _ _ _ J.1 rfl) bl) (bf _ _ _ e4 rfl))⟩
  | ret=>exact hp.2.elim
  | exit id=>exact hp.2.elim
  | goto t=>exact hp.2.elim
  | panic ch=>exact hp.elim
  | outgrown=>exact hp.elim
 .
  rintro e C ⟨⟨v,rfl⟩,xs,hS,hi,hc⟩;have hr:=run_endLoop (P:=P) hc.1 (by rw[E]; simp);rw[show (H LoopState.ready none).pending=none by rw[E]]at hr;exact⟨none,_,hr,Z D xs _ (Ep _) hS (ah _ _ _ _ hi hc.1 rfl) ((World.putObj_heap_other (show D≠L by omega)).trans hc.2)⟩
end
end Go.Proofs.YtffmbepfbienaaaGreat
