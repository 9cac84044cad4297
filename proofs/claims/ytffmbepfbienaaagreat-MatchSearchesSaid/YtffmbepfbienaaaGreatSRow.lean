import Derived.Test.YtffmbepfbienaaaGreatSQc
import Derived.Sort.CutIn
set_option linter.unusedVariables false
set_option linter.unusedSimpArgs false
set_option maxHeartbeats 6400000
set_option maxRecDepth 1000000
/- Great values stored and loaded whole: one step each. -/
open Go.Value renaming slice->Ex,bool->Ez,int->Ey,agg->Ej,pointer->Ek
open Go.IntKind renaming i64->Ew
open Go.Ending renaming returned->Eh
open Go.Proofs.Tryz renaming prog->Ec
open Go renaming Calls->Ed,World->Ee,Value->Ef,TypeId->Ei,undef->Em
open Nat renaming le_refl->Eo
open Go.World renaming cell?->Er
namespace Go.Proofs.YtffmbepfbienaaaGreat
open Go.RowKit
variable {cs old:Array Ef} {g:Nat} {t:Ei} {w' w0:Ee}
theorem BK {w:Ee} {cs':Array Ef} (h:ai w g t cs) (e:cs=cs'):ai w g t cs':=e▸h
theorem vM {w:World} (h:ai w g t cs:=by (apply BK; (focus (repeat' first | with_reducible assumption | with_reducible apply ai.alloc | with_reducible apply ai.drew | with_reducible apply ai.drewN | with_reducible apply ai.bL | with_reducible apply ai.aH | (show _≠_; omega))); rfl)):ai w g t cs:=h
structure aZ (g:Nat) (t:Ei) (old cs:Array Ef) (w w':Ee):Prop where
 bz:ai w' g t cs
 was:ai w g t old
 is:w'=w.setRow g cs
theorem aZ.eL {w:Ee} (h:ai w g t old):aZ g t old cs w (w.setRow g cs):=by
 refine⟨?_,h,rfl⟩;unfold ai at *;simp[World.setRow,Array.getElem?_modify,h]
theorem aZ.bG {w:Ee} (h:aZ g t old cs w w') {E:Nat} {I:Ei} {cs':Array Ef} (J:ai w E I cs') (H:E≠g):ai w' E I cs':=by
 obtain⟨_,_,rfl⟩:=h;unfold ai at *;simp only[World.setRow,Array.getElem?_modify];rw[E9 (Ne.symm H)]; exact J
theorem aZ.only {w:Ee} (h:aZ g t old cs w w'):bK g w w':=by
 obtain⟨_,_,rfl⟩:=h;refine⟨by simp[World.setRow],fun k E=> ?_⟩;simp only[World.setRow,Array.getElem?_modify];rw[E9 (Ne.symm E)]
theorem aZ.af {w:Ee} (h:aZ g t old cs w w') (E:zU old=true):av w w':=av.only h.was E h.only
theorem aZ.below {n:Nat} {w:Ee} (h:aZ g t old cs w w') (E:Below n w0 w) (hg:n<=g):Below n w0 w':=by
 have H:=h.only;obtain⟨_,_,rfl⟩:=h;refine⟨E.os,E.tape,E.output,by rw[H.1]; exact E.size,fun k I=> ?_⟩;rw[H.2 k D5]; exact E.block k I
theorem aZ.ae {w:Ee} (h:aZ g t old cs w w') (E:zf w0 w) (hg:w0.heap.size<=g):zf w0 w':=h.below E hg
section
variable {P:Program} {ops:Array Oper} {rest:List Oper} {o:Oper} {a:Act} {w:Ee} {Q:Exit->Act->Ee->Prop}
theorem zF (H:o.guard=none) (ty:Ei) (x y:Operand) (N:o.op = .store ty x y) (g:Nat) (cells:Array Ef) (T:a.eval x = Ek (some ⟨g,0,none⟩)) (J:a.eval y = Ej cells)
  (t:Ei) (old:Array Ef) (hg:ai w g t old) (I:(P.info? ty).map (·.size)=some cells.size) (E:old.size=cells.size) (M:cells.all (·.oneCell')=true)
  (h:∀w',aZ g t old cells w w'->wpList P ops Q rest (a.put o.dst Em) w'):wpList P ops Q (o::rest) a w:=
 wpList_store_row H ty x y N g cells T J t old hg I E M (h _ (aZ.eL hg))
theorem zO (E:o.guard=none) (ty:Ei) (x:Operand) (I:o.op = .load ty x) (g:Nat) (J:a.eval x = Ek (some ⟨g,0,none⟩)) (t:Ei) (cs:Array Ef) (d:TypeDesc) (hg:ai w g t cs)
  (M:P.underlying ty=some d) (hd:(match d with | .struct _ | .array _ _=>true | _=>false)=true) (H:(P.info? ty).map (·.size)=some cs.size)
  (h:wpList P ops Q rest (a.put o.dst (Ej cs)) w):wpList P ops Q (o::rest) a w:=
 wpList_load_row E ty x I g J t cs (0,0) d hg M hd H h
theorem yp (E:o.guard=none) (t:Ei) (parts:Array (Nat×Operand)) (H:o.op = .build t parts) (v:Array Ef) (hv:P.built t (parts.map fun(i,x)=>(i,a.eval x)).toList=some v)
  (h:wpList P ops Q rest (a.put o.dst (Ej v)) w):wpList P ops Q (o::rest) a w:=
 wpList_build E t parts H (by rw[hv]; rfl) (by rw[hv]; exact h)
end
theorem zV {P:Program} {fn:Func} {p q:Tmp} {ty:Ei} (h:fn.results=#[.cell p ty,.tmp q]) (tmps:Array Ef) (w:Ee) (g:Nat) {t:Ei} {cs:Array Ef} {d:TypeDesc}
  (J:tmps.getD p Em = Ek (some ⟨g,0,none⟩)) (hg:ai w g t cs)
  (H:P.underlying ty=some d) (hd:(match d with | .struct _ | .array _ _=>true | _=>false)=true) (I:(P.info? ty).map (·.size)=some cs.size) :
  (results fn tmps).run P w = .ok (.tuple #[Ej cs,tmps.getD q Em]) w:=by
 have E:tmps[p]?.getD Em = Ek (some ⟨g,0,none⟩):=by simpa using J
 simp[results,h,E,asAddr,run_loadVar_row w g t ty cs (0,0) d hg H hd I]
theorem jj {P:Program} {fn:Func} {p:Tmp} {ty:Ei} (h:fn.results=#[.cell p ty]) (tmps:Array Ef) (w:Ee) (g:Nat) {t:Ei} {cs:Array Ef} {d:TypeDesc}
  (I:tmps.getD p Em = Ek (some ⟨g,0,none⟩)) (hg:ai w g t cs)
  (E:P.underlying ty=some d) (hd:(match d with | .struct _ | .array _ _=>true | _=>false)=true) (H:(P.info? ty).map (·.size)=some cs.size) :
  (results fn tmps).run P w = .ok (Ej cs) w:=results_cell_row h tmps w g t cs (0,0) d I hg E hd H
end Go.Proofs.YtffmbepfbienaaaGreat
/- A region in the text's order in a round of a range Qo a function: walked by the plain words; what a round leaves as it lay. -/
namespace Go.Proofs.YtffmbepfbienaaaGreat
open Go.RowKit
variable {Q:Exit->Act->Ee->Prop} {Bs g n n₀:Nat} {P:Program} {W W':Ee}
theorem J_ {ops:Array Oper} {l:Nat} (hd:jX ops=true):∀ (rest:List Oper) (_:∀o∈rest,∃i:Nat,ops[i]? = some o) (a:Act) (w:Ee),
  wpList P ops (xf Q) rest a w->wpListIn (Fence.wide.inRound l) n P ops Q rest a w:=by
 intro rest
 induction rest with
 | nil=>intro _ a w h; exact h
 | cons o rest ih=>
  intro H a w h;unfold wpList at h;unfold wpListIn;obtain⟨i,I⟩:=H o (.head _);have E:=ih (fun J M=>H J (.tail _ M))
  by_cases hw:Region.wanted o (yielded ops a.tmps)=true
  .
   rw[E8 hw]at h|-
   rcases h with h | ⟨_,h⟩
   . exact Yx (Zd hd I) h (fun a w=>E a w)
   . exact(vG Q h).elim
  .
   rw[E9 hw]at h|-;exact⟨fun _ _=>trivial,E _ _ h⟩
theorem yI {l:List Oper} {r E:Nat} {a:Act} {w:Ee} (hd:jX l.toArray=true) (h:wpList P l.toArray (xf Q) l a w) :
  (Code.region E l.toArray false).wpIn (Fence.wide.inRound r) n P Q a w:=
 wpIn_region_lit (J_ hd l (fun o H=>by obtain⟨i,I,e⟩:=List.getElem_of_mem H; exact⟨i,by simp[I,e]⟩) a w h)
structure Al (n₀ Bs:Nat) (W W':Ee):Prop where
 others:KeepsOthers W W'
 kd:KD n₀ Bs W W'
theorem Al.refl (n₀ Bs:Nat) (W:Ee):Al n₀ Bs W W:=⟨KeepsOthers.refl _,KD.refl _ _ _⟩
theorem Al.trans {A B C:Ee} (h:Al n₀ Bs A B) (k:Al n₀ Bs B C):Al n₀ Bs A C:=⟨h.others.trans k.others,h.kd.trans k.kd⟩
theorem Al.ae (h:zf W W') (h0:n₀<=W.heap.size) (H:Bs<W.heap.size):Al n₀ Bs W W':=
 ⟨⟨h.size,fun k o E _=>(h.block k (Array.getElem?_eq_some_iff.1 E).1).trans E⟩,⟨h.mono h0,h.block Bs H⟩⟩
theorem Al.row {t:Ei} {old cs:Array Ef} (h:aZ g t old cs W W') (h0:n₀<=g) (J:Bs≠g):Al n₀ Bs W W':=by
 have H:=h.only;have I:=h.was;refine⟨⟨Nat.le_of_eq H.1.symm,fun k o E hc=>(H.2 k ?_).trans E⟩,⟨h.below (Below.refl _ _) h0,H.2 Bs J⟩⟩;rintro rfl;unfold ai at I;rw[I]at E
 injection E with E
 subst E
 cases hc
theorem Al.set {i:Nat} {u:Ef} (h0:n₀<=g) (E:Bs≠g):Al n₀ Bs W (W.setCell ⟨g,i,none⟩ u):=
 ⟨KeepsOthers.setCell _ _ _,⟨(Below.refl _ _).setCell (p:=⟨g,i,none⟩) h0 _,Below.heap_setCell _ _ _ _ E⟩⟩
theorem Al.alloc (o:Obj) (h0:n₀<=W.heap.size) (E:Bs<W.heap.size):Al n₀ Bs W (W.alloc o):=Al.ae ((Below.refl _ _).alloc (Eo _) _) h0 E
theorem Al.drewN (m:Nat):Al n₀ Bs W (W.drewN m):=⟨⟨Eo _,fun _ _ h _=>h⟩,⟨⟨rfl,rfl,rfl,Eo _,fun _ _=>rfl⟩,rfl⟩⟩
end Go.Proofs.YtffmbepfbienaaaGreat
/- A drawn region in a round of a range Qo a function, by XSk's laws Qo a list of entries. -/
namespace Go.Proofs.YtffmbepfbienaaaGreat
section
open Go.RowKit
variable {Q:Exit->Act->Ee->Prop} {P:Program} {w:Ee}
theorem aj.eI {ops:Array Oper} {l n id:Nat} {E:Act} (J w0:Ee) (L:List aE) (cs:List Nat) (M:List (Nat×(Ef->Prop))) (N:List (Nat×(Ef->Ee->Prop))) (X:List (Nat×List (Nat×Option Tmp))) (qs:List (Nat×List Nat))
  (hi:Below J.heap.size J w.drew/\av w0 w.drew/\aP w.drew L)
  (h:∀Y,Hid (Y=w.heap.size)->∀H Z,H=ops->(∀a W,Q .normal a W->Z .normal a W)->aj.RC P H Z (SJ J w0 Y L) (aj.inl cs) (aj.gv M) (gw N) (fun _=>av) (fun _ _=>False) (aj.pl X) (aj.pl qs) 0 ops.toList E)
  (hv:∀p∈M,∃x,p.2 x) (hg:∀p∈N,∀x W W',av W W'->p.2 x W->p.2 x W') (hd:jX ops=true:=by kernel_rfl) (hm:P.follows .mixedOrders=true:=by kernel_rfl) (ht:aj.tidy ops E.tmps.size=true:=by kernel_rfl) (I:aj.c_ ops (aj.inl cs) (aj.pl X) (aj.pl qs)=true:=by kernel_rfl) :
  (Code.region id ops true).wpIn (Fence.wide.inRound l) n P Q E w:=
 jx (SJ J w0 w.heap.size L) (aj.inl cs) (aj.gv M) (gw N) (fun _=>av) (fun _ _=>False) (aj.pl X) (aj.pl qs) hd hm ht I (aj.bj M hv) (fun v=>SJ.start hi v) (fun _ _ _ _ T hj=>hj.vv T) (fun _ _ _ _ _ _ _ _ _ _ _ hk hx=>qT N hg hk hx) (fun _ _ _ _ h=>h.elim) (h _ (E6 rfl))
theorem YO {o:Oper} {a:Act} {K:Act->Ee->Prop} (t:Ei) (parts:Array (Nat×Operand)) (E:o.op = .build t parts) (v:Array Ef) (hv:P.built t (parts.map fun(i,x)=>(i,a.eval x)).toList=some v)
  (h:K (a.put o.dst (Ej v)) w):o.wp P a w K Q:=wp_build t parts E (by rw[hv]; rfl) (by rw[hv]; exact h)
end
section
open Go.RowKit Go.Shelf
def qZ (a:aV):Array Ef:=#[Ey Ew a.k0,Ey Ew a.k1,Ey Ew a.k2,Ey Ew a.k3,Ey Ew a.a1,Ey Ew a.a2,Ey Ew a.b1,Ey Ew a.b2,Ey Ew a.n]
theorem WX (a b:aV) (g:Nat) (w:Ee) (X:ai w g 160 (qZ b)) (oa:WI a) (Z:WI b) :
  Ed Ec 142 #[V3 a,Ek (some ⟨g,0,none⟩)] w fun e w'=>e = Eh (Ez (a.aQ b))/\zf w w':=by
 have hc:∀w',Ed Ec 143 #[V3 a,V3 b] w' fun e w2=>e = Eh (Ey Ew (jy a b))/\zf w' w2:=fun w'=>U5 a b w' oa Z;obtain⟨c,H⟩:∃c,jy a b=c:=⟨_,rfl⟩;rw[H]at hc;have T:b.n<a.n->Hid (a.aQ b=true):=fun h=>yW.2 (.inl h)
 have J:a.n<b.n->Hid (a.aQ b=false):=fun h=>by
  show a.aQ b=false
  cases hq:a.aQ b
  . rfl
  . rw[yW]at hq; omega
 have Y:a.n=b.n->¬0<a.n->Hid (a.aQ b=false):=fun h h2=>by
  show a.aQ b=false
  cases hq:a.aQ b
  . rfl
  . rw[yW]at hq; omega
 have I:a.n=b.n->0<a.n->Hid (a.aQ b=decide (c<0)):=fun h h2=>by
  show a.aQ b=_
  rw[Bool.eq_iff_iff,yW,decide_eq_true_eq,H];omega
 clear H oa Z;obtain⟨k0,k1,k2,k3,A1,A2,B1,B2,N⟩:=a;obtain⟨l0,l1,l2,l3,C1,C2,D1,D2,M⟩:=b;unfold V3 at *;unfold qZ at X;dsimp only at hc X T J Y I|-;have lb:=X.lt;have fb:=X.fr;have b9:=X.q8
 rcases(show M<N\/N<M\/N=M by omega)with h | h | h
 .
  have E:=T h;clear T J Y I hc
  go_enter Tryz.func142,Tryz.ntmps142
  go_wp2
  go_returns
  exact⟨Y_ E.out.symm,zh⟩
 .
  have E:=J h;have h1:¬M<N:=D5
  have h2:(N==M)=false:=by simp; omega
  clear T J Y I hc
  go_enter Tryz.func142,Tryz.ntmps142
  go_wp2
  go_returns
  exact⟨Y_ E.out.symm,zh⟩
 .
  subst h
  by_cases h0:0<N
  .
   have E:=I rfl h0;clear T J Y I;obtain⟨bh,bg,a9,aY,aX,be,bi,ah⟩:=X.r7
   go_enter Tryz.func142,Tryz.ntmps142
   go_wp2_with fail
   refine(hc _).mono ?_;rintro e w1 ⟨rfl,st⟩;have B:=bA w st;have oa:ai w1 w.heap.size 160 #[Ey Ew k0,Ey Ew k1,Ey Ew k2,Ey Ew k3,Ey Ew A1,Ey Ew A2,Ey Ew B1,Ey Ew B2,Ey Ew N]:=ai.au st;have Z:ai w1 (g) 160 #[Ey Ew l0,Ey Ew l1,Ey Ew l2,Ey Ew l3,Ey Ew C1,Ey Ew C2,Ey Ew D1,Ey Ew D2,Ey Ew N]:=ai.au st;clear st
   go_wp2
   go_returns
   exact⟨Y_ E.out.symm,zh⟩
  .
   have E:=Y rfl h0;clear T J Y I hc
   go_enter Tryz.func142,Tryz.ntmps142
   go_wp2
   go_returns
   exact⟨Y_ E.out.symm,zh⟩
end
section
open Go.RowKit Go.Shelf
attribute [local go_sem] Oper.semAt_some
def Je (K:Nat->Nat) (p:P4):Ef:= Ej #[Ey Ew (K p.1),Ey Ew (K p.2.1),Ey Ew (K p.2.2.1),Ey Ew (K p.2.2.2)]
def WY (K:Nat->Nat) (p:P4):Array Ef:=#[Je K p]
theorem V5:∀a,a<4->∀b,b<4->∀c,c<4->a≠b/\a≠c/\b≠c->(xO a b c).length<24:=by
 intro a H b E c hc
 rcases(show a=0\/a=1\/a=2\/a=3 by omega)with rfl | rfl | rfl | rfl<;>rcases(show b=0\/b=1\/b=2\/b=3 by omega)with rfl | rfl | rfl | rfl<;>rcases(show c=0\/c=1\/c=2\/c=3 by omega)with rfl | rfl | rfl | rfl<;>decide
theorem V6 (F:Fence) (n:Nat) (J:F.fn 144) (E:F.round=none) (I H x2 x3:Ef) (w:Ee) :
  CallsIn F n Ec 144 #[Ej #[I,H,x2,x3]] w fun e w'=>e = Eh (.func (.func 176) #[] #[Ek (some ⟨w.heap.size,0,none⟩)])/\w'=w.alloc (.cells #[I,H,x2,x3] 80):=by
 refine callsIn_of_wp Tryz.func144 rfl J ?_ E;simp only[Tryz.ntmps144,List.size_toArray,List.length_cons,List.length_nil,Nat.reduceAdd,Nat.reduceSub,Array.replicate_succ,Array.replicate_zero,List.push_toArray,List.append_toArray,List.nil_append,List.cons_append]
 gi_wp2
 go_ret
 exact⟨rfl,rfl⟩
theorem Kf (n l Bs n₀ B0 k0 k1 k2 k3:Nat) (J Jx:List P4->Ee->Prop) (hJ:AbidesFrom B0 J)
  (hY:∀pre (x:P4) W,J pre W->pre.length<24->YieldAt Fence.wide (n-1) Ec l (WY (XA k0 k1 k2 k3) x) W fun e W'=>
   (e = Eh (Ez true)/\J (pre ++ [x]) W'/\KD n₀ Bs W W')\/(e = Eh (Ez false)/\Jx (pre ++ [x]) W'))
  (W:Ee) (ci:ai W Bs 80 #[Ey Ew k0,Ey Ew k1,Ey Ew k2,Ey Ew k3]) (h0:J [] W) :
  CallsIn Fence.wide n Ec 176 #[.func (.yield l) #[] #[],Ek (some ⟨Bs,0,none⟩)] W fun e W'=>(∃v,e = Eh v)/\
   ((∃ys,ys=bV/\J ys W')\/(∃pre:List P4,True/\Jx pre W')):=by
 have bt:Fence.wide.round=none:=rfl;have Z:∀i,i<4->(#[Ey Ew k0,Ey Ew k1,Ey Ew k2,Ey Ew k3]:Array Ef)[i]? = some (Ey Ew (XA k0 k1 k2 k3 i:Nat)):=fun i hi=>by rcases(show i=0\/i=1\/i=2\/i=3 by omega)with rfl | rfl | rfl | rfl<;>rfl
 refine callsIn_of_wp Tryz.func176 rfl trivial ?_ bt;simp only[Tryz.ntmps176,List.size_toArray,List.length_cons,List.length_nil,Nat.reduceAdd,Nat.reduceSub,Array.replicate_succ,Array.replicate_zero,List.push_toArray,List.append_toArray,List.nil_append,List.cons_append]
 gi_wp2
 gi_loopw [6] (fun i wr=>∃a:Nat,a<=4/\i = Ey Ew a/\J (xO a 0 0) wr/\KD n₀ Bs W wr) (fun i _=>4-(intOf i).toNat)
 case atStart=>exact⟨0,by omega,rfl,by rw[KX]; exact h0,KD.refl _ _ _⟩
 case round=>
  obtain⟨a,ha,rfl,a9,br⟩:=hrel
  rcases Nat.lt_or_ge a 4 with a4 | a4
  .
   have cy:decide ((a:Int)<4)=true:=E_ D5
   gi_wp2
   gi_loopw [9] (fun i wr=>∃b:Nat,b<=4/\i = Ey Ew b/\J (xO a b 0) wr/\KD n₀ Bs W wr) (fun i _=>4-(intOf i).toNat)
   case atStart=>exact⟨0,by omega,rfl,a9,br⟩
   case round=>
    obtain⟨b,hb,rfl,aX,bh⟩:=hrel
    rcases Nat.lt_or_ge b 4 with b4 | b4
    .
     have co:decide ((b:Int)<4)=true:=E_ D5
     gi_wp2
     gi_loopw [12] (fun i wr=>∃c:Nat,c<=4/\i = Ey Ew c/\J (xO a b c) wr/\KD n₀ Bs W wr) (fun i _=>4-(intOf i).toNat)
     case atStart=>exact⟨0,by omega,rfl,aX,bh⟩
     case round=>
      obtain⟨c,hc,rfl,X,Y⟩:=hrel
      rcases Nat.lt_or_ge c 4 with c4 | c4
      .
       have cn:decide ((c:Int)<4)=true:=E_ D5;have M:=Yj a a4 b b4 c c4
       by_cases e1:a=b
       .
        have q1:((a:Int) != (b:Int))=false:=by simp[e1]
        rw[E9 (fun h=>h.1 e1)]at M;replace M:=E6 M;clear e1
        gi_wp2_with fail
        refine aT.bQ (fun D _ W'=>∃m,W'=wr.drewN m) (aj.inl []) (aj.gv []) aj.aR (fun _=>aj.Any) (fun _ _=>False) (aj.pl []) (aj.pl [])
         D6 D6 D6 (aj.dI _) (fun _=>⟨1,rfl⟩) (fun _ _ _ _ _ h=>h) (fun _ _ _ _ _ _ _ _ _ _ _ _ _=>aj.none_) (fun _ _ _ _ h=>h.elim) (fun H Q' E T=> ?_)
        repeat (first | refine aT.RY E _ ?_ | (refine aT.sk E ?_; refine aT.aB (b:=⟨#[_,_,_,_,_,_,_,_,_,_,_,_,_,_,_,_,_,_,_,_,_,_,_,_,_,_,_,_,_,_,_,_,_,_,_,_,_,_,_,_,_,_,_,_,_,_,_,_,_,_,_,_,_,_],_⟩) rfl ?_))
        refine aT.aF (fun Dn v' W4 hd I N=> ?_);obtain⟨m,rfl⟩:=I;clear hd N;refine T _ _ ?_;clear T E Q' H
        gi_wp2
        go_roundw
        case rel=>exact⟨c+1,by omega,by go_num,by rw[M.out]; exact hJ _ _ _ none X ⟨rfl,rfl,rfl,Eo _,fun _ _ _=>rfl⟩ (fun _ e=>by cases e),Y.trans ⟨⟨rfl,rfl,rfl,Eo _,fun _ _=>rfl⟩,rfl⟩⟩
        case measure=>simp[intOf]; omega
       have q1:((a:Int) != (b:Int))=true:=by simp; omega
       by_cases e2:a=c
       .
        have q2:((a:Int) != (c:Int))=false:=by simp[e2]
        rw[E9 (fun h=>h.2.1 e2)]at M;replace M:=E6 M;clear e1 e2
        gi_wp2_with fail
        refine aT.bQ (fun D _ W'=>∃m,W'=wr.drewN m) (aj.inl []) (aj.gv []) aj.aR (fun _=>aj.Any) (fun _ _=>False) (aj.pl []) (aj.pl [])
         D6 D6 D6 (aj.dI _) (fun _=>⟨1,rfl⟩) (fun _ _ _ _ _ h=>h) (fun _ _ _ _ _ _ _ _ _ _ _ _ _=>aj.none_) (fun _ _ _ _ h=>h.elim) (fun H Q' E T=> ?_)
        repeat (first | refine aT.RY E _ ?_ | (refine aT.sk E ?_; refine aT.aB (b:=⟨#[_,_,_,_,_,_,_,_,_,_,_,_,_,_,_,_,_,_,_,_,_,_,_,_,_,_,_,_,_,_,_,_,_,_,_,_,_,_,_,_,_,_,_,_,_,_,_,_,_,_,_,_,_,_],_⟩) rfl ?_))
        refine aT.aF (fun Dn v' W4 hd I N=> ?_);obtain⟨m,rfl⟩:=I;clear hd N;refine T _ _ ?_;clear T E Q' H
        gi_wp2
        go_roundw
        case rel=>exact⟨c+1,by omega,by go_num,by rw[M.out]; exact hJ _ _ _ none X ⟨rfl,rfl,rfl,Eo _,fun _ _ _=>rfl⟩ (fun _ e=>by cases e),Y.trans ⟨⟨rfl,rfl,rfl,Eo _,fun _ _=>rfl⟩,rfl⟩⟩
        case measure=>simp[intOf]; omega
       have q2:((a:Int) != (c:Int))=true:=by simp; omega
       by_cases e3:b=c
       .
        have q3:((b:Int) != (c:Int))=false:=by simp[e3]
        rw[E9 (fun h=>h.2.2 e3)]at M;replace M:=E6 M;clear e1 e2 e3
        gi_wp2_with fail
        refine aT.bQ (fun D _ W'=>∃m,W'=wr.drewN m) (aj.inl []) (aj.gv []) aj.aR (fun _=>aj.Any) (fun _ _=>False) (aj.pl []) (aj.pl [])
         D6 D6 D6 (aj.dI _) (fun _=>⟨1,rfl⟩) (fun _ _ _ _ _ h=>h) (fun _ _ _ _ _ _ _ _ _ _ _ _ _=>aj.none_) (fun _ _ _ _ h=>h.elim) (fun H Q' E T=> ?_)
        repeat (first | refine aT.RY E _ ?_ | (refine aT.sk E ?_; refine aT.aB (b:=⟨#[_,_,_,_,_,_,_,_,_,_,_,_,_,_,_,_,_,_,_,_,_,_,_,_,_,_,_,_,_,_,_,_,_,_,_,_,_,_,_,_,_,_,_,_,_,_,_,_,_,_,_,_,_,_],_⟩) rfl ?_))
        refine aT.aF (fun Dn v' W4 hd I N=> ?_);obtain⟨m,rfl⟩:=I;clear hd N;refine T _ _ ?_;clear T E Q' H
        gi_wp2
        go_roundw
        case rel=>exact⟨c+1,by omega,by go_num,by rw[M.out]; exact hJ _ _ _ none X ⟨rfl,rfl,rfl,Eo _,fun _ _ _=>rfl⟩ (fun _ e=>by cases e),Y.trans ⟨⟨rfl,rfl,rfl,Eo _,fun _ _=>rfl⟩,rfl⟩⟩
        case measure=>simp[intOf]; omega
       have q3:((b:Int) != (c:Int))=true:=by simp; omega
       have bl:=V5 a a4 b b4 c c4 ⟨e1,e2,e3⟩;rw[E8 ⟨e1,e2,e3⟩]at M;obtain⟨d,hd⟩:∃d,6-a-b-c=d:=⟨_,rfl⟩;have cx:(6:Int)-a-b-c=(d:Int):=D5
       have d4:d<4:=D5
       rw[hd]at M;replace M:=E6 M;have bz:ai wr Bs 80 #[Ey Ew k0,Ey Ew k1,Ey Ew k2,Ey Ew k3]:=(Y.2).trans ci;have ca:=bz.c a (Z a a4);have cb:=bz.c b (Z b b4);have cc:=bz.c c (Z c c4);have cd:=bz.c d (Z d d4);obtain⟨ka,bi⟩:∃z,XA k0 k1 k2 k3 a=z:=⟨_,rfl⟩;obtain⟨kb,aY⟩:∃z,XA k0 k1 k2 k3 b=z:=⟨_,rfl⟩;obtain⟨kc,be⟩:∃z,XA k0 k1 k2 k3 c=z:=⟨_,rfl⟩;obtain⟨kd,bg⟩:∃z,XA k0 k1 k2 k3 d=z:=⟨_,rfl⟩;rw[bi]at ca;rw[aY]at cb;rw[be]at cc;rw[bg]at cd;clear hd e1 e2 e3 bz Z
       gi_wp2_with fail
       refine aT.bQ (fun D _ W'=>D 33=false->∃m,W'=wr.drewN m) (aj.inl [33]) (aj.gv [(33,fun x=>x = Ez true\/x = Ez false)])
        (gw [(33,fun x W'=>(x = Ez true/\J (xO a b c ++ [(a,b,c,d)]) W'/\KD n₀ Bs wr W')\/(x = Ez false/\Jx (xO a b c ++ [(a,b,c,d)]) W'))]) (fun _=>aj.Any) (fun _ _=>False) (aj.pl [(36,[(33,some 48)])]) (aj.pl [(17,[33]),(20,[33]),(23,[33]),(31,[33])])
        D6 D6 D6 (aj.bj _ (by intro p hp; simp only[List.mem_cons,List.not_mem_nil,or_false]at hp; rcases hp with rfl; exact⟨_,.inl rfl⟩)) (fun _ _=>⟨1,rfl⟩) (fun _ _ _ _ _ h=>h)
        (fun D v k j W W' x cg I hk _ _ _=>absurd ((by simpa[aj.inl]using I:j=33).trans (by simpa[aj.inl]using hk:k=33).symm) cg) (fun _ _ _ _ h=>h.elim) (fun H Q' E T=> ?_)
       repeat refine aT.RY E _ ?_
       apply aT.bD (hc:=rfl) (hst:=rfl) (hw:=by rw[E]; rfl) (t:=32) (hd:=rfl) (ht:=Eb rfl)
       .
        intro D v' W' hc I N K hK;obtain⟨m,rfl⟩:=I (hc.2 33 D7);go_step;exact hK.out
       . rfl
       repeat refine aT.RY E _ ?_
       apply aT.bD (hc:=rfl) (hst:=rfl) (hw:=by rw[E]; rfl) (t:=35) (hd:=rfl) (ht:=Eb rfl)
       .
        intro D v' W' hc I N K hK;obtain⟨m,rfl⟩:=I (hc.2 33 D7);go_step;exact hK.out
       . rfl
       repeat refine aT.RY E _ ?_
       apply aT.bD (hc:=rfl) (hst:=rfl) (hw:=by rw[E]; rfl) (t:=38) (hd:=rfl) (ht:=Eb rfl)
       .
        intro D v' W' hc I N K hK;obtain⟨m,rfl⟩:=I (hc.2 33 D7);go_step;exact hK.out
       . rfl
       repeat refine aT.RY E _ ?_
       apply aT.bD (hc:=rfl) (hst:=rfl) (hw:=by rw[E]; rfl) (t:=46) (hd:=rfl) (ht:=Eb rfl)
       .
        intro D v' W' hc I N K hK;obtain⟨m,rfl⟩:=I (hc.2 33 D7);go_step;exact hK.out
       . rfl
       refine aT.RY E _ ?_;refine aT.aC (n:=n) rfl (by intro t ht; cases ht; exact Eb rfl) (by rw[E]; rfl) (fun D v' W' hc I N K hK=> ?_) ?_
       .
        obtain⟨m,rfl⟩:=I hc.1;obtain⟨fn,tmps,assign,body,hy,hR⟩:=hY _ (a,b,c,d) (wr.drewN m) (hJ _ _ _ none X ⟨rfl,rfl,rfl,Eo _,fun _ _ _=>rfl⟩ (fun _ e=>by cases e)) bl;unfold WY Je at hy;dsimp only at hy;rw[bi,aY,be,bg]at hy;unfold Oper.wpIn;refine⟨fun _ _=>trivial,?_⟩;rw[show Oper.semAt Fence.wide.round _ _=execOp _ _ from rfl];have b9:∀x y,x=Sem.run Ec (Instr.yield l #[Ej #[Ey Ew ka,Ey Ew kb,Ey Ew kc,Ey Ew kd]]) (wr.drewN m)->y=x->y = .ok (.round l fn tmps assign body) (wr.drewN m):=fun x y e1 e2=>by rw[e2,e1]; exact hy
        rw[b9 _ (Sem.run _ _ _) rfl (by simp[execOp,go_sem,Act.eval]),Oper.uponIn_round];refine⟨fun h=>(by cases h),jF (hR.mono ?_)⟩;rintro e W3 (⟨rfl,hJ3,hk3⟩ | ⟨rfl,hJx3⟩)
        . exact hK.out _ _ aj.any (fun h=>by cases h) (.inl ⟨rfl,hJ3,⟨⟨hk3.1.os,hk3.1.tape,hk3.1.output,hk3.1.size,hk3.1.block⟩,hk3.2⟩⟩) (.inl rfl)
        . exact hK.out _ _ aj.any (fun h=>by cases h) (.inr ⟨rfl,hJx3⟩) (.inr rfl)
       rintro _ (rfl | rfl)
       .
        refine aT.aB (b:=⟨#[_,_,_,_,_,_,_,_,_,_,_,_,_,_,_,_,_,_,_,_,_,_,_,_,_,_,_,_,_,_,_,_,_,_,_,_,_,_,_,_,_,_,_,_,_,_,_,_,_,_,_,_,_,_],_⟩) rfl ?_
        repeat refine aT.RY E _ ?_
        refine aT.aF (fun Dn v' W4 hd I N=> ?_);have hg:=(N (33,some 48) (.head _) rfl).2.2;clear hd N I;obtain⟨ah,ce⟩:J (xO a b c ++ [(a,b,c,d)]) W4/\KD n₀ Bs wr W4:=hg.elim (fun h=>h.2) (fun h=>by cases h.1);clear hg;refine T _ _ ?_;clear T E Q' H
        gi_wp2
        go_roundw
        case rel=>exact⟨c+1,by omega,by go_num,by rw[M.out]; exact ah,Y.trans ce⟩
        case measure=>simp[intOf]; omega
       .
        refine aT.aB (b:=⟨#[_,_,_,_,_,_,_,_,_,_,_,_,_,_,_,_,_,_,_,_,_,_,_,_,_,_,_,_,_,_,_,_,_,_,_,_,_,_,_,_,_,_,_,_,_,_,_,_,_,_,_,_,_,_],_⟩) rfl ?_
        repeat refine aT.RY E _ ?_
        refine aT.aF (fun Dn v' W4 hd I N=> ?_);have hg:=(N (33,some 48) (.head _) rfl).2.2;clear hd N I;obtain ah:Jx (xO a b c ++ [(a,b,c,d)]) W4:=hg.elim (fun h=>by cases h.1) (fun h=>h.2);clear hg;refine T _ _ ?_;clear T E Q' H
        gi_wp2
        refine bodyPost_ret (results_none rfl _ _ _) rfl ?_;exact⟨⟨_,rfl⟩,.inr ⟨_,trivial,ah⟩⟩
      .
       obtain rfl:c=4:=D5
       rw[KV a a4 b b4]at X
       gi_wp2
       go_roundw
       case rel=>exact⟨b+1,by omega,by go_num,X,Y⟩
       case measure=>simp[intOf]; omega
    .
     obtain rfl:b=4:=D5
     rw[KW a a4]at aX
     gi_wp2
     go_roundw
     case rel=>exact⟨a+1,by omega,by go_num,aX,bh⟩
     case measure=>simp[intOf]; omega
  .
   obtain rfl:a=4:=D5
   rw[Xz]at a9
   gi_wp2
   go_end0
   exact⟨⟨_,rfl⟩,.inl ⟨_,rfl,a9⟩⟩
theorem X9 (n Bs n₀ k0 k1 k2 k3:Nat) (w:Ee) (E:ai w Bs 80 #[Ey Ew k0,Ey Ew k1,Ey Ew k2,Ey Ew k3]) :
  SeqStopsK Fence.wide n Ec 176 #[Ek (some ⟨Bs,0,none⟩)] (WY (XA k0 k1 k2 k3)) (KD n₀ Bs) (fun H=>H=bV) (fun _=>True) 24 w:=fun l J M W N I _ T h0=>
 Kf n l Bs n₀ W.heap.size k0 k1 k2 k3 J M I T W ((N.block Bs E.lt).trans E) h0
end
section
open Go.RowKit Go.Shelf
variable {K:Nat->Nat} {l:PL} {v:Ef}
theorem YV {P:Program} {w:Ee} {a:Addr} {m:Mode} (f:Fn) (H E:_):(store a (.func f H E) m).run P w=stored P w a (.func f H E) m:=run_store P w a _ m rfl
attribute [local go_sem] Oper.semAt_some YV
theorem Va {p q r s:Int×Int} (k0 k1 k2 k3:Nat) (h0:kK p.1 p.2) (E:kK q.1 q.2) (I:kK r.1 r.2) (H:kK s.1 s.2):WI (UM k0 k1 k2 k3 p q r s):=by
 have a:=jJ (xR I h0) (xR E h0);have b:=jJ (xR H h0) (xR E h0);unfold WI UM j5;dsimp only;omega
theorem Hj (x:P4) (w:Ee) (h:bP w v l) (E:∀i,K i<l.length) (H:∀i,kK (pt l (K i)).1 (pt l (K i)).2) :
  Ed Ec 145 #[v,Je K x] w fun e w'=>e = Eh (Ej (qZ (yQ l K x)))/\zf w w':=
 U0 (K x.1) (K x.2.1) (K x.2.2.1) (K x.2.2.2) (pt l (K x.1)).1 (pt l (K x.1)).2 (pt l (K x.2.1)).1 (pt l (K x.2.1)).2 (pt l (K x.2.2.1)).1 (pt l (K x.2.2.1)).2 (pt l (K x.2.2.2)).1 (pt l (K x.2.2.2)).2 w
  ⟨h,⟨E _,E _,E _,E _⟩,rfl,rfl,rfl,rfl⟩ (H _) (H _) (H _) (H _)
theorem Zu (A:aV):(qZ A).all (·.oneCell')=true:=by simp[qZ,Value.oneCell']
def jH (l:PL) (K:Nat->Nat) (pre:List P4):aV:=xN (pre.map (yQ l K))
theorem YW (l:PL) (K:Nat->Nat) (pre:List P4) (x:P4):jH l K (pre ++ [x])=if(yQ l K x).aQ (jH l K pre)then yQ l K x else jH l K pre:=by
 unfold jH; rw[List.map_append]; exact ZX _ _
theorem U6 (E:∀i,kK (pt l (K i)).1 (pt l (K i)).2) (pre:List P4):WI (jH l K pre):=by
 have key:∀r:List P4,WI (jH l K r.reverse):=by
  intro r
  induction r with
  | nil=>exact(show WI zK from⟨by decide,by decide,by decide,by decide⟩)
  | cons x r ih=>
   rw[List.reverse_cons,YW]
   split
   . exact Va _ _ _ _ (E _) (E _) (E _) (E _)
   . exact ih
 have:=key pre.reverse
 rwa[List.reverse_reverse]at this
set_option maxHeartbeats 6400000 in
set_option maxRecDepth 1000000 in
theorem WZ (k0 k1 k2 k3:Nat) (K:Nat->Nat) (hK:XA k0 k1 k2 k3=K) (w:Ee) (h:bP w v l) (hk:∀i,K i<l.length) (hp:∀i,kK (pt l (K i)).1 (pt l (K i)).2) :
  Ed Ec 107 #[v,Ej #[Ey Ew k0,Ey Ew k1,Ey Ew k2,Ey Ew k3]] w fun e w'=>e = Eh (.tuple #[Ej (qZ (jH l K bV)),Ez (decide (0<(jH l K bV).n))])/\zf w w':=by
 have aX:Fence.wide.round=none:=rfl;have HP:=E6 h;obtain⟨ao,cap,rfl⟩:=h.ak;clear h;obtain⟨len,br⟩:∃n,l.length=n:=⟨_,rfl⟩;rw[br]at HP|-;refine(callsIn_wide (n:=3)).1 ?_;refine callsIn_of_wp_marks Tryz.func107 rfl trivial ?_ aX;simp only[Tryz.ntmps107,List.size_toArray,List.length_cons,List.length_nil,Nat.reduceAdd,Nat.reduceSub,Array.replicate_succ,Array.replicate_zero,List.push_toArray,List.append_toArray,List.nil_append,List.cons_append]
 gi_wp2_with (refine⟨trivial,?_⟩; gi_at_call 144; refine(V6 Fence.wide 2 trivial aX _ _ _ _ _).mono ?_; rintro e w' ⟨rfl,rfl⟩)
 obtain⟨X,H⟩:∃X,(((((w.alloc (.cells #[Ex ao len cap] 55)).alloc (.cells #[Ey Ew k0,Ey Ew k1,Ey Ew k2,Ey Ew k3] 80)).alloc (.cells #[Ey Ew 0,Ey Ew 0,Ey Ew 0,Ey Ew 0,Ey Ew 0,Ey Ew 0,Ey Ew 0,Ey Ew 0,Ey Ew 0] 160)).alloc (.cells #[Ey Ew 0,Ey Ew 0,Ey Ew 0,Ey Ew 0,Ey Ew 0,Ey Ew 0,Ey Ew 0,Ey Ew 0,Ey Ew 0] 160)).alloc (.cells #[.func (.func 142) #[] #[Ek (some ⟨w.heap.size+1+1+1,0,none⟩)]] 190)).alloc (.cells #[Ey Ew k0,Ey Ew k1,Ey Ew k2,Ey Ew k3] 80)=X:=⟨_,rfl⟩;rw[H];have M:ai X w.heap.size 55 #[Ex ao len cap]:=by rw[<- H]; exact zw
 have b2:ai X (w.heap.size+1+1) 160 Uk:=by rw[<- H]; exact zw
 have b3:ai X (w.heap.size+1+1+1) 160 Uk:=by rw[<- H]; exact zw
 have b4:ai X (w.heap.size+1+1+1+1) 190 #[.func (.func 142) #[] #[Ek (some ⟨w.heap.size+1+1+1,0,none⟩)]]:=by rw[<- H]; exact zw
 have b5:ai X (w.heap.size+1+1+1+1+1) 80 #[Ey Ew k0,Ey Ew k1,Ey Ew k2,Ey Ew k3]:=by rw[<- H]; exact ai.bO D8
 have bi:Below w.heap.size w X:=by rw[<- H]; exact zh
 have cN:X.heap.size=w.heap.size+1+1+1+1+1+1:=by rw[<- H]; simp
 clear H;have OS:=X9 2 (w.heap.size+1+1+1+1+1) w.heap.size k0 k1 k2 k3 X b5;rw[hK]at OS
 refine wpIn_rangeFunc_ownH aX (show 1<=3 by omega) (gf:=176) (lb:=#[Ek (some ⟨w.heap.size+1+1+1+1+1,0,none⟩)]) rfl trivial (enters_of Tryz.func176 D6 rfl)
  OS KD.trans (GY D5 D5) (Below.refl _ _) (fun _=>rfl)
  (fun(pre:List P4) W=>(ai W w.heap.size 55 #[Ex ao len cap]/\ai W (w.heap.size+1+1) 160 Uk/\ai W (w.heap.size+1+1+1) 160 (qZ (jH l K pre))/\ai W (w.heap.size+1+1+1+1) 190 #[.func (.func 142) #[] #[Ek (some ⟨w.heap.size+1+1+1,0,none⟩)]]/\ai W (w.heap.size+1+1+1+1+1) 80 #[Ey Ew k0,Ey Ew k1,Ey Ew k2,Ey Ew k3])/\Below w.heap.size w W)
  (fun _ _ _=>False)
  (OwnFrom.and (Own.from (fun s A B row hs hg hr=>⟨yi hs.1 hg hr,yi hs.2.1 hg hr,yi hs.2.2.1 hg hr,yi hs.2.2.2.1 hg hr,yi hs.2.2.2.2 hg hr⟩) _) (ownFrom_below (Eo _) D5))
  (fun _ _ _ _ _ hs _ _=>hs)
  ⟨⟨M,b2,b3,b4,b5⟩,bi⟩
  (fun(x:P4) a' W=>∃p,a' = { tmps:=#[Ex ao len cap,Ej #[Ey Ew k0,Ey Ew k1,Ey Ew k2,Ey Ew k3],Ek (some ⟨w.heap.size,0,none⟩),Ek (some ⟨w.heap.size+1,0,none⟩),Ek (some ⟨w.heap.size+1+1,0,none⟩),Ez false,Ek (some ⟨w.heap.size+1+1+1,0,none⟩),Ek (some ⟨w.heap.size+1+1+1+1,0,none⟩),Ek (some ⟨p,0,none⟩),Em,.func (.func 142) #[] #[Ek (some ⟨w.heap.size+1+1+1,0,none⟩)],Ej #[Ey Ew k0,Ey Ew k1,Ey Ew k2,Ey Ew k3],.func (.func 176) #[] #[Ek (some ⟨w.heap.size+1+1+1+1+1,0,none⟩)],Ej #[Ey Ew (K x.1:Nat),Ey Ew (K x.2.1:Nat),Ey Ew (K x.2.2.1:Nat),Ey Ew (K x.2.2.2:Nat)],Em,Em,Em,Em,Em,Em,Em,Em,Em,Em,Em],defers:= [] }/\ai W p 80 #[Ey Ew (K x.1:Nat),Ey Ew (K x.2.1:Nat),Ey Ew (K x.2.2.1:Nat),Ey Ew (K x.2.2.2:Nat)])
  (fun x a' s A B row hs hg hr=>by obtain⟨p,e,hb⟩:=hs; exact⟨p,e,yi hb hg (fun r e=>(hr r e).2)⟩) ?assign ?body ?done ?stop
 case assign=>
  rintro l' pre x W K' ⟨⟨M,b2,b3,b4,b5⟩,T⟩ E;have Y:=b5.lt;have N:=T.size;unfold WY Je;dsimp only;generalize K x.1=ka at E|-;generalize K x.2.1=kb at E|-;generalize K x.2.2.1=kc at E|-;generalize K x.2.2.2=kd at E|-
  gi_wp2
  have AL:=Al.alloc (n₀:=w.heap.size) (Bs:=w.heap.size+1+1+1+1+1) (W:=W) (.cells #[Ey Ew ka,Ey Ew kb,Ey Ew kc,Ey Ew kd] 80) N Y;exact E _ _ (AL.others.from _) AL.kd ⟨⟨zw,zw,zw,zw,zw⟩,T.trans AL.kd.1⟩ ⟨_,rfl,ai.new _ _ _⟩
 case body=>
  rintro l' pre x a' W hl ⟨d9,cU⟩ ⟨⟨M,b2,b3,b4,b5⟩,T⟩ ⟨p,rfl,bo⟩ _;have bt:bP W (Ex ao len cap) l:=HP.out.ae T;have Y:=b5.lt;have N:=T.size;have HA:Hid (jH l K (pre ++ [x])=if(yQ l K x).aQ (jH l K pre)then yQ l K x else jH l K pre):=YW l K pre x;have a9:=Hj (K:=K) x W bt hk hp;have b9:WI (yQ l K x):=Va _ _ _ _ (hp _) (hp _) (hp _) (hp _);have be:=U6 hp pre;obtain⟨A,hA⟩:∃A,yQ l K x=A:=⟨_,rfl⟩;obtain⟨B,ah⟩:∃B,jH l K pre=B:=⟨_,rfl⟩;rw[hA]at a9 HA b9;rw[ah]at b3 HA be;unfold Je at a9;generalize K x.1=ka at *;generalize K x.2.1=kb at *;generalize K x.2.2.1=kc at *;generalize K x.2.2.2=kd at *;clear hA ah bt hk hp cN bi OS;have cx:W.cell? ⟨w.heap.size,0,none⟩=some (Ex ao len cap):=M.c 0 rfl;have cn:W.cell? ⟨p,0,none⟩=some (Ey Ew ka):=bo.c 0 rfl;have cg:W.cell? ⟨p,1,none⟩=some (Ey Ew kb):=bo.c 1 rfl;have co:W.cell? ⟨p,2,none⟩=some (Ey Ew kc):=bo.c 2 rfl;have ci:W.cell? ⟨p,3,none⟩=some (Ey Ew kd):=bo.c 3 rfl
  gi_upto_region 5 with fail
  refine yI D6 ?_
  repeat' (first | go_values | go_skip | go_guarded | go_step | go_upon)
  refine a9.mono ?_;rintro e W1 ⟨rfl,I⟩;have ce:Al w.heap.size (w.heap.size+1+1+1+1+1) W W1:=Al.ae I N Y;replace M:=M.ae I;replace b2:=b2.ae I;replace b3:=b3.ae I;replace b4:=b4.ae I;replace b5:=b5.ae I;replace N:=Nat.le_trans N I.size;clear cx cn cg co ci bo a9 Y I;have Y:=b5.lt;dsimp only
  repeat' (first | (refine zF rfl 160 (.tmp 9) (.tmp 16) rfl W1.heap.size (qZ A) rfl rfl 160 #[Ey Ew 0,Ey Ew 0,Ey Ew 0,Ey Ew 0,Ey Ew 0,Ey Ew 0,Ey Ew 0,Ey Ew 0,Ey Ew 0] zw D6 rfl (Zu A) (fun W2 r2=> ?_)) | go_values | go_skip | go_guarded | go_step | go_upon)
  have n5:∀g,g<=w.heap.size+1+1+1+1+1->g≠W1.heap.size:=fun g hg=>by omega
  have bg:Al w.heap.size (w.heap.size+1+1+1+1+1) W W2:=(ce.trans (Al.alloc _ N Y)).trans (Al.row r2 N (n5 _ (Eo _)));replace M:=r2.bG (M.alloc _) (n5 _ D5);replace b2:=r2.bG (b2.alloc _) (n5 _ D5);replace b3:=r2.bG (b3.alloc _) (n5 _ D5);replace b4:=r2.bG (b4.alloc _) (n5 _ D5);replace b5:=r2.bG (b5.alloc _) (n5 _ D5);have ba:=r2.bz;have cy:W2.cell? ⟨w.heap.size+1+1+1+1,0,none⟩=some (.func (.func 142) #[] #[Ek (some ⟨w.heap.size+1+1+1,0,none⟩)]):=b4.c 0 rfl;have cb:Ed Ec 142 #[Ej (qZ A),Ek (some ⟨w.heap.size+1+1+1,0,none⟩)] W2 fun e w2=>e = Eh (Ez (A.aQ B))/\zf W2 w2:=WX A B _ W2 b3 b9 be;replace N:=T.size;replace N:=Nat.le_trans N bg.others.size;have za:=ba.lt;clear ce r2 Y b9 be;have Y:=b5.lt;have n9:=n5 (w.heap.size+1+1+1) D5;clear n5;generalize W1.heap.size=pa at *;dsimp only[xf,Act.put]
  gi_upto_region 6 with fail
  refine yI D6 ?_
  repeat' (first | (refine zO rfl 160 (.tmp 9) rfl pa rfl 160 (qZ A) _ ba Tryz.underlying160 rfl D6 ?_) | go_values | go_skip | go_guarded | go_step | go_upon)
  refine cb.mono ?_;rintro e W3 ⟨rfl,J⟩;have Z:=bg.trans (Al.ae J N Y);replace M:=M.ae J;replace b2:=b2.ae J;replace b3:=b3.ae J;replace b4:=b4.ae J;replace b5:=b5.ae J;replace ba:=ba.ae J;clear cy cb bg J Y za N
  cases hb:A.aQ B
  .
   dsimp only
   repeat' (first | go_values | go_skip | go_guarded | go_step | go_upon)
   dsimp only[xf,Act.put]
   gi_wp2
   exact⟨Z.others.from _,Z.kd,⟨M,b2,by rw[HA.out,E9 (by rw[hb]; simp)]; exact b3,b4,b5⟩,T.trans Z.kd.1⟩
  .
   dsimp only
   repeat' (first | go_values | go_skip | go_guarded | go_step | go_upon)
   dsimp only[xf,Act.put]
   gi_upto_region 7 with fail
   refine yI D6 ?_
   repeat' (first | (refine zO rfl 160 (.tmp 9) rfl pa rfl 160 (qZ A) _ ba Tryz.underlying160 rfl D6 ?_) | (refine zF rfl 160 (.tmp 6) (.tmp 20) rfl (w.heap.size+1+1+1) (qZ A) rfl rfl 160 (qZ B) b3 D6 rfl (Zu A) (fun W4 r4=> ?_)) | go_values | go_skip | go_guarded | go_step | go_upon)
   have aY:=Z.trans (Al.row r4 D5 D5);dsimp only[xf,Act.put]
   gi_wp2
   exact⟨aY.others.from _,aY.kd,⟨r4.bG M D5,r4.bG b2 D5,by rw[HA.out,E8 hb]; exact r4.bz,r4.bG b4 D5,r4.bG b5 D5⟩,T.trans aY.kd.1⟩
 case done=>
  rintro Dk ys W hD rfl ⟨⟨M,b2,b3,b4,b5⟩,T⟩ hKd;obtain⟨C,hC⟩:∃C,jH l K bV=C:=⟨_,rfl⟩;rw[hC]at b3;have HC:=E6 hC;clear hC M b4 b5
  gi_upto_region 8 with fail
  refine wpIn_wide.2 ?_
  refine aj.aI (fun D _ W'=>Below w.heap.size w W'/\ai W' (w.heap.size+1+1+1) 160 (qZ C)/\(D 4=false->ai W' (w.heap.size+1+1) 160 Uk)/\(D 4=true->ai W' (w.heap.size+1+1) 160 (qZ C))/\W'.heap[Dk]? = some (.deferred (some [])))
   (aj.inl [4]) (aj.ge []) aj.aR (fun _=>aj.Any) (fun _ _=>False) (aj.pl []) (aj.pl [])
   D6 D6 D6 (aj.cH _) (fun v=>⟨T.drew,b3.drew,fun _=>b2.drew,(fun h=>by cases h),hKd⟩) (fun _ _ _ _ _ h=>h) (fun _ _ _ _ _ _ _ _ _ _ _ _ _=>aj.none_) (fun _ _ _ _ h=>h.elim) (fun bl Q' bh hQ=> ?_)
  apply aj.RP rfl rfl rfl 21 rfl rfl
  .
   intro D v' W' hc hj hf K' E;obtain⟨j0,j3,-,-,-⟩:=hj;exact wp_load_row 160 (.tmp 6) rfl (w.heap.size+1+1+1) rfl 160 (qZ C) (0,0) _ j3 Tryz.underlying160 rfl D6 E.out
  . rfl
  refine aj.aD 22 ?_;apply aj.RP rfl rfl rfl 23 rfl rfl
  .
   intro D v' W' hc hj hf K' E;obtain⟨j0,j3,-,-,-⟩:=hj;have c8:W'.cell? ⟨w.heap.size+1+1+1,8,none⟩=some (Ey Ew C.n):=j3.c 8 rfl;go_step;exact E.out
  . rfl
  refine aj.aD 24 ?_;refine aj.aC rfl (by intro t ht; cases ht) rfl (fun D v' W' hc hj hf K' E=> ?_) (fun _ _=>aj.aB (b:=⟨#[_,_,_,_,_,_,_,_,_,_,_,_,_,_,_,_,_,_,_,_,_,_,_,_,_],_⟩) rfl ?_)
  .
   obtain⟨j0,j3,ja,-,jd⟩:=hj;have r:=aZ.eL (cs:=qZ C) (ja hc.1);refine wp_store_row 160 (.tmp 4) (.tmp 21) rfl (w.heap.size+1+1) (qZ C) rfl rfl 160 #[Ey Ew 0,Ey Ew 0,Ey Ew 0,Ey Ew 0,Ey Ew 0,Ey Ew 0,Ey Ew 0,Ey Ew 0,Ey Ew 0] (ja hc.1) D6 rfl (Zu C) ?_;exact E.out Em _ aj.any ⟨r.below j0 D5,r.bG j3 D5,(fun h=>Bool.noConfusion h),fun _=>r.bz,(r.only.2 Dk D5).trans jd⟩ aj.none_ trivial
  refine aj.aD 5 ?_;refine aj.aF (fun D v' W' hd hj hf=> ?_);obtain⟨j0,-,-,jb,jd⟩:=hj;replace jb:=jb (hd 4 D7);clear hd hf;refine hQ _ _ ?_;clear hQ bh Q' bl
  gi_wp2
  refine⟨by simp,.inl ⟨_,_,rfl,run_takeDeferred jd,?_⟩⟩;refine⟨.tuple #[Ej (qZ C),Ez (decide (0<C.n))],?_,by rw[HC.out],j0.trans (belowK_b (w:=w) (Eo _) _ Dk _ _ D5 jd rfl rfl)⟩;refine zV (p:=4) (q:=5) (ty:=160) (t:=160) (cs:=qZ C) rfl _ _ (w.heap.size+1+1) ?_ ?_ Tryz.underlying160 rfl D6
  . rfl
  . exact yi jb (grownBy_putObj' _ Dk (.deferred none)) (fun r e=>by cases e; exact⟨_,jd,rfl⟩)
 case stop=>exact fun _ _ _ _ _ _ h _=>h.elim
theorem Hk (k0 k1 k2 k3:Nat) (w:Ee) (h:bP w v l) (E:∀i,XA k0 k1 k2 k3 i<l.length) (H:∀i,kK (pt l (XA k0 k1 k2 k3 i)).1 (pt l (XA k0 k1 k2 k3 i)).2) :
  Ed Ec 107 #[v,Ej #[Ey Ew k0,Ey Ew k1,Ey Ew k2,Ey Ew k3]] w fun e w'=>e = Eh (.tuple #[Ej (qZ (yA l (XA k0 k1 k2 k3))),Ez (decide (0<(yA l (XA k0 k1 k2 k3)).n))])/\zf w w':=
 WZ k0 k1 k2 k3 _ rfl w h E H
end
section
open Go.RowKit
variable {k0 k1 k2 k3:Int} {r0 r1 r2 r3:Rat} {v:Ef} {w w':Ee}
def QD (w:Ee) (v:Ef) (k0 k1 k2 k3:Int) (r0 r1 r2 r3:Rat):Prop:=
 ∃a b c d e f g h i j k l m n o p,v = Ej #[Ey Ew k0,Ey Ew k1,Ey Ew k2,Ey Ew k3,a,b,c,d,e,f,g,h,i,j,k,l,m,n,o,p]/\
  FR w (Ej #[a,b,c,d]) r0/\FR w (Ej #[e,f,g,h]) r1/\FR w (Ej #[i,j,k,l]) r2/\FR w (Ej #[m,n,o,p]) r3
theorem QD.af (h:QD w v k0 k1 k2 k3 r0 r1 r2 r3) (k:av w w'):QD w' v k0 k1 k2 k3 r0 r1 r2 r3:=by
 obtain⟨a,b,c,d,e,f,g,h,i,j,I,l,m,n,o,p,N,M,J,H,E⟩:=h;exact⟨a,b,c,d,e,f,g,h,i,j,I,l,m,n,o,p,N,M.af k,J.af k,H.af k,E.af k⟩
theorem QD.ae (h:QD w v k0 k1 k2 k3 r0 r1 r2 r3) (k:zf w w'):QD w' v k0 k1 k2 k3 r0 r1 r2 r3:=h.af (av.ae k)
set_option maxHeartbeats 6400000 in
set_option maxRecDepth 1000000 in
theorem B' (k0 k1 k2 k3 A1 A2 B1 B2 N:Int) (w:Ee) (gR : -9223372036854775808<=A1/\A1<=9223372036854775807) (gT : -9223372036854775808<=A2/\A2<=9223372036854775807) (gQ : -9223372036854775808<=B1/\B1<=9223372036854775807) (gP : -9223372036854775808<=B2/\B2<=9223372036854775807) (hN:0<N/\N<=9223372036854775807) :
  Ed Ec 108 #[Ej #[Ey Ew k0,Ey Ew k1,Ey Ew k2,Ey Ew k3,Ey Ew A1,Ey Ew A2,Ey Ew B1,Ey Ew B2,Ey Ew N]] w fun e w'=>
   ∃v,e = Eh (.tuple #[v,Ey Ew 0])/\QD w' v k0 k1 k2 k3 ((A1:Rat) / (N:Rat)) ((A2:Rat) / (N:Rat)) ((B1:Rat) / (N:Rat)) ((B2:Rat) / (N:Rat))/\zf w w':=by
 have o0:=fun w'=>Q_ A1 N w' gR.1 gR.2 D5 hN.2 D5;have o1:=fun w'=>Q_ A2 N w' gT.1 gT.2 D5 hN.2 D5;have o2:=fun w'=>Q_ B1 N w' gQ.1 gQ.2 D5 hN.2 D5;have o3:=fun w'=>Q_ B2 N w' gP.1 gP.2 D5 hN.2 D5;clear gR gT gQ gP hN;have i8:∀w':Ee,(Instr.index 158 (Ej #[Ey Ew A1,Ey Ew A2,Ey Ew B1,Ey Ew B2]) (Ey Ew 0)).run Ec w' = .ok (Ey Ew A1) w':=fun w'=>by kernel_rfl
 have iq:∀w':Ee,(Instr.index 158 (Ej #[Ey Ew A1,Ey Ew A2,Ey Ew B1,Ey Ew B2]) (Ey Ew 1)).run Ec w' = .ok (Ey Ew A2) w':=fun w'=>by kernel_rfl
 have ik:∀w':Ee,(Instr.index 158 (Ej #[Ey Ew A1,Ey Ew A2,Ey Ew B1,Ey Ew B2]) (Ey Ew 2)).run Ec w' = .ok (Ey Ew B1) w':=fun w'=>by kernel_rfl
 have ip:∀w':Ee,(Instr.index 158 (Ej #[Ey Ew A1,Ey Ew A2,Ey Ew B1,Ey Ew B2]) (Ey Ew 3)).run Ec w' = .ok (Ey Ew B2) w':=fun w'=>by kernel_rfl
 go_enter Tryz.func108,Tryz.ntmps108
 go_wp2_with (first
  | (
    refine yp rfl 83 #[(0,.tmp 10)] rfl #[Ey Ew k0,Ey Ew k1,Ey Ew k2,Ey Ew k3,Ez false,Ex none 0 0,Ez false,Ex none 0 0,Ez false,Ex none 0 0,Ez false,Ex none 0 0,Ez false,Ex none 0 0,Ez false,Ex none 0 0,Ez false,Ex none 0 0,Ez false,Ex none 0 0] D6 ?_
    skip)
  | (
    refine zF rfl 83 (.tmp 4) (.tmp 11) rfl (w.heap.size+1+1) #[Ey Ew k0,Ey Ew k1,Ey Ew k2,Ey Ew k3,Ez false,Ex none 0 0,Ez false,Ex none 0 0,Ez false,Ex none 0 0,Ez false,Ex none 0 0,Ez false,Ex none 0 0,Ez false,Ex none 0 0,Ez false,Ex none 0 0,Ez false,Ex none 0 0] rfl rfl 83 #[Ey Ew 0,Ey Ew 0,Ey Ew 0,Ey Ew 0,Ez false,Ex none 0 0,Ez false,Ex none 0 0,Ez false,Ex none 0 0,Ez false,Ex none 0 0,Ez false,Ex none 0 0,Ez false,Ex none 0 0,Ez false,Ex none 0 0,Ez false,Ex none 0 0] zw D6 rfl (by simp[Value.oneCell']) (fun w1 E=> ?_);have Bn:Below w.heap.size w w1:=E.below zh D5;have oa:ai w1 w.heap.size 160 #[Ey Ew k0,Ey Ew k1,Ey Ew k2,Ey Ew k3,Ey Ew A1,Ey Ew A2,Ey Ew B1,Ey Ew B2,Ey Ew N]:=E.bG zw (show w.heap.size≠w.heap.size+1+1 by omega);have or:ai w1 (w.heap.size+1) 83 ZT:=E.bG zw (show w.heap.size+1≠w.heap.size+1+1 by omega);have oq:ai w1 (w.heap.size+1+1) 83 #[Ey Ew k0,Ey Ew k1,Ey Ew k2,Ey Ew k3,Ez false,Ex none 0 0,Ez false,Ex none 0 0,Ez false,Ex none 0 0,Ez false,Ex none 0 0,Ez false,Ex none 0 0,Ez false,Ex none 0 0,Ez false,Ex none 0 0,Ez false,Ex none 0 0]:=E.bz;have B:=Bn;clear Bn E;obtain⟨gK,g8,gn,fe,fd,f8,gB,gd,fl⟩:=oa.r8;have la:=oa.lt;have lr:=or.lt;have lq:=oq.lt
    skip)
  )
 skip
 refine wp_loop_rounds 5 ?_;rw[rounds_succ];go_wp2_with fail
 refine(o0 _).mono ?_;rintro e w2 ⟨i6,rfl,f9,st⟩;have sk:=bA w1 st;replace B:=bS B sk;replace oa:=oa.ae sk;replace or:=or.ae sk;replace oq:=oq.ae sk;clear st sk gK g8 gn fe fd f8 gB gd fl la lr lq;obtain⟨gK,g8,gn,fe,fd,f8,gB,gd,fl⟩:=oa.r8;have la:=oa.lt;have lr:=or.lt;obtain⟨gH,gI,gJ,gt,gD,gE,g9,gF,gG,gz,dz,dl,dy,cy,dk,d9,cU,cN,dx,cx,fq,lq⟩:=oq.fo;obtain⟨Y,H,J,M,T,Z,X,I,rfl⟩:=f9.ak;have bi:=E6 f9;clear f9;clear o0;have hE:w.heap.size+1+1<w2.heap.size:=oq.lt;have ig:=B.size;go_wp2_with fail
 rw[rounds_succ];go_wp2_with fail
 refine(o1 _).mono ?_;rintro e w3 ⟨i7,rfl,gC,st⟩;have Bn:=bA w st;have kp:=kB w2 st;replace oa:ai w3 w.heap.size 160 #[Ey Ew k0,Ey Ew k1,Ey Ew k2,Ey Ew k3,Ey Ew A1,Ey Ew A2,Ey Ew B1,Ey Ew B2,Ey Ew N]:=ai.au st;replace or:ai w3 (w.heap.size+1) 83 ZT:=ai.au st;replace oq:ai w3 (w.heap.size+1+1) 83 #[Ey Ew k0,Ey Ew k1,Ey Ew k2,Ey Ew k3,Ez Y,Ex H J M,Ez T,Ex Z X I,Ez false,Ex none 0 0,Ez false,Ex none 0 0,Ez false,Ex none 0 0,Ez false,Ex none 0 0,Ez false,Ex none 0 0,Ez false,Ex none 0 0]:=ai.ae vM st;have gL:ai w3 w2.heap.size 28 #[Ez Y,Ex H J M,Ez T,Ex Z X I]:=ai.au st;clear gK g8 gn fe fd f8 gB gd fl la lr gH gI gJ gt gD gE g9 gF gG gz dz dl dy cy dk d9 cU cN dx cx fq lq;replace B:=Bn;replace bi:=E6 (bi.out.af kp);clear kp;clear st;obtain⟨gK,g8,gn,fe,fd,f8,gB,gd,fl⟩:=oa.r8;have la:=oa.lt;have lr:=or.lt;obtain⟨gH,gI,gJ,gt,gD,gE,g9,gF,gG,gz,dz,dl,dy,cy,dk,d9,cU,cN,dx,cx,fq,lq⟩:=oq.fo;obtain⟨b9,a9,aX,ah,bg,be,aY,bh,rfl⟩:=gC.ak;have dc:=E6 gC;clear gC;clear o1;have gX:w2.heap.size<w3.heap.size:=gL.lt;have it:=B.size;go_wp2_with fail
 rw[rounds_succ];go_wp2_with fail
 refine(o2 _).mono ?_;rintro e w4 ⟨i5,rfl,ft,st⟩;have Bn:=bA w st;have kp:=kB w3 st;have na:=oa.dm st;have nr:=or.dm st;replace oq:ai w4 (w.heap.size+1+1) 83 #[Ey Ew k0,Ey Ew k1,Ey Ew k2,Ey Ew k3,Ez Y,Ex H J M,Ez T,Ex Z X I,Ez b9,Ex a9 aX ah,Ez bg,Ex be aY bh,Ez false,Ex none 0 0,Ez false,Ex none 0 0,Ez false,Ex none 0 0,Ez false,Ex none 0 0]:=ai.ae vM st;have gN:=gL.dm st;have gO:ai w4 w3.heap.size 28 #[Ez b9,Ex a9 aX ah,Ez bg,Ex be aY bh]:=ai.au st;clear gK g8 gn fe fd f8 gB gd fl la lr gH gI gJ gt gD gE g9 gF gG gz dz dl dy cy dk d9 cU cN dx cx fq lq;replace B:=Bn;replace oa:=na;clear na;replace or:=nr;clear nr;replace gL:=gN;clear gN;replace bi:=E6 (bi.out.af kp);replace dc:=E6 (dc.out.af kp);clear kp;clear st;obtain⟨gK,g8,gn,fe,fd,f8,gB,gd,fl⟩:=oa.r8;have la:=oa.lt;have lr:=or.lt;obtain⟨gH,gI,gJ,gt,gD,gE,g9,gF,gG,gz,dz,dl,dy,cy,dk,d9,cU,cN,dx,cx,fq,lq⟩:=oq.fo;obtain⟨co,cn,br,cg,bt,ce,bl,ci,rfl⟩:=ft.ak;have f7:=E6 ft;clear ft;clear o2;have gZ:w3.heap.size<w4.heap.size:=gO.lt;have ir:=B.size;go_wp2_with fail
 rw[rounds_succ];go_wp2_with fail
 refine(o3 _).mono ?_;rintro e w5 ⟨h9,rfl,gA,st⟩;have Bn:=bA w st;have kp:=kB w4 st;have na:=oa.dm st;have nr:=or.dm st;replace oq:ai w5 (w.heap.size+1+1) 83 #[Ey Ew k0,Ey Ew k1,Ey Ew k2,Ey Ew k3,Ez Y,Ex H J M,Ez T,Ex Z X I,Ez b9,Ex a9 aX ah,Ez bg,Ex be aY bh,Ez co,Ex cn br cg,Ez bt,Ex ce bl ci,Ez false,Ex none 0 0,Ez false,Ex none 0 0]:=ai.ae vM st;have gN:=gL.dm st;have gW:=gO.dm st;have gV:ai w5 w4.heap.size 28 #[Ez co,Ex cn br cg,Ez bt,Ex ce bl ci]:=ai.au st;clear gK g8 gn fe fd f8 gB gd fl la lr gH gI gJ gt gD gE g9 gF gG gz dz dl dy cy dk d9 cU cN dx cx fq lq;replace B:=Bn;replace oa:=na;clear na;replace or:=nr;clear nr;replace gL:=gN;clear gN;replace gO:=gW;clear gW;replace bi:=E6 (bi.out.af kp);replace dc:=E6 (dc.out.af kp);replace f7:=E6 (f7.out.af kp);clear kp;clear st;have la:=oa.lt;have lr:=or.lt;obtain⟨gH,gI,gJ,gt,gD,gE,g9,gF,gG,gz,dz,dl,dy,cy,dk,d9,cU,cN,dx,cx,fq,lq⟩:=oq.fo;obtain⟨ed,em,dP,ey,er,ek,eM,eW,rfl⟩:=gA.ak;have gM:=E6 gA;clear gA;clear o3;have gY:w4.heap.size<w5.heap.size:=gV.lt;have im:=B.size;go_wp2_with fail
 rw[rounds_succ]
 go_wp2_with (first
  | (
    refine zO rfl 83 (.tmp 4) rfl (w.heap.size+1+1) rfl 83 #[Ey Ew k0,Ey Ew k1,Ey Ew k2,Ey Ew k3,Ez Y,Ex H J M,Ez T,Ex Z X I,Ez b9,Ex a9 aX ah,Ez bg,Ex be aY bh,Ez co,Ex cn br cg,Ez bt,Ex ce bl ci,Ez ed,Ex em dP ey,Ez er,Ex ek eM eW] _ vM Tryz.underlying83 rfl D6 ?_
    skip)
  | (
    refine zF rfl 83 (.tmp 2) (.tmp 34) rfl (w.heap.size+1) #[Ey Ew k0,Ey Ew k1,Ey Ew k2,Ey Ew k3,Ez Y,Ex H J M,Ez T,Ex Z X I,Ez b9,Ex a9 aX ah,Ez bg,Ex be aY bh,Ez co,Ex cn br cg,Ez bt,Ex ce bl ci,Ez ed,Ex em dP ey,Ez er,Ex ek eM eW] rfl rfl 83 #[Ey Ew 0,Ey Ew 0,Ey Ew 0,Ey Ew 0,Ez false,Ex none 0 0,Ez false,Ex none 0 0,Ez false,Ex none 0 0,Ez false,Ex none 0 0,Ez false,Ex none 0 0,Ez false,Ex none 0 0,Ez false,Ex none 0 0,Ez false,Ex none 0 0] zw D6 rfl (by simp[Value.oneCell']) (fun w6 E=> ?_);have Bn:Below w.heap.size w w6:=E.below zh D5;have kp:av w5 w6:=av.trans zj (E.af rfl);replace oa:ai w6 w.heap.size 160 #[Ey Ew k0,Ey Ew k1,Ey Ew k2,Ey Ew k3,Ey Ew A1,Ey Ew A2,Ey Ew B1,Ey Ew B2,Ey Ew N]:=E.bG zw (show w.heap.size≠w.heap.size+1 by omega);replace or:ai w6 (w.heap.size+1) 83 #[Ey Ew k0,Ey Ew k1,Ey Ew k2,Ey Ew k3,Ez Y,Ex H J M,Ez T,Ex Z X I,Ez b9,Ex a9 aX ah,Ez bg,Ex be aY bh,Ez co,Ex cn br cg,Ez bt,Ex ce bl ci,Ez ed,Ex em dP ey,Ez er,Ex ek eM eW]:=E.bz;replace oq:ai w6 (w.heap.size+1+1) 83 #[Ey Ew k0,Ey Ew k1,Ey Ew k2,Ey Ew k3,Ez Y,Ex H J M,Ez T,Ex Z X I,Ez b9,Ex a9 aX ah,Ez bg,Ex be aY bh,Ez co,Ex cn br cg,Ez bt,Ex ce bl ci,Ez ed,Ex em dP ey,Ez er,Ex ek eM eW]:=E.bG vM (show w.heap.size+1+1≠w.heap.size+1 by omega);replace gL:ai w6 w2.heap.size 28 #[Ez Y,Ex H J M,Ez T,Ex Z X I]:=E.bG zw (show w2.heap.size≠w.heap.size+1 by omega);replace gO:ai w6 w3.heap.size 28 #[Ez b9,Ex a9 aX ah,Ez bg,Ex be aY bh]:=E.bG zw (show w3.heap.size≠w.heap.size+1 by omega);replace gV:ai w6 w4.heap.size 28 #[Ez co,Ex cn br cg,Ez bt,Ex ce bl ci]:=E.bG zw (show w4.heap.size≠w.heap.size+1 by omega);have ij:ai w6 w5.heap.size 28 #[Ez ed,Ex em dP ey,Ez er,Ex ek eM eW]:=E.bG zw (show w5.heap.size≠w.heap.size+1 by omega);clear la lr gH gI gJ gt gD gE g9 gF gG gz dz dl dy cy dk d9 cU cN dx cx fq lq;replace B:=Bn;clear Bn E;replace bi:=E6 (bi.out.af kp);replace dc:=E6 (dc.out.af kp);replace f7:=E6 (f7.out.af kp);replace gM:=E6 (gM.out.af kp);clear kp
    skip)
  )
 skip
 refine bodyPost_ret (zV rfl _ _ (w.heap.size+1) rfl (cs:=#[Ey Ew k0,Ey Ew k1,Ey Ew k2,Ey Ew k3,Ez Y,Ex H J M,Ez T,Ex Z X I,Ez b9,Ex a9 aX ah,Ez bg,Ex be aY bh,Ez co,Ex cn br cg,Ez bt,Ex ce bl ci,Ez ed,Ex em dP ey,Ez er,Ex ek eM eW]) zw Tryz.underlying83 rfl D6) rfl ?_;exact⟨_,rfl,⟨_,_,_,_,_,_,_,_,_,_,_,_,_,_,_,_,rfl,bi.out.af zj,dc.out.af zj,f7.out.af zj,gM.out.af zj⟩,zh⟩
end
end Go.Proofs.YtffmbepfbienaaaGreat
/- A range Qo a function whose iterator has a variable of its own in memory, which it writes between Cp rounds. -/
namespace Go.Proofs.YtffmbepfbienaaaGreat
section
open Go.RowKit
structure Calm {α : Type} (G:Nat) (J:List α->Ee->Prop):Prop where
 al:∀{xs A} (o:Obj),(A.heap.size=G->∃cs t,o = .cells cs t/\zU cs=true)->J xs A->J xs (A.alloc o)
 dr:∀{xs A} (m:Nat),J xs A->J xs (A.drewN m)
 st:∀{xs A} (i:Nat) (x:Int),J xs A->J xs (A.setCell ⟨G,i,none⟩ (Ey Ew x))
def Vj {α : Type} (F:Fence) (m:Nat) (P:Program) (gf:Nat) (lb:Array Ef) (encs : α->Array Ef) (Kp:Ee->Ee->Prop) (S:List α->Prop) (El:List α->α->Prop) (G:Nat) (Pr:Ee->Prop):Prop:=
 ∀ (l:Nat) (J:List α->Ee->Prop) (A:Ee),Pr A->A.heap.size=G->Calm G J->
  (∀pre x B,J pre B->El pre x->G<B.heap.size->YieldAt F (m-1) P l (encs x) B fun e C=>e = Eh (Ez true)/\J (pre ++ [x]) C/\Kp B C)->
  J [] A->CallsIn F m P gf (#[.func (.yield l) #[] #[]]++lb) A fun e C=>(∃v,e = Eh v)/\∃xs,S xs/\J xs C
section
variable {α : Type} {P:Program} {F:Fence} {n:Nat}
theorem Kl {g:Operand} {ps:Array Tmp} {assign body:Code} {Q:Exit->Act->Ee->Prop} {a:Act} {w:Ee}
  (bt:F.round=none) (h1:1<=n) {gf:Nat} {lb:Array Ef} (hg:a.eval g = .func (.func gf) #[] lb) (cN:F.fn gf) (eg:∀args w,(callFunc gf args).run P w = .ok (.enter gf args) w)
  {encs : α->Array Ef} {Kp:Ee->Ee->Prop} {S:List α->Prop} {El:List α->α->Prop} {Pr:Ee->Prop} (bg:Vj F (n-1) P gf lb encs Kp S El (w.heap.size+2) Pr) (br:∀o o',Pr ((w.alloc o).alloc o')) (cU:∀x,(encs x).size=ps.size)
  (ah:∀{A B C:Ee},Kp A B->Kp B C->Kp A C) (aY:∀ (A:Ee) (o o':Obj),A.heap[w.heap.size+1]? = some o->o.isCells=false->Kp A (A.putObj (w.heap.size+1) o'))
  (I:List α->Ee->Prop) (hI:Calm (w.heap.size+2) I) (a9:∀xs A (o o':Obj),I xs A->A.heap[w.heap.size+1]? = some o->o.isCells=false->I xs (A.putObj (w.heap.size+1) o'))
  (h0:I [] w) (Ax : α->Act->Ee->Prop) (ci:∀x T A (o o':Obj),Ax x T A->A.heap[w.heap.size+1]? = some o->o.isCells=false->Ax x T (A.putObj (w.heap.size+1) o'))
  (M:∀ (pre:List α) (x : α) (A:Ee) (K:Act->Ee->Prop),I pre A->w.heap.size+2<A.heap.size->(∀T X,KeepsOthers A X->Kp A X->I pre X->Ax x T X->K T X)->
   assign.wpIn (F.inRound (w.heap.size+1)) (n-1-1) P (Exit.then K (fun _ _ _=>False)) { tmps:=(ps.zip (encs x)).foldl (fun t (p,v)=>t.setIfInBounds p v) a.tmps,defers:= [] } A)
  (Y:∀ (pre:List α) (x : α) (T:Act) (A:Ee),(∃r,A.heap[w.heap.size+1]? = some (.loop r))->I pre A->Ax x T A->El pre x->w.heap.size+2<A.heap.size->
   body.wpIn (F.inRound (w.heap.size+1)) (n-1-1) P (ownPostG w.heap.size Kp I (fun _ _ _=>False) (pre ++ [x]) A) T A)
  (Z:∀ (D:Nat) (xs:List α) (A:Ee),w.heap.size<=D->S xs->I xs A->A.heap[D]? = some (.deferred (some []))->Q .normal { a with defers:={ target:= .collected D,args:=#[] } :: a.defers } A) :
  (Code.rangeFunc g ps assign body).wpIn F n P Q a w:=by
 refine wpIn_rangeFunc fun fn cn=> ?_;rw[bt]
 -- the loop's record in its states
 obtain⟨H,E⟩:∃H:LoopState->Option Code->Loop,∀s p,H s p = { state:=s,pending:=p,fn:=fn,tmps:=a.tmps,params:=ps,assign:=assign,body:=body,defers:=w.heap.size }:=⟨_,fun _ _=>rfl⟩
 let D:=w.heap.size
 let L:=w.heap.size+1
 have hL:L=w.heap.size+1:=rfl
 let Ok:Ee->Prop:=fun A=>A.heap[L]? = some (.loop (H .ready none))/\A.heap[D]? = some (.deferred (some []))
 let W:=(w.alloc (.deferred (some []))).alloc (.loop (H .ready none))
 have d9:W.heap.size=w.heap.size+2:=by simp[W]
 have ce:Ok W:=by
  constructor
  .
   have:=World.alloc_heap_new (w.alloc (.deferred (some []))) (.loop (H .ready none))
   rwa[World.size_alloc]at this
  . exact(Below.heap_alloc _ _ _ (by simp[D])).trans (World.alloc_heap_new w _)
 have N:∀{A B:Ee},KeepsOthers A B->Ok A->Ok B:=fun k h=>⟨k.same _ _ h.1 rfl,k.same _ _ h.2 rfl⟩
 have be:Calm (w.heap.size+2) (fun pre A=>I pre A/\Ok A):=
  ⟨fun o ho h=>⟨hI.al o ho h.1,N (KeepsOthers.alloc _ o) h.2⟩,fun m h=>⟨hI.dr m h.1,h.2⟩,fun i v h=>⟨hI.st i v h.1,N (KeepsOthers.setCell _ _ _) h.2⟩⟩
 refine⟨L,[{ target:= .collected D,args:=#[] }],W,{ target:= .fn (.func gf) lb,args:=#[.func (.yield L) #[] #[]] },W,gf,#[.func (.yield L) #[] #[]]++lb,W,?_,?_,?_,?_,fun _=>h1,?_⟩
 .
  show _=Result.ok _ ((w.alloc _).alloc (.loop (H .ready none)))
  rw[E]; exact run_enterLoop_outer _ _ _ _ _
 . simp only[resolve,hg]; simp[go_sem]
 . intro f' aX; simp[Target.leads]at aX; subst aX; exact cN
 . simp[invoke,go_sem,eg]
 refine(bg L (fun pre A=>I pre A/\Ok A) W (br _ _) d9 be ?_ ⟨hI.al _ (fun h=>by rw[World.size_alloc]at h; omega) (hI.al _ (fun h=>by omega) h0),ce⟩).mono ?_
 .
  rintro pre x B ⟨hi,hb⟩ b9 bh;have hy:=run_yield (P:=P) (args:=encs x) hb.1 (by rw[E]; exact cU x);rw[E]at hy;refine⟨fn,_,assign,body,hy,roundIn_of_wpIn cn (M pre x B _ hi bh fun T X ko kp co cg=> ?_)⟩;have J:=N ko hb;have bi:L<X.heap.size:=(Array.getElem?_eq_some_iff.1 J.1).1;refine⟨_,run_beginRound J.1 (by rw[E]),?_⟩;generalize hbusy : { H .ready none with state:=LoopState.busy } = busy;have e2:(X.putObj L (.loop busy)).heap[L]? = some (.loop busy):=World.putObj_heap_same bi;have e3:(X.putObj L (.loop busy)).heap[D]? = some (.deferred (some [])):=(World.putObj_heap_other (show D≠L by omega)).trans J.2;refine wpIn_mono (Y pre x T _ ⟨_,e2⟩ (a9 _ _ _ _ co J.1 rfl) (ci _ _ _ _ _ cg J.1 rfl) b9 (by have h3:=ko.size; have h4:=(grownBy_putObj' X L (.loop busy)).size; omega)) ?_;rintro e a3 C hp
  cases e with
  | normal=>
   obtain⟨k3,bl,i3⟩:=hp;have e4:C.heap[L]? = some (.loop busy):=k3.same _ _ (show w.heap.size<=L by omega) e2 rfl;have e5:C.heap[D]? = some (.deferred (some [])):=k3.same _ _ (Eo _) e3 rfl;have cx:L<C.heap.size:=(Array.getElem?_eq_some_iff.1 e4).1;have hr:=run_endRound (P:=P) none e4;have cy : { busy with state:=if(none:Option Code).isNone then LoopState.ready else .done,pending:=none } = H .ready none:=by rw[<- hbusy,E]; rfl
   rw[cy]at hr;exact⟨_,_,hr,rfl,⟨a9 _ _ _ _ i3 e4 rfl,World.putObj_heap_same cx,(World.putObj_heap_other (show D≠L by omega)).trans e5⟩,ah kp (ah (ah (aY _ _ _ J.1 rfl) bl) (aY _ _ _ e4 rfl))⟩
  | ret=>exact hp.2.elim
  | exit id=>exact hp.2.elim
  | goto t=>exact hp.2.elim
  | panic ch=>exact hp.elim
  | outgrown=>exact hp.elim
 .
  rintro e C ⟨⟨v,rfl⟩,xs,hS,hi,hc⟩;have hr:=run_endLoop (P:=P) hc.1 (by rw[E]; simp);rw[show (H LoopState.ready none).pending=none by rw[E]]at hr;exact⟨none,_,hr,Z D xs _ (Eo _) hS (a9 _ _ _ _ hi hc.1 rfl) ((World.putObj_heap_other (show D≠L by omega)).trans hc.2)⟩
end
end
section
open Go.RowKit Go.Shelf
attribute [local go_sem] Oper.semAt_some
def Km (x:P4):Ef:= Ej #[Ey Ew (x.1:Nat),Ey Ew (x.2.1:Nat),Ey Ew (x.2.2.1:Nat),Ey Ew (x.2.2.2:Nat)]
def Kn (x:P4):Array Ef:=#[Km x]
def KF (Bs G:Nat) (A B:Ee):Prop:=B.heap[Bs]? = A.heap[Bs]?/\B.heap[G]? = A.heap[G]?
def rk (w:Ee) (g:Nat):Nat:=
 512*(intOf ((w.cell? ⟨g,0,none⟩).getD Em)).toNat+64*(intOf ((w.cell? ⟨g,1,none⟩).getD Em)).toNat+8*(intOf ((w.cell? ⟨g,2,none⟩).getD Em)).toNat+(intOf ((w.cell? ⟨g,3,none⟩).getD Em)).toNat
theorem Jq {w:Ee} {g:Nat} {t:Ei} {a b c d:Int} (h:ai w g t #[Ey Ew a,Ey Ew b,Ey Ew c,Ey Ew d]):rk w g=512*a.toNat+64*b.toNat+8*c.toNat+d.toNat:=by
 unfold rk;have J:w.cell? ⟨g,0,none⟩=_:=h.c 0 rfl;have I:w.cell? ⟨g,1,none⟩=_:=h.c 1 rfl;have E:w.cell? ⟨g,2,none⟩=_:=h.c 2 rfl;have H:w.cell? ⟨g,3,none⟩=_:=h.c 3 rfl;rw[J,I,E,H]; rfl
theorem Wh (F:Fence) (n:Nat) (H:F.fn 106) (E:F.round=none) (x:Int) (w:Ee) :
  CallsIn F n Ec 106 #[Ey Ew x] w fun e w'=>e = Eh (.func (.func 141) #[] #[Ek (some ⟨w.heap.size,0,none⟩)])/\w'=w.alloc (.cells #[Ey Ew x] 3):=by
 refine callsIn_of_wp Tryz.func106 rfl H ?_ E;simp only[Tryz.ntmps106,List.size_toArray,List.length_cons,List.length_nil,Nat.reduceAdd,Nat.reduceSub,Array.replicate_succ,Array.replicate_zero,List.push_toArray,List.append_toArray,List.nil_append,List.cons_append]
 gi_wp2
 go_ret
 exact⟨rfl,rfl⟩
theorem Jr (m Bs G n:Nat) (hn:n<=7) (d9:Bs<G) :
  Vj Fence.wide m Ec 141 #[Ek (some ⟨Bs,0,none⟩)] Kn (KF Bs G) (fun xs=>xs=yy n) (fun pre x=>Zp n x=true/\pre.length<36/\pre=(yy n).take pre.length) G (fun A=>ai A Bs 3 #[Ey Ew (n:Nat)]):=by
 intro l J W0 ce hG hC hY h0;obtain⟨N,hN⟩:∃N:Int,(n:Int)=N:=⟨_,rfl⟩;rw[hN]at ce;obtain⟨dc,bt,cU⟩:=KZ n hn;have HI:=E6 bt;clear bt;have co:Fence.wide.round=none:=rfl;have a9:wrap64 (N-4)=N-4:=by unfold wrap64; omega
 obtain⟨n4,cx⟩:∃x,N-4=x:=⟨_,rfl⟩;rw[cx]at a9;have aY:wrap64 (n4+3)=n4+3:=by unfold wrap64; omega
 have br:wrap64 (n4+2)=n4+2:=by unfold wrap64; omega
 have cg:wrap64 (n4+1)=n4+1:=by unfold wrap64; omega
 refine callsIn_of_wp Tryz.func141 rfl trivial ?_ co;simp only[Tryz.ntmps141,List.size_toArray,List.length_cons,List.length_nil,Nat.reduceAdd,Nat.reduceSub,Array.replicate_succ,Array.replicate_zero,List.push_toArray,List.append_toArray,List.nil_append,List.cons_append]
 gi_wp2
 gi_loopw [4] (fun _ wr=>∃i:Nat,i<=(yy n).length/\J ((yy n).take i) wr/\ai wr G 80 #[Ey Ew ((X6 n i).1:Nat),Ey Ew ((X6 n i).2.1:Nat),Ey Ew ((X6 n i).2.2.1:Nat),Ey Ew ((X6 n i).2.2.2:Nat)]/\ai wr Bs 3 #[Ey Ew N])
  (fun _ wr=>10000-rk wr G)
 case atStart=>
  refine⟨0,Nat.zero_le _,?_,?_,?_⟩
  .
   rw[List.take_zero];exact hC.al _ (fun _=>⟨_,_,rfl,rfl⟩) h0
  . subst hG; exact(show ai _ _ _ #[Ey Ew 0,Ey Ew 1,Ey Ew 2,Ey Ew 3] from zw)
  . exact zw
 case round=>
  obtain⟨i,hi,hJ,T,Y⟩:=hrel;have cN:Er wr ⟨Bs,0,none⟩=_:=Y.c 0 rfl;have c3:Er wr ⟨G,3,none⟩=_:=T.c 3 rfl
  rcases Nat.lt_or_ge i (yy n).length with be | be
  .
   have g4:=ZJ (HI.out i be).2;have bh:=(HI.out i be).1;have HT:Hid ((yy n).take (i+1)=(yy n).take i ++ [X6 n i]):=E6 (by rw[List.take_add_one,bh]; rfl);have HX:Hid (X6 n (i+1)=J7 n (X6 n i)):=E6 rfl;have bg:((yy n).take i).length<36:=by rw[List.length_take]; omega
   obtain⟨fn,tmps,assign,body,hy,hR⟩:=hY _ (X6 n i) wr hJ ⟨(HI.out i be).2,bg,by rw[List.length_take,Nat.min_eq_left hi]⟩ T.lt;unfold Kn Km at hy;have ci:decide (((X6 n i).2.2.2:Int)<N)=true:=E_ D5;have c0:Er wr ⟨G,0,none⟩=_:=T.c 0 rfl;have c1:Er wr ⟨G,1,none⟩=_:=T.c 1 rfl;have c2:Er wr ⟨G,2,none⟩=_:=T.c 2 rfl;obtain⟨a,ha⟩:∃a,(X6 n i).1=a:=⟨_,rfl⟩;obtain⟨b,hb⟩:∃a,(X6 n i).2.1=a:=⟨_,rfl⟩;obtain⟨c,hc⟩:∃a,(X6 n i).2.2.1=a:=⟨_,rfl⟩;obtain⟨d,hd⟩:∃a,(X6 n i).2.2.2=a:=⟨_,rfl⟩;rw[ha,hb,hc,hd]at hy T g4;rw[ha]at c0;rw[hb]at c1;rw[hc]at c2;rw[hd]at c3 ci;have b9:Hid (X6 n (i+1)=J7 n (a,b,c,d)):=E6 (by rw[HX.out,<- ha,<- hb,<- hc,<- hd]);clear ha hb hc hd bh HX bg
   gi_wp2
   refine⟨fun h=>(by cases h),hR.mono ?_⟩;rintro e w0 ⟨rfl,bi,kp⟩;have R0:Hid (rk wr G=512*a+64*b+8*c+d):=E6 (Jq T);have T:=(show ai w0 G _ _ from kp.2.trans T);have Y:=(show ai w0 Bs _ _ from kp.1.trans Y);rw[<- HT.out]at bi;have HJ:=bi;clear hJ bi hR hy kp c0 c1 c2 c3 cN;obtain⟨A,hA⟩:∃x:Int,(a:Int)=x:=⟨_,rfl⟩;obtain⟨B,hB⟩:∃x:Int,(b:Int)=x:=⟨_,rfl⟩;obtain⟨C,cn⟩:∃x:Int,(c:Int)=x:=⟨_,rfl⟩;obtain⟨D,hD⟩:∃x:Int,(d:Int)=x:=⟨_,rfl⟩;rw[hA,hB,cn,hD]at T;have hJ:=HJ;clear HJ
   by_cases g3:d+1<n
   .
    have t3:(D==n4+3)=false:=by simpa using (show D≠n4+3 by omega)
    obtain⟨P0,ah⟩:∃x,D+1=x:=⟨_,rfl⟩;have s0:wrap64 (D+1)=P0:=by rw[ah]; unfold wrap64; omega
    gi_wp2_with fail
    refine wpIn_loop_rounds 5 ?_;rw[roundsIn_succ]
    gi_upto_region 4 with fail
    refine wpIn_wide.2 ?_
    refine aj.aI (fun D v W=>∃m,W=w0.drewN m) (aj.inl []) (aj.gv []) aj.aR (fun _=>aj.Any) (fun _ _=>False) (aj.pl []) (aj.pl [])
     D6 D6 D6 (aj.dI _) (fun _=>⟨1,rfl⟩) (fun _ _ _ _ _ h=>h) (fun _ _ _ _ _ _ _ _ _ _ _ _ _=>aj.none_) (fun _ _ _ _ h=>h.elim) (fun X Q' E Z=> ?_)
    repeat refine aj.aD _ ?_
    refine aj.bM E 18 ?_;refine aj.bM E 19 ?_;apply aj.RP rfl rfl (by rw[E]; rfl) 20 rfl rfl
    .
     intro D v W hc I M K' H;obtain⟨m,rfl⟩:=I;have c0:Er _ ⟨G,3,none⟩=_:=(T.drewN m).c 3 rfl;go_step;exact H.out
    . rfl
    apply aj.RP rfl rfl (by rw[E]; rfl) 21 rfl rfl
    .
     intro D v W hc I M K' H;obtain⟨m,rfl⟩:=I;have c0:Er _ ⟨Bs,0,none⟩=_:=(Y.drewN m).c 0 rfl;go_step;exact H.out
    . rfl
    apply aj.RP rfl rfl (by rw[E]; rfl) 22 rfl rfl
    .
     intro D v W hc I M K' H;go_step
     try rw[a9]
     exact H.out
    . rfl
    refine aj.bM E 23 ?_;apply aj.RP rfl rfl (by rw[E]; rfl) 24 rfl rfl
    .
     intro D v W hc I M K' H;go_step
     try rw[aY]
     exact H.out
    . rfl
    apply aj.RP rfl rfl (by rw[E]; rfl) 25 rfl rfl
    .
     intro D v W hc I M K' H;go_step
     try rw[t3]
     exact H.out
    . rfl
    refine aj.aD 26 ?_;refine aj.aF (fun D v w9 hd I M=> ?_);obtain⟨m,rfl⟩:=I;clear hd M;refine Z _ _ ?_;clear Z E Q' X;have T:=T.drewN m;have Y:=Y.drewN m;have hJ:=hC.dr m hJ;generalize hw_:w0.drewN m=w1 at *;clear hw_;have c0:Er w1 ⟨G,0,none⟩=_:=T.c 0 rfl;have c1:Er w1 ⟨G,1,none⟩=_:=T.c 1 rfl;have c2:Er w1 ⟨G,2,none⟩=_:=T.c 2 rfl;have c3:Er w1 ⟨G,3,none⟩=_:=T.c 3 rfl;have fG:=T.fr;have lG:=T.lt
    gi_wp2_with fail
    refine wpIn_loop_rounds 5 ?_;rw[roundsIn_succ]
    gi_wp2
    go_roundw
    case rel=>
     refine⟨i+1,by omega,(hC.st _ _ hJ),?_,zw⟩;rw[b9.out];unfold J7;dsimp only;rw[E8 g3];dsimp only;rw[show ((a:Nat):Int)=A by omega];rw[show ((b:Nat):Int)=B by omega];rw[show ((c:Nat):Int)=C by omega];rw[show ((d+1:Nat):Int)=P0 by omega];exact vM
    case measure=>
     have R1:rk (w1.setCell ⟨G,3,none⟩ (Ey Ew P0)) G=_:=Jq (t:=80) (a:=A) (b:=B) (c:=C) (d:=P0) vM;have R2:=R0.out;omega
   by_cases g2:c+2<n
   .
    have t3:(D==n4+3)=true:=by simpa using (show D=n4+3 by omega)
    have t2:(C==n4+2)=false:=by simpa using (show C≠n4+2 by omega)
    obtain⟨P0,ah⟩:∃x,C+1=x:=⟨_,rfl⟩;have s0:wrap64 (C+1)=P0:=by rw[ah]; unfold wrap64; omega
    obtain⟨P1,aX⟩:∃x,P0+1=x:=⟨_,rfl⟩;have s1:wrap64 (P0+1)=P1:=by rw[aX]; unfold wrap64; omega
    gi_wp2_with fail
    refine wpIn_loop_rounds 5 ?_;rw[roundsIn_succ]
    gi_upto_region 4 with fail
    refine wpIn_wide.2 ?_
    refine aj.aI (fun D v W=>∃m,W=w0.drewN m) (aj.inl []) (aj.gv []) aj.aR (fun _=>aj.Any) (fun _ _=>False) (aj.pl []) (aj.pl [])
     D6 D6 D6 (aj.dI _) (fun _=>⟨1,rfl⟩) (fun _ _ _ _ _ h=>h) (fun _ _ _ _ _ _ _ _ _ _ _ _ _=>aj.none_) (fun _ _ _ _ h=>h.elim) (fun X Q' E Z=> ?_)
    repeat refine aj.aD _ ?_
    refine aj.bM E 18 ?_;refine aj.bM E 19 ?_;apply aj.RP rfl rfl (by rw[E]; rfl) 20 rfl rfl
    .
     intro D v W hc I M K' H;obtain⟨m,rfl⟩:=I;have c0:Er _ ⟨G,3,none⟩=_:=(T.drewN m).c 3 rfl;go_step;exact H.out
    . rfl
    apply aj.RP rfl rfl (by rw[E]; rfl) 21 rfl rfl
    .
     intro D v W hc I M K' H;obtain⟨m,rfl⟩:=I;have c0:Er _ ⟨Bs,0,none⟩=_:=(Y.drewN m).c 0 rfl;go_step;exact H.out
    . rfl
    apply aj.RP rfl rfl (by rw[E]; rfl) 22 rfl rfl
    .
     intro D v W hc I M K' H;go_step
     try rw[a9]
     exact H.out
    . rfl
    refine aj.bM E 23 ?_;apply aj.RP rfl rfl (by rw[E]; rfl) 24 rfl rfl
    .
     intro D v W hc I M K' H;go_step
     try rw[aY]
     exact H.out
    . rfl
    apply aj.RP rfl rfl (by rw[E]; rfl) 25 rfl rfl
    .
     intro D v W hc I M K' H;go_step
     try rw[t3]
     exact H.out
    . rfl
    refine aj.aD 26 ?_;refine aj.aF (fun D v w9 hd I M=> ?_);obtain⟨m,rfl⟩:=I;clear hd M;refine Z _ _ ?_;clear Z E Q' X;have T:=T.drewN m;have Y:=Y.drewN m;have hJ:=hC.dr m hJ;generalize hw_:w0.drewN m=w1 at *;clear hw_
    gi_wp2_with fail
    rw[roundsIn_succ]
    gi_upto_region 4 with fail
    refine wpIn_wide.2 ?_
    refine aj.aI (fun D v W=>∃m,W=w1.drewN m) (aj.inl []) (aj.gv []) aj.aR (fun _=>aj.Any) (fun _ _=>False) (aj.pl []) (aj.pl [])
     D6 D6 D6 (aj.dI _) (fun _=>⟨1,rfl⟩) (fun _ _ _ _ _ h=>h) (fun _ _ _ _ _ _ _ _ _ _ _ _ _=>aj.none_) (fun _ _ _ _ h=>h.elim) (fun X Q' E Z=> ?_)
    repeat refine aj.aD _ ?_
    refine aj.bM E 18 ?_;refine aj.bM E 19 ?_;apply aj.RP rfl rfl (by rw[E]; rfl) 20 rfl rfl
    .
     intro D v W hc I M K' H;obtain⟨m,rfl⟩:=I;have c0:Er _ ⟨G,2,none⟩=_:=(T.drewN m).c 2 rfl;go_step;exact H.out
    . rfl
    apply aj.RP rfl rfl (by rw[E]; rfl) 21 rfl rfl
    .
     intro D v W hc I M K' H;obtain⟨m,rfl⟩:=I;have c0:Er _ ⟨Bs,0,none⟩=_:=(Y.drewN m).c 0 rfl;go_step;exact H.out
    . rfl
    apply aj.RP rfl rfl (by rw[E]; rfl) 22 rfl rfl
    .
     intro D v W hc I M K' H;go_step
     try rw[a9]
     exact H.out
    . rfl
    refine aj.bM E 23 ?_;apply aj.RP rfl rfl (by rw[E]; rfl) 24 rfl rfl
    .
     intro D v W hc I M K' H;go_step
     try rw[br]
     exact H.out
    . rfl
    apply aj.RP rfl rfl (by rw[E]; rfl) 25 rfl rfl
    .
     intro D v W hc I M K' H;go_step
     try rw[t2]
     exact H.out
    . rfl
    refine aj.aD 26 ?_;refine aj.aF (fun D v w9 hd I M=> ?_);obtain⟨m,rfl⟩:=I;clear hd M;refine Z _ _ ?_;clear Z E Q' X;have T:=T.drewN m;have Y:=Y.drewN m;have hJ:=hC.dr m hJ;generalize hw_:w1.drewN m=w2 at *;clear hw_;have c0:Er w2 ⟨G,0,none⟩=_:=T.c 0 rfl;have c1:Er w2 ⟨G,1,none⟩=_:=T.c 1 rfl;have c2:Er w2 ⟨G,2,none⟩=_:=T.c 2 rfl;have c3:Er w2 ⟨G,3,none⟩=_:=T.c 3 rfl;have fG:=T.fr;have lG:=T.lt
    gi_wp2_with fail
    refine wpIn_loop_rounds 5 ?_;rw[roundsIn_succ]
    gi_wp2_with fail
    rw[roundsIn_succ]
    gi_wp2
    go_roundw
    case rel=>
     refine⟨i+1,by omega,(hC.st _ _ (hC.st _ _ hJ)),?_,zw⟩;rw[b9.out];unfold J7;dsimp only;rw[E9 g3,E8 g2];dsimp only;rw[show ((a:Nat):Int)=A by omega];rw[show ((b:Nat):Int)=B by omega];rw[show ((c+1:Nat):Int)=P0 by omega];rw[show ((c+2:Nat):Int)=P1 by omega];exact vM
    case measure=>
     have R1:rk ((w2.setCell ⟨G,2,none⟩ (Ey Ew P0)).setCell ⟨G,3,none⟩ (Ey Ew P1)) G=_:=Jq (t:=80) (a:=A) (b:=B) (c:=P0) (d:=P1) vM;have R2:=R0.out;omega
   by_cases g1:b+3<n
   .
    have t3:(D==n4+3)=true:=by simpa using (show D=n4+3 by omega)
    have t2:(C==n4+2)=true:=by simpa using (show C=n4+2 by omega)
    have t1:(B==n4+1)=false:=by simpa using (show B≠n4+1 by omega)
    obtain⟨P0,ah⟩:∃x,B+1=x:=⟨_,rfl⟩;have s0:wrap64 (B+1)=P0:=by rw[ah]; unfold wrap64; omega
    obtain⟨P1,aX⟩:∃x,P0+1=x:=⟨_,rfl⟩;have s1:wrap64 (P0+1)=P1:=by rw[aX]; unfold wrap64; omega
    obtain⟨P2,bl⟩:∃x,P1+1=x:=⟨_,rfl⟩;have s2:wrap64 (P1+1)=P2:=by rw[bl]; unfold wrap64; omega
    gi_wp2_with fail
    refine wpIn_loop_rounds 5 ?_;rw[roundsIn_succ]
    gi_upto_region 4 with fail
    refine wpIn_wide.2 ?_
    refine aj.aI (fun D v W=>∃m,W=w0.drewN m) (aj.inl []) (aj.gv []) aj.aR (fun _=>aj.Any) (fun _ _=>False) (aj.pl []) (aj.pl [])
     D6 D6 D6 (aj.dI _) (fun _=>⟨1,rfl⟩) (fun _ _ _ _ _ h=>h) (fun _ _ _ _ _ _ _ _ _ _ _ _ _=>aj.none_) (fun _ _ _ _ h=>h.elim) (fun X Q' E Z=> ?_)
    repeat refine aj.aD _ ?_
    refine aj.bM E 18 ?_;refine aj.bM E 19 ?_;apply aj.RP rfl rfl (by rw[E]; rfl) 20 rfl rfl
    .
     intro D v W hc I M K' H;obtain⟨m,rfl⟩:=I;have c0:Er _ ⟨G,3,none⟩=_:=(T.drewN m).c 3 rfl;go_step;exact H.out
    . rfl
    apply aj.RP rfl rfl (by rw[E]; rfl) 21 rfl rfl
    .
     intro D v W hc I M K' H;obtain⟨m,rfl⟩:=I;have c0:Er _ ⟨Bs,0,none⟩=_:=(Y.drewN m).c 0 rfl;go_step;exact H.out
    . rfl
    apply aj.RP rfl rfl (by rw[E]; rfl) 22 rfl rfl
    .
     intro D v W hc I M K' H;go_step
     try rw[a9]
     exact H.out
    . rfl
    refine aj.bM E 23 ?_;apply aj.RP rfl rfl (by rw[E]; rfl) 24 rfl rfl
    .
     intro D v W hc I M K' H;go_step
     try rw[aY]
     exact H.out
    . rfl
    apply aj.RP rfl rfl (by rw[E]; rfl) 25 rfl rfl
    .
     intro D v W hc I M K' H;go_step
     try rw[t3]
     exact H.out
    . rfl
    refine aj.aD 26 ?_;refine aj.aF (fun D v w9 hd I M=> ?_);obtain⟨m,rfl⟩:=I;clear hd M;refine Z _ _ ?_;clear Z E Q' X;have T:=T.drewN m;have Y:=Y.drewN m;have hJ:=hC.dr m hJ;generalize hw_:w0.drewN m=w1 at *;clear hw_
    gi_wp2_with fail
    rw[roundsIn_succ]
    gi_upto_region 4 with fail
    refine wpIn_wide.2 ?_
    refine aj.aI (fun D v W=>∃m,W=w1.drewN m) (aj.inl []) (aj.gv []) aj.aR (fun _=>aj.Any) (fun _ _=>False) (aj.pl []) (aj.pl [])
     D6 D6 D6 (aj.dI _) (fun _=>⟨1,rfl⟩) (fun _ _ _ _ _ h=>h) (fun _ _ _ _ _ _ _ _ _ _ _ _ _=>aj.none_) (fun _ _ _ _ h=>h.elim) (fun X Q' E Z=> ?_)
    repeat refine aj.aD _ ?_
    refine aj.bM E 18 ?_;refine aj.bM E 19 ?_;apply aj.RP rfl rfl (by rw[E]; rfl) 20 rfl rfl
    .
     intro D v W hc I M K' H;obtain⟨m,rfl⟩:=I;have c0:Er _ ⟨G,2,none⟩=_:=(T.drewN m).c 2 rfl;go_step;exact H.out
    . rfl
    apply aj.RP rfl rfl (by rw[E]; rfl) 21 rfl rfl
    .
     intro D v W hc I M K' H;obtain⟨m,rfl⟩:=I;have c0:Er _ ⟨Bs,0,none⟩=_:=(Y.drewN m).c 0 rfl;go_step;exact H.out
    . rfl
    apply aj.RP rfl rfl (by rw[E]; rfl) 22 rfl rfl
    .
     intro D v W hc I M K' H;go_step
     try rw[a9]
     exact H.out
    . rfl
    refine aj.bM E 23 ?_;apply aj.RP rfl rfl (by rw[E]; rfl) 24 rfl rfl
    .
     intro D v W hc I M K' H;go_step
     try rw[br]
     exact H.out
    . rfl
    apply aj.RP rfl rfl (by rw[E]; rfl) 25 rfl rfl
    .
     intro D v W hc I M K' H;go_step
     try rw[t2]
     exact H.out
    . rfl
    refine aj.aD 26 ?_;refine aj.aF (fun D v w9 hd I M=> ?_);obtain⟨m,rfl⟩:=I;clear hd M;refine Z _ _ ?_;clear Z E Q' X;have T:=T.drewN m;have Y:=Y.drewN m;have hJ:=hC.dr m hJ;generalize hw_:w1.drewN m=w2 at *;clear hw_
    gi_wp2_with fail
    rw[roundsIn_succ]
    gi_upto_region 4 with fail
    refine wpIn_wide.2 ?_
    refine aj.aI (fun D v W=>∃m,W=w2.drewN m) (aj.inl []) (aj.gv []) aj.aR (fun _=>aj.Any) (fun _ _=>False) (aj.pl []) (aj.pl [])
     D6 D6 D6 (aj.dI _) (fun _=>⟨1,rfl⟩) (fun _ _ _ _ _ h=>h) (fun _ _ _ _ _ _ _ _ _ _ _ _ _=>aj.none_) (fun _ _ _ _ h=>h.elim) (fun X Q' E Z=> ?_)
    repeat refine aj.aD _ ?_
    refine aj.bM E 18 ?_;refine aj.bM E 19 ?_;apply aj.RP rfl rfl (by rw[E]; rfl) 20 rfl rfl
    .
     intro D v W hc I M K' H;obtain⟨m,rfl⟩:=I;have c0:Er _ ⟨G,1,none⟩=_:=(T.drewN m).c 1 rfl;go_step;exact H.out
    . rfl
    apply aj.RP rfl rfl (by rw[E]; rfl) 21 rfl rfl
    .
     intro D v W hc I M K' H;obtain⟨m,rfl⟩:=I;have c0:Er _ ⟨Bs,0,none⟩=_:=(Y.drewN m).c 0 rfl;go_step;exact H.out
    . rfl
    apply aj.RP rfl rfl (by rw[E]; rfl) 22 rfl rfl
    .
     intro D v W hc I M K' H;go_step
     try rw[a9]
     exact H.out
    . rfl
    refine aj.bM E 23 ?_;apply aj.RP rfl rfl (by rw[E]; rfl) 24 rfl rfl
    .
     intro D v W hc I M K' H;go_step
     try rw[cg]
     exact H.out
    . rfl
    apply aj.RP rfl rfl (by rw[E]; rfl) 25 rfl rfl
    .
     intro D v W hc I M K' H;go_step
     try rw[t1]
     exact H.out
    . rfl
    refine aj.aD 26 ?_;refine aj.aF (fun D v w9 hd I M=> ?_);obtain⟨m,rfl⟩:=I;clear hd M;refine Z _ _ ?_;clear Z E Q' X;have T:=T.drewN m;have Y:=Y.drewN m;have hJ:=hC.dr m hJ;generalize hw_:w2.drewN m=w3 at *;clear hw_;have c0:Er w3 ⟨G,0,none⟩=_:=T.c 0 rfl;have c1:Er w3 ⟨G,1,none⟩=_:=T.c 1 rfl;have c2:Er w3 ⟨G,2,none⟩=_:=T.c 2 rfl;have c3:Er w3 ⟨G,3,none⟩=_:=T.c 3 rfl;have fG:=T.fr;have lG:=T.lt
    gi_wp2_with fail
    refine wpIn_loop_rounds 5 ?_;rw[roundsIn_succ]
    gi_wp2_with fail
    rw[roundsIn_succ]
    gi_wp2_with fail
    rw[roundsIn_succ]
    gi_wp2
    go_roundw
    case rel=>
     refine⟨i+1,by omega,(hC.st _ _ (hC.st _ _ (hC.st _ _ hJ))),?_,zw⟩;rw[b9.out];unfold J7;dsimp only;rw[E9 g3,E9 g2,E8 g1];dsimp only;rw[show ((a:Nat):Int)=A by omega];rw[show ((b+1:Nat):Int)=P0 by omega];rw[show ((b+2:Nat):Int)=P1 by omega];rw[show ((b+3:Nat):Int)=P2 by omega];exact vM
    case measure=>
     have R1:rk (((w3.setCell ⟨G,1,none⟩ (Ey Ew P0)).setCell ⟨G,2,none⟩ (Ey Ew P1)).setCell ⟨G,3,none⟩ (Ey Ew P2)) G=_:=Jq (t:=80) (a:=A) (b:=P0) (c:=P1) (d:=P2) vM;have R2:=R0.out;omega
   have t3:(D==n4+3)=true:=by simpa using (show D=n4+3 by omega)
   have t2:(C==n4+2)=true:=by simpa using (show C=n4+2 by omega)
   have t1:(B==n4+1)=true:=by simpa using (show B=n4+1 by omega)
   obtain⟨P0,ah⟩:∃x,A+1=x:=⟨_,rfl⟩;have s0:wrap64 (A+1)=P0:=by rw[ah]; unfold wrap64; omega
   obtain⟨P1,aX⟩:∃x,P0+1=x:=⟨_,rfl⟩;have s1:wrap64 (P0+1)=P1:=by rw[aX]; unfold wrap64; omega
   obtain⟨P2,bl⟩:∃x,P1+1=x:=⟨_,rfl⟩;have s2:wrap64 (P1+1)=P2:=by rw[bl]; unfold wrap64; omega
   obtain⟨P3,cy⟩:∃x,P2+1=x:=⟨_,rfl⟩;have s3:wrap64 (P2+1)=P3:=by rw[cy]; unfold wrap64; omega
   gi_wp2_with fail
   refine wpIn_loop_rounds 5 ?_;rw[roundsIn_succ]
   gi_upto_region 4 with fail
   refine wpIn_wide.2 ?_
   refine aj.aI (fun D v W=>∃m,W=w0.drewN m) (aj.inl []) (aj.gv []) aj.aR (fun _=>aj.Any) (fun _ _=>False) (aj.pl []) (aj.pl [])
    D6 D6 D6 (aj.dI _) (fun _=>⟨1,rfl⟩) (fun _ _ _ _ _ h=>h) (fun _ _ _ _ _ _ _ _ _ _ _ _ _=>aj.none_) (fun _ _ _ _ h=>h.elim) (fun X Q' E Z=> ?_)
   repeat refine aj.aD _ ?_
   refine aj.bM E 18 ?_;refine aj.bM E 19 ?_;apply aj.RP rfl rfl (by rw[E]; rfl) 20 rfl rfl
   .
    intro D v W hc I M K' H;obtain⟨m,rfl⟩:=I;have c0:Er _ ⟨G,3,none⟩=_:=(T.drewN m).c 3 rfl;go_step;exact H.out
   . rfl
   apply aj.RP rfl rfl (by rw[E]; rfl) 21 rfl rfl
   .
    intro D v W hc I M K' H;obtain⟨m,rfl⟩:=I;have c0:Er _ ⟨Bs,0,none⟩=_:=(Y.drewN m).c 0 rfl;go_step;exact H.out
   . rfl
   apply aj.RP rfl rfl (by rw[E]; rfl) 22 rfl rfl
   .
    intro D v W hc I M K' H;go_step
    try rw[a9]
    exact H.out
   . rfl
   refine aj.bM E 23 ?_;apply aj.RP rfl rfl (by rw[E]; rfl) 24 rfl rfl
   .
    intro D v W hc I M K' H;go_step
    try rw[aY]
    exact H.out
   . rfl
   apply aj.RP rfl rfl (by rw[E]; rfl) 25 rfl rfl
   .
    intro D v W hc I M K' H;go_step
    try rw[t3]
    exact H.out
   . rfl
   refine aj.aD 26 ?_;refine aj.aF (fun D v w9 hd I M=> ?_);obtain⟨m,rfl⟩:=I;clear hd M;refine Z _ _ ?_;clear Z E Q' X;have T:=T.drewN m;have Y:=Y.drewN m;have hJ:=hC.dr m hJ;generalize hw_:w0.drewN m=w1 at *;clear hw_
   gi_wp2_with fail
   rw[roundsIn_succ]
   gi_upto_region 4 with fail
   refine wpIn_wide.2 ?_
   refine aj.aI (fun D v W=>∃m,W=w1.drewN m) (aj.inl []) (aj.gv []) aj.aR (fun _=>aj.Any) (fun _ _=>False) (aj.pl []) (aj.pl [])
    D6 D6 D6 (aj.dI _) (fun _=>⟨1,rfl⟩) (fun _ _ _ _ _ h=>h) (fun _ _ _ _ _ _ _ _ _ _ _ _ _=>aj.none_) (fun _ _ _ _ h=>h.elim) (fun X Q' E Z=> ?_)
   repeat refine aj.aD _ ?_
   refine aj.bM E 18 ?_;refine aj.bM E 19 ?_;apply aj.RP rfl rfl (by rw[E]; rfl) 20 rfl rfl
   .
    intro D v W hc I M K' H;obtain⟨m,rfl⟩:=I;have c0:Er _ ⟨G,2,none⟩=_:=(T.drewN m).c 2 rfl;go_step;exact H.out
   . rfl
   apply aj.RP rfl rfl (by rw[E]; rfl) 21 rfl rfl
   .
    intro D v W hc I M K' H;obtain⟨m,rfl⟩:=I;have c0:Er _ ⟨Bs,0,none⟩=_:=(Y.drewN m).c 0 rfl;go_step;exact H.out
   . rfl
   apply aj.RP rfl rfl (by rw[E]; rfl) 22 rfl rfl
   .
    intro D v W hc I M K' H;go_step
    try rw[a9]
    exact H.out
   . rfl
   refine aj.bM E 23 ?_;apply aj.RP rfl rfl (by rw[E]; rfl) 24 rfl rfl
   .
    intro D v W hc I M K' H;go_step
    try rw[br]
    exact H.out
   . rfl
   apply aj.RP rfl rfl (by rw[E]; rfl) 25 rfl rfl
   .
    intro D v W hc I M K' H;go_step
    try rw[t2]
    exact H.out
   . rfl
   refine aj.aD 26 ?_;refine aj.aF (fun D v w9 hd I M=> ?_);obtain⟨m,rfl⟩:=I;clear hd M;refine Z _ _ ?_;clear Z E Q' X;have T:=T.drewN m;have Y:=Y.drewN m;have hJ:=hC.dr m hJ;generalize hw_:w1.drewN m=w2 at *;clear hw_
   gi_wp2_with fail
   rw[roundsIn_succ]
   gi_upto_region 4 with fail
   refine wpIn_wide.2 ?_
   refine aj.aI (fun D v W=>∃m,W=w2.drewN m) (aj.inl []) (aj.gv []) aj.aR (fun _=>aj.Any) (fun _ _=>False) (aj.pl []) (aj.pl [])
    D6 D6 D6 (aj.dI _) (fun _=>⟨1,rfl⟩) (fun _ _ _ _ _ h=>h) (fun _ _ _ _ _ _ _ _ _ _ _ _ _=>aj.none_) (fun _ _ _ _ h=>h.elim) (fun X Q' E Z=> ?_)
   repeat refine aj.aD _ ?_
   refine aj.bM E 18 ?_;refine aj.bM E 19 ?_;apply aj.RP rfl rfl (by rw[E]; rfl) 20 rfl rfl
   .
    intro D v W hc I M K' H;obtain⟨m,rfl⟩:=I;have c0:Er _ ⟨G,1,none⟩=_:=(T.drewN m).c 1 rfl;go_step;exact H.out
   . rfl
   apply aj.RP rfl rfl (by rw[E]; rfl) 21 rfl rfl
   .
    intro D v W hc I M K' H;obtain⟨m,rfl⟩:=I;have c0:Er _ ⟨Bs,0,none⟩=_:=(Y.drewN m).c 0 rfl;go_step;exact H.out
   . rfl
   apply aj.RP rfl rfl (by rw[E]; rfl) 22 rfl rfl
   .
    intro D v W hc I M K' H;go_step
    try rw[a9]
    exact H.out
   . rfl
   refine aj.bM E 23 ?_;apply aj.RP rfl rfl (by rw[E]; rfl) 24 rfl rfl
   .
    intro D v W hc I M K' H;go_step
    try rw[cg]
    exact H.out
   . rfl
   apply aj.RP rfl rfl (by rw[E]; rfl) 25 rfl rfl
   .
    intro D v W hc I M K' H;go_step
    try rw[t1]
    exact H.out
   . rfl
   refine aj.aD 26 ?_;refine aj.aF (fun D v w9 hd I M=> ?_);obtain⟨m,rfl⟩:=I;clear hd M;refine Z _ _ ?_;clear Z E Q' X;have T:=T.drewN m;have Y:=Y.drewN m;have hJ:=hC.dr m hJ;generalize hw_:w2.drewN m=w3 at *;clear hw_
   gi_wp2_with fail
   rw[roundsIn_succ]
   gi_upto_region 4 with fail
   refine wpIn_wide.2 ?_
   refine aj.aI (fun D v W=>∃m,W=w3.drewN m) (aj.inl []) (aj.gv []) aj.aR (fun _=>aj.Any) (fun _ _=>False) (aj.pl []) (aj.pl [])
    D6 D6 D6 (aj.dI _) (fun _=>⟨1,rfl⟩) (fun _ _ _ _ _ h=>h) (fun _ _ _ _ _ _ _ _ _ _ _ _ _=>aj.none_) (fun _ _ _ _ h=>h.elim) (fun X Q' E Z=> ?_)
   repeat (first | refine aj.bM E _ ?_ | (refine aj.sk E ?_; refine aj.aB (b:=⟨#[_,_,_,_,_,_,_,_,_,_,_,_,_,_,_,_,_,_,_,_,_,_,_,_,_,_,_,_,_,_,_,_,_,_,_,_,_,_,_,_,_,_,_,_,_,_,_],_⟩) rfl ?_))
   refine aj.aF (fun D v w9 hd I M=> ?_);obtain⟨m,rfl⟩:=I;clear hd M;refine Z _ _ ?_;clear Z E Q' X;have T:=T.drewN m;have Y:=Y.drewN m;have hJ:=hC.dr m hJ;generalize hw_:w3.drewN m=w4 at *;clear hw_;have c0:Er w4 ⟨G,0,none⟩=_:=T.c 0 rfl;have c1:Er w4 ⟨G,1,none⟩=_:=T.c 1 rfl;have c2:Er w4 ⟨G,2,none⟩=_:=T.c 2 rfl;have c3:Er w4 ⟨G,3,none⟩=_:=T.c 3 rfl;have fG:=T.fr;have lG:=T.lt
   gi_wp2_with fail
   refine wpIn_loop_rounds 5 ?_;rw[roundsIn_succ]
   gi_wp2_with fail
   rw[roundsIn_succ]
   gi_wp2_with fail
   rw[roundsIn_succ]
   gi_wp2_with fail
   rw[roundsIn_succ]
   gi_wp2
   go_roundw
   case rel=>
    refine⟨i+1,by omega,(hC.st _ _ (hC.st _ _ (hC.st _ _ (hC.st _ _ hJ)))),?_,zw⟩;rw[b9.out];unfold J7;dsimp only;rw[E9 g3,E9 g2,E9 g1];dsimp only;rw[show ((a+1:Nat):Int)=P0 by omega];rw[show ((a+2:Nat):Int)=P1 by omega];rw[show ((a+3:Nat):Int)=P2 by omega];rw[show ((a+4:Nat):Int)=P3 by omega];exact vM
   case measure=>
    have R1:rk ((((w4.setCell ⟨G,0,none⟩ (Ey Ew P0)).setCell ⟨G,1,none⟩ (Ey Ew P1)).setCell ⟨G,2,none⟩ (Ey Ew P2)).setCell ⟨G,3,none⟩ (Ey Ew P3)) G=_:=Jq (t:=80) (a:=P0) (b:=P1) (c:=P2) (d:=P3) vM;have R2:=R0.out;omega
  .
   obtain rfl:i=(yy n).length:=D5
   have ci:decide (((X6 n (yy n).length).2.2.2:Int)<N)=false:=E' D5
   gi_wp2
   go_end0
   exact⟨⟨_,rfl⟩,_,rfl,by rw[List.take_length]at hJ; exact hJ⟩
end
end Go.Proofs.YtffmbepfbienaaaGreat
