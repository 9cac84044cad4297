import Derived.Test.YtdkcffnmlllamaaGreatMReg
import Derived.RangeFuncNested
import Derived.OrdersIn
import Derived.TacticsIn
/- A region that draws its order in a round of a range over a function: by XReg's chain. -/
set_option linter.unusedVariables false
set_option linter.unusedSimpArgs false
namespace Go.Proofs.YtdkcffnmlllamaaGreat
open Go.RowKit
def strict (Q:Exit→Act→World→Prop):Exit→Act→World→Prop
 | .outgrown,_,_=>False
 | e,a,w=>Q e a w
theorem strict_out (Q:Exit→Act→World→Prop):¬LetsOut (strict Q):=fun⟨_,_,h⟩=>h
theorem oper_round {P:Program} {o:Oper} {a:Act} {w:World} {K K':Act→World→Prop} {Q:Exit→Act→World→Prop} {l n:Nat} (hd:∀c,o.op≠ .defer c) (h:o.wp P a w K (strict Q))
  (hK:∀a w,K a w→K' a w):o.wpIn (Fence.wide.inRound l) n P a w K' Q:=by
 refine⟨fun _ _=>trivial,?_⟩
 rw[Fence.inRound_round,Oper.semAt_some l _ o hd]
 unfold Oper.wp at h
 generalize (execOp a.eval o).run P w=r at h
 cases r with
 | ok nx w'=>
  cases nx with
  | value v=>exact hK _ _ h
  | skip=>exact hK _ _ h
  | defer d=>exact hK _ _ h
  | enter f args=>
   refine⟨fun h=>(by cases h),CallsIn.inRound l (callsIn_wide.2 (Calls.mono h ?_))⟩
   intro e w'' hh
   cases e with
   | returned v=>exact hK _ _ hh
   | panicked c=>exact hh
   | outgrown=>exact(strict_out Q hh).elim
  | row r args=>
   refine⟨fun h=>(by cases h),fun c cs _=> ?_⟩
   obtain⟨v,w',r,s⟩:=h c cs
   exact⟨v,w',hK _ _ r,stepsIn_wide.2 s⟩
  | _=>exact h.elim
 | halt x w'=>
  cases x with
  | panic v=>exact h
  | _=>exact h.elim
def noDefer (ops:Array Oper):Bool:=ops.toList.all fun o=>match o.op with | .defer _=>false | _=>true
theorem noDefer_spec {ops:Array Oper} (h:noDefer ops=true) {i:Nat} {o:Oper} (ho:ops[i]? = some o):∀c,o.op≠ .defer c:=by
 intro c e
 have hm:o∈ops.toList:=by rw[Array.mem_toList_iff]; exact Array.mem_of_getElem? ho
 have:=List.all_eq_true.1 h o hm
 rw[e]at this
 cases this
theorem op_round {P:Program} {ops:Array Oper} {Q:Exit→Act→World→Prop} {l n i:Nat} {K K':Act→World→Prop} {a:Act} {w:World} (hd:noDefer ops=true) (hK:∀a w,K a w→K' a w)
  (h:wpOp P ops (strict Q) i K a w):wpOpIn (Fence.wide.inRound l) n P ops Q i K' a w:=by
 unfold wpOp at h
 unfold wpOpIn
 cases ho:ops[i]? with
 | none=>rw[ho]at h; exact hK _ _ h
 | some o=>
  rw[ho]at h
  dsimp only at h⊢
  by_cases hw:Region.wanted o (yielded ops a.tmps)=true
  ·
   rw[if_pos hw]at h⊢
   rcases h with h | ⟨_,h⟩
   · exact oper_round (noDefer_spec hd ho) h hK
   · exact(strict_out Q h).elim
  ·
   rw[if_neg hw]at h⊢
   exact⟨fun _ _=>trivial,hK _ _ h⟩
theorem any_round {P:Program} {ops:Array Oper} {Q:Exit→Act→World→Prop} {l n:Nat} {md:Region.Mode} (hd:noDefer ops=true):∀ (fuel:Nat) (listed:Array Bool) (a:Act) (w:World),
  wpAny P md ops (strict Q) fuel listed a w→wpAnyIn (Fence.wide.inRound l) n P md ops Q fuel listed a w:=by
 intro fuel
 induction fuel with
 | zero=>intro listed a w h; exact⟨h.1,h.2⟩
 | succ fuel ih=>intro listed a w h; exact⟨fun hr=>h.1 hr,fun i hi=>op_round hd (fun a w=>ih _ a w) (h.2 i hi)⟩
section
open Reg
variable {P:Program} {ops:Array Oper} {Q:Exit→Act→World→Prop}
theorem wpIn_chain {l n id:Nat} {base:Act} {w:World} (J:(Nat→Bool)→(Nat→Value)→World→Prop) (isC:Nat→Bool) (V:Nat→Value→Prop) (G:Nat→Value→World→Prop) (Sx:Nat→World→World→Prop) (Pan:List PanicEntry→World→Prop) (pre:Nat→List (Nat×Option Tmp)) (post:Nat→List Nat)
  (hd:noDefer ops=true) (hm:P.follows .mixedOrders=true) (ht:tidy ops base.tmps.size=true) (hsub:subs ops isC pre post=true)
  (hV:∀k,∃x,V k x) (hJ0:∀v,J (fun _=>false) v w.drew) (hJv:∀D v v' W,(∀j,D j=true→v j=v' j)→J D v W→J D v' W)
  (hG:∀D v k j W W' x,j≠k→isC j=true→isC k=true→J D v W→Sx k W W'→G j x W→G j x W')
  (hP:∀a W c,a.defers=base.defers→Pan c W→Q (.panic c) a W)
  (h:∀ops' Q',ops'=ops→(∀a W,Q .normal a W→Q' .normal a W)→RC P ops' Q' J isC V G Sx Pan pre post 0 ops.toList base):(Code.region id ops true).wpIn (Fence.wide.inRound l) n P Q base w:=by
 have hc:=h ops (strict Q) rfl (fun _ _ h=>h)
 refine wpIn_region_any hm (any_round hd _ _ _ _ ?_)
 exact wpAny_inv (Inv P ops J isC V G pre post base) (chain_step (Q:=strict Q) ht hsub hV hJv hG (fun a W c h1 h2=>hP a W c h1 h2) hc) (chain_done (Q:=strict Q) ht hsub hV hJv hG (fun a W c h1 h2=>hP a W c h1 h2) hc) _ _ _ _ (chain_start hJ0) (by
  unfold unlisted
  have:=List.length_filter_le (fun i=> !(Array.replicate ops.size false).getD i true) (List.range ops.size)
  rwa[List.length_range]at this)
end
end Go.Proofs.YtdkcffnmlllamaaGreat
/- The chain of XReg where an operation of the region calls 'yield': for an iterator's own text. -/
namespace Go.Proofs.YtdkcffnmlllamaaGreat
open Go.RowKit
def DoesY (P:Program) (o:Oper) (ρ : Operand→Value) (W:World) (Pan:List PanicEntry→World→Prop) (N:Value→World→Prop):Prop:=
 match (execOp ρ o).run P W with
 | .ok (.value v) W'=>N v W'
 | .ok .skip W'=>N undef W'
 | .ok (.enter f args) W'=>Calls P f args W' fun
   | .returned v,W''=>N v W''
   | .panicked c,W''=>Pan c W''
   | .outgrown,_=>False
 | .ok (.row row args) W'=>Rows P row args W' N
 | .ok (.round l f tmps assign body) W'=>RoundIn Fence.wide 0 P l f tmps assign body W' fun
   | .returned v,W''=>N v W''
   | .panicked c,W''=>Pan c W''
   | .outgrown,_=>False
 | .halt (.panic v) W'=>Pan [{ v,recovered:=false }] W'
 | _=>False
theorem roundIn_any {n m:Nat} {P:Program} {l:Nat} {f:FuncId} {tmps:Array Value} {assign body:Code} {w:World} {R:Ending→World→Prop}
  (h:RoundIn Fence.wide n P l f tmps assign body w R):RoundIn Fence.wide m P l f tmps assign body w R:=⟨h.1,fun c cs _=>h.2 c cs (room_wide _)⟩
namespace RegY
open Reg
section
variable (P:Program) (ops:Array Oper) (Q:Exit→Act→World→Prop) (J:(Nat→Bool)→(Nat→Value)→World→Prop) (isC:Nat→Bool) (V:Nat→Value→Prop) (G:Nat→Value→World→Prop) (Sx:Nat→World→World→Prop) (Pan:List PanicEntry→World→Prop) (pre:Nat→List (Nat×Option Tmp)) (post:Nat→List Nat)
def CallOk (k:Nat) (o:Oper) (a:Act) (D:Nat→Bool) (v:Nat→Value) (W:World):Prop:=
 if Region.wanted o (yielded ops a.tmps)=true then DoesY P o a.eval W Pan (fun x W'=>Sx k W W'∧J (upd D k) (updv v k (dv o x)) W'∧G k (dv o x) W'∧V k (dv o x))else J (upd D k) (updv v k undef) W∧G k undef W∧V k undef
def RC:Nat→List Oper→Act→Prop
 | k,[],a=>∀D v W,(∀j,j<k→D j=isC j)→J D v W→Facts isC G pre k a D v W→Q .normal a W
 | k,o::rest,a=>
  if isC k=true then(∀D v W,Cond post k D→J D v W→Facts isC G pre k a D v W→CallOk P ops J V G Sx Pan k o a D v W)∧∀x,V k x→RC (k+1) rest (a.put o.dst x)
  else ∃x,(∀D v W,Cond post k D→J D v W→Facts isC G pre k a D v W→PureOk P ops o a x W)∧RC (k+1) rest (a.put o.dst x)
end
section
variable {P:Program} {ops:Array Oper} {Q:Exit→Act→World→Prop} {J:(Nat→Bool)→(Nat→Value)→World→Prop} {isC:Nat→Bool} {V:Nat→Value→Prop} {G:Nat→Value→World→Prop} {Sx:Nat→World→World→Prop} {Pan:List PanicEntry→World→Prop} {pre:Nat→List (Nat×Option Tmp)} {post:Nat→List Nat}
theorem RC_trace (xs:Nat→Value) (hx:∀k,V k (xs k)):∀ (l:List Oper) (k:Nat) (a:Act),RC P ops Q J isC V G Sx Pan pre post k l a→
  ∃ (tr:Nat→Act) (y:Nat→Value),tr k=a∧(∀i o,l[i]? = some o→tr (k+i+1)=(tr (k+i)).put o.dst (y (k+i))∧
   (isC (k+i)=true→y (k+i)=xs (k+i)∧∀D v W,Cond post (k+i) D→J D v W→Facts isC G pre (k+i) (tr (k+i)) D v W→CallOk P ops J V G Sx Pan (k+i) o (tr (k+i)) D v W)∧
   (isC (k+i)=false→∀D v W,Cond post (k+i) D→J D v W→Facts isC G pre (k+i) (tr (k+i)) D v W→PureOk P ops o (tr (k+i)) (y (k+i)) W))∧
   (∀D v W,(∀j,j<k+l.length→D j=isC j)→J D v W→Facts isC G pre (k+l.length) (tr (k+l.length)) D v W→Q .normal (tr (k+l.length)) W):=by
 intro l
 induction l with
 | nil=>
  intro k a h
  refine⟨fun _=>a,xs,rfl,fun i o hi=>by simp at hi,?_⟩
  exact h
 | cons o rest ih=>
  intro k a h
  have key:∃x,RC P ops Q J isC V G Sx Pan pre post (k+1) rest (a.put o.dst x)∧
    (isC k=true→x=xs k∧∀D v W,Cond post k D→J D v W→Facts isC G pre k a D v W→CallOk P ops J V G Sx Pan k o a D v W)∧
    (isC k=false→∀D v W,Cond post k D→J D v W→Facts isC G pre k a D v W→PureOk P ops o a x W):=by
   unfold RC at h
   split at h
   ·
    rename_i hc
    exact⟨xs k,h.2 _ (hx k),fun _=>⟨rfl,h.1⟩,fun h'=>by rw[hc]at h'; cases h'⟩
   ·
    rename_i hc
    obtain⟨x,h1,h2⟩:=h
    exact⟨x,h2,fun h'=>absurd h' hc,fun _=>h1⟩
  obtain⟨x,hr,hc1,hc2⟩:=key
  obtain⟨tr,y,ht,hs,hf⟩:=ih (k+1) _ hr
  refine⟨fun i=>if i≤k then a else tr i,fun i=>if i≤k then x else y i,by simp,?_,?_⟩
  ·
   intro i o' hi
   cases i with
   | zero=>
    simp only[List.getElem?_cons_zero,Option.some.injEq]at hi
    subst hi
    simp only[Nat.add_zero,Nat.le_refl,if_true,if_neg (show ¬(k+1≤k) by omega),ht]
    exact⟨trivial,hc1,hc2⟩
   | succ i=>
    rw[List.getElem?_cons_succ]at hi
    have:=hs i o' hi
    have e:k+1+i=k+(i+1):=by omega
    rw[e]at this
    simp only[if_neg (show ¬(k+(i+1)≤k) by omega),if_neg (show ¬(k+(i+1)+1≤k) by omega)]
    exact this
  ·
   have e:k+1+rest.length=k+(o::rest).length:=by simp; omega
   rw[e]at hf
   simp only[if_neg (show ¬(k+(o::rest).length≤k) by simp)]
   exact hf
theorem does_wp {n:Nat} {o:Oper} {a:Act} {W:World} {N:Value→World→Prop} {K:Act→World→Prop} (h:DoesY P o a.eval W Pan N) (hK:∀x W',N x W'→K (a.put o.dst x) W')
  (hP:∀c W',Pan c W'→Q (.panic c) a W'):o.wpIn Fence.wide n P a W K Q:=by
 unfold DoesY at h
 unfold Oper.wpIn
 refine⟨fun _ _=>trivial,?_⟩
 rw[show o.semAt Fence.wide.round a.eval=execOp a.eval o from rfl]
 split at h
 · rename_i heq; rw[heq,Oper.uponIn_value]; exact hK _ _ h
 · rename_i heq; rw[heq,Oper.uponIn_skip]; exact hK _ _ h
 ·
  rename_i heq
  rw[heq,Oper.uponIn_enter]
  refine⟨fun h=>(by cases h),callsIn_wide.2 (Calls.mono h fun e W'' he=> ?_)⟩
  cases e with
  | returned v=>exact hK _ _ he
  | panicked c=>exact hP _ _ he
  | outgrown=>exact he.elim
 ·
  rename_i heq
  rw[heq,Oper.uponIn_row]
  refine⟨fun h=>(by cases h),fun c cs _=> ?_⟩
  obtain⟨v,w',r,s⟩:=h c cs
  exact⟨v,w',hK _ _ r,stepsIn_wide.2 s⟩
 ·
  rename_i heq
  rw[heq,Oper.uponIn_round]
  refine⟨fun h=>(by cases h),roundIn_any (RoundIn.mono h fun e W'' he=> ?_)⟩
  cases e with
  | returned v=>exact hK _ _ he
  | panicked c=>exact hP _ _ he
  | outgrown=>exact he.elim
 · rename_i heq; rw[heq,Oper.uponIn_panic]; exact hP _ _ h
 · exact h.elim
theorem does_congr {o:Oper} {ρ ρ':Operand→Value} {W:World} {N:Value→World→Prop} (e:execOp ρ o=execOp ρ' o) (h:DoesY P o ρ W Pan N):DoesY P o ρ' W Pan N:=by
 unfold DoesY at *
 rwa[← e]
theorem call_agree {k:Nat} {o:Oper} {a b:Act} {D:Nat→Bool} {v:Nat→Value} {W:World} (hs:∀cs c,o.op≠ .select cs c) (h:∀t,t∈o.looksAt ops→a.tmps[t]? = b.tmps[t]?) (hp:CallOk P ops J V G Sx Pan k o a D v W):CallOk P ops J V G Sx Pan k o b D v W:=by
 unfold CallOk at *
 rw[← wanted_agree h]
 split
 · rename_i hw; rw[if_pos hw]at hp; exact does_congr (exec_agree hs h) hp
 · rename_i hw; rwa[if_neg hw]at hp
theorem chain_step {n:Nat} {base:Act} (ht:tidy ops base.tmps.size=true) (hsub:subs ops isC pre post=true)
  (hV:∀k,∃x,V k x) (hJv:∀D v v' W,(∀j,D j=true→v j=v' j)→J D v W→J D v' W)
  (hG:∀D v k j W W' x,j≠k→isC j=true→isC k=true→J D v W→Sx k W W'→G j x W→G j x W')
  (hP:∀a W c,a.defers=base.defers→Pan c W→Q (.panic c) a W)
  (h:RC P ops Q J isC V G Sx Pan pre post 0 ops.toList base) :
  ∀listed a W i,Inv P ops J isC V G pre post base listed a W→i∈Region.ready .any ops listed→wpOpIn Fence.wide n P ops Q i (fun a' W'=>Inv P ops J isC V G pre post base (listed.setIfInBounds i true) a' W') a W:=by
 have T:=tidy_spec ht
 have S:=subs_spec hsub
 intro listed a W i I hi
 obtain⟨hun,o,ho,hall⟩:=mem_ready.1 hi
 have hik:i<ops.size:=lt_of_get ho
 have hd:dstOf ops i=o.dst:=by unfold dstOf; rw[ho]; rfl
 have hedge:∀j∈edges ops i,listed.getD j false=true:=fun j hj=>by
  obtain⟨e,he,hb,rfl⟩:=(mem_edges ho).1 hj
  exact hall e he hb
 have hl:∀j,Anc ops j i→listed.getD j false=true:=fun j hj=>by
  cases hj with
  | one h=>exact hedge j h
  | more h1 h2=>exact I.anc h1 (hedge _ h2)
 have hnl:¬listed.getD i false=true:=fun hc=>by
  have hlt:i<listed.size:=I.n▸hik
  simp[hlt]at hun hc
  rw[hun]at hc; cases hc
 obtain⟨xs,hx,hxe⟩:∃xs:Nat→Value,(∀k,V k (xs k))∧∀k,V k (val ops a k)→xs k=val ops a k:=by
  classical
  refine⟨fun k=>if V k (val ops a k)then val ops a k else(hV k).choose,fun k=> ?_,fun k hk=>by simp only[if_pos hk]⟩
  by_cases hk:V k (val ops a k)
  · simp only[if_pos hk]; exact hk
  · simp only[if_neg hk]; exact(hV k).choose_spec
 obtain⟨tr,y,h0,hs,hf⟩:=RC_trace xs hx ops.toList 0 base h
 have hs':∀i o,ops[i]? = some o→tr (i+1)=(tr i).put o.dst (y i):=fun i o ho=>by
  have:=(hs i o (by simpa using ho)).1
  simpa using this
 have hc':∀i,i<ops.size→listed.getD i false=true→isC i=true→y i=val ops a i:=fun i hi hli hci=>by
  have:=(hs i ops[i] (by simp[hi])).2.1
  simp only[Nat.zero_add]at this
  exact(this hci).1.trans (hxe i (I.call i hli hci).2)
 have hp':∀i o,ops[i]? = some o→isC i=false→∀D v W,Cond post i D→J D v W→Facts isC G pre i (tr i) D v W→PureOk P ops o (tr i) (y i) W:=fun i o ho hci=>by
  have:=(hs i o (by simpa using ho)).2.2
  simp only[Nat.zero_add]at this
  exact this hci
 obtain⟨A1,A2,-⟩:=agree S T I h0 hs' hc' hp' i hik hl
 have A1:∀t,t∈o.looksAt ops→(tr i).tmps[t]? = a.tmps[t]? :=fun t ht=>by
  by_cases hw:∃j,Anc ops j i∧dstOf ops j=some t
  ·
   obtain⟨j,hj,hjt⟩:=hw
   exact(A1 o ho t ht).1 j hj hjt
  ·
   rw[(A1 o ho t ht).2 fun j hj hjt=>hw ⟨j,hj,hjt⟩,I.old t fun j hj hjt=> ?_]
   rcases T.look i o t j ho ht hjt with h | h
   · exact hw ⟨j,h,hjt⟩
   · exact hnl (I.anc h hj)
 have F:Facts isC G pre i a (done isC listed) (val ops a) W:=fun p hp hcp=>by
  obtain⟨h1,h2⟩:=S.fore i p hik hp
  refine⟨by unfold done; rw[hcp,hl p.1 h1]; rfl,by unfold val; rw[h2],?_⟩
  rw[← h2]
  exact(I.call p.1 (hl p.1 h1) hcp).1
 have F':Facts isC G pre i (tr i) (done isC listed) (val ops a) W:=facts_agree (fun p hp=>(A2 p hp).symm) F
 have sel:=fun cs c=>T.sel i o cs c ho
 have cond:Cond post i (done isC listed):=by
  refine⟨?_,fun j hj=> ?_⟩
  ·
   unfold done; cases h:listed.getD i false with
   | true=>exact absurd h hnl
   | false=>simp
  ·
   unfold done; cases h:listed.getD j false with
   | true=>exact absurd (I.anc (S.aft i j hik hj) h) hnl
   | false=>simp
 have dC:isC i=true→done isC (listed.setIfInBounds i true)=upd (done isC listed) i:=fun hc=>funext fun j=>by
  unfold done upd
  by_cases e:j=i
  · subst e; simp only[getD_set_self (show j<listed.size from I.n▸hik),hc]; simp
  · rw[getD_set_ne false (Ne.symm e)]; simp[e]
 have dP:isC i=false→done isC (listed.setIfInBounds i true)=done isC listed:=fun hc=>funext fun j=>by
  unfold done
  by_cases e:j=i
  · subst e; rw[hc]; simp
  · rw[getD_set_ne false (Ne.symm e)]
 -- what stands, whatever i yields, of the frame behind it
 have keep:∀x k,listed.getD k false=true→∀t,dstOf ops k=some t→(a.put o.dst x).tmps[t]? = a.tmps[t]? :=fun x k hk t htk=>
  put_ne fun e=>hnl (T.once i k t (hd.trans e) htk▸hk)
 have next:∀x W',J (done isC (listed.setIfInBounds i true)) (val ops (a.put o.dst x)) W'→(∀k,listed.getD k false=true→isC k=true→G k (val ops a k) W'∧V k (val ops a k))→(isC i=true→G i (dv o x) W'∧V i (dv o x))→
   (isC i=false→∀D v W,Cond post i D→J D v W→Facts isC G pre i a D v W→PureOk P ops o a x W)→Inv P ops J isC V G pre post base (listed.setIfInBounds i true) (a.put o.dst x) W':=by
  intro x W' hj hg hgi hpi
  have vk:∀k,listed.getD k false=true→val ops (a.put o.dst x) k=val ops a k:=fun k hk=>at_agree fun t htk=>keep x k hk t htk
  have vi:∀t,o.dst=some t→(a.put o.dst x).tmps[t]? = some x:=fun t hdt=>by
   rw[hdt]; exact put_eq (by rw[I.size]; exact T.inb i t (hd.trans hdt))
  refine⟨hj,by simp[I.n],?_,(put_defs _ _ _).trans I.defs,(put_size _ _ _).trans I.size,?_,?_,?_⟩
  ·
   intro k hk j hj'
   rcases getD_set hk with rfl | hk
   · exact getD_set_true (hedge j hj')
   · exact getD_set_true (I.closed k hk j hj')
  ·
   intro t htn
   rw[put_ne fun e=>htn i (getD_set_self (I.n▸hik)) (hd.trans e)]
   exact I.old t fun k hk=>htn k (getD_set_true hk)
  ·
   intro k hk hck
   rcases getD_set hk with rfl | hk
   ·
    have:val ops (a.put o.dst x) k=dv o x:=by
     unfold val; rw[hd]
     cases hdo:o.dst with
     | none=>simp[at_,dv,hdo]
     | some t=>have:=vi t hdo; rw[hdo]at this; simp[at_,dv,hdo,this]
    rw[this]; exact hgi hck
   · rw[vk k hk]; exact hg k hk hck
  ·
   intro k o' t hk hck ho' htk
   have ag:∀p∈pre k,at_ (a.put o.dst x) p.2=at_ a p.2:=fun p hp=>by
    have hkk:k<ops.size:=lt_of_get ho'
    obtain⟨h1,h2⟩:=S.fore k p hkk hp
    have hpl:listed.getD p.1 false=true:=by
     rcases getD_set hk with rfl | hk
     · exact hl _ h1
     · exact I.anc h1 hk
    exact at_agree fun t htp=>keep x p.1 hpl t (h2.trans htp)
   rcases getD_set hk with rfl | hk
   ·
    rw[ho]at ho'
    injection ho' with ho'
    subst ho'
    have e:val ops (a.put o.dst x) k=x:=by
     unfold val; rw[hd]
     rw[hd]at htk
     have:=vi t htk; rw[htk]at this; simp[at_,htk,this]
    refine⟨a,fun u j hj hju=>(keep x j (hl j hj) u hju).symm,fun u hu hn=>I.old u fun j hj hju=> ?_,fun D'' v'' W'' cw hjw hfw=> ?_,?_⟩
    ·
     rcases T.look k o u j ho hu hju with h | h
     · exact hn j h hju
     · exact hnl (I.anc h hj)
    · rw[e]; exact hpi hck D'' v'' W'' cw hjw (facts_agree ag hfw)
    · exact⟨_,_,W,cond,I.j,facts_agree (fun p hp=>(ag p hp).symm) F⟩
   ·
    obtain⟨b,b1,b2,P1,D1,v1,W1,c1,j1,f1⟩:=I.pur k o' t hk hck ho' htk
    refine⟨b,fun u j hj hju=>(b1 u j hj hju).trans (keep x j (I.anc hj hk) u hju).symm,b2,fun D'' v'' W'' cw hjw hfw=> ?_,D1,v1,W1,c1,j1,facts_agree (fun p hp=>(ag p hp).symm) f1⟩
    rw[vk k hk]
    exact P1 D'' v'' W'' cw hjw (facts_agree ag hfw)
 have vx:∀x j,done isC listed j=true→updv (val ops a) i (dv o x) j=val ops (a.put o.dst x) j:=fun x j hj=>by
  unfold done at hj
  simp only[Bool.and_eq_true]at hj
  unfold updv
  rw[if_neg (show ¬j=i from fun e=>hnl (e▸hj.2))]
  exact(at_agree fun t htk=>keep x j hj.2 t htk).symm
 have vi':∀x,val ops (a.put o.dst x) i=dv o x:=fun x=>by
  unfold val; rw[hd]
  cases hdo:o.dst with
  | none=>simp[at_,dv,hdo]
  | some t=>
   have:=put_eq (a:=a) (v:=x) (t:=t) (by rw[I.size]; exact T.inb i t (hd.trans hdo))
   simp[at_,dv,hdo,this]
 have vC:∀x W',isC i=true→J (upd (done isC listed) i) (updv (val ops a) i (dv o x)) W'→J (done isC (listed.setIfInBounds i true)) (val ops (a.put o.dst x)) W':=fun x W' hc h=>by
  rw[dC hc]
  refine hJv _ _ _ _ (fun j hj=> ?_) h
  by_cases e:j=i
  · subst e; unfold updv; rw[if_pos rfl,vi']
  ·
   unfold upd at hj
   simp only[Bool.or_eq_true,beq_iff_eq,e,false_or]at hj
   exact vx x j hj
 have vP:∀x W',isC i=false→J (done isC listed) (val ops a) W'→J (done isC (listed.setIfInBounds i true)) (val ops (a.put o.dst x)) W':=fun x W' hc h=>by
  rw[dP hc]
  refine hJv _ _ _ _ (fun j hj=> ?_) h
  rw[← vx x j hj]
  unfold updv
  rw[if_neg]
  intro e
  subst e
  unfold done at hj
  rw[hc]at hj; cases hj
 unfold wpOpIn
 rw[ho]
 cases hci:isC i with
 | true=>
  have hC:=(hs i o (by simpa using ho)).2.1
  simp only[Nat.zero_add]at hC
  have hC:=call_agree sel A1 ((hC hci).2 _ _ W cond I.j F')
  unfold CallOk at hC
  simp only
  split
  ·
   rename_i hw
   rw[if_pos hw]at hC
   refine(does_wp hC (fun x W' hx=>next x W' (vC x W' hci hx.2.1) (fun k hk hck=> ?_) (fun _=>hx.2.2) (fun h=>by rw[hci]at h; cases h)) (fun c W' hc=>hP a W' c I.defs hc))
   exact⟨hG _ _ i k W W' _ (fun e=>hnl (e▸hk)) hck hci I.j hx.1 (I.call k hk hck).1,(I.call k hk hck).2⟩
  ·
   rename_i hw
   rw[if_neg hw]at hC
   have e:dv o undef=undef:=by unfold dv; split<;>rfl
   refine⟨fun _ _=>trivial,next undef W (vC undef W hci (e.symm▸hC.1)) (fun k hk hck=>I.call k hk hck) (fun _=> ?_) (fun h=>by rw[hci]at h; cases h)⟩
   rw[e]; exact hC.2
 | false=>
  have hp:=fun D v W cw hj hf=>pure_agree sel A1 (hp' i o ho hci D v W cw hj (facts_agree (fun p hp=>(A2 p hp).symm) hf))
  have hp1:=hp _ _ W cond I.j F
  unfold PureOk at hp1
  simp only
  have nx:=next (y i) W (vP _ W hci I.j) (fun k hk hck=>I.call k hk hck) (fun h=>by rw[hci]at h; cases h) (fun _=>hp)
  split
  ·
   rename_i hw
   rw[if_pos hw]at hp1
   unfold Oper.wpIn
   refine⟨fun _ _=>trivial,?_⟩
   rw[show o.semAt Fence.wide.round a.eval=execOp a.eval o from rfl]
   rcases hp1 with hp1 | ⟨hp1,hy⟩
   · rw[hp1,Oper.uponIn_value]; exact nx
   · rw[hp1,Oper.uponIn_skip,← hy]; exact nx
  ·
   rename_i hw
   rw[if_neg hw]at hp1
   rw[← hp1]; exact⟨fun _ _=>trivial,nx⟩
theorem chain_done {base:Act} (ht:tidy ops base.tmps.size=true) (hsub:subs ops isC pre post=true)
  (hV:∀k,∃x,V k x) (hJv:∀D v v' W,(∀j,D j=true→v j=v' j)→J D v W→J D v' W)
  (hG:∀D v k j W W' x,j≠k→isC j=true→isC k=true→J D v W→Sx k W W'→G j x W→G j x W')
  (hP:∀a W c,a.defers=base.defers→Pan c W→Q (.panic c) a W)
  (h:RC P ops Q J isC V G Sx Pan pre post 0 ops.toList base) :
  ∀listed a W,Inv P ops J isC V G pre post base listed a W→Region.ready .any ops listed = []→Q .normal a W:=by
 have T:=tidy_spec ht
 have S:=subs_spec hsub
 intro listed a W I hr
 -- nothing is left: all are listed
 have all:∀k,k<ops.size→listed.getD k false=true:=by
  intro k
  induction k using Nat.strongRecOn with
  | _ k ih=>
   intro hk
   cases hl:listed.getD k false with
   | true=>rfl
   | false=>
    have:k∈Region.ready .any ops listed:=by
     refine mem_ready.2 ⟨?_,ops[k],by simp[hk],fun e he hb=> ?_⟩
     ·
      have hlt:k<listed.size:=I.n▸hk
      simpa[hlt]using hl
     ·
      have hm:=(mem_edges (ops:=ops) (k:=k) (j:=e.on) (by simp[hk])).2 ⟨e,he,hb,rfl⟩
      have:=T.back _ _ hm
      exact ih e.on this (by omega)
    rw[hr]at this; cases this
 obtain⟨xs,hx,hxe⟩:∃xs:Nat→Value,(∀k,V k (xs k))∧∀k,V k (val ops a k)→xs k=val ops a k:=by
  classical
  refine⟨fun k=>if V k (val ops a k)then val ops a k else(hV k).choose,fun k=> ?_,fun k hk=>by simp only[if_pos hk]⟩
  by_cases hk:V k (val ops a k)
  · simp only[if_pos hk]; exact hk
  · simp only[if_neg hk]; exact(hV k).choose_spec
 obtain⟨tr,y,h0,hs,hf⟩:=RC_trace xs hx ops.toList 0 base h
 have hs':∀i o,ops[i]? = some o→tr (i+1)=(tr i).put o.dst (y i):=fun i o ho=>by
  have:=(hs i o (by simpa using ho)).1
  simpa using this
 have hc':∀i,i<ops.size→listed.getD i false=true→isC i=true→y i=val ops a i:=fun i hi hli hci=>by
  have:=(hs i ops[i] (by simp[hi])).2.1
  simp only[Nat.zero_add]at this
  exact(this hci).1.trans (hxe i (I.call i hli hci).2)
 have hp':∀i o,ops[i]? = some o→isC i=false→∀D v W,Cond post i D→J D v W→Facts isC G pre i (tr i) D v W→PureOk P ops o (tr i) (y i) W:=fun i o ho hci=>by
  have:=(hs i o (by simpa using ho)).2.2
  simp only[Nat.zero_add]at this
  exact this hci
 have Y:∀k,k<ops.size→y k=val ops a k:=fun k hk=>(agree S T I h0 hs' hc' hp' k hk fun j hj=>all j (by have:=hj.lt T; omega)).2.2 (all k hk)
 have E:tr ops.size=a:=by
  have hz:=tr_size h0 hs' ops.size (Nat.le_refl _)
  have hsl:∀t,(tr ops.size).tmps[t]? = a.tmps[t]? :=fun t=>by
   obtain⟨s1,s2⟩:=tr_slot T rfl h0 hs' ops.size (Nat.le_refl _)
   by_cases hw:∃j,j<ops.size∧dstOf ops j=some t
   ·
    obtain⟨j,hj,hjt⟩:=hw
    rw[s1 j t hj hjt,Y j hj]
    unfold val at_
    simp only[hjt]
    have hb:t<a.tmps.size:=by rw[I.size]; exact T.inb j t hjt
    rw[Array.getElem?_eq_getElem hb]; rfl
   · rw[s2 t fun j hj hjt=>hw ⟨j,hj,hjt⟩,I.old t fun j hj hjt=>hw ⟨j,lt_of_dst hjt,hjt⟩]
  have:(tr ops.size).tmps=a.tmps:=Array.ext_getElem? hsl
  have hdf:(tr ops.size).defers=a.defers:=hz.2.trans I.defs.symm
  cases htr:tr ops.size with
  | mk t1 d1=>
   rw[htr]at this hdf
   simp only at this hdf
   subst this hdf
   rfl
 simp only[Nat.zero_add,Array.length_toList]at hf
 rw[E]at hf
 exact hf _ _ W (fun j hj=>by unfold done; rw[all j hj]; simp) I.j fun p hp hcp=>by
  obtain⟨h1,h2⟩:=S.fin p hp
  refine⟨by unfold done; rw[hcp,all p.1 h1]; rfl,by unfold val; rw[h2],?_⟩
  rw[← h2]
  exact(I.call p.1 (all p.1 h1) hcp).1
theorem RC_pure {k:Nat} {o:Oper} {rest:List Oper} {a:Act} (a':Act) (x:Value) (hc:isC k=false) (hst:still o.op=true) (hw:Region.wanted o (yielded ops a.tmps)=true)
  (h:∀D v W,Cond post k D→J D v W→Facts isC G pre k a D v W→∀K:Act→World→Prop,Hid (K a' W)→o.wp P a W K (fun _ _ _=>False)) (t:Tmp) (hd:o.dst=some t) (ht:t<a.tmps.size) (hx:a'=a.put o.dst x)
  (hr:RC P ops Q J isC V G Sx Pan pre post (k+1) rest a'):RC P ops Q J isC V G Sx Pan pre post k (o::rest) a:=by
 unfold RC
 rw[if_neg (by rw[hc]; simp)]
 refine⟨x,fun D v W cw hj hf=> ?_,hx▸hr⟩
 have h:=h D v W cw hj hf (fun a'' W'=>a''=a'∧W'=W) ⟨rfl,rfl⟩
 unfold PureOk
 rw[if_pos hw]
 have eqx:∀v,a.put o.dst v=a'→v=x:=fun v hv=>by
  rw[hx,hd]at hv
  have h1:=put_eq (v:=v) ht
  rw[hv,put_eq ht]at h1
  injection h1 with h1
  exact h1.symm
 unfold Oper.wp at h
 cases hr:(execOp a.eval o).run P W with
 | ok r W'=>
  rw[hr]at h
  rcases still_run hst hr with⟨v,rfl⟩ | rfl
  ·
   rw[Oper.upon_value]at h
   obtain⟨h1,rfl⟩:=h
   exact .inl (by rw[eqx v h1])
  ·
   rw[Oper.upon_skip]at h
   obtain⟨h1,rfl⟩:=h
   exact .inr ⟨rfl,(eqx _ h1).symm⟩
 | halt r W'=>
  rw[hr]at h
  cases r<;>exact h.elim
theorem RC_skip {k:Nat} {o:Oper} {rest:List Oper} {a:Act} (hc:isC k=false) (hw:Region.wanted o (yielded ops a.tmps)=false)
  (hr:RC P ops Q J isC V G Sx Pan pre post (k+1) rest (a.put o.dst undef)):RC P ops Q J isC V G Sx Pan pre post k (o::rest) a:=by
 unfold RC
 rw[if_neg (by rw[hc]; simp)]
 refine⟨undef,fun D v W _ _ _=> ?_,hr⟩
 unfold PureOk
 rw[if_neg (by rw[hw]; simp)]
theorem RC_call {n k:Nat} {o:Oper} {rest:List Oper} {a:Act} (hc:isC k=true) (hb:∀t,o.dst=some t→t<a.tmps.size) (hw:Region.wanted o (yielded ops a.tmps)=true)
  (h:∀D v W,Cond post k D→J D v W→Facts isC G pre k a D v W→∀K:Act→World→Prop,Hid (∀x W',Sx k W W'→J (upd D k) (updv v k (dv o x)) W'→G k (dv o x) W'→V k (dv o x)→K (a.put o.dst x) W')→o.wpIn Fence.wide n P a W K (fun e _ W'=>match e with | .panic c=>Pan c W' | _=>False))
  (hr:∀x,V k x→RC P ops Q J isC V G Sx Pan pre post (k+1) rest (a.put o.dst x)):RC P ops Q J isC V G Sx Pan pre post k (o::rest) a:=by
 unfold RC
 rw[if_pos hc]
 refine⟨fun D v W cw hj hf=> ?_,hr⟩
 have h:=h D v W cw hj hf (fun a'' W'=>∃x,a''=a.put o.dst x∧Sx k W W'∧J (upd D k) (updv v k (dv o x)) W'∧G k (dv o x) W'∧V k (dv o x)) (fun x W' h1 h2 h3 h4=>⟨x,rfl,h1,h2,h3,h4⟩)
 unfold CallOk
 rw[if_pos hw]
 have eqx:∀u W',(∃x,a.put o.dst u=a.put o.dst x∧Sx k W W'∧J (upd D k) (updv v k (dv o x)) W'∧G k (dv o x) W'∧V k (dv o x))→Sx k W W'∧J (upd D k) (updv v k (dv o u)) W'∧G k (dv o u) W'∧V k (dv o u):=fun u W' ⟨x,hv,h1,h3,h2⟩=>by
  have:dv o u=dv o x:=by
   unfold dv
   cases hd:o.dst with
   | none=>rfl
   | some t=>
    rw[hd]at hv
    have h1:=put_eq (v:=u) (hb t hd)
    rw[hv,put_eq (hb t hd)]at h1
    injection h1 with h1
    exact h1.symm
  rw[this]
  exact⟨h1,h3,h2⟩
 unfold Oper.wpIn at h
 replace h:=h.2
 rw[show o.semAt Fence.wide.round a.eval=execOp a.eval o from rfl]at h
 unfold DoesY
 cases hr:(execOp a.eval o).run P W with
 | ok r W'=>
  rw[hr]at h
  cases r
  case value v=>exact eqx v W' h
  case skip=>exact eqx undef W' h
  case enter f args=>
   rw[Oper.uponIn_enter]at h
   refine Calls.mono (callsIn_wide.1 h.2) fun e W'' he=> ?_
   cases e with
   | returned v=>exact eqx v W'' he
   | panicked c=>exact he
   | outgrown=>obtain⟨_,_,he⟩:=he; exact he.elim
  case defer d=>
   rw[Oper.uponIn_defer]at h
   obtain⟨x,h,-⟩:=h
   have h1:=congrArg Act.defers h
   rw[put_defs,put_defs]at h1
   exact absurd (congrArg List.length h1) (by simp)
  case row row args=>
   rw[Oper.uponIn_row]at h
   exact fun c cs=>by
    obtain⟨v,w',r,s⟩:=h.2 c cs (room_wide _)
    exact⟨v,w',eqx v w' r,stepsIn_wide.1 s⟩
  case round l f tmps assign body=>
   rw[Oper.uponIn_round]at h
   refine roundIn_any (RoundIn.mono h.2 fun e W'' he=> ?_)
   cases e with
   | returned v=>exact eqx v W'' he
   | panicked c=>exact he
   | outgrown=>obtain⟨_,_,he⟩:=he; exact he.elim
  all_goals exact h.elim
 | halt r W'=>
  rw[hr]at h
  cases r<;>exact h
theorem RC_at {k:Nat} {l:List Oper} {a b:Act} (h:a=b) (hr:RC P ops Q J isC V G Sx Pan pre post k l b):RC P ops Q J isC V G Sx Pan pre post k l a:=h▸hr
theorem RC_end {k:Nat} {a:Act} (h:∀D v W,(∀j,j<k→D j=isC j)→J D v W→Facts isC G pre k a D v W→Q .normal a W):RC P ops Q J isC V G Sx Pan pre post k [] a:=h
end
end RegY
end Go.Proofs.YtdkcffnmlllamaaGreat
