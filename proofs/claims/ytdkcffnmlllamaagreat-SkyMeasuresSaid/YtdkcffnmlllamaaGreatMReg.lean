import Derived.Test.YtdkcffnmlllamaaGreatMOrd
import Derived.Below
import Derived.Test.YtdkcffnmlllamaaGreatMBits
/- A region that draws its order, walked once in the order of the text: each operation is shown to do its work in whatever world its forerunners leave. -/
set_option linter.unusedVariables false
set_option linter.unusedSimpArgs false
namespace Go.Proofs.YtdkcffnmlllamaaGreat
open Go.RowKit
def Does (P:Program) (o:Oper) (ρ : Operand→Value) (W:World) (Pan:List PanicEntry→World→Prop) (N:Value→World→Prop):Prop:=
 match (execOp ρ o).run P W with
 | .ok (.value v) W'=>N v W'
 | .ok .skip W'=>N undef W'
 | .ok (.enter f args) W'=>Calls P f args W' fun
   | .returned v,W''=>N v W''
   | .panicked c,W''=>Pan c W''
   | .outgrown,_=>False
 | .ok (.row row args) W'=>Rows P row args W' N
 | .halt (.panic v) W'=>Pan [{ v,recovered:=false }] W'
 | _=>False
namespace Reg
def edges (ops:Array Oper) (k:Nat):List Nat:=
 match ops[k]? with
 | none=> []
 | some o=>(o.after.toList.filter (Region.binds .any)).map (·.on)
def dstOf (ops:Array Oper) (j:Nat):Option Tmp:=(ops[j]?).bind (·.dst)
def sees (ops:Array Oper) (o:Oper):List Tmp:=o.looksAt ops
def at_ (a:Act):Option Tmp→Value
 | some t=>(a.tmps[t]?).getD undef
 | none=>undef
def val (ops:Array Oper) (a:Act) (j:Nat):Value:=at_ a (dstOf ops j)
inductive Anc (ops:Array Oper):Nat→Nat→Prop
 | one {j k} : j∈edges ops k→Anc ops j k
 | more {i j k} : Anc ops i j→j∈edges ops k→Anc ops i k
def closure (ops:Array Oper):Nat→List (List Nat)
 | 0=> []
 | k+1=>let c:=closure ops k; c ++ [((edges ops k)++(edges ops k).flatMap fun j=>c.getD j []).eraseDups]
def tidy (ops:Array Oper) (n:Nat):Bool:=
 let c:=closure ops ops.size
 let ks:=List.range ops.size
 Region.noSelect ops &&
 (ks.all fun k=>(edges ops k).all fun j=>decide (j<k)) &&
 (ks.all fun k=>match dstOf ops k with
  | none=>true
  | some t=>decide (t<n)&&ks.all fun j=>j==k||dstOf ops j != some t) &&
 (ks.all fun k=>match ops[k]? with
  | none=>true
  | some o=>(o.looksAt ops).all fun t=>ks.all fun j=>dstOf ops j != some t||(c.getD k []).contains j||(c.getD j []).contains k)
def subs (ops:Array Oper) (isC:Nat→Bool) (pre:Nat→List (Nat×Option Tmp)) (post:Nat→List Nat):Bool:=
 let c:=closure ops ops.size
 ((List.range ops.size).all fun k=>((pre k).all fun p=>(c.getD k []).contains p.1&&dstOf ops p.1==p.2)&&(isC k||(dstOf ops k).isSome)&&(post k).all fun j=>(c.getD j []).contains k) &&
 (pre ops.size).all fun p=>decide (p.1<ops.size)&&dstOf ops p.1==p.2
theorem closure_length (ops:Array Oper) (n:Nat):(closure ops n).length=n:=by
 induction n with
 | zero=>rfl
 | succ n ih=>simp[closure,ih]
theorem closure_get (ops:Array Oper) {n k:Nat} (h:k<n):(closure ops n).getD k []=((edges ops k)++(edges ops k).flatMap fun j=>(closure ops k).getD j []).eraseDups:=by
 induction n with
 | zero=>omega
 | succ n ih=>
  simp only[closure]
  rcases Nat.lt_or_ge k n with hk | hk
  ·
   rw[List.getD_eq_getElem?_getD,List.getElem?_append_left (by rw[closure_length]; exact hk),← List.getD_eq_getElem?_getD]
   exact ih hk
  ·
   obtain rfl:k=n:=by omega
   rw[List.getD_eq_getElem?_getD,List.getElem?_append_right (by rw[closure_length]; omega),closure_length]
   simp
theorem closure_anc (ops:Array Oper):∀ (n k j:Nat),j∈(closure ops n).getD k []→Anc ops j k:=by
 intro n k
 induction k using Nat.strongRecOn generalizing n with
 | _ k ih=>
  intro j hj
  rcases Nat.lt_or_ge k n with hk | hk
  ·
   rw[closure_get ops hk,List.mem_eraseDups,List.mem_append,List.mem_flatMap]at hj
   rcases hj with hj | ⟨m,hm,hj⟩
   · exact .one hj
   ·
    rcases Nat.lt_or_ge m k with hmk | hmk
    · exact .more (ih m hmk k j hj) hm
    ·
     rw[List.getD_eq_getElem?_getD,List.getElem?_eq_none (by rw[closure_length]; exact hmk)]at hj
     cases hj
  ·
   rw[List.getD_eq_getElem?_getD,List.getElem?_eq_none (by rw[closure_length]; exact hk)]at hj
   cases hj
structure Tidy (ops:Array Oper) (n:Nat):Prop where
 sel:∀ (j:Nat) (o:Oper) cs b,ops[j]? = some o→o.op≠ .select cs b
 back:∀j k,j∈edges ops k→j<k
 inb:∀k t,dstOf ops k=some t→t<n
 once:∀j k t,dstOf ops j=some t→dstOf ops k=some t→j=k
 look:∀k o t j,ops[k]? = some o→t∈o.looksAt ops→dstOf ops j=some t→Anc ops j k∨Anc ops k j
theorem lt_of_dst {ops:Array Oper} {k t:Nat} (h:dstOf ops k=some t):k<ops.size:=by
 rcases Nat.lt_or_ge k ops.size with g | g
 · exact g
 · unfold dstOf at h; rw[Array.getElem?_eq_none g]at h; cases h
theorem lt_of_get {ops:Array Oper} {k:Nat} {o:Oper} (h:ops[k]? = some o):k<ops.size:=(Array.getElem?_eq_some_iff.1 h).1
theorem tidy_spec {ops:Array Oper} {n:Nat} (h:tidy ops n=true):Tidy ops n:=by
 unfold tidy at h
 simp only[Bool.and_eq_true,List.all_eq_true,List.mem_range]at h
 obtain⟨⟨⟨h1,h2⟩,h3⟩,h4⟩:=h
 refine⟨fun j o cs b=>Region.noSelect_spec h1 j o cs b,?_,?_,?_,?_⟩
 ·
  intro j k hj
  rcases Nat.lt_or_ge k ops.size with g | g
  · exact of_decide_eq_true (h2 k g j hj)
  · unfold edges at hj; rw[Array.getElem?_eq_none g]at hj; cases hj
 ·
  intro k t hk
  have:=h3 k (lt_of_dst hk)
  rw[hk]at this
  simp only[Bool.and_eq_true,decide_eq_true_eq]at this
  exact this.1
 ·
  intro j k t hj hk
  have:=h3 k (lt_of_dst hk)
  rw[hk]at this
  simp only[Bool.and_eq_true,List.all_eq_true,List.mem_range,Bool.or_eq_true,beq_iff_eq,bne_iff_ne]at this
  rcases this.2 j (lt_of_dst hj)with e | e
  · exact e
  · exact absurd hj e
 ·
  intro k o t j ho ht hj
  have:=h4 k (lt_of_get ho)
  rw[ho]at this
  simp only[List.all_eq_true,List.mem_range,Bool.or_eq_true,bne_iff_ne,List.contains_iff_mem]at this
  rcases this t ht j (lt_of_dst hj)with(e | e) | e
  · exact absurd hj e
  · exact .inl (closure_anc _ _ _ _ e)
  · exact .inr (closure_anc _ _ _ _ e)
theorem Anc.lt {ops:Array Oper} {n j k:Nat} (T:Tidy ops n) (h:Anc ops j k):j<k:=by
 induction h with
 | one h=>exact T.back _ _ h
 | more _ h ih=>have:=T.back _ _ h; omega
theorem Anc.trans {ops:Array Oper} {i j k:Nat} (h:Anc ops i j) (h':Anc ops j k):Anc ops i k:=by
 induction h' with
 | one h'=>exact .more h h'
 | more _ h' ih=>exact .more ih h'
structure Subs (ops:Array Oper) (isC:Nat→Bool) (pre:Nat→List (Nat×Option Tmp)) (post:Nat→List Nat):Prop where
 aft:∀k j,k<ops.size→j∈post k→Anc ops k j
 fore:∀k p,k<ops.size→p∈pre k→Anc ops p.1 k∧dstOf ops p.1=p.2
 some_:∀k,k<ops.size→isC k=false→∃t,dstOf ops k=some t
 fin:∀p,p∈pre ops.size→p.1<ops.size∧dstOf ops p.1=p.2
theorem subs_spec {ops:Array Oper} {isC:Nat→Bool} {pre:Nat→List (Nat×Option Tmp)} {post:Nat→List Nat} (h:subs ops isC pre post=true):Subs ops isC pre post:=by
 unfold subs at h
 simp only[Bool.and_eq_true,List.all_eq_true,List.mem_range,Bool.or_eq_true,List.contains_iff_mem,beq_iff_eq,decide_eq_true_eq]at h
 refine⟨fun k j hk hj=>closure_anc _ _ _ _ ((h.1 k hk).2 j hj),fun k p hk hp=> ?_,fun k hk hc=> ?_,fun p hp=>h.2 p hp⟩
 ·
  obtain⟨h1,h2⟩:=(h.1 k hk).1.1 p hp
  exact⟨closure_anc _ _ _ _ h1,h2⟩
 ·
  rcases(h.1 k hk).1.2 with e | e
  · rw[hc]at e; cases e
  · exact Option.isSome_iff_exists.1 e
section
variable (P:Program) (ops:Array Oper) (Q:Exit→Act→World→Prop) (J:(Nat→Bool)→(Nat→Value)→World→Prop) (isC:Nat→Bool) (V:Nat→Value→Prop) (G:Nat→Value→World→Prop) (Sx:Nat→World→World→Prop) (Pan:List PanicEntry→World→Prop) (pre:Nat→List (Nat×Option Tmp)) (post:Nat→List Nat)
def Facts (k:Nat) (a:Act) (D:Nat→Bool) (v:Nat→Value) (W:World):Prop:=∀p∈pre k,isC p.1=true→D p.1=true∧v p.1=at_ a p.2∧G p.1 (at_ a p.2) W
def dv (o:Oper) (x:Value):Value:=match o.dst with | some _=>x | none=>undef
def upd (D:Nat→Bool) (k:Nat):Nat→Bool:=fun j=>j==k||D j
def updv (v:Nat→Value) (k:Nat) (x:Value):Nat→Value:=fun j=>if j=k then x else v j
def Cond (k:Nat) (D:Nat→Bool):Prop:=D k=false∧∀j∈post k,D j=false
def CallOk (k:Nat) (o:Oper) (a:Act) (D:Nat→Bool) (v:Nat→Value) (W:World):Prop:=
 if Region.wanted o (yielded ops a.tmps)=true then Does P o a.eval W Pan (fun x W'=>Sx k W W'∧J (upd D k) (updv v k (dv o x)) W'∧G k (dv o x) W'∧V k (dv o x))else J (upd D k) (updv v k undef) W∧G k undef W∧V k undef
def PureOk (o:Oper) (a:Act) (x:Value) (W:World):Prop:=
 if Region.wanted o (yielded ops a.tmps)=true then(execOp a.eval o).run P W = .ok (.value x) W∨((execOp a.eval o).run P W = .ok .skip W∧x=undef)else x=undef
def RC:Nat→List Oper→Act→Prop
 | k,[],a=>∀D v W,(∀j,j<k→D j=isC j)→J D v W→Facts isC G pre k a D v W→Q .normal a W
 | k,o::rest,a=>
  if isC k=true then(∀D v W,Cond post k D→J D v W→Facts isC G pre k a D v W→CallOk P ops J V G Sx Pan k o a D v W)∧∀x,V k x→RC (k+1) rest (a.put o.dst x)
  else ∃x,(∀D v W,Cond post k D→J D v W→Facts isC G pre k a D v W→PureOk P ops o a x W)∧RC (k+1) rest (a.put o.dst x)
end
section
variable {P:Program} {ops:Array Oper} {Q:Exit→Act→World→Prop} {J:(Nat→Bool)→(Nat→Value)→World→Prop} {isC:Nat→Bool} {V:Nat→Value→Prop} {G:Nat→Value→World→Prop} {Sx:Nat→World→World→Prop} {Pan:List PanicEntry→World→Prop} {pre:Nat→List (Nat×Option Tmp)} {post:Nat→List Nat}
theorem RC_trace (xs:Nat→Value) (hx:∀k,V k (xs k)):∀ (l:List Oper) (k:Nat) (a:Act),RC P ops Q J isC V G Sx Pan pre post k l a→
  ∃ (tr:Nat→Act) (y:Nat→Value),tr k=a∧(∀i o,l[i]? = some o→tr (k+i+1)=(tr (k+i)).put o.dst (y (k+i))∧
   (isC (k+i)=true→y (k+i)=xs (k+i)∧∀D v W,Cond post (k+i) D→J D v W→Facts isC G pre (k+i) (tr (k+i)) D v W→CallOk P ops J V G Sx Pan (k+i) o (tr (k+i)) D v W)∧
   (isC (k+i)=false→∀D v W,Cond post (k+i) D→J D v W→Facts isC G pre (k+i) (tr (k+i)) D v W→PureOk P ops o (tr (k+i)) (y (k+i)) W))∧
   (∀D v W,(∀j,j<k+l.length→D j=isC j)→J D v W→Facts isC G pre (k+l.length) (tr (k+l.length)) D v W→Q .normal (tr (k+l.length)) W):=by
 intro l
 induction l with
 | nil=>
  intro k a h
  refine⟨fun _=>a,xs,rfl,fun i o hi=>by simp at hi,?_⟩
  exact h
 | cons o rest ih=>
  intro k a h
  have key:∃x,RC P ops Q J isC V G Sx Pan pre post (k+1) rest (a.put o.dst x)∧
    (isC k=true→x=xs k∧∀D v W,Cond post k D→J D v W→Facts isC G pre k a D v W→CallOk P ops J V G Sx Pan k o a D v W)∧
    (isC k=false→∀D v W,Cond post k D→J D v W→Facts isC G pre k a D v W→PureOk P ops o a x W):=by
   unfold RC at h
   split at h
   ·
    rename_i hc
    exact⟨xs k,h.2 _ (hx k),fun _=>⟨rfl,h.1⟩,fun h'=>by rw[hc]at h'; cases h'⟩
   ·
    rename_i hc
    obtain⟨x,h1,h2⟩:=h
    exact⟨x,h2,fun h'=>absurd h' hc,fun _=>h1⟩
  obtain⟨x,hr,hc1,hc2⟩:=key
  obtain⟨tr,y,ht,hs,hf⟩:=ih (k+1) _ hr
  refine⟨fun i=>if i≤k then a else tr i,fun i=>if i≤k then x else y i,by simp,?_,?_⟩
  ·
   intro i o' hi
   cases i with
   | zero=>
    simp only[List.getElem?_cons_zero,Option.some.injEq]at hi
    subst hi
    simp only[Nat.add_zero,Nat.le_refl,if_true,if_neg (show ¬(k+1≤k) by omega),ht]
    exact⟨trivial,hc1,hc2⟩
   | succ i=>
    rw[List.getElem?_cons_succ]at hi
    have:=hs i o' hi
    have e:k+1+i=k+(i+1):=by omega
    rw[e]at this
    simp only[if_neg (show ¬(k+(i+1)≤k) by omega),if_neg (show ¬(k+(i+1)+1≤k) by omega)]
    exact this
  ·
   have e:k+1+rest.length=k+(o::rest).length:=by simp; omega
   rw[e]at hf
   simp only[if_neg (show ¬(k+(o::rest).length≤k) by simp)]
   exact hf
theorem looks_of_operand {ops:Array Oper} {o:Oper} {t:Tmp} (h:Operand.tmp t∈o.op.operands):t∈o.looksAt ops:=
 List.mem_append_left _ (List.mem_filterMap.2 ⟨.tmp t,by simpa using h,rfl⟩)
theorem exec_agree {o:Oper} {a b:Act} (hs:∀cs c,o.op≠ .select cs c) (h:∀t,t∈o.looksAt ops→a.tmps[t]? = b.tmps[t]?):execOp a.eval o=execOp b.eval o:=
 execOp_congr o hs fun x hx=>by
  cases x with
  | tmp t=>simp only[Act.eval,Array.getD_eq_getD_getElem?,h t (looks_of_operand hx)]
  | _=>rfl
theorem wanted_agree {o:Oper} {a b:Act} (h:∀t,t∈o.looksAt ops→a.tmps[t]? = b.tmps[t]?):Region.wanted o (yielded ops a.tmps)=Region.wanted o (yielded ops b.tmps):=by
 unfold Region.wanted
 cases hg:o.guard with
 | none=>rfl
 | some gw=>
  obtain⟨g,want⟩:=gw
  have:yielded ops a.tmps g=yielded ops b.tmps g:=by
   unfold yielded
   cases hd:(ops[g]?).bind (·.dst)with
   | none=>rfl
   | some t=>
    have:=h t (List.mem_append_right _ (by simp[hg,hd]))
    simp[this]
  simp only[this]
theorem does_wp {o:Oper} {a:Act} {W:World} {N:Value→World→Prop} {K:Act→World→Prop} (h:Does P o a.eval W Pan N) (hK:∀x W',N x W'→K (a.put o.dst x) W')
  (hP:∀c W',Pan c W'→Q (.panic c) a W'):o.wp P a W K Q:=by
 unfold Does at h
 unfold Oper.wp
 split at h
 · rename_i heq; rw[heq,Oper.upon_value]; exact hK _ _ h
 · rename_i heq; rw[heq,Oper.upon_skip]; exact hK _ _ h
 ·
  rename_i heq
  rw[heq,Oper.upon_enter]
  refine Calls.mono h fun e W'' he=> ?_
  cases e with
  | returned v=>exact hK _ _ he
  | panicked c=>exact hP _ _ he
  | outgrown=>exact he.elim
 · rename_i heq; rw[heq,Oper.upon_row]; exact Rows.mono h fun v W'' he=>hK _ _ he
 · rename_i heq; rw[heq,Oper.upon_panic]; exact hP _ _ h
 · exact h.elim
theorem put_ne {a:Act} {d:Option Tmp} {v:Value} {t:Tmp} (h:d≠some t):(a.put d v).tmps[t]? = a.tmps[t]? :=by
 cases d with
 | none=>rfl
 | some d=>
  have:d≠t:=fun e=>h (e▸rfl)
  simp[Act.put,Array.getElem?_setIfInBounds_ne this]
theorem put_eq {a:Act} {v:Value} {t:Tmp} (h:t<a.tmps.size):(a.put (some t) v).tmps[t]? = some v:=by
 simp[Act.put,h]
theorem put_size (a:Act) (d:Option Tmp) (v:Value):(a.put d v).tmps.size=a.tmps.size:=by cases d<;>simp[Act.put]
theorem put_defs (a:Act) (d:Option Tmp) (v:Value):(a.put d v).defers=a.defers:=by cases d<;>rfl
def done (isC:Nat→Bool) (listed:Array Bool):Nat→Bool:=fun j=>isC j&&listed.getD j false
structure Inv (P:Program) (ops:Array Oper) (J:(Nat→Bool)→(Nat→Value)→World→Prop) (isC:Nat→Bool) (V:Nat→Value→Prop) (G:Nat→Value→World→Prop) (pre:Nat→List (Nat×Option Tmp)) (post:Nat→List Nat) (base:Act) (listed:Array Bool) (a:Act) (W:World):Prop where
 j:J (done isC listed) (val ops a) W
 n:listed.size=ops.size
 closed:∀k,listed.getD k false=true→∀i∈edges ops k,listed.getD i false=true
 defs:a.defers=base.defers
 size:a.tmps.size=base.tmps.size
 old:∀t,(∀k,listed.getD k false=true→dstOf ops k≠some t)→a.tmps[t]? = base.tmps[t]?
 call:∀k,listed.getD k false=true→isC k=true→G k (val ops a k) W∧V k (val ops a k)
 pur:∀k o t,listed.getD k false=true→isC k=false→ops[k]? = some o→dstOf ops k=some t→∃b:Act,
  (∀u j,Anc ops j k→dstOf ops j=some u→b.tmps[u]? = a.tmps[u]?)∧(∀u,u∈o.looksAt ops→(∀j,Anc ops j k→dstOf ops j≠some u)→b.tmps[u]? = base.tmps[u]?)∧
  (∀D v W,Cond post k D→J D v W→Facts isC G pre k a D v W→PureOk P ops o b (val ops a k) W)∧∃D v W,Cond post k D∧J D v W∧Facts isC G pre k a D v W
theorem Inv.anc {base:Act} {listed:Array Bool} {a:Act} {W:World} (I:Inv P ops J isC V G pre post base listed a W) {j k:Nat} (h:Anc ops j k) (hk:listed.getD k false=true):listed.getD j false=true:=by
 induction h with
 | one h=>exact I.closed _ hk _ h
 | more _ h ih=>exact ih (I.closed _ hk _ h)
theorem at_agree {a b:Act} {d:Option Tmp} (h:∀t,d=some t→a.tmps[t]? = b.tmps[t]?):at_ a d=at_ b d:=by
 cases d with
 | none=>rfl
 | some t=>simp only[at_,h t rfl]
theorem facts_agree {k:Nat} {a b:Act} {D:Nat→Bool} {v:Nat→Value} {W:World} (h:∀p∈pre k,at_ a p.2=at_ b p.2) (hf:Facts isC G pre k a D v W):Facts isC G pre k b D v W:=
 fun p hp hc=>h p hp▸hf p hp hc
theorem does_congr {o:Oper} {ρ ρ':Operand→Value} {W:World} {N:Value→World→Prop} (e:execOp ρ o=execOp ρ' o) (h:Does P o ρ W Pan N):Does P o ρ' W Pan N:=by
 unfold Does at *
 rwa[← e]
theorem pure_agree {o:Oper} {a b:Act} {x:Value} {W:World} (hs:∀cs c,o.op≠ .select cs c) (h:∀t,t∈o.looksAt ops→a.tmps[t]? = b.tmps[t]?) (hp:PureOk P ops o a x W):PureOk P ops o b x W:=by
 unfold PureOk at *
 rwa[← wanted_agree h,← exec_agree hs h]
theorem call_agree {k:Nat} {o:Oper} {a b:Act} {D:Nat→Bool} {v:Nat→Value} {W:World} (hs:∀cs c,o.op≠ .select cs c) (h:∀t,t∈o.looksAt ops→a.tmps[t]? = b.tmps[t]?) (hp:CallOk P ops J V G Sx Pan k o a D v W):CallOk P ops J V G Sx Pan k o b D v W:=by
 unfold CallOk at *
 rw[← wanted_agree h]
 split
 · rename_i hw; rw[if_pos hw]at hp; exact does_congr (exec_agree hs h) hp
 · rename_i hw; rwa[if_neg hw]at hp
theorem pure_one {o:Oper} {a:Act} {x y:Value} {W:World} (h:PureOk P ops o a x W) (h':PureOk P ops o a y W):x=y:=by
 unfold PureOk at *
 split at h
 ·
  rename_i hw
  rw[if_pos hw]at h'
  rcases h with h | ⟨h,rfl⟩<;>rcases h' with h' | ⟨h',rfl⟩<;>rw[h]at h'<;>simp at h'; try exact h'
 ·
  rename_i hw
  rw[if_neg hw]at h'
  rw[h,h']
theorem tr_size {tr:Nat→Act} {y:Nat→Value} {base:Act} (h0:tr 0=base) (hs:∀i o,ops[i]? = some o→tr (i+1)=(tr i).put o.dst (y i)) :
  ∀k,k≤ops.size→(tr k).tmps.size=base.tmps.size∧(tr k).defers=base.defers:=by
 intro k
 induction k with
 | zero=>intro _; rw[h0]; exact⟨rfl,rfl⟩
 | succ k ih=>
  intro hk
  obtain⟨h1,h2⟩:=ih (by omega)
  obtain⟨o,ho⟩:∃o,ops[k]? = some o:=⟨_,Array.getElem?_eq_getElem (by omega)⟩
  rw[hs k o ho]
  exact⟨(put_size _ _ _).trans h1,(put_defs _ _ _).trans h2⟩
theorem tr_slot {n:Nat} (T:Tidy ops n) {tr:Nat→Act} {y:Nat→Value} {base:Act} (hn:base.tmps.size=n) (h0:tr 0=base) (hs:∀i o,ops[i]? = some o→tr (i+1)=(tr i).put o.dst (y i)) :
  ∀k,k≤ops.size→(∀j t,j<k→dstOf ops j=some t→(tr k).tmps[t]? = some (y j))∧(∀t,(∀j,j<k→dstOf ops j≠some t)→(tr k).tmps[t]? = base.tmps[t]?):=by
 intro k
 induction k with
 | zero=>intro _; rw[h0]; exact⟨fun j t h=>absurd h (Nat.not_lt_zero _),fun _ _=>rfl⟩
 | succ k ih=>
  intro hk
  obtain⟨h1,h2⟩:=ih (by omega)
  obtain⟨o,ho⟩:∃o,ops[k]? = some o:=⟨_,Array.getElem?_eq_getElem (by omega)⟩
  have hd:dstOf ops k=o.dst:=by unfold dstOf; rw[ho]; rfl
  have hz:=(tr_size h0 hs k (by omega)).1
  rw[hs k o ho]
  refine⟨fun j t hj ht=> ?_,fun t ht=> ?_⟩
  ·
   rcases Nat.lt_or_ge j k with g | g
   ·
    rw[put_ne,h1 j t g ht]
    intro e
    rw[← hd]at e
    have:=T.once j k t ht e
    omega
   ·
    obtain rfl:j=k:=by omega
    rw[hd]at ht
    rw[ht,put_eq]
    rw[hz,hn]
    exact T.inb j t (hd.trans ht)
  ·
   rw[put_ne (fun e=>ht k (by omega) (hd.trans e))]
   exact h2 t fun j hj=>ht j (by omega)
theorem getD_set {listed:Array Bool} {i k:Nat} (h:(listed.setIfInBounds i true).getD k false=true):k=i∨listed.getD k false=true:=by
 by_cases e:i=k
 · exact .inl e.symm
 · rw[getD_set_ne false e]at h; exact .inr h
theorem getD_set_self {listed:Array Bool} {i:Nat} (h:i<listed.size):(listed.setIfInBounds i true).getD i false=true:=by simp[h]
theorem mem_edges {k j:Nat} {o:Oper} (ho:ops[k]? = some o):j∈edges ops k↔∃e∈o.after,Region.binds .any e=true∧e.on=j:=by
 unfold edges
 rw[ho]
 simp[and_assoc]
theorem agree (S:Subs ops isC pre post) {base:Act} (T:Tidy ops base.tmps.size) {listed:Array Bool} {a:Act} {W:World} (I:Inv P ops J isC V G pre post base listed a W)
  {tr:Nat→Act} {y:Nat→Value} (h0:tr 0=base) (hs:∀i o,ops[i]? = some o→tr (i+1)=(tr i).put o.dst (y i))
  (hc:∀i,i<ops.size→listed.getD i false=true→isC i=true→y i=val ops a i)
  (hp:∀i o,ops[i]? = some o→isC i=false→∀D v W,Cond post i D→J D v W→Facts isC G pre i (tr i) D v W→PureOk P ops o (tr i) (y i) W) :
  ∀k,k<ops.size→(∀j,Anc ops j k→listed.getD j false=true)→
   (∀o,ops[k]? = some o→∀t,t∈o.looksAt ops→(∀j,Anc ops j k→dstOf ops j=some t→(tr k).tmps[t]? = a.tmps[t]?)∧((∀j,Anc ops j k→dstOf ops j≠some t)→(tr k).tmps[t]? = base.tmps[t]?))∧
   (∀p∈pre k,at_ (tr k) p.2=at_ a p.2)∧(listed.getD k false=true→y k=val ops a k):=by
 intro k
 induction k using Nat.strongRecOn with
 | _ k ih=>
  intro hk hl
  have sl:∀j t,Anc ops j k→dstOf ops j=some t→(tr k).tmps[t]? = a.tmps[t]? :=fun j t hj ht=>by
   have hjk:=hj.lt T
   have:=(ih j hjk (by omega) fun i hi=>hl i (hi.trans hj)).2.2 (hl j hj)
   rw[(tr_slot T rfl h0 hs k (by omega)).1 j t hjk ht,this]
   unfold val at_
   simp only[ht]
   have hb:t<a.tmps.size:=by rw[I.size]; exact T.inb j t ht
   rw[Array.getElem?_eq_getElem hb]; rfl
  have A1:∀o,ops[k]? = some o→∀t,t∈o.looksAt ops→(∀j,Anc ops j k→dstOf ops j=some t→(tr k).tmps[t]? = a.tmps[t]?)∧((∀j,Anc ops j k→dstOf ops j≠some t)→(tr k).tmps[t]? = base.tmps[t]?):=fun o ho t ht=>
   ⟨fun j hj hjt=>sl j t hj hjt,fun hn=>(tr_slot T rfl h0 hs k (by omega)).2 t fun j hjk hjt=>by
    rcases T.look k o t j ho ht hjt with h | h
    · exact hn j h hjt
    · have:=h.lt T; omega⟩
  have A2:∀p∈pre k,at_ (tr k) p.2=at_ a p.2:=fun p hp=>by
   obtain⟨h1,h2⟩:=S.fore k p hk hp
   exact at_agree fun t ht=>sl p.1 t h1 (h2.trans ht)
  refine⟨A1,A2,fun hkl=> ?_⟩
  cases hck:isC k with
  | true=>exact hc k hk hkl hck
  | false=>
   obtain⟨t,ht⟩:=S.some_ k hk hck
   obtain⟨o,ho⟩:∃o,ops[k]? = some o:=⟨_,Array.getElem?_eq_getElem hk⟩
   obtain⟨b,b1,b2,P1,D1,v1,W1,C1,J1,F1⟩:=I.pur k o t hkl hck ho ht
   have F':Facts isC G pre k (tr k) D1 v1 W1:=facts_agree (fun p hp=>(A2 p hp).symm) F1
   refine pure_one (pure_agree (fun cs c=>T.sel k o cs c ho) (fun u hu=> ?_) (hp k o ho hck D1 v1 W1 C1 J1 F')) (P1 D1 v1 W1 C1 J1 F1)
   by_cases hw:∃j,Anc ops j k∧dstOf ops j=some u
   ·
    obtain⟨j,hj,hju⟩:=hw
    exact((A1 o ho u hu).1 j hj hju).trans (b1 u j hj hju).symm
   ·
    have hn:∀j,Anc ops j k→dstOf ops j≠some u:=fun j hj hju=>hw ⟨j,hj,hju⟩
    exact((A1 o ho u hu).2 hn).trans (b2 u hu hn).symm
theorem chain_start {base:Act} {W:World} (hJ0:∀v,J (fun _=>false) v W):Inv P ops J isC V G pre post base (Array.replicate ops.size false) base W:=by
 have no:∀k,(Array.replicate ops.size false).getD k false=true→False:=fun k hk=>by
  simp only[Array.getD_eq_getD_getElem?,Array.getElem?_replicate]at hk
  split at hk<;>cases hk
 have hd0:done isC (Array.replicate ops.size false)=fun _=>false:=funext fun k=>by
  unfold done
  cases hk:(Array.replicate ops.size false).getD k false with
  | true=>exact(no k hk).elim
  | false=>simp
 exact⟨hd0▸hJ0 _,by simp,fun k hk=>(no k hk).elim,rfl,rfl,fun _ _=>rfl,fun k hk=>(no k hk).elim,fun k _ _ hk=>(no k hk).elim⟩
theorem chain_step {base:Act} (ht:tidy ops base.tmps.size=true) (hsub:subs ops isC pre post=true)
  (hV:∀k,∃x,V k x) (hJv:∀D v v' W,(∀j,D j=true→v j=v' j)→J D v W→J D v' W)
  (hG:∀D v k j W W' x,j≠k→isC j=true→isC k=true→J D v W→Sx k W W'→G j x W→G j x W')
  (hP:∀a W c,a.defers=base.defers→Pan c W→Q (.panic c) a W)
  (h:RC P ops Q J isC V G Sx Pan pre post 0 ops.toList base) :
  ∀listed a W i,Inv P ops J isC V G pre post base listed a W→i∈Region.ready .any ops listed→wpOp P ops Q i (fun a' W'=>Inv P ops J isC V G pre post base (listed.setIfInBounds i true) a' W') a W:=by
 have T:=tidy_spec ht
 have S:=subs_spec hsub
 intro listed a W i I hi
 obtain⟨hun,o,ho,hall⟩:=mem_ready.1 hi
 have hik:i<ops.size:=lt_of_get ho
 have hd:dstOf ops i=o.dst:=by unfold dstOf; rw[ho]; rfl
 have hedge:∀j∈edges ops i,listed.getD j false=true:=fun j hj=>by
  obtain⟨e,he,hb,rfl⟩:=(mem_edges ho).1 hj
  exact hall e he hb
 have hl:∀j,Anc ops j i→listed.getD j false=true:=fun j hj=>by
  cases hj with
  | one h=>exact hedge j h
  | more h1 h2=>exact I.anc h1 (hedge _ h2)
 have hnl:¬listed.getD i false=true:=fun hc=>by
  have hlt:i<listed.size:=I.n▸hik
  simp[hlt]at hun hc
  rw[hun]at hc; cases hc
 obtain⟨xs,hx,hxe⟩:∃xs:Nat→Value,(∀k,V k (xs k))∧∀k,V k (val ops a k)→xs k=val ops a k:=by
  classical
  refine⟨fun k=>if V k (val ops a k)then val ops a k else(hV k).choose,fun k=> ?_,fun k hk=>by simp only[if_pos hk]⟩
  by_cases hk:V k (val ops a k)
  · simp only[if_pos hk]; exact hk
  · simp only[if_neg hk]; exact(hV k).choose_spec
 obtain⟨tr,y,h0,hs,hf⟩:=RC_trace xs hx ops.toList 0 base h
 have hs':∀i o,ops[i]? = some o→tr (i+1)=(tr i).put o.dst (y i):=fun i o ho=>by
  have:=(hs i o (by simpa using ho)).1
  simpa using this
 have hc':∀i,i<ops.size→listed.getD i false=true→isC i=true→y i=val ops a i:=fun i hi hli hci=>by
  have:=(hs i ops[i] (by simp[hi])).2.1
  simp only[Nat.zero_add]at this
  exact(this hci).1.trans (hxe i (I.call i hli hci).2)
 have hp':∀i o,ops[i]? = some o→isC i=false→∀D v W,Cond post i D→J D v W→Facts isC G pre i (tr i) D v W→PureOk P ops o (tr i) (y i) W:=fun i o ho hci=>by
  have:=(hs i o (by simpa using ho)).2.2
  simp only[Nat.zero_add]at this
  exact this hci
 obtain⟨A1,A2,-⟩:=agree S T I h0 hs' hc' hp' i hik hl
 have A1:∀t,t∈o.looksAt ops→(tr i).tmps[t]? = a.tmps[t]? :=fun t ht=>by
  by_cases hw:∃j,Anc ops j i∧dstOf ops j=some t
  ·
   obtain⟨j,hj,hjt⟩:=hw
   exact(A1 o ho t ht).1 j hj hjt
  ·
   rw[(A1 o ho t ht).2 fun j hj hjt=>hw ⟨j,hj,hjt⟩,I.old t fun j hj hjt=> ?_]
   rcases T.look i o t j ho ht hjt with h | h
   · exact hw ⟨j,h,hjt⟩
   · exact hnl (I.anc h hj)
 have F:Facts isC G pre i a (done isC listed) (val ops a) W:=fun p hp hcp=>by
  obtain⟨h1,h2⟩:=S.fore i p hik hp
  refine⟨by unfold done; rw[hcp,hl p.1 h1]; rfl,by unfold val; rw[h2],?_⟩
  rw[← h2]
  exact(I.call p.1 (hl p.1 h1) hcp).1
 have F':Facts isC G pre i (tr i) (done isC listed) (val ops a) W:=facts_agree (fun p hp=>(A2 p hp).symm) F
 have sel:=fun cs c=>T.sel i o cs c ho
 have cond:Cond post i (done isC listed):=by
  refine⟨?_,fun j hj=> ?_⟩
  ·
   unfold done; cases h:listed.getD i false with
   | true=>exact absurd h hnl
   | false=>simp
  ·
   unfold done; cases h:listed.getD j false with
   | true=>exact absurd (I.anc (S.aft i j hik hj) h) hnl
   | false=>simp
 have dC:isC i=true→done isC (listed.setIfInBounds i true)=upd (done isC listed) i:=fun hc=>funext fun j=>by
  unfold done upd
  by_cases e:j=i
  · subst e; simp only[getD_set_self (show j<listed.size from I.n▸hik),hc]; simp
  · rw[getD_set_ne false (Ne.symm e)]; simp[e]
 have dP:isC i=false→done isC (listed.setIfInBounds i true)=done isC listed:=fun hc=>funext fun j=>by
  unfold done
  by_cases e:j=i
  · subst e; rw[hc]; simp
  · rw[getD_set_ne false (Ne.symm e)]
 -- what stands, whatever i yields, of the frame behind it
 have keep:∀x k,listed.getD k false=true→∀t,dstOf ops k=some t→(a.put o.dst x).tmps[t]? = a.tmps[t]? :=fun x k hk t htk=>
  put_ne fun e=>hnl (T.once i k t (hd.trans e) htk▸hk)
 have next:∀x W',J (done isC (listed.setIfInBounds i true)) (val ops (a.put o.dst x)) W'→(∀k,listed.getD k false=true→isC k=true→G k (val ops a k) W'∧V k (val ops a k))→(isC i=true→G i (dv o x) W'∧V i (dv o x))→
   (isC i=false→∀D v W,Cond post i D→J D v W→Facts isC G pre i a D v W→PureOk P ops o a x W)→Inv P ops J isC V G pre post base (listed.setIfInBounds i true) (a.put o.dst x) W':=by
  intro x W' hj hg hgi hpi
  have vk:∀k,listed.getD k false=true→val ops (a.put o.dst x) k=val ops a k:=fun k hk=>at_agree fun t htk=>keep x k hk t htk
  have vi:∀t,o.dst=some t→(a.put o.dst x).tmps[t]? = some x:=fun t hdt=>by
   rw[hdt]; exact put_eq (by rw[I.size]; exact T.inb i t (hd.trans hdt))
  refine⟨hj,by simp[I.n],?_,(put_defs _ _ _).trans I.defs,(put_size _ _ _).trans I.size,?_,?_,?_⟩
  ·
   intro k hk j hj'
   rcases getD_set hk with rfl | hk
   · exact getD_set_true (hedge j hj')
   · exact getD_set_true (I.closed k hk j hj')
  ·
   intro t htn
   rw[put_ne fun e=>htn i (getD_set_self (I.n▸hik)) (hd.trans e)]
   exact I.old t fun k hk=>htn k (getD_set_true hk)
  ·
   intro k hk hck
   rcases getD_set hk with rfl | hk
   ·
    have:val ops (a.put o.dst x) k=dv o x:=by
     unfold val; rw[hd]
     cases hdo:o.dst with
     | none=>simp[at_,dv,hdo]
     | some t=>have:=vi t hdo; rw[hdo]at this; simp[at_,dv,hdo,this]
    rw[this]; exact hgi hck
   · rw[vk k hk]; exact hg k hk hck
  ·
   intro k o' t hk hck ho' htk
   have ag:∀p∈pre k,at_ (a.put o.dst x) p.2=at_ a p.2:=fun p hp=>by
    have hkk:k<ops.size:=lt_of_get ho'
    obtain⟨h1,h2⟩:=S.fore k p hkk hp
    have hpl:listed.getD p.1 false=true:=by
     rcases getD_set hk with rfl | hk
     · exact hl _ h1
     · exact I.anc h1 hk
    exact at_agree fun t htp=>keep x p.1 hpl t (h2.trans htp)
   rcases getD_set hk with rfl | hk
   ·
    rw[ho]at ho'
    injection ho' with ho'
    subst ho'
    have e:val ops (a.put o.dst x) k=x:=by
     unfold val; rw[hd]
     rw[hd]at htk
     have:=vi t htk; rw[htk]at this; simp[at_,htk,this]
    refine⟨a,fun u j hj hju=>(keep x j (hl j hj) u hju).symm,fun u hu hn=>I.old u fun j hj hju=> ?_,fun D'' v'' W'' cw hjw hfw=> ?_,?_⟩
    ·
     rcases T.look k o u j ho hu hju with h | h
     · exact hn j h hju
     · exact hnl (I.anc h hj)
    · rw[e]; exact hpi hck D'' v'' W'' cw hjw (facts_agree ag hfw)
    · exact⟨_,_,W,cond,I.j,facts_agree (fun p hp=>(ag p hp).symm) F⟩
   ·
    obtain⟨b,b1,b2,P1,D1,v1,W1,c1,j1,f1⟩:=I.pur k o' t hk hck ho' htk
    refine⟨b,fun u j hj hju=>(b1 u j hj hju).trans (keep x j (I.anc hj hk) u hju).symm,b2,fun D'' v'' W'' cw hjw hfw=> ?_,D1,v1,W1,c1,j1,facts_agree (fun p hp=>(ag p hp).symm) f1⟩
    rw[vk k hk]
    exact P1 D'' v'' W'' cw hjw (facts_agree ag hfw)
 have vx:∀x j,done isC listed j=true→updv (val ops a) i (dv o x) j=val ops (a.put o.dst x) j:=fun x j hj=>by
  unfold done at hj
  simp only[Bool.and_eq_true]at hj
  unfold updv
  rw[if_neg (show ¬j=i from fun e=>hnl (e▸hj.2))]
  exact(at_agree fun t htk=>keep x j hj.2 t htk).symm
 have vi':∀x,val ops (a.put o.dst x) i=dv o x:=fun x=>by
  unfold val; rw[hd]
  cases hdo:o.dst with
  | none=>simp[at_,dv,hdo]
  | some t=>
   have:=put_eq (a:=a) (v:=x) (t:=t) (by rw[I.size]; exact T.inb i t (hd.trans hdo))
   simp[at_,dv,hdo,this]
 have vC:∀x W',isC i=true→J (upd (done isC listed) i) (updv (val ops a) i (dv o x)) W'→J (done isC (listed.setIfInBounds i true)) (val ops (a.put o.dst x)) W':=fun x W' hc h=>by
  rw[dC hc]
  refine hJv _ _ _ _ (fun j hj=> ?_) h
  by_cases e:j=i
  · subst e; unfold updv; rw[if_pos rfl,vi']
  ·
   unfold upd at hj
   simp only[Bool.or_eq_true,beq_iff_eq,e,false_or]at hj
   exact vx x j hj
 have vP:∀x W',isC i=false→J (done isC listed) (val ops a) W'→J (done isC (listed.setIfInBounds i true)) (val ops (a.put o.dst x)) W':=fun x W' hc h=>by
  rw[dP hc]
  refine hJv _ _ _ _ (fun j hj=> ?_) h
  rw[← vx x j hj]
  unfold updv
  rw[if_neg]
  intro e
  subst e
  unfold done at hj
  rw[hc]at hj; cases hj
 unfold wpOp
 rw[ho]
 cases hci:isC i with
 | true=>
  have hC:=(hs i o (by simpa using ho)).2.1
  simp only[Nat.zero_add]at hC
  have hC:=call_agree sel A1 ((hC hci).2 _ _ W cond I.j F')
  unfold CallOk at hC
  simp only
  split
  ·
   rename_i hw
   rw[if_pos hw]at hC
   refine .inl (does_wp hC (fun x W' hx=>next x W' (vC x W' hci hx.2.1) (fun k hk hck=> ?_) (fun _=>hx.2.2) (fun h=>by rw[hci]at h; cases h)) (fun c W' hc=>hP a W' c I.defs hc))
   exact⟨hG _ _ i k W W' _ (fun e=>hnl (e▸hk)) hck hci I.j hx.1 (I.call k hk hck).1,(I.call k hk hck).2⟩
  ·
   rename_i hw
   rw[if_neg hw]at hC
   have e:dv o undef=undef:=by unfold dv; split<;>rfl
   refine next undef W (vC undef W hci (e.symm▸hC.1)) (fun k hk hck=>I.call k hk hck) (fun _=> ?_) (fun h=>by rw[hci]at h; cases h)
   rw[e]; exact hC.2
 | false=>
  have hp:=fun D v W cw hj hf=>pure_agree sel A1 (hp' i o ho hci D v W cw hj (facts_agree (fun p hp=>(A2 p hp).symm) hf))
  have hp1:=hp _ _ W cond I.j F
  unfold PureOk at hp1
  simp only
  have nx:=next (y i) W (vP _ W hci I.j) (fun k hk hck=>I.call k hk hck) (fun h=>by rw[hci]at h; cases h) (fun _=>hp)
  split
  ·
   rename_i hw
   rw[if_pos hw]at hp1
   refine .inl ?_
   unfold Oper.wp
   rcases hp1 with hp1 | ⟨hp1,hy⟩
   · rw[hp1,Oper.upon_value]; exact nx
   · rw[hp1,Oper.upon_skip,← hy]; exact nx
  ·
   rename_i hw
   rw[if_neg hw]at hp1
   rw[← hp1]; exact nx
theorem chain_done {base:Act} (ht:tidy ops base.tmps.size=true) (hsub:subs ops isC pre post=true)
  (hV:∀k,∃x,V k x) (hJv:∀D v v' W,(∀j,D j=true→v j=v' j)→J D v W→J D v' W)
  (hG:∀D v k j W W' x,j≠k→isC j=true→isC k=true→J D v W→Sx k W W'→G j x W→G j x W')
  (hP:∀a W c,a.defers=base.defers→Pan c W→Q (.panic c) a W)
  (h:RC P ops Q J isC V G Sx Pan pre post 0 ops.toList base) :
  ∀listed a W,Inv P ops J isC V G pre post base listed a W→Region.ready .any ops listed = []→Q .normal a W:=by
 have T:=tidy_spec ht
 have S:=subs_spec hsub
 intro listed a W I hr
 -- nothing is left: all are listed
 have all:∀k,k<ops.size→listed.getD k false=true:=by
  intro k
  induction k using Nat.strongRecOn with
  | _ k ih=>
   intro hk
   cases hl:listed.getD k false with
   | true=>rfl
   | false=>
    have:k∈Region.ready .any ops listed:=by
     refine mem_ready.2 ⟨?_,ops[k],by simp[hk],fun e he hb=> ?_⟩
     ·
      have hlt:k<listed.size:=I.n▸hk
      simpa[hlt]using hl
     ·
      have hm:=(mem_edges (ops:=ops) (k:=k) (j:=e.on) (by simp[hk])).2 ⟨e,he,hb,rfl⟩
      have:=T.back _ _ hm
      exact ih e.on this (by omega)
    rw[hr]at this; cases this
 obtain⟨xs,hx,hxe⟩:∃xs:Nat→Value,(∀k,V k (xs k))∧∀k,V k (val ops a k)→xs k=val ops a k:=by
  classical
  refine⟨fun k=>if V k (val ops a k)then val ops a k else(hV k).choose,fun k=> ?_,fun k hk=>by simp only[if_pos hk]⟩
  by_cases hk:V k (val ops a k)
  · simp only[if_pos hk]; exact hk
  · simp only[if_neg hk]; exact(hV k).choose_spec
 obtain⟨tr,y,h0,hs,hf⟩:=RC_trace xs hx ops.toList 0 base h
 have hs':∀i o,ops[i]? = some o→tr (i+1)=(tr i).put o.dst (y i):=fun i o ho=>by
  have:=(hs i o (by simpa using ho)).1
  simpa using this
 have hc':∀i,i<ops.size→listed.getD i false=true→isC i=true→y i=val ops a i:=fun i hi hli hci=>by
  have:=(hs i ops[i] (by simp[hi])).2.1
  simp only[Nat.zero_add]at this
  exact(this hci).1.trans (hxe i (I.call i hli hci).2)
 have hp':∀i o,ops[i]? = some o→isC i=false→∀D v W,Cond post i D→J D v W→Facts isC G pre i (tr i) D v W→PureOk P ops o (tr i) (y i) W:=fun i o ho hci=>by
  have:=(hs i o (by simpa using ho)).2.2
  simp only[Nat.zero_add]at this
  exact this hci
 have Y:∀k,k<ops.size→y k=val ops a k:=fun k hk=>(agree S T I h0 hs' hc' hp' k hk fun j hj=>all j (by have:=hj.lt T; omega)).2.2 (all k hk)
 have E:tr ops.size=a:=by
  have hz:=tr_size h0 hs' ops.size (Nat.le_refl _)
  have hsl:∀t,(tr ops.size).tmps[t]? = a.tmps[t]? :=fun t=>by
   obtain⟨s1,s2⟩:=tr_slot T rfl h0 hs' ops.size (Nat.le_refl _)
   by_cases hw:∃j,j<ops.size∧dstOf ops j=some t
   ·
    obtain⟨j,hj,hjt⟩:=hw
    rw[s1 j t hj hjt,Y j hj]
    unfold val at_
    simp only[hjt]
    have hb:t<a.tmps.size:=by rw[I.size]; exact T.inb j t hjt
    rw[Array.getElem?_eq_getElem hb]; rfl
   · rw[s2 t fun j hj hjt=>hw ⟨j,hj,hjt⟩,I.old t fun j hj hjt=>hw ⟨j,lt_of_dst hjt,hjt⟩]
  have:(tr ops.size).tmps=a.tmps:=Array.ext_getElem? hsl
  have hdf:(tr ops.size).defers=a.defers:=hz.2.trans I.defs.symm
  cases htr:tr ops.size with
  | mk t1 d1=>
   rw[htr]at this hdf
   simp only at this hdf
   subst this hdf
   rfl
 simp only[Nat.zero_add,Array.length_toList]at hf
 rw[E]at hf
 exact hf _ _ W (fun j hj=>by unfold done; rw[all j hj]; simp) I.j fun p hp hcp=>by
  obtain⟨h1,h2⟩:=S.fin p hp
  refine⟨by unfold done; rw[hcp,all p.1 h1]; rfl,by unfold val; rw[h2],?_⟩
  rw[← h2]
  exact(I.call p.1 (all p.1 h1) hcp).1
theorem wp_region_chain {id:Nat} {base:Act} {w:World} (hm:P.follows .mixedOrders=true) (hJ0:∀v,J (fun _=>false) v w.drew) (ht:tidy ops base.tmps.size=true) (hsub:subs ops isC pre post=true)
  (hV:∀k,∃x,V k x) (hJv:∀D v v' W,(∀j,D j=true→v j=v' j)→J D v W→J D v' W)
  (hG:∀D v k j W W' x,j≠k→isC j=true→isC k=true→J D v W→Sx k W W'→G j x W→G j x W')
  (hP:∀a W c,a.defers=base.defers→Pan c W→Q (.panic c) a W)
  (h:RC P ops Q J isC V G Sx Pan pre post 0 ops.toList base):(Code.region id ops true).wp P Q base w:=
 wp_region_inv hm (Inv P ops J isC V G pre post base) (chain_start hJ0) (chain_step ht hsub hV hJv hG hP h) (chain_done ht hsub hV hJv hG hP h)
def still:Op→Bool
 | .nilCheck _ | .go _ | .defer _ | .send _ _ | .recv _ _ _ | .select _ _=>false
 | .call c=>match c.callee with
  | .builtin .len | .builtin .cap | .builtin .min | .builtin .max | .builtin .append | .builtin .copy=>true
  | _=>false
 | _=>true
theorem v_run {s:Sem Value} {P:Program} {W W':World} {r:Next} (h:Sem.run P (do pure (Next.value (← s))) W = .ok r W'):(∃v,r = .value v)∨r = .skip:=by
 rw[Sem.run_bind]at h
 cases hs:Sem.run P s W with
 | ok v W1=>
  rw[hs]at h
  simp only[Result.andThen_ok,Sem.run_pure,Result.ok.injEq]at h
  exact .inl ⟨v,h.1.symm⟩
 | halt x W1=>rw[hs]at h; cases h
theorem p_run {m:Sem Bool} {f:Bool→Value} {P:Program} {W W':World} {r:Next} (h:Sem.run P (do let b ← m; pure (Next.value (f b))) W = .ok r W'):(∃v,r = .value v)∨r = .skip:=by
 rw[Sem.run_bind]at h
 cases hs:Sem.run P m W with
 | ok v W1=>
  rw[hs]at h
  simp only[Result.andThen_ok,Sem.run_pure,Result.ok.injEq]at h
  exact .inl ⟨_,h.1.symm⟩
 | halt x W1=>rw[hs]at h; cases h
theorem u_run {s:Sem Unit} {P:Program} {W W':World} {r:Next} (h:Sem.run P (do s; pure Next.skip) W = .ok r W'):(∃v,r = .value v)∨r = .skip:=by
 rw[Sem.run_bind]at h
 cases hs:Sem.run P s W with
 | ok v W1=>
  rw[hs]at h
  simp only[Result.andThen_ok,Sem.run_pure,Result.ok.injEq]at h
  exact .inr h.1.symm
 | halt x W1=>rw[hs]at h; cases h
theorem still_run {o:Oper} {ρ : Operand→Value} {P:Program} {W W':World} {r:Next} (hs:still o.op=true) (h:(execOp ρ o).run P W = .ok r W'):(∃v,r = .value v)∨r = .skip:=by
 obtain⟨dst,op,type,pos,after,guard⟩:=o
 cases op
 case call c=>
  obtain⟨callee,args,ats⟩:=c
  cases callee with
  | value f=>cases hs
  | invoke x m=>cases hs
  | builtin b=>cases b<;>first | (cases hs; done) | exact v_run h
 all_goals first
  | (cases hs; done)
  | exact v_run h
  | exact u_run h
  | (simp only[execOp,Sem.run_pure,Result.ok.injEq]at h; exact .inl ⟨_,h.1.symm⟩)
  | (simp only[execOp]at h; exact p_run h)
theorem RC_pure {k:Nat} {o:Oper} {rest:List Oper} {a:Act} (a':Act) (x:Value) (hc:isC k=false) (hst:still o.op=true) (hw:Region.wanted o (yielded ops a.tmps)=true)
  (h:∀D v W,Cond post k D→J D v W→Facts isC G pre k a D v W→∀K:Act→World→Prop,Hid (K a' W)→o.wp P a W K (fun _ _ _=>False)) (t:Tmp) (hd:o.dst=some t) (ht:t<a.tmps.size) (hx:a'=a.put o.dst x)
  (hr:RC P ops Q J isC V G Sx Pan pre post (k+1) rest a'):RC P ops Q J isC V G Sx Pan pre post k (o::rest) a:=by
 unfold RC
 rw[if_neg (by rw[hc]; simp)]
 refine⟨x,fun D v W cw hj hf=> ?_,hx▸hr⟩
 have h:=h D v W cw hj hf (fun a'' W'=>a''=a'∧W'=W) ⟨rfl,rfl⟩
 unfold PureOk
 rw[if_pos hw]
 have eqx:∀v,a.put o.dst v=a'→v=x:=fun v hv=>by
  rw[hx,hd]at hv
  have h1:=put_eq (v:=v) ht
  rw[hv,put_eq ht]at h1
  injection h1 with h1
  exact h1.symm
 unfold Oper.wp at h
 cases hr:(execOp a.eval o).run P W with
 | ok r W'=>
  rw[hr]at h
  rcases still_run hst hr with⟨v,rfl⟩ | rfl
  ·
   rw[Oper.upon_value]at h
   obtain⟨h1,rfl⟩:=h
   exact .inl (by rw[eqx v h1])
  ·
   rw[Oper.upon_skip]at h
   obtain⟨h1,rfl⟩:=h
   exact .inr ⟨rfl,(eqx _ h1).symm⟩
 | halt r W'=>
  rw[hr]at h
  cases r<;>exact h.elim
theorem RP {k:Nat} {o:Oper} {rest:List Oper} {a:Act} {a':Act} {x:Value} (hc:isC k=false) (hst:still o.op=true) (hw:Region.wanted o (yielded ops a.tmps)=true)
  (t:Tmp) (hd:o.dst=some t) (ht:Nat.ble (t+1) a.tmps.size=true) (h:∀D v W,Cond post k D→J D v W→Facts isC G pre k a D v W→∀K:Act→World→Prop,Hid (K a' W)→o.wp P a W K (fun _ _ _=>False)) (hx:a'=a.put o.dst x)
  (hr:RC P ops Q J isC V G Sx Pan pre post (k+1) rest a'):RC P ops Q J isC V G Sx Pan pre post k (o::rest) a:=RC_pure a' x hc hst hw h t hd (Nat.le_of_ble_eq_true ht) hx hr
theorem RP0 {k:Nat} {o:Oper} {rest:List Oper} {a:Act} {a':Act} {x:Value} (t:Tmp) (hr:RC P ops Q J isC V G Sx Pan pre post (k+1) rest a') (hc:isC k=false:=by exact rfl) (hst:still o.op=true:=by exact rfl) (hw:Region.wanted o (yielded ops a.tmps)=true:=by exact rfl) (hd:o.dst=some t:=by exact rfl) (ht:Nat.ble (t+1) a.tmps.size=true:=by exact rfl)
  (h:∀D v W,Cond post k D→J D v W→Facts isC G pre k a D v W→∀K:Act→World→Prop,Hid (K a' W)→o.wp P a W K (fun _ _ _=>False):=by (intro D v' W' hc hj hf K hK; go_step; exact hK.out)) (hx:a'=a.put o.dst x:=by exact rfl):RC P ops Q J isC V G Sx Pan pre post k (o::rest) a:=RP hc hst hw t hd ht h hx hr
theorem RPf {k:Nat} {o:Oper} {rest:List Oper} {a:Act} {a':Act} {x:Value} {Φ : World→Prop} (t:Tmp) (φ : ∀D v W,J D v W→Φ W) (hr:RC P ops Q J isC V G Sx Pan pre post (k+1) rest a') (hc:isC k=false:=by exact rfl) (hst:still o.op=true:=by exact rfl) (hw:Region.wanted o (yielded ops a.tmps)=true:=by exact rfl) (hd:o.dst=some t:=by exact rfl) (ht:Nat.ble (t+1) a.tmps.size=true:=by exact rfl)
  (h:∀W,Φ W→∀K:Act→World→Prop,Hid (K a' W)→o.wp P a W K (fun _ _ _=>False):=by (intro W' hf K hK; go_step; exact hK.out)) (hx:a'=a.put o.dst x:=by exact rfl):RC P ops Q J isC V G Sx Pan pre post k (o::rest) a:=RP hc hst hw t hd ht (fun D v W _ hj _ K hK=>h W (φ D v W hj) K hK) hx hr
theorem RPh {k:Nat} {o:Oper} {rest:List Oper} {a:Act} {a':Act} {x:Value} {Φ : World→Prop} {L:Array Oper} (hL:ops=L) (t:Tmp) (φ : ∀D v W,J D v W→Φ W) (hr:RC P ops Q J isC V G Sx Pan pre post (k+1) rest a') (hc:isC k=false:=by exact rfl) (hst:still o.op=true:=by exact rfl) (hw:Region.wanted o (yielded L a.tmps)=true:=by exact rfl) (hd:o.dst=some t:=by exact rfl) (ht:Nat.ble (t+1) a.tmps.size=true:=by exact rfl)
  (h:∀W,Φ W→∀K:Act→World→Prop,Hid (K a' W)→o.wp P a W K (fun _ _ _=>False):=by (intro W' hf K hK; go_step; exact hK.out)) (hx:a'=a.put o.dst x:=by exact rfl):RC P ops Q J isC V G Sx Pan pre post k (o::rest) a:=RP hc hst (by rw[hL]; exact hw) t hd ht (fun D v W _ hj _ K hK=>h W (φ D v W hj) K hK) hx hr
theorem RPg {k:Nat} {o:Oper} {rest:List Oper} {a:Act} {a':Act} {x:Value} {L:Array Oper} (hL:ops=L) (t:Tmp) (hr:RC P ops Q J isC V G Sx Pan pre post (k+1) rest a') (hc:isC k=false:=by exact rfl) (hst:still o.op=true:=by exact rfl) (hw:Region.wanted o (yielded L a.tmps)=true:=by exact rfl) (hd:o.dst=some t:=by exact rfl) (ht:Nat.ble (t+1) a.tmps.size=true:=by exact rfl)
  (h:∀W,∀K:Act→World→Prop,Hid (K a' W)→o.wp P a W K (fun _ _ _=>False):=by (intro W' K hK; go_step; exact hK.out)) (hx:a'=a.put o.dst x:=by exact rfl):RC P ops Q J isC V G Sx Pan pre post k (o::rest) a:=RP hc hst (by rw[hL]; exact hw) t hd ht (fun D v W _ hj _ K hK=>h W K hK) hx hr
theorem RC_skip {k:Nat} {o:Oper} {rest:List Oper} {a:Act} (hc:isC k=false) (hw:Region.wanted o (yielded ops a.tmps)=false)
  (hr:RC P ops Q J isC V G Sx Pan pre post (k+1) rest (a.put o.dst undef)):RC P ops Q J isC V G Sx Pan pre post k (o::rest) a:=by
 unfold RC
 rw[if_neg (by rw[hc]; simp)]
 refine⟨undef,fun D v W _ _ _=> ?_,hr⟩
 unfold PureOk
 rw[if_neg (by rw[hw]; simp)]
theorem RC_call {k:Nat} {o:Oper} {rest:List Oper} {a:Act} (hc:isC k=true) (hb:∀t,o.dst=some t→t<a.tmps.size) (hw:Region.wanted o (yielded ops a.tmps)=true)
  (h:∀D v W,Cond post k D→J D v W→Facts isC G pre k a D v W→∀K:Act→World→Prop,Hid (∀x W',Sx k W W'→J (upd D k) (updv v k (dv o x)) W'→G k (dv o x) W'→V k (dv o x)→K (a.put o.dst x) W')→o.wp P a W K (fun e _ W'=>match e with | .panic c=>Pan c W' | _=>False))
  (hr:∀x,V k x→RC P ops Q J isC V G Sx Pan pre post (k+1) rest (a.put o.dst x)):RC P ops Q J isC V G Sx Pan pre post k (o::rest) a:=by
 unfold RC
 rw[if_pos hc]
 refine⟨fun D v W cw hj hf=> ?_,hr⟩
 have h:=h D v W cw hj hf (fun a'' W'=>∃x,a''=a.put o.dst x∧Sx k W W'∧J (upd D k) (updv v k (dv o x)) W'∧G k (dv o x) W'∧V k (dv o x)) (fun x W' h1 h2 h3 h4=>⟨x,rfl,h1,h2,h3,h4⟩)
 unfold CallOk
 rw[if_pos hw]
 have eqx:∀u W',(∃x,a.put o.dst u=a.put o.dst x∧Sx k W W'∧J (upd D k) (updv v k (dv o x)) W'∧G k (dv o x) W'∧V k (dv o x))→Sx k W W'∧J (upd D k) (updv v k (dv o u)) W'∧G k (dv o u) W'∧V k (dv o u):=fun u W' ⟨x,hv,h1,h3,h2⟩=>by
  have:dv o u=dv o x:=by
   unfold dv
   cases hd:o.dst with
   | none=>rfl
   | some t=>
    rw[hd]at hv
    have h1:=put_eq (v:=u) (hb t hd)
    rw[hv,put_eq (hb t hd)]at h1
    injection h1 with h1
    exact h1.symm
  rw[this]
  exact⟨h1,h3,h2⟩
 unfold Oper.wp at h
 unfold Does
 cases hr:(execOp a.eval o).run P W with
 | ok r W'=>
  rw[hr]at h
  cases r
  case value v=>exact eqx v W' h
  case skip=>exact eqx undef W' h
  case enter f args=>
   rw[Oper.upon_enter]at h
   refine Calls.mono h fun e W'' he=> ?_
   cases e with
   | returned v=>exact eqx v W'' he
   | panicked c=>exact he
   | outgrown=>obtain⟨_,_,he⟩:=he; exact he.elim
  case defer d=>
   rw[Oper.upon_defer]at h
   obtain⟨x,h,-⟩:=h
   have h1:=congrArg Act.defers h
   rw[put_defs,put_defs]at h1
   exact absurd (congrArg List.length h1) (by simp)
  case row row args=>
   rw[Oper.upon_row]at h
   exact Rows.mono h fun v W'' he=>eqx v W'' he
  all_goals exact h.elim
 | halt r W'=>
  rw[hr]at h
  cases r<;>exact h
theorem sk {k:Nat} {o:Oper} {rest:List Oper} {a:Act} {L:Array Oper} (hL:ops=L) (hr:RC P ops Q J isC V G Sx Pan pre post (k+1) rest (a.put o.dst undef)) (hc:isC k=false:=by exact rfl) (hw:Region.wanted o (yielded L a.tmps)=false:=by exact rfl):RC P ops Q J isC V G Sx Pan pre post k (o::rest) a:=RC_skip hc (by rw[hL]; exact hw) hr
theorem RCs {k:Nat} {o:Oper} {rest:List Oper} {a:Act} (h:∀D v W,Cond post k D→J D v W→Facts isC G pre k a D v W→∀K:Act→World→Prop,Hid (∀x W',Sx k W W'→J (upd D k) (updv v k (dv o x)) W'→G k (dv o x) W'→V k (dv o x)→K (a.put o.dst x) W')→o.wp P a W K (fun e _ W'=>match e with | .panic c=>Pan c W' | _=>False))
  (hr:∀x,V k x→RC P ops Q J isC V G Sx Pan pre post (k+1) rest (a.put o.dst x)) (hc:isC k=true:=by exact rfl) (hb:∀t,o.dst=some t→t<a.tmps.size:=by (intro t ht; cases ht)) (hw:Region.wanted o (yielded ops a.tmps)=true:=by exact rfl):RC P ops Q J isC V G Sx Pan pre post k (o::rest) a:=RC_call hc hb hw h hr
/-- operations that no one asks for, many at once -/
def skOk (isC:Nat→Bool) (L:Array Oper):Nat→Nat→List Oper→Act→Bool
 | 0,_,_,_=>true
 | _+1,_,[],_=>false
 | m+1,k,o::rest,a=> !isC k&&(!Region.wanted o (yielded L a.tmps)&&skOk isC L m (k+1) rest (a.put o.dst undef))
def skAct:Nat→List Oper→Act→Act
 | 0,_,a=>a
 | _+1,[],a=>a
 | m+1,o::rest,a=>skAct m rest (a.put o.dst undef)
theorem sks {L:Array Oper} (hL:ops=L):∀ (m:Nat) {k:Nat} {l:List Oper} {a:Act},RC P ops Q J isC V G Sx Pan pre post (k+m) (l.drop m) (skAct m l a)→skOk isC L m k l a=true→RC P ops Q J isC V G Sx Pan pre post k l a
 | 0,_,_,_,hr,_=>hr
 | _+1,_,[],_,_,h=>by cases h
 | m+1,k,o::rest,a,hr,h=>by
  simp only[skOk,Bool.and_eq_true,Bool.not_eq_true']at h
  refine RC_skip h.1 (by rw[hL]; exact h.2.1) (sks hL m ?_ h.2.2)
  rw[show k+1+m=k+(m+1) by omega]
  exact hr
theorem RC_at {k:Nat} {l:List Oper} {a b:Act} (h:a=b) (hr:RC P ops Q J isC V G Sx Pan pre post k l b):RC P ops Q J isC V G Sx Pan pre post k l a:=h▸hr
theorem at24 {k:Nat} {l:List Oper} {a:Act} {x0 x1 x2 x3 x4 x5 x6 x7 x8 x9 x10 x11 x12 x13 x14 x15 x16 x17 x18 x19 x20 x21 x22 x23:Value} {d:_} (h:a=⟨#[x0,x1,x2,x3,x4,x5,x6,x7,x8,x9,x10,x11,x12,x13,x14,x15,x16,x17,x18,x19,x20,x21,x22,x23],d⟩) (hr:RC P ops Q J isC V G Sx Pan pre post k l ⟨#[x0,x1,x2,x3,x4,x5,x6,x7,x8,x9,x10,x11,x12,x13,x14,x15,x16,x17,x18,x19,x20,x21,x22,x23],d⟩):RC P ops Q J isC V G Sx Pan pre post k l a:=h▸hr
theorem at33 {k:Nat} {l:List Oper} {a:Act} {x0 x1 x2 x3 x4 x5 x6 x7 x8 x9 x10 x11 x12 x13 x14 x15 x16 x17 x18 x19 x20 x21 x22 x23 x24 x25 x26 x27 x28 x29 x30 x31 x32:Value} {d:_} (h:a=⟨#[x0,x1,x2,x3,x4,x5,x6,x7,x8,x9,x10,x11,x12,x13,x14,x15,x16,x17,x18,x19,x20,x21,x22,x23,x24,x25,x26,x27,x28,x29,x30,x31,x32],d⟩) (hr:RC P ops Q J isC V G Sx Pan pre post k l ⟨#[x0,x1,x2,x3,x4,x5,x6,x7,x8,x9,x10,x11,x12,x13,x14,x15,x16,x17,x18,x19,x20,x21,x22,x23,x24,x25,x26,x27,x28,x29,x30,x31,x32],d⟩):RC P ops Q J isC V G Sx Pan pre post k l a:=h▸hr
theorem at39 {k:Nat} {l:List Oper} {a:Act} {x0 x1 x2 x3 x4 x5 x6 x7 x8 x9 x10 x11 x12 x13 x14 x15 x16 x17 x18 x19 x20 x21 x22 x23 x24 x25 x26 x27 x28 x29 x30 x31 x32 x33 x34 x35 x36 x37 x38:Value} {d:_} (h:a=⟨#[x0,x1,x2,x3,x4,x5,x6,x7,x8,x9,x10,x11,x12,x13,x14,x15,x16,x17,x18,x19,x20,x21,x22,x23,x24,x25,x26,x27,x28,x29,x30,x31,x32,x33,x34,x35,x36,x37,x38],d⟩) (hr:RC P ops Q J isC V G Sx Pan pre post k l ⟨#[x0,x1,x2,x3,x4,x5,x6,x7,x8,x9,x10,x11,x12,x13,x14,x15,x16,x17,x18,x19,x20,x21,x22,x23,x24,x25,x26,x27,x28,x29,x30,x31,x32,x33,x34,x35,x36,x37,x38],d⟩):RC P ops Q J isC V G Sx Pan pre post k l a:=h▸hr
theorem at52 {k:Nat} {l:List Oper} {a:Act} {x0 x1 x2 x3 x4 x5 x6 x7 x8 x9 x10 x11 x12 x13 x14 x15 x16 x17 x18 x19 x20 x21 x22 x23 x24 x25 x26 x27 x28 x29 x30 x31 x32 x33 x34 x35 x36 x37 x38 x39 x40 x41 x42 x43 x44 x45 x46 x47 x48 x49 x50 x51:Value} {d:_} (h:a=⟨#[x0,x1,x2,x3,x4,x5,x6,x7,x8,x9,x10,x11,x12,x13,x14,x15,x16,x17,x18,x19,x20,x21,x22,x23,x24,x25,x26,x27,x28,x29,x30,x31,x32,x33,x34,x35,x36,x37,x38,x39,x40,x41,x42,x43,x44,x45,x46,x47,x48,x49,x50,x51],d⟩) (hr:RC P ops Q J isC V G Sx Pan pre post k l ⟨#[x0,x1,x2,x3,x4,x5,x6,x7,x8,x9,x10,x11,x12,x13,x14,x15,x16,x17,x18,x19,x20,x21,x22,x23,x24,x25,x26,x27,x28,x29,x30,x31,x32,x33,x34,x35,x36,x37,x38,x39,x40,x41,x42,x43,x44,x45,x46,x47,x48,x49,x50,x51],d⟩):RC P ops Q J isC V G Sx Pan pre post k l a:=h▸hr
theorem at53 {k:Nat} {l:List Oper} {a:Act} {x0 x1 x2 x3 x4 x5 x6 x7 x8 x9 x10 x11 x12 x13 x14 x15 x16 x17 x18 x19 x20 x21 x22 x23 x24 x25 x26 x27 x28 x29 x30 x31 x32 x33 x34 x35 x36 x37 x38 x39 x40 x41 x42 x43 x44 x45 x46 x47 x48 x49 x50 x51 x52:Value} {d:_} (h:a=⟨#[x0,x1,x2,x3,x4,x5,x6,x7,x8,x9,x10,x11,x12,x13,x14,x15,x16,x17,x18,x19,x20,x21,x22,x23,x24,x25,x26,x27,x28,x29,x30,x31,x32,x33,x34,x35,x36,x37,x38,x39,x40,x41,x42,x43,x44,x45,x46,x47,x48,x49,x50,x51,x52],d⟩) (hr:RC P ops Q J isC V G Sx Pan pre post k l ⟨#[x0,x1,x2,x3,x4,x5,x6,x7,x8,x9,x10,x11,x12,x13,x14,x15,x16,x17,x18,x19,x20,x21,x22,x23,x24,x25,x26,x27,x28,x29,x30,x31,x32,x33,x34,x35,x36,x37,x38,x39,x40,x41,x42,x43,x44,x45,x46,x47,x48,x49,x50,x51,x52],d⟩):RC P ops Q J isC V G Sx Pan pre post k l a:=h▸hr
theorem at60 {k:Nat} {l:List Oper} {a:Act} {x0 x1 x2 x3 x4 x5 x6 x7 x8 x9 x10 x11 x12 x13 x14 x15 x16 x17 x18 x19 x20 x21 x22 x23 x24 x25 x26 x27 x28 x29 x30 x31 x32 x33 x34 x35 x36 x37 x38 x39 x40 x41 x42 x43 x44 x45 x46 x47 x48 x49 x50 x51 x52 x53 x54 x55 x56 x57 x58 x59:Value} {d:_} (h:a=⟨#[x0,x1,x2,x3,x4,x5,x6,x7,x8,x9,x10,x11,x12,x13,x14,x15,x16,x17,x18,x19,x20,x21,x22,x23,x24,x25,x26,x27,x28,x29,x30,x31,x32,x33,x34,x35,x36,x37,x38,x39,x40,x41,x42,x43,x44,x45,x46,x47,x48,x49,x50,x51,x52,x53,x54,x55,x56,x57,x58,x59],d⟩) (hr:RC P ops Q J isC V G Sx Pan pre post k l ⟨#[x0,x1,x2,x3,x4,x5,x6,x7,x8,x9,x10,x11,x12,x13,x14,x15,x16,x17,x18,x19,x20,x21,x22,x23,x24,x25,x26,x27,x28,x29,x30,x31,x32,x33,x34,x35,x36,x37,x38,x39,x40,x41,x42,x43,x44,x45,x46,x47,x48,x49,x50,x51,x52,x53,x54,x55,x56,x57,x58,x59],d⟩):RC P ops Q J isC V G Sx Pan pre post k l a:=h▸hr
theorem at67 {k:Nat} {l:List Oper} {a:Act} {x0 x1 x2 x3 x4 x5 x6 x7 x8 x9 x10 x11 x12 x13 x14 x15 x16 x17 x18 x19 x20 x21 x22 x23 x24 x25 x26 x27 x28 x29 x30 x31 x32 x33 x34 x35 x36 x37 x38 x39 x40 x41 x42 x43 x44 x45 x46 x47 x48 x49 x50 x51 x52 x53 x54 x55 x56 x57 x58 x59 x60 x61 x62 x63 x64 x65 x66:Value} {d:_} (h:a=⟨#[x0,x1,x2,x3,x4,x5,x6,x7,x8,x9,x10,x11,x12,x13,x14,x15,x16,x17,x18,x19,x20,x21,x22,x23,x24,x25,x26,x27,x28,x29,x30,x31,x32,x33,x34,x35,x36,x37,x38,x39,x40,x41,x42,x43,x44,x45,x46,x47,x48,x49,x50,x51,x52,x53,x54,x55,x56,x57,x58,x59,x60,x61,x62,x63,x64,x65,x66],d⟩) (hr:RC P ops Q J isC V G Sx Pan pre post k l ⟨#[x0,x1,x2,x3,x4,x5,x6,x7,x8,x9,x10,x11,x12,x13,x14,x15,x16,x17,x18,x19,x20,x21,x22,x23,x24,x25,x26,x27,x28,x29,x30,x31,x32,x33,x34,x35,x36,x37,x38,x39,x40,x41,x42,x43,x44,x45,x46,x47,x48,x49,x50,x51,x52,x53,x54,x55,x56,x57,x58,x59,x60,x61,x62,x63,x64,x65,x66],d⟩):RC P ops Q J isC V G Sx Pan pre post k l a:=h▸hr
theorem at220 {k:Nat} {l:List Oper} {a:Act} {x0 x1 x2 x3 x4 x5 x6 x7 x8 x9 x10 x11 x12 x13 x14 x15 x16 x17 x18 x19 x20 x21 x22 x23 x24 x25 x26 x27 x28 x29 x30 x31 x32 x33 x34 x35 x36 x37 x38 x39 x40 x41 x42 x43 x44 x45 x46 x47 x48 x49 x50 x51 x52 x53 x54 x55 x56 x57 x58 x59 x60 x61 x62 x63 x64 x65 x66 x67 x68 x69 x70 x71 x72 x73 x74 x75 x76 x77 x78 x79 x80 x81 x82 x83 x84 x85 x86 x87 x88 x89 x90 x91 x92 x93 x94 x95 x96 x97 x98 x99 x100 x101 x102 x103 x104 x105 x106 x107 x108 x109 x110 x111 x112 x113 x114 x115 x116 x117 x118 x119 x120 x121 x122 x123 x124 x125 x126 x127 x128 x129 x130 x131 x132 x133 x134 x135 x136 x137 x138 x139 x140 x141 x142 x143 x144 x145 x146 x147 x148 x149 x150 x151 x152 x153 x154 x155 x156 x157 x158 x159 x160 x161 x162 x163 x164 x165 x166 x167 x168 x169 x170 x171 x172 x173 x174 x175 x176 x177 x178 x179 x180 x181 x182 x183 x184 x185 x186 x187 x188 x189 x190 x191 x192 x193 x194 x195 x196 x197 x198 x199 x200 x201 x202 x203 x204 x205 x206 x207 x208 x209 x210 x211 x212 x213 x214 x215 x216 x217 x218 x219:Value} {d:_} (h:a=⟨#[x0,x1,x2,x3,x4,x5,x6,x7,x8,x9,x10,x11,x12,x13,x14,x15,x16,x17,x18,x19,x20,x21,x22,x23,x24,x25,x26,x27,x28,x29,x30,x31,x32,x33,x34,x35,x36,x37,x38,x39,x40,x41,x42,x43,x44,x45,x46,x47,x48,x49,x50,x51,x52,x53,x54,x55,x56,x57,x58,x59,x60,x61,x62,x63,x64,x65,x66,x67,x68,x69,x70,x71,x72,x73,x74,x75,x76,x77,x78,x79,x80,x81,x82,x83,x84,x85,x86,x87,x88,x89,x90,x91,x92,x93,x94,x95,x96,x97,x98,x99,x100,x101,x102,x103,x104,x105,x106,x107,x108,x109,x110,x111,x112,x113,x114,x115,x116,x117,x118,x119,x120,x121,x122,x123,x124,x125,x126,x127,x128,x129,x130,x131,x132,x133,x134,x135,x136,x137,x138,x139,x140,x141,x142,x143,x144,x145,x146,x147,x148,x149,x150,x151,x152,x153,x154,x155,x156,x157,x158,x159,x160,x161,x162,x163,x164,x165,x166,x167,x168,x169,x170,x171,x172,x173,x174,x175,x176,x177,x178,x179,x180,x181,x182,x183,x184,x185,x186,x187,x188,x189,x190,x191,x192,x193,x194,x195,x196,x197,x198,x199,x200,x201,x202,x203,x204,x205,x206,x207,x208,x209,x210,x211,x212,x213,x214,x215,x216,x217,x218,x219],d⟩) (hr:RC P ops Q J isC V G Sx Pan pre post k l ⟨#[x0,x1,x2,x3,x4,x5,x6,x7,x8,x9,x10,x11,x12,x13,x14,x15,x16,x17,x18,x19,x20,x21,x22,x23,x24,x25,x26,x27,x28,x29,x30,x31,x32,x33,x34,x35,x36,x37,x38,x39,x40,x41,x42,x43,x44,x45,x46,x47,x48,x49,x50,x51,x52,x53,x54,x55,x56,x57,x58,x59,x60,x61,x62,x63,x64,x65,x66,x67,x68,x69,x70,x71,x72,x73,x74,x75,x76,x77,x78,x79,x80,x81,x82,x83,x84,x85,x86,x87,x88,x89,x90,x91,x92,x93,x94,x95,x96,x97,x98,x99,x100,x101,x102,x103,x104,x105,x106,x107,x108,x109,x110,x111,x112,x113,x114,x115,x116,x117,x118,x119,x120,x121,x122,x123,x124,x125,x126,x127,x128,x129,x130,x131,x132,x133,x134,x135,x136,x137,x138,x139,x140,x141,x142,x143,x144,x145,x146,x147,x148,x149,x150,x151,x152,x153,x154,x155,x156,x157,x158,x159,x160,x161,x162,x163,x164,x165,x166,x167,x168,x169,x170,x171,x172,x173,x174,x175,x176,x177,x178,x179,x180,x181,x182,x183,x184,x185,x186,x187,x188,x189,x190,x191,x192,x193,x194,x195,x196,x197,x198,x199,x200,x201,x202,x203,x204,x205,x206,x207,x208,x209,x210,x211,x212,x213,x214,x215,x216,x217,x218,x219],d⟩):RC P ops Q J isC V G Sx Pan pre post k l a:=h▸hr
theorem RC_end {k:Nat} {a:Act} (h:∀D v W,(∀j,j<k→D j=isC j)→J D v W→Facts isC G pre k a D v W→Q .normal a W):RC P ops Q J isC V G Sx Pan pre post k [] a:=h
theorem wp_chain {id:Nat} {base:Act} {w:World} (J:(Nat→Bool)→(Nat→Value)→World→Prop) (isC:Nat→Bool) (V:Nat→Value→Prop) (G:Nat→Value→World→Prop) (Sx:Nat→World→World→Prop) (Pan:List PanicEntry→World→Prop) (pre:Nat→List (Nat×Option Tmp)) (post:Nat→List Nat)
  (hm:P.follows .mixedOrders=true) (ht:tidy ops base.tmps.size=true) (hsub:subs ops isC pre post=true)
  (hV:∀k,∃x,V k x) (hJ0:∀v,J (fun _=>false) v w.drew) (hJv:∀D v v' W,(∀j,D j=true→v j=v' j)→J D v W→J D v' W)
  (hG:∀D v k j W W' x,j≠k→isC j=true→isC k=true→J D v W→Sx k W W'→G j x W→G j x W')
  (hP:∀a W c,a.defers=base.defers→Pan c W→Q (.panic c) a W)
  (h:∀ops' Q',ops'=ops→(∀a W,Q .normal a W→Q' .normal a W)→RC P ops' Q' J isC V G Sx Pan pre post 0 ops.toList base):(Code.region id ops true).wp P Q base w:=
 wp_region_chain hm hJ0 ht hsub hV hJv hG hP (h ops Q rfl fun _ _ h=>h)
theorem wp_chain_n {id:Nat} {base:Act} {w:World} (J:Nat→(Nat→Bool)→(Nat→Value)→World→Prop) (isC:Nat→Bool) (V:Nat→Value→Prop) (G:Nat→Value→World→Prop) (Sx:Nat→World→World→Prop) (Pan:List PanicEntry→World→Prop) (pre:Nat→List (Nat×Option Tmp)) (post:Nat→List Nat)
  (hm:P.follows .mixedOrders=true) (ht:tidy ops base.tmps.size=true) (hsub:subs ops isC pre post=true) (hV:∀k,∃x,V k x)
  (h:∀n0,Hid (n0=w.heap.size)→(∀v,J n0 (fun _=>false) v w.drew)∧(∀D v v' W,(∀j,D j=true→v j=v' j)→J n0 D v W→J n0 D v' W)∧
   (∀D v k j W W' x,j≠k→isC j=true→isC k=true→J n0 D v W→Sx k W W'→G j x W→G j x W')∧(∀a W c,a.defers=base.defers→Pan c W→Q (.panic c) a W)∧
   ∀ops' Q',ops'=ops→(∀a W,Q .normal a W→Q' .normal a W)→RC P ops' Q' (J n0) isC V G Sx Pan pre post 0 ops.toList base):(Code.region id ops true).wp P Q base w:=
 let ⟨h1,h2,h3,h4,h5⟩:=h _ rfl
 wp_chain (J w.heap.size) isC V G Sx Pan pre post hm ht hsub hV h1 h2 h3 h4 h5
end
def inl (l:List Nat) (k:Nat):Bool:=l.contains k
def ge:List (Nat×Value)→Nat→Value→Prop
 | [],_,_=>True
 | (i,e)::r,k,x=>if k=i then x=e else ge r k x
theorem ge_some (l:List (Nat×Value)) (k:Nat):∃x,ge l k x:=by
 induction l with
 | nil=>exact⟨undef,trivial⟩
 | cons p r ih=>
  obtain⟨i,e⟩:=p
  unfold ge
  by_cases h:k=i
  · exact⟨e,by rw[if_pos h]⟩
  · obtain⟨x,hx⟩:=ih; exact⟨x,by rw[if_neg h]; exact hx⟩
theorem RC_exact {P:Program} {ops:Array Oper} {Q:Exit→Act→World→Prop} {J:(Nat→Bool)→(Nat→Value)→World→Prop} {isC:Nat→Bool} {l:List (Nat×Value)} {G:Nat→Value→World→Prop} {Sx:Nat→World→World→Prop} {Pan:List PanicEntry→World→Prop} {pre:Nat→List (Nat×Option Tmp)} {post:Nat→List Nat}
  {k:Nat} {o:Oper} {rest:List Oper} {a:Act} (e:Value) (he:∀x,ge l k x→x=e) (hc:isC k=true) (hb:∀t,o.dst=some t→t<a.tmps.size) (hw:Region.wanted o (yielded ops a.tmps)=true)
  (h:∀D v W,Cond post k D→J D v W→Facts isC G pre k a D v W→∀K:Act→World→Prop,Hid (∀x W',Sx k W W'→J (upd D k) (updv v k (dv o x)) W'→G k (dv o x) W'→ge l k (dv o x)→K (a.put o.dst x) W')→o.wp P a W K (fun e _ W'=>match e with | .panic c=>Pan c W' | _=>False))
  (hr:RC P ops Q J isC (ge l) G Sx Pan pre post (k+1) rest (a.put o.dst e)):RC P ops Q J isC (ge l) G Sx Pan pre post k (o::rest) a:=
 RC_call hc hb hw h fun x hx=>he x hx▸hr
def gv:List (Nat×(Value→Prop))→Nat→Value→Prop
 | [],_,_=>True
 | (i,e)::r,k,x=>if k=i then e x else gv r k x
theorem gv_some (l:List (Nat×(Value→Prop))) (h:∀p∈l,∃x,p.2 x) (k:Nat):∃x,gv l k x:=by
 induction l with
 | nil=>exact⟨undef,trivial⟩
 | cons p r ih=>
  obtain⟨i,e⟩:=p
  unfold gv
  by_cases hk:k=i
  · obtain⟨x,hx⟩:=h _ (.head _); exact⟨x,by rw[if_pos hk]; exact hx⟩
  · obtain⟨x,hx⟩:=ih fun p hp=>h p (.tail _ hp); exact⟨x,by rw[if_neg hk]; exact hx⟩
def pl {α : Type} : List (Nat×List α)→Nat→List α
 | [],_=> []
 | (i,e)::r,k=>if k=i then e else pl r k
def Any (_ _:World):Prop:=True
theorem any {W W':World} : Any W W':=trivial
def None_ (_:Nat) (_:Value) (_:World):Prop:=True
theorem none_ {k:Nat} {x:Value} {W:World} : None_ k x W:=trivial
def sel (b:Bool) (x y:Value):Value:=match b with | false=>x | true=>y
theorem ptr_ne {g n:Nat} (h:g<n):Value.pointer (some ⟨n,0,none⟩)≠ .pointer (some ⟨g,0,none⟩):=by
 intro e; injection e with e; injection e with e; injection e with e; omega
theorem ptr_eq {g n:Nat} (h:Value.pointer (some ⟨n,0,none⟩) = .pointer (some ⟨g,0,none⟩)):n=g:=by
 injection h with e; injection e with e; injection e with e
end Reg
end Go.Proofs.YtdkcffnmlllamaaGreat
