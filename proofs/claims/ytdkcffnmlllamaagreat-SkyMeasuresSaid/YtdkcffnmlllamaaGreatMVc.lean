import Derived.Test.YtdkcffnmlllamaaGreatMUb
import Derived.Great.BuildSlice
set_option linter.unusedVariables false
set_option linter.unusedSimpArgs false
namespace Go.Proofs.YtdkcffnmlllamaaGreat
open Go.RowKit
theorem FB.shape {w:World} {v:Value} {o:Option Rat} (h:FB w v o):∃a s n c b t m d,v = .agg #[.bool a,.slice s n c,.bool b,.slice t m d]:=by
 cases o with
 | none=>exact Bad.shape h
 | some r=>exact FR.shape h
def okC (b:Bool):Int:=if b then 0 else 8
def limB:Option Rat→Bool
 | some r=> !decide (r<0)
 | none=>false
theorem FB.neg {w:World} {a b:Bool} {s t:Value} {o:Option Rat} (h:FB w (.agg #[.bool a,s,.bool b,t]) o):limB o=(o.isSome && !a):=by
 cases o with
 | none=>rfl
 | some r=>
  obtain⟨_,_,_,_,_,_,e,_⟩:=FR.nums h
  simp only[Value.agg.injEq,Array.mk.injEq,List.cons.injEq,and_true,Value.bool.injEq]at e
  rw[e.1]; simp[limB]
theorem run_index_agg {P:Program} (t e:TypeId) (n sz:Nat) (cs:Array Value) (i:Nat) (d:TypeDesc) (w:World) (ht:P.underlying t=some (.array n e)) (hu:P.underlying e=some d)
  (hd:(match d with | .struct _ | .array _ _=>true | _=>false)=true) (hi:(P.info? e).map (·.size)=some sz) (h:i<n) :
  (Instr.index t (.agg cs) (.int .i64 i)).run P w = .ok (.agg (cs.extract (i*sz) (i*sz+sz))) w:=by
 have hagg:(isAgg e).run P w = .ok true w:=by
  unfold isAgg
  rw[Sem.run_bind,run_underlying hu w]
  cases d<;>simp_all
 cases hq:P.info? e with
 | none=>simp[hq]at hi
 | some j=>
  have hs:j.size=sz:=by simpa[hq]using hi
  have h2:(0:Int)≤(i:Int)∧(i:Int)<(n:Int):=by omega
  simp[Instr.index,run_underlying ht,asIntOf,h2,part,hagg,sizeOf,typeInfo,hq,hs,go_sem,Sem.run_bind,h]
theorem QX.code {w:World} {cs:Array Value} {r:Nat→Option Rat} (h:QX w cs r) {i:Nat} (hi:i<4):∃a1 a2 a3 a4 a5 a6 a7 a8,cs.extract (4+i*4) (8+i*4)=#[.bool a1,.slice a2 a3 a4,.bool a5,.slice a6 a7 a8]∧
  FB w (.agg #[.bool a1,.slice a2 a3 a4,.bool a5,.slice a6 a7 a8]) (r i):=by
 obtain⟨h1,h2,h3,h4⟩:=h
 obtain⟨a1,a2,a3,a4,a5,a6,a7,a8,c0,c1,c2,c3,f⟩:=h4 i hi
 refine⟨a1,a2,a3,a4,a5,a6,a7,a8,?_,f⟩
 apply Array.ext'
 simp only[Array.toList_extract,List.extract_eq_take_drop]
 have e:∀j:Nat,cs.toList[j]? = cs[j]? :=fun j=>by first | rfl | exact Array.getElem?_toList.symm | exact Array.getElem?_toList
 apply List.ext_getElem?
 intro j
 rw[List.getElem?_take]
 rw[List.getElem?_drop,e]
 rcases(show j=0∨j=1∨j=2∨j=3∨4≤j by omega)with rfl | rfl | rfl | rfl | g
 · rw[if_pos (by omega)]; exact c0
 · rw[if_pos (by omega)]; exact c1
 · rw[if_pos (by omega)]; exact c2
 · rw[if_pos (by omega)]; exact c3
 · rw[if_neg (by omega)]; simp; omega
def two {α : Type} (a b : α) (t:Nat) : α:=if t=0 then a else b
def FLs (w:World) (v:Value) (n:Nat) (O:Nat→Option Rat) (LA LB:Nat→Nat):Prop:=∃b o cap,v = .slice (some ⟨b,o,none⟩) n cap∧n≤cap∧b<w.heap.size∧
 ∀t,t<n→∃a1 a2 a4 a5 a6 a8,w.cell? ⟨b,o+t*4,none⟩=some (.bool a1)∧w.cell? ⟨b,o+t*4+1,none⟩=some (.slice a2 (LA t) a4)∧w.cell? ⟨b,o+t*4+2,none⟩=some (.bool a5)∧w.cell? ⟨b,o+t*4+3,none⟩=some (.slice a6 (LB t) a8)∧FB w (.agg #[.bool a1,.slice a2 (LA t) a4,.bool a5,.slice a6 (LB t) a8]) (O t)
def limF (most:Nat) (o:Option Rat) (p q:Nat):Bool:=decide (p≤most)&&decide (q≤most)&&o.isSome
def limL (most:Nat) (O:Nat→Option Rat) (LA LB:Nat→Nat):Nat→Bool
 | 0=>true
 | t+1=>limL most O LA LB t&&limF most (O t) (LA t) (LB t)
instance (p:Int×Int):Decidable (okP p):=by unfold okP; infer_instance
end Go.Proofs.YtdkcffnmlllamaaGreat
