import Derived.Test.YtdkcffnmlllamaaGreatMRowU
import Derived.Test.YtdkcffnmlllamaaGreatMNp
/- A row of numbers that is sorted in place: its block, its first n cells. -/
set_option linter.unusedVariables false
set_option linter.unusedSimpArgs false
namespace Go.Proofs.YtdkcffnmlllamaaGreat
open Go.RowKit
def RowS (w:World) (g n:Nat) (f:Nat→Int):Prop:=∃cs:Array Value,Blk w g 2 cs∧n≤cs.size∧noU32 cs=true∧∀i,i<n→cs[i]? = some (.int .i64 (f i))
theorem RowS.lt {w:World} {g n:Nat} {f:Nat→Int} (h:RowS w g n f):g<w.heap.size:=by obtain⟨cs,hb,_⟩:=h; exact hb.lt
theorem RowS.c {w:World} {g n:Nat} {f:Nat→Int} (h:RowS w g n f) {i:Nat} (hi:i<n):w.cell? ⟨g,i,none⟩=some (.int .i64 (f i)):=by
 obtain⟨cs,hb,_,_,hc⟩:=h
 exact(hb.cell i).trans (hc i hi)
theorem RowS.steps {w w':World} {g n:Nat} {f:Nat→Int} (h:RowS w g n f) (s:Steps w w'):RowS w' g n f:=by
 obtain⟨cs,hb,h1,h2,h3⟩:=h
 exact⟨cs,hb.steps s,h1,h2,h3⟩
theorem RowS.congr {w:World} {g n:Nat} {f f':Nat→Int} (h:RowS w g n f) (e:∀i,i<n→f' i=f i):RowS w g n f':=by
 obtain⟨cs,hb,h1,h2,h3⟩:=h
 exact⟨cs,hb,h1,h2,fun i hi=>by rw[e i hi]; exact h3 i hi⟩
theorem RowS.put {w:World} {g n:Nat} {f:Nat→Int} (h:RowS w g n f) {i:Nat} (hi:i<n) (x:Int):RowS (w.setCell ⟨g,i,none⟩ (.int .i64 x)) g n (fun k=>if k=i then x else f k):=by
 obtain⟨cs,hb,h1,h2,h3⟩:=h
 refine⟨_,hb.set_ i _,by rw[Array.size_setIfInBounds]; exact h1,noU_set h2 i x,fun k hk=> ?_⟩
 by_cases e:k=i
 ·
  subst e
  rw[Array.getElem?_setIfInBounds_self_of_lt (by omega)]; dsimp only; rw[if_pos rfl]
 ·
  rw[Array.getElem?_setIfInBounds_ne (fun h=>e h.symm)]; dsimp only; rw[if_neg e]
  exact h3 k hk
theorem RowS.swap {w:World} {g n:Nat} {f:Nat→Int} (h:RowS w g n f) {i j:Nat} (hi:i<n) (hj:j<n) :
  RowS ((w.setCell ⟨g,i,none⟩ (.int .i64 (f j))).setCell ⟨g,j,none⟩ (.int .i64 (f i))) g n (swp f i j):=by
 refine((h.put hi (f j)).put hj (f i)).congr fun k _=> ?_
 unfold swp
 by_cases e1:k=i
 ·
  by_cases e2:k=j
  · subst e1; subst e2; simp
  · rw[if_pos e1,if_neg e2,if_pos e1]
 · rw[if_neg e1,if_neg e1]
theorem RowS.il {w:World} {g n cap:Nat} {f:Nat→Int} (h:RowS w g n f) (hc:n≤cap):IntsR w (.slice (some ⟨g,0,none⟩) n cap) ((List.range n).map f):=by
 have e:((List.range n).map f).length=n:=by simp
 refine⟨some ⟨g,0,none⟩,cap,by rw[e],by rw[e]; exact hc,fun _=>⟨g,0,rfl,h.lt,fun t ht=> ?_⟩⟩
 rw[e]at ht
 rw[Nat.zero_add,h.c ht]
 simp[List.getD,ht]
theorem RowS.of_ints {w:World} {g n:Nat} {cs:Array Value} {l:List Int} (hb:Blk w g 2 cs) (hl:l.length=n) (hu:noU32 cs=true) (ht:cs.toList.take n=ints l) (hn:n≤cs.size):RowS w g n (fun i=>l.getD i 0):=
 ⟨cs,hb,hn,hu,fun i hi=>cur_get hl ht hi⟩
theorem map_getD (l:List Int):(List.range l.length).map (fun i=>l.getD i 0)=l:=by
 apply List.ext_getElem
 · simp
 · intro i h1 h2; simp at h1⊢; simp[List.getD,h1]
end Go.Proofs.YtdkcffnmlllamaaGreat
