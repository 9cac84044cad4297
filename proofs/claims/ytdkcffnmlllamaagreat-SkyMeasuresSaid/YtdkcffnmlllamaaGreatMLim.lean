import Derived.Test.YtdkcffnmlllamaaGreatMLimbs
import Derived.Test.YtdkcffnmlllamaaGreatMBits
import Derived.OwnWalk
import Derived.Laws.AppendOwnNone
/- Slices of limbs in memory. -/
set_option linter.unusedVariables false
set_option linter.unusedSimpArgs false
namespace Go.Proofs.YtdkcffnmlllamaaGreat
open Go.RowKit
def u32s (l:List Int):List Value:=l.map (Value.int .u32)
theorem u32s_getD (l:List Int) (t:Nat) (h:t<l.length):(u32s l)[t]? = some (.int .u32 (l.getD t 0)):=by simp[u32s,List.getD,h]
theorem u32s_length (l:List Int):(u32s l).length=l.length:=by simp[u32s]
def Cells (w:World) (b o:Nat) (l:List Int):Prop:=∀t,t<l.length→w.cell? ⟨b,o+t,none⟩=some (.int .u32 (l.getD t 0))
def Lim (w:World) (v:Value) (l:List Int):Prop:=
 lok l∧∃ao cap,v = .slice ao l.length cap∧l.length≤cap∧(ao=none→cap=0)∧(l≠ []→∃b o,ao=some ⟨b,o,none⟩∧b<w.heap.size∧Cells w b o l)
theorem Cells.below {w w':World} {b o:Nat} {l:List Int} (h:Cells w b o l) (hs:Below w.heap.size w w') (hb:b<w.heap.size):Cells w' b o l:=
 fun t ht=>(hs.cell (p:=⟨b,o+t,none⟩) hb).trans (h t ht)
theorem Lim.steps {w w':World} {v:Value} {l:List Int} (h:Lim w v l) (hs:Steps w w'):Lim w' v l:=by
 obtain⟨h0,ao,cap,rfl,h1,h3,h2⟩:=h
 refine⟨h0,ao,cap,rfl,h1,h3,fun hn=> ?_⟩
 obtain⟨b,o,rfl,hb,hc⟩:=h2 hn
 exact⟨b,o,rfl,Nat.lt_of_lt_of_le hb hs.size,hc.below hs hb⟩
theorem Lim.drew {w:World} {v:Value} {l:List Int} (h:Lim w v l):Lim w.drew v l:=h
theorem Lim.nil (w:World):Lim w (.slice none 0 0) []:=⟨lok_nil,none,0,rfl,Nat.le_refl _,fun _=>rfl,fun h=>absurd rfl h⟩
theorem Lim.of_blk {w:World} {g:Nat} {t:TypeId} {cs:List Value} {l:List Int} {cap o:Nat} (h:Blk w g t cs.toArray) (hl:lok l) (hc:∀t,t<l.length→cs[o+t]? = some (.int .u32 (l.getD t 0))) (h1:l.length≤cap) :
  Lim w (.slice (some ⟨g,o,none⟩) l.length cap) l:=
 ⟨hl,_,cap,rfl,h1,(nofun),fun _=>⟨g,o,rfl,h.lt,fun t ht=>by rw[h.cell]; simpa using hc t ht⟩⟩
theorem Lim.of_blk' {w:World} {g:Nat} {t:TypeId} {l:List Int} (h:Blk w g t (u32s l).toArray) (hl:lok l):Lim w (.slice (some ⟨g,0,none⟩) l.length l.length) l:=
 Lim.of_blk h hl (fun t ht=>by rw[Nat.zero_add]; exact u32s_getD l t ht) (Nat.le_refl _)
theorem Lim.own {w:World} {base:Nat} {e:TypeId} {v:Value} {n:Nat} {l:List Int} (h:w.ownsRow base e 1 v n (u32s l)) (hl:lok l):Lim w v l:=by
 obtain⟨h1,h2⟩:=h
 rw[u32s_length,Nat.mul_one]at h1
 subst h1
 rcases h2 with⟨rfl,h2⟩ | ⟨g,cap,cur,rfl,hg,hh,hn,hm,hs,ht⟩
 ·
  obtain rfl:=List.eq_nil_of_length_eq_zero h2
  exact Lim.nil w
 ·
  refine⟨hl,_,cap,rfl,hn,(nofun),fun _=>⟨g,0,rfl,Blk.lt (w:=w) (t:=e) (cs:=cur) hh,fun t ht'=> ?_⟩⟩
  rw[Blk.cell (w:=w) (t:=e) (cs:=cur) hh,Nat.zero_add]
  have e1:=u32s_getD l t ht'
  rw[← ht,List.getElem?_take,if_pos (by omega)]at e1
  simpa using e1
theorem Lim.cells {w:World} {ao:Option Addr} {n cap:Nat} {l:List Int} (h:Lim w (.slice ao n cap) l):lok l∧n=l.length∧n≤cap∧(0<n→∃b o,ao=some ⟨b,o,none⟩∧b<w.heap.size∧Cells w b o l):=by
 obtain⟨h0,ao',cap',e,h1,_,h2⟩:=h
 injection e with e1 e2 e3
 subst e1 e2 e3
 refine⟨h0,rfl,h1,fun hp=>h2 ?_⟩
 rintro rfl
 cases hp
theorem Lim.take {w:World} {ao:Option Addr} {n cap:Nat} {l:List Int} (h:Lim w (.slice ao n cap) l) {k:Nat} (hk:k≤l.length):Lim w (.slice ao k cap) (l.take k):=by
 have h3:ao=none→cap=0:=by
  obtain⟨_,ao',cap',e,_,h3,_⟩:=h
  injection e with e1 e2 e3
  subst e1 e3
  exact h3
 obtain⟨h0,rfl,h1,h2⟩:=h.cells
 have e:(l.take k).length=k:=by rw[List.length_take]; omega
 refine⟨lok_take h0 k,ao,cap,by rw[e],by omega,h3,fun hn=> ?_⟩
 have hp:0<k:=by
  rcases Nat.eq_zero_or_pos k with rfl | hp
  · exact absurd (List.take_zero) hn
  · exact hp
 obtain⟨b,o,rfl,hb,hc⟩:=h2 (by omega)
 refine⟨b,o,rfl,hb,fun t ht=> ?_⟩
 rw[e]at ht
 rw[hc t (by omega)]
 simp[List.getD,List.getElem?_take,ht]
theorem Lim.shape {w:World} {v:Value} {l:List Int} (h:Lim w v l):∃ao cap,v = .slice ao l.length cap:=by obtain⟨_,ao,cap,e,_⟩:=h; exact⟨ao,cap,e⟩
theorem Lim.ok {w:World} {v:Value} {l:List Int} (h:Lim w v l):lok l:=h.1
theorem Lim.one {w:World} {t:TypeId} {x:Int} (h0:0≤x) (h1:x<4294967296):Lim (w.alloc (.cells #[.int .u32 x] t)) (.slice (some ⟨w.heap.size,0,none⟩) 1 1) [x]:=
 Lim.of_blk' (l:= [x]) (Blk.new w t #[.int .u32 x]) (lok_cons.2 ⟨⟨h0,h1⟩,lok_nil⟩)
theorem own_ge {w:World} {base:Nat} {e:TypeId} {size n:Nat} {v:Value} {xs:List Value} (h:w.ownsRow base e size v n xs):∀k,v.ownBlock=some k→base≤k:=by
 intro k hk
 rcases h.2 with⟨rfl,_⟩ | ⟨g,cap,cur,rfl,hg,_⟩
 · cases hk
 · cases hk; exact hg
theorem wpList_app {P:Program} {w:World} {ops:Array Oper} {rest:List Oper} {o:Oper} {a:Act} {Q:Exit→Act→World→Prop} (hgd:o.guard=none) (s x:Operand) (t:TypeId)
  (ho:o.op = .call { callee:= .builtin .append,args:=#[s,x],argTypes:=#[t,t] }) (base:Nat) (e:TypeId) (i:TypeInfo) (ht:P.underlying t=some (.slice e)) (hi:P.info? e=some i) (hz:i.zero=some (.int .u32 0))
  (hsize:i.size=1) (hby:i.bytes=4) (v:Value) (n:Nat) (l:List Int) (hs:a.eval s=v) (hown:w.ownsRow base e 1 v n (u32s l)) (y:Value) (m:List Int) (hx:a.eval x=y) (hy:Lim w y m)
  (hb:n+m.length≤1000000000) (hbase:base≤w.heap.size)
  (h:∀v' w',w'.ownsRow base e 1 v' (n+m.length) (u32s (l++m))→w.grownBy w' v.ownBlock→(∀k,v.ownBlock=some k→base≤k)→wpList P ops Q rest (a.put o.dst v') w'):wpList P ops Q (o::rest) a w:=by
 obtain⟨hok,ao,cap,rfl,h1,h3,h2⟩:=hy
 cases ao with
 | none=>
  obtain rfl:=h3 rfl
  have hm:m = []:=List.eq_nil_of_length_eq_zero (by omega)
  subst hm
  refine wpList_append_own_none hgd s x t ho base e i 1 ht hi v n (u32s l) hs hown (by simpa using hx) ?_
  exact h v w (by simpa using hown) (World.grownBy.refl _ _) (own_ge hown)
 | some ad=>
  refine wpList_append_own w hgd s x t ho base e i (.int .u32 0) 1 4 ht hi hz hsize hby rfl (by decide) v n (u32s l) hs hown ad m.length cap (u32s m) hx (by simp[u32s]) ?_ ?_ (by unfold maxLen; omega) (by omega) hbase ?_
  ·
   intro j u hj
   have hlt:j<m.length:=by
    have:=(List.getElem?_eq_some_iff.1 hj).1
    simpa[u32s]using this
   obtain⟨b,o',e1,hbb,hc⟩:=h2 (by rintro rfl; cases hlt)
   cases e1
   rw[u32s_getD m j hlt]at hj
   cases hj
   rw[Addr.add_lit]; exact hc j hlt
  ·
   intro u hu
   obtain⟨z,_,rfl⟩:=List.mem_map.1 hu
   rfl
  ·
   intro v' w' h4 h5 _
   exact h v' w' (by simpa[u32s]using h4) h5 (own_ge hown)
theorem set_fill (xs:List Int) (k m:Nat) (x:Int) (h:xs.length=k):((u32s xs++List.replicate (m+1) (Value.int .u32 0)).toArray.setIfInBounds k (.int .u32 x))=(u32s (xs ++ [x])++List.replicate m (Value.int .u32 0)).toArray:=by
 subst h
 simp[u32s,List.set_append,List.replicate_succ]
end Go.Proofs.YtdkcffnmlllamaaGreat
