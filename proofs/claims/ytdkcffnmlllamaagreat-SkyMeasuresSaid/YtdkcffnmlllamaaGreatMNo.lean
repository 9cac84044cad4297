import Derived.Test.YtdkcffnmlllamaaGreatMWg
import Derived.Test.YtdkcffnmlllamaaGreatMNa
import Derived.Test.YtdkcffnmlllamaaGreatMBits
import Derived.BigQuiet
set_option linter.unusedVariables false
set_option linter.unusedSimpArgs false
set_option maxHeartbeats 6400000
set_option maxRecDepth 1000000
namespace Go.Proofs.YtdkcffnmlllamaaGreat
open Go.RowKit
theorem lok_zeros (n:Nat):lok (List.replicate n 0):=fun x hx=>by obtain⟨-,rfl⟩:=List.mem_replicate.1 hx; omega
theorem times_row {O xs A B:List Int} {i k:Nat} {cv x:Int} (ht:(O.take i).length=i) (hx:xs.length=k) (hi:i≤O.length) (F:lval xs+bp k*cv=lval (O.drop i)+x*lval B) (hv:lval O=lval (A.take i)*lval B) (hA:A.getD i 0=x) :
  lval (O.take i++xs ++ [cv])=lval (A.take (i+1))*lval B:=by
 rw[lval_snoc,List.length_append,ht,hx,lval_append,ht,bp_add,lval_take_succ,hA,Int.add_mul,← hv,lval_split O i hi,Int.mul_assoc (bp i) (bp k),Int.add_assoc,← Int.mul_add,F,Int.mul_add,Int.mul_assoc (bp i) x]
 omega
theorem ntimes {a b:Value} {A B:List Int} (w:World) (ha:Lim w a A) (hb:Lim w b B) (nA:A.length≤few) (nB:B.length≤few) :
  Calls Tryz.prog 119 #[a,b] w fun e w'=>∃v l,e = .returned v∧Lim w' v l∧lval l=lval A*lval B∧l.length=A.length+B.length∧Steps w w':=by
 obtain⟨aa,ca,rfl⟩:=ha.shape
 obtain⟨ab,cb,rfl⟩:=hb.shape
 obtain⟨oA,-,lA,fA⟩:=ha.cells
 obtain⟨oB,-,lB,fB⟩:=hb.cells
 clear ha hb
 unfold few at nA nB
 obtain⟨n,hU⟩:∃n,A.length=n:=⟨_,rfl⟩
 obtain⟨m,hV⟩:∃n,B.length=n:=⟨_,rfl⟩
 have H:Hid (A.length=n∧B.length=m):=⟨hU,hV⟩
 rw[hU]at nA lA fA
 rw[hV]at nB lB fB
 rw[hU,hV]
 clear hU hV
 have hmk:=make_row (n+m) (by omega)
 simp only[Int.natCast_add]at hmk
 have Z0:(w.alloc (.cells (madeCells #[.int .u32 0] (n+m)) 130)).heap.size=w.heap.size+1:=World.size_alloc _ _
 have B0:Below w.heap.size w (w.alloc (.cells (madeCells #[.int .u32 0] (n+m)) 130)):=(Below.refl _ _).alloc (Nat.le_refl _) _
 have K0:Blk (w.alloc (.cells (madeCells #[.int .u32 0] (n+m)) 130)) w.heap.size 130 (u32s (List.replicate m 0)++List.replicate n (Value.int .u32 0)).toArray:=by
  have:=Blk.new w 130 (madeCells #[.int .u32 0] (n+m))
  have e:(u32s (List.replicate m 0)++List.replicate n (Value.int .u32 0)).toArray=madeCells #[.int .u32 0] (n+m):=by
   rw[made_zeros]; simp[u32s,List.replicate_append_replicate,Nat.add_comm]
  rw[e]
  exact this
 go_enter Tryz.func119,Tryz.ntmps119
 go_wp2
 go_loopw [6,7,8] (fun ii c0 k0 wr=>∃ (i:Nat) (O:List Int),i≤n∧ii = .int .i64 i∧O.length=i+m∧lok O∧lval O=lval (A.take i)*lval B∧
   Blk wr w.heap.size 130 (u32s O++List.replicate (n-i) (Value.int .u32 0)).toArray∧Below w.heap.size w wr) (fun ii _ _ _=>(n-(intOf ii).toNat))
 case atStart=>exact⟨0,List.replicate m 0,Nat.zero_le _,rfl,by simp,lok_zeros m,by rw[lval_zeros]; simp[lval],K0,B0⟩
 case round=>
  obtain⟨i,O,hi,rfl,hO,hok,hv,hblk,hnx⟩:=hrel
  have HO:Hid (O.length=i+m∧lok O∧lval O=lval (A.take i)*lval B):=⟨hO,hok,hv⟩
  have HX:=Hid.mk_ hnx
  have HK:=Hid.mk_ hblk
  have z1:=hblk.lt
  clear hmk Z0 B0 K0 hok hv
  rcases Nat.lt_or_ge i n with h1 | h1
  ·
   obtain⟨ba,oa',rfl,hba,hca⟩:=fA (by omega)
   have HA:=Hid.mk_ hca
   obtain⟨x,hx⟩:∃x,A.getD i 0=x:=⟨_,rfl⟩
   have x0:=lok_getD oA i
   rw[hx]at x0
   have g1:wr.cell? ⟨ba,oa'+i,none⟩=some (.int .u32 x):=by rw[← hx]; exact(hnx.cell (p:=⟨ba,oa'+i,none⟩) hba).trans (hca i (by rw[H.out.1]; omega))
   have HX2:=Hid.mk_ hx
   have hU2:(O.drop i).length=m:=by rw[List.length_drop,hO]; omega
   have okU:lok (O.drop i):=lok_drop HO.out.2.1 i
   have hpre:(u32s (O.take i)).length=i:=by rw[u32s_length,List.length_take,hO]; omega
   have KB:Blk wr w.heap.size 130 (seg (u32s (O.take i)) ([]++(O.drop i).drop 0) (List.replicate (n-i) (Value.int .u32 0))):=by
    have e:seg (u32s (O.take i)) ([]++(O.drop i).drop 0) (List.replicate (n-i) (Value.int .u32 0))=(u32s O++List.replicate (n-i) (Value.int .u32 0)).toArray:=by
     simp only[seg,List.nil_append,List.drop_zero]
     rw[← List.append_assoc]
     simp only[u32s,← List.map_append,List.take_append_drop]
    rw[e]; exact hblk
   have HP:=Hid.mk_ (And.intro hU2 hpre)
   clear hca fA hx hO hU2 hpre hblk
   go_wp2
   go_loopw [7,8] (fun cc kk wr=>∃ (k:Nat) (xs:List Int) (cv:Int),k≤m∧kk = .int .i64 k∧cc = .int .u64 cv∧0≤cv∧cv<4294967296∧xs.length=k∧lok xs∧lval xs+bp k*cv=lval ((O.drop i).take k)+x*lval (B.take k)∧
     Blk wr w.heap.size 130 (seg (u32s (O.take i)) (xs++(O.drop i).drop k) (List.replicate (n-i) (Value.int .u32 0)))∧Below w.heap.size w wr) (fun _ kk _=>(m-(intOf kk).toNat))
   case atStart=>exact⟨0,[],0,Nat.zero_le _,rfl,rfl,by omega,by omega,rfl,lok_nil,by simp[lval],KB,HX.out⟩
   case round=>
    obtain⟨k,xs,cv,hk,rfl,rfl,c0,c1,hl,hok,hv,hblk2,hnx2⟩:=hrel
    have HR:Hid (xs.length=k∧lok xs∧lval xs+bp k*cv=lval ((O.drop i).take k)+x*lval (B.take k)):=⟨hl,hok,hv⟩
    have HX3:=Hid.mk_ hnx2
    have HK3:=Hid.mk_ hblk2
    clear KB g1
    rcases Nat.lt_or_ge k m with h2 | h2
    ·
     obtain⟨bb,ob',rfl,hbb,hcb⟩:=fB (by omega)
     obtain⟨v,hv'⟩:∃v,B.getD k 0=v:=⟨_,rfl⟩
     have v0:=lok_getD oB k
     rw[hv']at v0
     have g1:wr.cell? ⟨ba,oa'+i,none⟩=some (.int .u32 x):=by rw[← HX2.out]; exact(hnx2.cell (p:=⟨ba,oa'+i,none⟩) hba).trans (HA.out i (by rw[H.out.1]; omega))
     have g2:wr.cell? ⟨bb,ob'+k,none⟩=some (.int .u32 v):=by rw[← hv']; exact(hnx2.cell (p:=⟨bb,ob'+k,none⟩) hbb).trans (hcb k (by rw[H.out.2]; omega))
     obtain⟨o,ho⟩:∃o,(O.drop i).getD k 0=o:=⟨_,rfl⟩
     have o0:=lok_getD okU k
     rw[ho]at o0
     have gU:(xs++(O.drop i).drop k).getD k 0=o:=by
      rw[← ho]
      simp only[List.getD]
      rw[List.getElem?_append_right (by omega),hl,Nat.sub_self,List.getElem?_drop,Nat.add_zero]
     have g3:wr.cell? ⟨w.heap.size,i+k,none⟩=some (.int .u32 o):=by
      rw[← gU]
      exact hblk2.c _ (seg_get HP.out.2 (by rw[List.length_append,List.length_drop,hl]; have:=HP.out.1; omega))
     have g4:wr.frozen? ⟨w.heap.size,i+k,none⟩=false:=hblk2.fr _
     obtain⟨p,hp⟩:∃p,x*v=p:=⟨_,rfl⟩
     have p0:0≤p:=by rw[← hp]; exact Int.mul_nonneg x0.1 v0.1
     have p1:p≤18446744065119617025:=by
      rw[← hp]
      have:=Int.mul_le_mul (show x≤4294967295 by omega) (show v≤4294967295 by omega) v0.1 (by omega)
      omega
     have hw:IntKind.u64.wrap (x*v)=p:=by rw[hp,wrap_u64 (by omega) (by omega)]
     have HS:Hid (∀s,s=cv+(p+o)→lval (xs ++ [s%4294967296])+bp (k+1)*(s / 4294967296)=lval ((O.drop i).take (k+1))+x*lval (B.take (k+1))):=
      fun s h=>row_step (s:=s) hl hv (by rw[hv',ho,hp]; exact h)
     clear hv' ho gU hp hl hok hv hblk2 hnx2 hcb fB
     go_wp2_with fail
     go_quiet (fail)
     go_wp2
     go_roundw
     case rel=>
      have R:=HR.out
      refine⟨k+1,xs ++ [(cv+(p+o))%4294967296],(cv+(p+o)) / 4294967296,by omega,by go_num,by go_num,by omega,by omega,by rw[List.length_append,R.1]; rfl,lok_snoc R.2.1 (by omega) (by omega),HS.out _ rfl,?_,(belowN HX3.out _).setCell (p:=⟨w.heap.size,i+k,none⟩) (Nat.le_refl _) _⟩
      refine(HK3.out.drewN _).set2 ?_
      exact seg_set HP.out.2 R.1 (by have:=HP.out.1; omega) _
     case measure=>simp[intOf]; omega
    ·
     have hkn:k=m:=by omega
     subst hkn
     have z2:=hblk2.lt
     have F:Hid (lval xs+bp k*cv=lval (O.drop i)+x*lval B):=by
      rw[List.take_of_length_le (by have:=HP.out.1; omega),List.take_of_length_le (by have:=H.out.2; omega)]at hv
      exact hv
     have e0:seg (u32s (O.take i)) (xs++(O.drop i).drop k) (List.replicate (n-i) (Value.int .u32 0))=(u32s (O.take i++xs)++List.replicate (n-(i+1)+1) (Value.int .u32 0)).toArray:=by
      rw[List.drop_of_length_le (by have:=HP.out.1; omega),List.append_nil,show n-(i+1)+1=n-i by omega]
      simp only[seg,u32s,List.map_append,List.append_assoc]
     rw[e0]at hblk2
     have hlen:(O.take i++xs).length=i+k:=by rw[List.length_append,hl]; have:=HP.out.2; rw[u32s_length]at this; omega
     have g3:wr.cell? ⟨w.heap.size,i+k,none⟩=some (.int .u32 0):=hblk2.c _ (fill_get hlen)
     have g4:wr.frozen? ⟨w.heap.size,i+k,none⟩=false:=hblk2.fr _
     have HB2:=Hid.mk_ hblk2
     have HL:=Hid.mk_ hlen
     clear e0 hlen hl hok hv hblk2 hnx2 HK3 fB
     go_wp2
     go_roundw
     case rel=>
      refine⟨i+1,O.take i++xs ++ [cv],by omega,by go_num,by rw[List.length_append,HL.out,List.length_singleton]; omega,lok_append.2 ⟨lok_append.2 ⟨lok_take HO.out.2.1 i,HR.out.2.1⟩,lok_cons.2 ⟨⟨c0,c1⟩,lok_nil⟩⟩,?_,?_,HX3.out.setCell (p:=⟨w.heap.size,i+k,none⟩) (Nat.le_refl _) _⟩
      ·
       have t:(O.take i).length=i:=by have:=HP.out.2; rwa[u32s_length]at this
       exact times_row t HR.out.1 (by have:=HO.out.1; omega) F.out HO.out.2.2 HX2.out
      ·
       have:=HB2.out.set2 (set_fill (O.take i++xs) (i+k) (n-(i+1)) cv HL.out)
       first | exact this | (try rw[show cv%4294967296=cv by omega]; exact this)
     case measure=>simp[intOf]; omega
  ·
   have hkn:i=n:=by omega
   subst hkn
   clear fA fB hnx hblk
   go_wp2
   go_returns
   have kb:=HK.out
   rw[Nat.sub_self,List.replicate_zero,List.append_nil]at kb
   have L:=Lim.of_blk' kb HO.out.2.1
   rw[HO.out.1]at L
   refine⟨_,O,rfl,L,?_,HO.out.1,HX.out⟩
   have:=HO.out.2.2
   rw[List.take_of_length_le (by have:=H.out.1; omega)]at this
   exact this
theorem wtimes {a b:Value} {A B:List Int} (w:World) (ha:Lim w a A) (hb:Lim w b B) (nA:A.length≤few) (nB:B.length≤few) :
  Calls Tryz.prog 155 #[a,b] w fun e w'=>∃v l,e = .returned v∧Lim w' v l∧lval l=lval A*lval B∧l.length=A.length+B.length∧Steps w w':=by
 obtain⟨aa,ca,rfl⟩:=ha.shape
 obtain⟨ab,cb,rfl⟩:=hb.shape
 obtain⟨oA,-,lA,fA⟩:=ha.cells
 obtain⟨oB,-,lB,fB⟩:=hb.cells
 clear ha hb
 unfold few at nA nB
 obtain⟨n,hU⟩:∃n,A.length=n:=⟨_,rfl⟩
 obtain⟨m,hV⟩:∃n,B.length=n:=⟨_,rfl⟩
 have H:Hid (A.length=n∧B.length=m):=⟨hU,hV⟩
 rw[hU]at nA lA fA
 rw[hV]at nB lB fB
 rw[hU,hV]
 clear hU hV
 have hmk:=make_row (n+m) (by omega)
 simp only[Int.natCast_add]at hmk
 have Z0:(w.alloc (.cells (madeCells #[.int .u32 0] (n+m)) 130)).heap.size=w.heap.size+1:=World.size_alloc _ _
 have B0:Below w.heap.size w (w.alloc (.cells (madeCells #[.int .u32 0] (n+m)) 130)):=(Below.refl _ _).alloc (Nat.le_refl _) _
 have K0:Blk (w.alloc (.cells (madeCells #[.int .u32 0] (n+m)) 130)) w.heap.size 130 (u32s (List.replicate m 0)++List.replicate n (Value.int .u32 0)).toArray:=by
  have:=Blk.new w 130 (madeCells #[.int .u32 0] (n+m))
  have e:(u32s (List.replicate m 0)++List.replicate n (Value.int .u32 0)).toArray=madeCells #[.int .u32 0] (n+m):=by
   rw[made_zeros]; simp[u32s,List.replicate_append_replicate,Nat.add_comm]
  rw[e]
  exact this
 go_enter Tryz.func155,Tryz.ntmps155
 go_wp2
 go_loopw [6,7,8,9,10,19] (fun _ _ _ _ _ ii wr=>∃ (i:Nat) (O:List Int),i≤n∧ii = .int .i64 i∧O.length=i+m∧lok O∧lval O=lval (A.take i)*lval B∧
   Blk wr w.heap.size 130 (u32s O++List.replicate (n-i) (Value.int .u32 0)).toArray∧Below w.heap.size w wr) (fun _ _ _ _ _ ii _=>(n-(intOf ii).toNat))
 case atStart=>exact⟨0,List.replicate m 0,Nat.zero_le _,rfl,by simp,lok_zeros m,by rw[lval_zeros]; simp[lval],K0,B0⟩
 case round=>
  obtain⟨i,O,hi,rfl,hO,hok,hv,hblk,hnx⟩:=hrel
  have HO:Hid (O.length=i+m∧lok O∧lval O=lval (A.take i)*lval B):=⟨hO,hok,hv⟩
  have HX:=Hid.mk_ hnx
  have HK:=Hid.mk_ hblk
  have z1:=hblk.lt
  clear hmk Z0 B0 K0 hok hv
  rcases Nat.lt_or_ge i n with h1 | h1
  ·
   obtain⟨ba,oa',rfl,hba,hca⟩:=fA (by omega)
   have HA:=Hid.mk_ hca
   obtain⟨x,hx⟩:∃x,A.getD i 0=x:=⟨_,rfl⟩
   have x0:=lok_getD oA i
   rw[hx]at x0
   have g1:wr.cell? ⟨ba,oa'+i,none⟩=some (.int .u32 x):=by rw[← hx]; exact(hnx.cell (p:=⟨ba,oa'+i,none⟩) hba).trans (hca i (by rw[H.out.1]; omega))
   have HX2:=Hid.mk_ hx
   have hU2:(O.drop i).length=m:=by rw[List.length_drop,hO]; omega
   have okU:lok (O.drop i):=lok_drop HO.out.2.1 i
   have hpre:(u32s (O.take i)).length=i:=by rw[u32s_length,List.length_take,hO]; omega
   have KB:Blk wr w.heap.size 130 (seg (u32s (O.take i)) ([]++(O.drop i).drop 0) (List.replicate (n-i) (Value.int .u32 0))):=by
    have e:seg (u32s (O.take i)) ([]++(O.drop i).drop 0) (List.replicate (n-i) (Value.int .u32 0))=(u32s O++List.replicate (n-i) (Value.int .u32 0)).toArray:=by
     simp only[seg,List.nil_append,List.drop_zero]
     rw[← List.append_assoc]
     simp only[u32s,← List.map_append,List.take_append_drop]
    rw[e]; exact hblk
   have HP:=Hid.mk_ (And.intro hU2 hpre)
   clear hca fA hx hO hU2 hpre hblk
   go_wp2
   go_loopw [8,9,10,26] (fun cc _ _ kk wr=>∃ (k:Nat) (xs:List Int) (cv:Int),k≤m∧kk = .int .i64 k∧cc = .int .u64 cv∧0≤cv∧cv<4294967296∧xs.length=k∧lok xs∧lval xs+bp k*cv=lval ((O.drop i).take k)+x*lval (B.take k)∧
     Blk wr w.heap.size 130 (seg (u32s (O.take i)) (xs++(O.drop i).drop k) (List.replicate (n-i) (Value.int .u32 0)))∧Below w.heap.size w wr) (fun _ _ _ kk _=>(m-(intOf kk).toNat))
   case atStart=>exact⟨0,[],0,Nat.zero_le _,rfl,rfl,by omega,by omega,rfl,lok_nil,by simp[lval],KB,HX.out⟩
   case round=>
    obtain⟨k,xs,cv,hk,rfl,rfl,c0,c1,hl,hok,hv,hblk2,hnx2⟩:=hrel
    have HR:Hid (xs.length=k∧lok xs∧lval xs+bp k*cv=lval ((O.drop i).take k)+x*lval (B.take k)):=⟨hl,hok,hv⟩
    have HX3:=Hid.mk_ hnx2
    have HK3:=Hid.mk_ hblk2
    clear KB g1
    rcases Nat.lt_or_ge k m with h2 | h2
    ·
     obtain⟨bb,ob',rfl,hbb,hcb⟩:=fB (by omega)
     obtain⟨v,hv'⟩:∃v,B.getD k 0=v:=⟨_,rfl⟩
     have v0:=lok_getD oB k
     rw[hv']at v0
     have g1:wr.cell? ⟨ba,oa'+i,none⟩=some (.int .u32 x):=by rw[← HX2.out]; exact(hnx2.cell (p:=⟨ba,oa'+i,none⟩) hba).trans (HA.out i (by rw[H.out.1]; omega))
     have g2:wr.cell? ⟨bb,ob'+k,none⟩=some (.int .u32 v):=by rw[← hv']; exact(hnx2.cell (p:=⟨bb,ob'+k,none⟩) hbb).trans (hcb k (by rw[H.out.2]; omega))
     obtain⟨o,ho⟩:∃o,(O.drop i).getD k 0=o:=⟨_,rfl⟩
     have o0:=lok_getD okU k
     rw[ho]at o0
     have gU:(xs++(O.drop i).drop k).getD k 0=o:=by
      rw[← ho]
      simp only[List.getD]
      rw[List.getElem?_append_right (by omega),hl,Nat.sub_self,List.getElem?_drop,Nat.add_zero]
     have g3:wr.cell? ⟨w.heap.size,i+k,none⟩=some (.int .u32 o):=by
      rw[← gU]
      exact hblk2.c _ (seg_get HP.out.2 (by rw[List.length_append,List.length_drop,hl]; have:=HP.out.1; omega))
     have g4:wr.frozen? ⟨w.heap.size,i+k,none⟩=false:=hblk2.fr _
     obtain⟨p,hp⟩:∃p,x*v=p:=⟨_,rfl⟩
     have p0:0≤p:=by rw[← hp]; exact Int.mul_nonneg x0.1 v0.1
     have p1:p≤18446744065119617025:=by
      rw[← hp]
      have:=Int.mul_le_mul (show x≤4294967295 by omega) (show v≤4294967295 by omega) v0.1 (by omega)
      omega
     have hw:IntKind.u64.wrap (x*v)=p:=by rw[hp,wrap_u64 (by omega) (by omega)]
     have HS:Hid (∀s,s=cv+(p+o)→lval (xs ++ [s%4294967296])+bp (k+1)*(s / 4294967296)=lval ((O.drop i).take (k+1))+x*lval (B.take (k+1))):=
      fun s h=>row_step (s:=s) hl hv (by rw[hv',ho,hp]; exact h)
     clear hv' ho gU hp hl hok hv hblk2 hnx2 hcb fB
     go_wp2
     go_roundw
     case rel=>
      have R:=HR.out
      refine⟨k+1,xs ++ [(cv+(p+o))%4294967296],(cv+(p+o)) / 4294967296,by omega,by go_num,by go_num,by omega,by omega,by rw[List.length_append,R.1]; rfl,lok_snoc R.2.1 (by omega) (by omega),HS.out _ rfl,?_,HX3.out.setCell (p:=⟨w.heap.size,i+k,none⟩) (Nat.le_refl _) _⟩
      refine HK3.out.set2 ?_
      exact seg_set HP.out.2 R.1 (by have:=HP.out.1; omega) _
     case measure=>simp[intOf]; omega
    ·
     have hkn:k=m:=by omega
     subst hkn
     have z2:=hblk2.lt
     have F:Hid (lval xs+bp k*cv=lval (O.drop i)+x*lval B):=by
      rw[List.take_of_length_le (by have:=HP.out.1; omega),List.take_of_length_le (by have:=H.out.2; omega)]at hv
      exact hv
     have e0:seg (u32s (O.take i)) (xs++(O.drop i).drop k) (List.replicate (n-i) (Value.int .u32 0))=(u32s (O.take i++xs)++List.replicate (n-(i+1)+1) (Value.int .u32 0)).toArray:=by
      rw[List.drop_of_length_le (by have:=HP.out.1; omega),List.append_nil,show n-(i+1)+1=n-i by omega]
      simp only[seg,u32s,List.map_append,List.append_assoc]
     rw[e0]at hblk2
     have hlen:(O.take i++xs).length=i+k:=by rw[List.length_append,hl]; have:=HP.out.2; rw[u32s_length]at this; omega
     have g3:wr.cell? ⟨w.heap.size,i+k,none⟩=some (.int .u32 0):=hblk2.c _ (fill_get hlen)
     have g4:wr.frozen? ⟨w.heap.size,i+k,none⟩=false:=hblk2.fr _
     have HB2:=Hid.mk_ hblk2
     have HL:=Hid.mk_ hlen
     clear e0 hlen hl hok hv hblk2 hnx2 HK3 fB
     go_wp2
     go_roundw
     case rel=>
      refine⟨i+1,O.take i++xs ++ [cv],by omega,by go_num,by rw[List.length_append,HL.out,List.length_singleton]; omega,lok_append.2 ⟨lok_append.2 ⟨lok_take HO.out.2.1 i,HR.out.2.1⟩,lok_cons.2 ⟨⟨c0,c1⟩,lok_nil⟩⟩,?_,?_,HX3.out.setCell (p:=⟨w.heap.size,i+k,none⟩) (Nat.le_refl _) _⟩
      ·
       have t:(O.take i).length=i:=by have:=HP.out.2; rwa[u32s_length]at this
       exact times_row t HR.out.1 (by have:=HO.out.1; omega) F.out HO.out.2.2 HX2.out
      ·
       have:=HB2.out.set2 (set_fill (O.take i++xs) (i+k) (n-(i+1)) cv HL.out)
       first | exact this | (try rw[show cv%4294967296=cv by omega]; exact this)
     case measure=>simp[intOf]; omega
  ·
   have hkn:i=n:=by omega
   subst hkn
   clear fA fB hnx hblk
   go_wp2
   go_returns
   have kb:=HK.out
   rw[Nat.sub_self,List.replicate_zero,List.append_nil]at kb
   have L:=Lim.of_blk' kb HO.out.2.1
   rw[HO.out.1]at L
   refine⟨_,O,rfl,L,?_,HO.out.1,HX.out⟩
   have:=HO.out.2.2
   rw[List.take_of_length_le (by have:=H.out.1; omega)]at this
   exact this
end Go.Proofs.YtdkcffnmlllamaaGreat
