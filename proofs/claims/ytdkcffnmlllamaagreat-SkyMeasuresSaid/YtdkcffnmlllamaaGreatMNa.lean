import Derived.Test.YtdkcffnmlllamaaGreatMWg
import Derived.Deep.RegionHeld3
import Derived.Deep.DeepMust
set_option linter.unusedVariables false
set_option linter.unusedSimpArgs false
set_option maxHeartbeats 6400000
set_option maxRecDepth 1000000
namespace Go.Proofs.YtdkcffnmlllamaaGreat
open Go.RowKit
def zv (neg:Bool) (m:Int):Int:=if neg then -m else m
def absN (z:Int):Int:=((z.natAbs:Nat):Int)
def fits (z:Int):Prop:=(limbs (absN z)).length≤4096
instance (z:Int):Decidable (fits z):=inferInstanceAs (Decidable (_≤_))
def errN (z:Int):Int:=if fits z then 0 else 16
def clipN (z:Int):Int:=if fits z then z else 0
def Num (w:World) (v:Value) (z:Int):Prop:=∃s,v = .agg #[.bool (decide (z<0)),s]∧Lim w s (limbs (absN z))
theorem Num.steps {w w':World} {v:Value} {z:Int} (h:Num w v z) (hs:Steps w w'):Num w' v z:=by
 obtain⟨s,e,hl⟩:=h
 exact⟨s,e,hl.steps hs⟩
theorem absN_zv (neg:Bool) {m:Int} (h:0≤m):absN (zv neg m)=m:=by unfold absN zv; split<;>omega
theorem zv_neg (neg:Bool) {m:Int} (h:0≤m):decide (zv neg m<0)=(neg&&decide (0<m)):=by
 unfold zv
 cases neg
 · simp; omega
 · simp
theorem ltrim_pos {l:List Int} (h:lok l):0<(ltrim l).length↔0<lval l:=by
 have h1:=limbs_lval h
 have h2:=limbs_nil (lval_nonneg h)
 have h3:=lval_nonneg h
 rw[h1]at h2
 rw[List.length_pos_iff]
 constructor
 ·
  intro e
  rcases Int.lt_or_le 0 (lval l)with g | g
  · exact g
  · exact absurd (h2.2 (by omega)) e
 ·
  intro e g
  have:=h2.1 g
  omega
theorem Num.zero (w:World):Num w (.agg #[.bool false,.slice none 0 0]) 0:=⟨_,rfl,Lim.nil w⟩
theorem Num.of {w:World} {neg b:Bool} {s:Value} {l:List Int} (hs:Lim w s (ltrim l)) (hl:lok l) (hb:b=(neg&&decide (0<(ltrim l).length))):Num w (.agg #[.bool b,s]) (zv neg (lval l)):=by
 refine⟨s,?_,?_⟩
 ·
  rw[zv_neg neg (lval_nonneg hl),hb]
  congr 3
  have:=ltrim_pos hl
  by_cases g:0<(ltrim l).length
  · simp[g,this.1 g]
  · simp[g,show ¬0<lval l from fun h=>g (this.2 h)]
 · rw[absN_zv neg (lval_nonneg hl),limbs_lval hl]; exact hs
theorem fits_zv (neg:Bool) {l:List Int} (h:lok l):fits (zv neg (lval l))↔(ltrim l).length≤4096:=by
 unfold fits
 rw[absN_zv neg (lval_nonneg h),limbs_lval h]
theorem Lim.put2 {w:World} {v:Value} {l:List Int} {r:Nat} {t:TypeId} {a:Bool} {ao:Option Addr} {n c:Nat} {u u':Value} (h:Lim w v l) (hb:Blk w r t #[.bool a,.slice ao n c]) :
  Lim ((w.setCell ⟨r,0,none⟩ u).setCell ⟨r,1,none⟩ u') v l:=by
 obtain⟨h0,ao',cap,rfl,h1,h3,h2⟩:=h
 refine⟨h0,ao',cap,rfl,h1,h3,fun hn=> ?_⟩
 obtain⟨b,o,rfl,hbb,hc⟩:=h2 hn
 have hne:b≠r:=by
  rintro rfl
  have g:=hc 0 (List.length_pos_iff.2 hn)
  rw[hb.cell]at g
  match o,g with
  | 0,g=>simp at g
  | 1,g=>simp at g
  | o+2,g=>simp at g
 refine⟨b,o,rfl,by simpa[World.setCell]using hbb,(hc.set (g:=r) hne).set hne⟩
theorem Num.put2 {w:World} {v:Value} {z:Int} {r:Nat} {t:TypeId} {a:Bool} {ao:Option Addr} {n c:Nat} {u u':Value} (h:Num w v z) (hb:Blk w r t #[.bool a,.slice ao n c]) :
  Num ((w.setCell ⟨r,0,none⟩ u).setCell ⟨r,1,none⟩ u') v z:=by
 obtain⟨s,e,hl⟩:=h
 exact⟨s,e,hl.put2 hb⟩
theorem Num.alloc_ {w:World} {v:Value} {z:Int} (h:Num w v z) (o:Obj):Num (w.alloc o) v z:=h.steps ((Below.refl _ _).alloc (Nat.le_refl _) _)
theorem Num.drew_ {w:World} {v:Value} {z:Int} (h:Num w v z):Num w.drew v z:=h
theorem retW {a b:Value} {x y:Int} (h:a=b) (g:x=y):Ending.returned (.tuple #[a,.int .i64 x]) = .returned (.tuple #[b,.int .i64 y]):=by rw[h,g]
theorem rmadeN (neg:Bool) {s:Value} {l:List Int} (w:World) (hs:Lim w s l) (nl:l.length≤few) :
  Calls Tryz.prog 97 #[.bool neg,s] w fun e w'=>∃v,e = .returned (.tuple #[v,.int .i64 (errN (zv neg (lval l)))])∧Num w' v (clipN (zv neg (lval l)))∧Steps w w':=by
 have ok:=hs.ok
 have nt:=ltrim_le l
 unfold few at nl
 obtain⟨n,hn⟩:∃n,(ltrim l).length=n:=⟨_,rfl⟩
 have hf:=fits_zv neg ok
 have F1:Hid (n≤4096→errN (zv neg (lval l))=0∧clipN (zv neg (lval l))=zv neg (lval l)):=fun h=>by
  have g:fits (zv neg (lval l)):=hf.2 (by omega)
  exact⟨if_pos g,if_pos g⟩
 have F2:Hid (4096<n→errN (zv neg (lval l))=16∧clipN (zv neg (lval l))=0):=fun h=>by
  have g:¬fits (zv neg (lval l)):=fun g=>by have:=hf.1 g; omega
  exact⟨if_neg g,if_neg g⟩
 have HO:=Hid.mk_ ok
 have HN:=Hid.mk_ hn
 clear hf ok hn
 go_enter Tryz.func97,Tryz.ntmps97
 go_wp2_with fail
 refine(rtrim _ (hs.steps belowB) (by unfold few; omega)).mono ?_
 rintro e w1 ⟨v1,rfl,hv1,st⟩
 have Bn:=bA w st
 have or:Blk w1 (w.heap.size) 30 #[.bool false,.slice none 0 0]:=Blk.stepsA st
 clear st
 have B:=Bn
 clear Bn
 obtain⟨cr0,cr1,fr,lr⟩:=or.s1
 have HV:=Hid.mk_ hv1
 obtain⟨ao,cap,hsh⟩:=hv1.shape
 rw[HN.out]at hsh
 subst hsh
 have hn':=HN.out
 clear hv1
 rcases Nat.lt_or_ge 4096 n with h1 | h1
 ·
  go_wp2
  refine bodyPost_ret (by simp[results,Tryz.results97,go_sem,cr0,cr1,fr,lr]; rfl) rfl ?_
  exact⟨_,retW rfl (F2.out h1).1.symm,by rw[(F2.out h1).2]; exact Num.zero _,belowB⟩
 ·
  have F:=F1.out h1
  rcases Nat.eq_zero_or_pos n with h2 | h2
  ·
   subst h2
   cases neg
   all_goals
    go_wp2
    refine bodyPost_ret (by simp[results,Tryz.results97,go_sem,cr0,cr1,fr,lr]; rfl) rfl ?_
    exact⟨_,retW rfl F.1.symm,by rw[F.2]; exact Num.of (HV.out.put2 or) HO.out (by rw[HN.out]; rfl),belowB⟩
  ·
   cases neg
   all_goals
    go_wp2
    refine bodyPost_ret (by simp[results,Tryz.results97,go_sem,cr0,cr1,fr,lr]; rfl) rfl ?_
    exact⟨_,retW rfl F.1.symm,by rw[F.2]; exact Num.of (HV.out.put2 or) HO.out (by rw[HN.out]; simp[h2]),belowB⟩
def valid (neg:Bool) (l:List Int):Prop:=l.length≤4096∧ltrim l=l∧(l = []→neg=false)
instance (neg:Bool) (l:List Int):Decidable (valid neg l):=inferInstanceAs (Decidable (_∧_∧_))
def errC (p:Prop) [Decidable p]:Int:=if p then 0 else 8
theorem ltrim_iff {l:List Int} {k:Nat} (h:l.length=k+1):ltrim l=l↔l.getD k 0≠0:=by
 constructor
 · intro e; exact ltrim_top e h
 ·
  intro e
  have hne:l≠ []:=by rintro rfl; cases h
  refine ltrim_of_last hne ?_
  rw[List.getLast_eq_getElem]
  simpa[List.getD,h]using e
theorem valid_num {w:World} {neg:Bool} {s:Value} {l:List Int} (h:Lim w s l) (hv:valid neg l):Num w (.agg #[.bool neg,s]) (zv neg (lval l)):=by
 refine Num.of (by rw[hv.2.1]; exact h) h.ok ?_
 rw[hv.2.1]
 cases neg
 · rfl
 ·
  have:l≠ []:=fun e=>by have:=hv.2.2 e; cases this
  simp[List.length_pos_iff.2 this]
theorem valid_fits {neg:Bool} {l:List Int} (ok:lok l) (hv:valid neg l):fits (zv neg (lval l)):=by
 rw[fits_zv neg ok,hv.2.1]; exact hv.1
theorem valid_of {z:Int} (h:fits z):valid (decide (z<0)) (limbs (absN z)):=by
 refine⟨h,limbs_canon _,fun e=> ?_⟩
 have h0:0≤absN z:=by unfold absN; omega
 have:=(limbs_nil h0).1 e
 unfold absN at this
 simp; omega
theorem rcheckN (neg:Bool) {s:Value} {l:List Int} (w:World) (hs:Lim w s l) :
  Calls Tryz.prog 94 #[.agg #[.bool neg,s]] w fun e w'=>e = .returned (.int .i64 (errC (valid neg l)))∧Steps w w':=by
 obtain⟨ao,cap,rfl⟩:=hs.shape
 obtain⟨ok,-,lc,fc⟩:=hs.cells
 obtain⟨n,hn⟩:∃n,l.length=n:=⟨_,rfl⟩
 rw[hn]at lc fc⊢
 clear hs
 rcases Nat.lt_or_ge 4096 n with h1 | h1
 ·
  have H:Hid (errC (valid neg l)=8):=if_neg (fun h=>by have:=h.1; omega)
  go_enter Tryz.func94,Tryz.ntmps94
  go_wp2
  go_returns
  exact⟨retI H.out.symm,belowB⟩
 ·
  match n,hn with
  | 0,hn=>
   obtain rfl:=List.eq_nil_of_length_eq_zero hn
   cases neg
   ·
    have H:Hid (errC (valid false [])=0):=if_pos ⟨by simp,rfl,fun _=>rfl⟩
    clear fc
    go_enter Tryz.func94,Tryz.ntmps94
    go_wp2
    go_returns
    exact⟨retI H.out.symm,belowB⟩
   ·
    have H:Hid (errC (valid true [])=8):=if_neg (fun h=>by have:=h.2.2 rfl; cases this)
    clear fc
    go_enter Tryz.func94,Tryz.ntmps94
    go_wp2
    go_returns
    exact⟨retI H.out.symm,belowB⟩
  | k+1,hn=>
   obtain⟨b,o,rfl,hb,hc⟩:=fc (by omega)
   have hi:=ltrim_iff hn
   have g:=hc k (by omega)
   obtain⟨x,hx⟩:∃x,l.getD k 0=x:=⟨_,rfl⟩
   rw[hx]at g hi
   have g2:(w.alloc (.cells #[.bool neg,.slice (some ⟨b,o,none⟩) (k+1) cap] 30)).cell? ⟨b,o+k,none⟩=some (.int .u32 x):=by
    rw[← g]; exact World.cell?_of_block (Below.heap_alloc _ _ _ hb)
   have hne:l≠ []:=by rintro rfl; cases hn
   clear hc fc
   rcases Int.decEq x 0 with h2 | h2
   ·
    have hx0:(x==0)=false:=by simp[h2]
    have H:Hid (errC (valid neg l)=0):=if_pos ⟨by omega,hi.2 h2,fun e=>absurd e hne⟩
    clear hi hx
    go_enter Tryz.func94,Tryz.ntmps94
    go_wp2
    go_returns
    exact⟨retI H.out.symm,belowB⟩
   ·
    have H:Hid (errC (valid neg l)=8):=if_neg (fun h=>hi.1 h.2.1 h2)
    clear hi hx
    subst h2
    go_enter Tryz.func94,Tryz.ntmps94
    go_wp2
    go_returns
    exact⟨retI H.out.symm,belowB⟩
end Go.Proofs.YtdkcffnmlllamaaGreat
/- The program's side (wide): trim, made, Add32. -/
namespace Go.Proofs.YtdkcffnmlllamaaGreat
open Go.RowKit
theorem wtrim {a:Value} {l:List Int} (w:World) (ha:Lim w a l) (nl:l.length≤few) :
  Calls Tryz.prog 142 #[a] w fun e w'=>∃v,e = .returned v∧Lim w' v (ltrim l)∧Steps w w':=by
 obtain⟨aa,ca,rfl⟩:=ha.shape
 obtain⟨ol,-,la,fa⟩:=ha.cells
 have HL:Hid (Lim w (.slice aa l.length ca) l):=ha
 clear ha
 unfold few at nl
 obtain⟨n,hn⟩:∃n,l.length=n:=⟨_,rfl⟩
 have H:Hid (l.length=n):=hn
 rw[hn]at fa la nl
 rw[hn]
 clear hn
 go_enter Tryz.func142,Tryz.ntmps142
 go_wp2
 go_loopw [3] (fun i wr=>∃k:Nat,k≤n∧i = .int .i64 k∧ltrim (l.take k)=ltrim l∧Below w.heap.size w wr) (fun i _=>(intOf i).toNat)
 case atStart=>exact⟨n,Nat.le_refl _,rfl,by rw[List.take_of_length_le (by have:=H.out; omega)],Below.refl _ _⟩
 case round=>
  obtain⟨k,hk,rfl,hd,hnx⟩:=hrel
  have T:Hid (ltrim (l.take k)=ltrim l):=hd
  clear hd
  have fin:ltrim l=l.take k→Lim wr (.slice aa k ca) (ltrim l):=fun e=>by
   have h1:=H.out
   rw[e]
   have:=HL.out
   rw[H.out]at this
   exact(this.steps hnx).take (by omega)
  rcases Nat.eq_zero_or_pos k with rfl | hp
  ·
   have L0:=Hid.mk_ (fin (by rw[← T.out]; rfl))
   clear fin
   go_wp2
   go_returns
   exact⟨_,rfl,L0.out,hnx⟩
  ·
   obtain⟨j,rfl⟩:∃j,k=j+1:=⟨k-1,by omega⟩
   obtain⟨ba,oa',rfl,hba,hca⟩:=fa (by omega)
   have g1:=(hnx.cell (p:=⟨ba,oa'+j,none⟩) hba).trans (hca j (by rw[H.out]; omega))
   obtain⟨u,hu⟩:∃u,l.getD j 0=u:=⟨_,rfl⟩
   rw[hu]at g1
   have HU:Hid (l.getD j 0=u):=hu
   have hj:j<l.length:=by have:=H.out; omega
   rcases Int.decEq u 0 with hne | rfl
   ·
    have L0:=Hid.mk_ (fin (by rw[← T.out]; exact ltrim_take_last hj (by rw[HU.out]; exact hne)))
    clear fin hca fa hu hj
    go_wp2
    go_returns
    exact⟨_,rfl,L0.out,hnx⟩
   ·
    have T2:Hid (ltrim (l.take j)=ltrim l):=by rw[← T.out]; exact(ltrim_take_zero hj HU.out).symm
    clear fin hca fa hu hj
    go_wp2
    go_roundw
    case rel=>exact⟨j,by omega,by go_num,T2.out,hnx⟩
    case measure=>simp[intOf]
theorem badd (x y c:Int) (w:World) (x0:0≤x∧x<4294967296) (y0:0≤y∧y<4294967296) (c0:0≤c∧c≤1) :
  Calls Tryz.prog 147 #[.int .u32 x,.int .u32 y,.int .u32 c] w fun e w'=>e = .returned (.tuple #[.int .u32 ((x+y+c)%4294967296),.int .u32 ((x+y+c) / 4294967296)])∧w'=w:=by
 go_enter Tryz.func147,Tryz.ntmps147
 go_wp2
 go_returns
 exact⟨rfl,rfl⟩
theorem bv_back (v:BitVec 32):BitVec.ofInt 32 ((v.toNat:Nat):Int)=v:=by simp
theorem bits_bv_and (a b:Int):bits .and .u32 a b=(((BitVec.ofInt 32 a &&& BitVec.ofInt 32 b).toNat:Nat):Int):=by
 show IntKind.u32.wrap (((BitVec.ofInt 32 a &&& BitVec.ofInt 32 b).toNat:Nat):Int)=_
 rw[IntKind.wrap_u32]
 have:=(BitVec.ofInt 32 a &&& BitVec.ofInt 32 b).isLt
 exact Int.emod_eq_of_lt (by omega) (by omega)
theorem bits_bv_or (a b:Int):bits .or .u32 a b=(((BitVec.ofInt 32 a ||| BitVec.ofInt 32 b).toNat:Nat):Int):=by
 show IntKind.u32.wrap (((BitVec.ofInt 32 a ||| BitVec.ofInt 32 b).toNat:Nat):Int)=_
 rw[IntKind.wrap_u32]
 have:=(BitVec.ofInt 32 a ||| BitVec.ofInt 32 b).isLt
 exact Int.emod_eq_of_lt (by omega) (by omega)
theorem bits_bv_xor (a b:Int):bits .xor .u32 a b=(((BitVec.ofInt 32 a ^^^ BitVec.ofInt 32 b).toNat:Nat):Int):=by
 show IntKind.u32.wrap (((BitVec.ofInt 32 a ^^^ BitVec.ofInt 32 b).toNat:Nat):Int)=_
 rw[IntKind.wrap_u32]
 have:=(BitVec.ofInt 32 a ^^^ BitVec.ofInt 32 b).isLt
 exact Int.emod_eq_of_lt (by omega) (by omega)
theorem bv_top (v:BitVec 32):((v.toNat:Nat):Int) / 2147483648=if v.msb then 1 else 0:=by
 have:=v.isLt
 rw[BitVec.msb_eq_decide]
 by_cases h:2^(32-1)≤v.toNat
 · simp only[h,decide_true,if_true]; omega
 · simp only[h,decide_false,Bool.false_eq_true,if_false]; omega
theorem bv_msb {x:Int} (h:0≤x∧x<4294967296):(BitVec.ofInt 32 x).msb=decide (2147483648≤x):=by
 obtain⟨n,rfl⟩:=Int.eq_ofNat_of_zero_le h.1
 rw[BitVec.ofInt_natCast,BitVec.msb_eq_decide,BitVec.toNat_ofNat,Nat.mod_eq_of_lt (by omega)]
 by_cases g:2147483648≤n
 · rw[decide_eq_true (show 2^(32-1)≤n by omega),decide_eq_true (by omega)]
 · rw[decide_eq_false (show ¬2^(32-1)≤n by omega),decide_eq_false (by omega)]
theorem sub_borrow (x y c:Int) (x0:0≤x∧x<4294967296) (y0:0≤y∧y<4294967296) (c0:0≤c∧c≤1) :
  bits BinOp.or IntKind.u32 (bits BinOp.and IntKind.u32 (bits BinOp.xor IntKind.u32 IntKind.u32.max x) y)
   (bits BinOp.and IntKind.u32 (bits BinOp.xor IntKind.u32 IntKind.u32.max (bits BinOp.xor IntKind.u32 x y)) ((x-y-c)%4294967296)) / 2147483648=if x-y-c<0 then 1 else 0:=by
 have hm:IntKind.u32.max=4294967295:=by decide
 rw[hm]
 simp only[bits_bv_and,bits_bv_or,bits_bv_xor,bv_back]
 rw[bv_top]
 simp only[BitVec.msb_or,BitVec.msb_and,BitVec.msb_xor]
 rw[bv_msb x0,bv_msb y0,bv_msb (show 0≤(x-y-c)%4294967296∧(x-y-c)%4294967296<4294967296 by omega),bv_msb (show (0:Int)≤4294967295∧(4294967295:Int)<4294967296 by omega)]
 by_cases hx:2147483648≤x<;>by_cases hy:2147483648≤y<;>by_cases hd:2147483648≤(x-y-c)%4294967296<;>simp[hx,hy,hd]<;>omega
theorem bsub (x y c:Int) (w:World) (x0:0≤x∧x<4294967296) (y0:0≤y∧y<4294967296) (c0:0≤c∧c≤1) :
  Calls Tryz.prog 148 #[.int .u32 x,.int .u32 y,.int .u32 c] w fun e w'=>e = .returned (.tuple #[.int .u32 ((x-y-c)%4294967296),.int .u32 (if x-y-c<0 then 1 else 0)])∧w'=w:=by
 have S:=Hid.mk_ (sub_borrow x y c x0 y0 c0)
 obtain⟨b,hb⟩:∃b:Int,(if x-y-c<0 then 1 else 0:Int)=b:=⟨_,rfl⟩
 rw[hb]at S⊢
 clear hb
 go_enter Tryz.func148,Tryz.ntmps148
 go_wp2
 go_returns
 exact⟨by rw[← S.out]; rfl,rfl⟩
theorem fill_get {xs:List Int} {k m:Nat} (h:xs.length=k):(u32s xs++List.replicate (m+1) (Value.int .u32 0)).toArray[k]? = some (.int .u32 0):=by
 subst h
 simp[u32s,List.getElem?_append,List.getElem?_replicate]
theorem zeros_fill (n:Nat):(u32s (List.replicate n 0))=u32s []++List.replicate n (Value.int .u32 0):=by simp[u32s]
theorem wplus_keep {a b:Value} {A B:List Int} (w:World) (ha:Lim w a A) (hb:Lim w b B) (nA:A.length≤few) (nB:B.length≤few) (hAB:B.length≤A.length) :
  Calls Tryz.prog 113 #[a,b] w fun e w'=>∃v l,e = .returned v∧Lim w' v l∧lval l=lval A+lval B∧l.length=max A.length B.length+1∧Steps w w':=by
 obtain⟨aa,ca,rfl⟩:=ha.shape
 obtain⟨ab,cb,rfl⟩:=hb.shape
 obtain⟨oA,-,lA,fA⟩:=ha.cells
 obtain⟨oB,-,lB,fB⟩:=hb.cells
 clear ha hb
 unfold few at nA nB
 obtain⟨nU,hU⟩:∃n,A.length=n:=⟨_,rfl⟩
 obtain⟨nV,hV⟩:∃n,B.length=n:=⟨_,rfl⟩
 have H:Hid (A.length=nU∧B.length=nV):=⟨hU,hV⟩
 rw[hU]at nA lA fA hAB
 rw[hV]at nB lB fB hAB
 rw[hU,hV]
 clear hU hV
 have hmk:=make_row (nU+1) (by omega)
 simp only[Int.natCast_add,Int.natCast_one]at hmk
 have Z0:(w.alloc (.cells (madeCells #[.int .u32 0] (nU+1)) 130)).heap.size=w.heap.size+1:=World.size_alloc _ _
 have B0:Below w.heap.size w (w.alloc (.cells (madeCells #[.int .u32 0] (nU+1)) 130)):=(Below.refl _ _).alloc (Nat.le_refl _) _
 have K0:Blk (w.alloc (.cells (madeCells #[.int .u32 0] (nU+1)) 130)) w.heap.size 130 (u32s []++List.replicate (nU+1) (Value.int .u32 0)).toArray:=by
  have:=Blk.new w 130 (madeCells #[.int .u32 0] (nU+1))
  rw[made_zeros,zeros_fill]at this
  rw[made_zeros,zeros_fill]
  exact this
 have hdec:decide (nU<nV)=false:=decide_eq_false (by omega)
 have hdec':decide ((nU:Int)<(nV:Int))=false:=decide_eq_false (by omega)
 go_enter Tryz.func113,Tryz.ntmps113
 go_wp2
 go_loopw [6,7,8,9,23] (fun c i x y kk wr=>∃ (k:Nat) (xs:List Int) (cv:Int),k≤nU∧kk = .int .i64 k∧c = .int .u32 cv∧0≤cv∧cv≤1∧xs.length=k∧lok xs∧lval xs+bp k*cv=lval (A.take k)+lval (B.take k)∧
   Blk wr w.heap.size 130 (u32s xs++List.replicate (nU-k+1) (Value.int .u32 0)).toArray∧Below w.heap.size w wr) (fun _ _ _ _ k _=>(nU-(intOf k).toNat))
 case atStart=>exact⟨0,[],0,Nat.zero_le _,rfl,rfl,by omega,by omega,rfl,lok_nil,by simp[lval],K0,B0⟩
 case round=>
  obtain⟨k,xs,cv,hk,rfl,rfl,c0,c1,hl,hok,hv,hblk,hnx⟩:=hrel
  have HV:Hid (xs.length=k∧lok xs∧lval xs+bp k*cv=lval (A.take k)+lval (B.take k)):=⟨hl,hok,hv⟩
  have HK:=Hid.mk_ hblk
  have HX:=Hid.mk_ hnx
  have z1:=hblk.lt
  have g4:wr.cell? ⟨w.heap.size,k,none⟩=some (.int .u32 0):=hblk.c _ (fill_get hl)
  have g5:wr.frozen? ⟨w.heap.size,k,none⟩=false:=hblk.fr _
  clear hmk Z0 B0 K0 hl hok hv
  obtain⟨u,hu⟩:∃u,A.getD k 0=u:=⟨_,rfl⟩
  obtain⟨v,hv⟩:∃v,B.getD k 0=v:=⟨_,rfl⟩
  have u0:=lok_getD oA k
  have v0:=lok_getD oB k
  rw[hu]at u0
  rw[hv]at v0
  have HU:Hid (A.getD k 0=u∧B.getD k 0=v):=⟨hu,hv⟩
  have zv':nV≤k→v=0:=fun h=>by rw[← hv]; have:=H.out.2; simp[List.getD,List.getElem?_eq_none (show B.length≤k by omega)]
  rcases Nat.lt_or_ge k nU with h1 | h1
  ·
   obtain⟨ba,oa',rfl,hba,hca⟩:=fA (by omega)
   have g1:=(hnx.cell (p:=⟨ba,oa'+k,none⟩) hba).trans (hca k (by rw[H.out.1]; omega))
   rw[hu]at g1
   have S0:∀s,s=u+v+cv→Hid (lval (xs ++ [s%4294967296])+bp (k+1)*(s / 4294967296)=lval (A.take (k+1))+lval (B.take (k+1))):=fun s h=>plus_step (s:=s) HV.out.1 HV.out.2.2 (by rw[HU.out.1,HU.out.2]; exact h)
   rcases Nat.lt_or_ge k nV with h2 | h2
   ·
    obtain⟨bb,ob',rfl,hbb,hcb⟩:=fB (by omega)
    have g2:=(hnx.cell (p:=⟨bb,ob'+k,none⟩) hbb).trans (hcb k (by rw[H.out.2]; omega))
    rw[hv]at g2
    have S:=S0 _ rfl
    clear hca hcb fA fB hu hv zv' hblk hnx S0
    go_wp2_with (go_at_call 147; refine(badd _ _ _ _ (by omega) (by omega) (by omega)).mono ?_; rintro e w' ⟨rfl,rfl⟩)
    go_roundw
    case rel=>
     refine⟨k+1,xs ++ [(u+v+cv)%4294967296],(u+v+cv) / 4294967296,by omega,by go_num,by first | rfl | go_num,by omega,by omega,by rw[List.length_append,HV.out.1]; rfl,lok_snoc HV.out.2.1 (by omega) (by omega),S.out,?_,HX.out.setCell (p:=⟨w.heap.size,k,none⟩) (Nat.le_refl _) _⟩
     have kb:=HK.out
     rw[show nU-k+1=(nU-(k+1)+1)+1 by omega]at kb
     exact kb.set2 (by first | exact set_fill xs k _ _ HV.out.1 | (simp only[Int.add_zero]; exact set_fill xs k _ _ HV.out.1))
    case measure=>simp[intOf]; omega
   ·
    obtain rfl:=zv' h2
    have S:=S0 _ rfl
    clear hca fA fB hu hv zv' hblk hnx S0
    go_wp2_with (go_at_call 147; refine(badd _ _ _ _ (by omega) (by omega) (by omega)).mono ?_; rintro e w' ⟨rfl,rfl⟩)
    go_roundw
    case rel=>
     refine⟨k+1,xs ++ [(u+0+cv)%4294967296],(u+0+cv) / 4294967296,by omega,by go_num,by first | rfl | go_num,by omega,by omega,by rw[List.length_append,HV.out.1]; rfl,lok_snoc HV.out.2.1 (by omega) (by omega),S.out,?_,HX.out.setCell (p:=⟨w.heap.size,k,none⟩) (Nat.le_refl _) _⟩
     have kb:=HK.out
     rw[show nU-k+1=(nU-(k+1)+1)+1 by omega]at kb
     exact kb.set2 (by first | exact set_fill xs k _ _ HV.out.1 | (simp only[Int.add_zero]; exact set_fill xs k _ _ HV.out.1))
    case measure=>simp[intOf]; omega
  ·
   clear fA fB hu hv zv' hblk hnx
   have hkn:k=nU:=by omega
   subst hkn
   go_wp2
   go_returns
   have E:=H.out
   have kb:=HK.out
   rw[show k-k+1=0+1 by omega]at kb
   have kb2:=kb.set2 (u:= .int .u32 cv) (set_fill xs k 0 cv HV.out.1)
   rw[List.replicate_zero,List.append_nil]at kb2
   have ll:(xs ++ [cv]).length=k+1:=by rw[List.length_append,HV.out.1]; rfl
   have L:=Lim.of_blk' kb2 (lok_snoc HV.out.2.1 (by omega) (by omega))
   rw[ll]at L
   refine⟨_,xs ++ [cv],rfl,L,?_,by rw[ll]; omega,HX.out.setCell (p:=⟨w.heap.size,k,none⟩) (Nat.le_refl _) _⟩
   have:=HV.out.2.2
   rw[List.take_of_length_le (by omega),List.take_of_length_le (by omega)]at this
   rw[lval_snoc,HV.out.1,this]
theorem wplus_swap {a b:Value} {A B:List Int} (w:World) (ha:Lim w a A) (hb:Lim w b B) (nA:A.length≤few) (nB:B.length≤few) (hAB:A.length<B.length) :
  Calls Tryz.prog 113 #[a,b] w fun e w'=>∃v l,e = .returned v∧Lim w' v l∧lval l=lval A+lval B∧l.length=max A.length B.length+1∧Steps w w':=by
 obtain⟨aa,ca,rfl⟩:=ha.shape
 obtain⟨ab,cb,rfl⟩:=hb.shape
 obtain⟨oA,-,lA,fA⟩:=ha.cells
 obtain⟨oB,-,lB,fB⟩:=hb.cells
 clear ha hb
 unfold few at nA nB
 obtain⟨nU,hU⟩:∃n,B.length=n:=⟨_,rfl⟩
 obtain⟨nV,hV⟩:∃n,A.length=n:=⟨_,rfl⟩
 have H:Hid (B.length=nU∧A.length=nV):=⟨hU,hV⟩
 rw[hU]at nB lB fB hAB
 rw[hV]at nA lA fA hAB
 rw[hU,hV]
 clear hU hV
 have hmk:=make_row (nU+1) (by omega)
 simp only[Int.natCast_add,Int.natCast_one]at hmk
 have Z0:(w.alloc (.cells (madeCells #[.int .u32 0] (nU+1)) 130)).heap.size=w.heap.size+1:=World.size_alloc _ _
 have B0:Below w.heap.size w (w.alloc (.cells (madeCells #[.int .u32 0] (nU+1)) 130)):=(Below.refl _ _).alloc (Nat.le_refl _) _
 have K0:Blk (w.alloc (.cells (madeCells #[.int .u32 0] (nU+1)) 130)) w.heap.size 130 (u32s []++List.replicate (nU+1) (Value.int .u32 0)).toArray:=by
  have:=Blk.new w 130 (madeCells #[.int .u32 0] (nU+1))
  rw[made_zeros,zeros_fill]at this
  rw[made_zeros,zeros_fill]
  exact this
 have hdec:decide (nV<nU)=true:=decide_eq_true hAB
 have hdec':decide ((nV:Int)<(nU:Int))=true:=decide_eq_true (by omega)
 go_enter Tryz.func113,Tryz.ntmps113
 go_wp2
 go_loopw [6,7,8,9,23] (fun c i x y kk wr=>∃ (k:Nat) (xs:List Int) (cv:Int),k≤nU∧kk = .int .i64 k∧c = .int .u32 cv∧0≤cv∧cv≤1∧xs.length=k∧lok xs∧lval xs+bp k*cv=lval (B.take k)+lval (A.take k)∧
   Blk wr w.heap.size 130 (u32s xs++List.replicate (nU-k+1) (Value.int .u32 0)).toArray∧Below w.heap.size w wr) (fun _ _ _ _ k _=>(nU-(intOf k).toNat))
 case atStart=>exact⟨0,[],0,Nat.zero_le _,rfl,rfl,by omega,by omega,rfl,lok_nil,by simp[lval],K0,B0⟩
 case round=>
  obtain⟨k,xs,cv,hk,rfl,rfl,c0,c1,hl,hok,hv,hblk,hnx⟩:=hrel
  have HV:Hid (xs.length=k∧lok xs∧lval xs+bp k*cv=lval (B.take k)+lval (A.take k)):=⟨hl,hok,hv⟩
  have HK:=Hid.mk_ hblk
  have HX:=Hid.mk_ hnx
  have z1:=hblk.lt
  have g4:wr.cell? ⟨w.heap.size,k,none⟩=some (.int .u32 0):=hblk.c _ (fill_get hl)
  have g5:wr.frozen? ⟨w.heap.size,k,none⟩=false:=hblk.fr _
  clear hmk Z0 B0 K0 hl hok hv
  obtain⟨u,hu⟩:∃u,B.getD k 0=u:=⟨_,rfl⟩
  obtain⟨v,hv⟩:∃v,A.getD k 0=v:=⟨_,rfl⟩
  have u0:=lok_getD oB k
  have v0:=lok_getD oA k
  rw[hu]at u0
  rw[hv]at v0
  have HU:Hid (B.getD k 0=u∧A.getD k 0=v):=⟨hu,hv⟩
  have zv':nV≤k→v=0:=fun h=>by rw[← hv]; have:=H.out.2; simp[List.getD,List.getElem?_eq_none (show A.length≤k by omega)]
  rcases Nat.lt_or_ge k nU with h1 | h1
  ·
   obtain⟨ba,oa',rfl,hba,hca⟩:=fB (by omega)
   have g1:=(hnx.cell (p:=⟨ba,oa'+k,none⟩) hba).trans (hca k (by rw[H.out.1]; omega))
   rw[hu]at g1
   have S0:∀s,s=u+v+cv→Hid (lval (xs ++ [s%4294967296])+bp (k+1)*(s / 4294967296)=lval (B.take (k+1))+lval (A.take (k+1))):=fun s h=>plus_step (s:=s) HV.out.1 HV.out.2.2 (by rw[HU.out.1,HU.out.2]; exact h)
   rcases Nat.lt_or_ge k nV with h2 | h2
   ·
    obtain⟨bb,ob',rfl,hbb,hcb⟩:=fA (by omega)
    have g2:=(hnx.cell (p:=⟨bb,ob'+k,none⟩) hbb).trans (hcb k (by rw[H.out.2]; omega))
    rw[hv]at g2
    have S:=S0 _ rfl
    clear hca hcb fA fB hu hv zv' hblk hnx S0
    go_wp2_with (go_at_call 147; refine(badd _ _ _ _ (by omega) (by omega) (by omega)).mono ?_; rintro e w' ⟨rfl,rfl⟩)
    go_roundw
    case rel=>
     refine⟨k+1,xs ++ [(u+v+cv)%4294967296],(u+v+cv) / 4294967296,by omega,by go_num,by first | rfl | go_num,by omega,by omega,by rw[List.length_append,HV.out.1]; rfl,lok_snoc HV.out.2.1 (by omega) (by omega),S.out,?_,HX.out.setCell (p:=⟨w.heap.size,k,none⟩) (Nat.le_refl _) _⟩
     have kb:=HK.out
     rw[show nU-k+1=(nU-(k+1)+1)+1 by omega]at kb
     exact kb.set2 (by first | exact set_fill xs k _ _ HV.out.1 | (simp only[Int.add_zero]; exact set_fill xs k _ _ HV.out.1))
    case measure=>simp[intOf]; omega
   ·
    obtain rfl:=zv' h2
    have S:=S0 _ rfl
    clear hca fA fB hu hv zv' hblk hnx S0
    go_wp2_with (go_at_call 147; refine(badd _ _ _ _ (by omega) (by omega) (by omega)).mono ?_; rintro e w' ⟨rfl,rfl⟩)
    go_roundw
    case rel=>
     refine⟨k+1,xs ++ [(u+0+cv)%4294967296],(u+0+cv) / 4294967296,by omega,by go_num,by first | rfl | go_num,by omega,by omega,by rw[List.length_append,HV.out.1]; rfl,lok_snoc HV.out.2.1 (by omega) (by omega),S.out,?_,HX.out.setCell (p:=⟨w.heap.size,k,none⟩) (Nat.le_refl _) _⟩
     have kb:=HK.out
     rw[show nU-k+1=(nU-(k+1)+1)+1 by omega]at kb
     exact kb.set2 (by first | exact set_fill xs k _ _ HV.out.1 | (simp only[Int.add_zero]; exact set_fill xs k _ _ HV.out.1))
    case measure=>simp[intOf]; omega
  ·
   clear fA fB hu hv zv' hblk hnx
   have hkn:k=nU:=by omega
   subst hkn
   go_wp2
   go_returns
   have E:=H.out
   have kb:=HK.out
   rw[show k-k+1=0+1 by omega]at kb
   have kb2:=kb.set2 (u:= .int .u32 cv) (set_fill xs k 0 cv HV.out.1)
   rw[List.replicate_zero,List.append_nil]at kb2
   have ll:(xs ++ [cv]).length=k+1:=by rw[List.length_append,HV.out.1]; rfl
   have L:=Lim.of_blk' kb2 (lok_snoc HV.out.2.1 (by omega) (by omega))
   rw[ll]at L
   refine⟨_,xs ++ [cv],rfl,L,?_,by rw[ll]; omega,HX.out.setCell (p:=⟨w.heap.size,k,none⟩) (Nat.le_refl _) _⟩
   have:=HV.out.2.2
   rw[List.take_of_length_le (by omega),List.take_of_length_le (by omega)]at this
   rw[lval_snoc,HV.out.1,this]
   omega
theorem wplus {a b:Value} {A B:List Int} (w:World) (ha:Lim w a A) (hb:Lim w b B) (nA:A.length≤few) (nB:B.length≤few) :
  Calls Tryz.prog 113 #[a,b] w fun e w'=>∃v l,e = .returned v∧Lim w' v l∧lval l=lval A+lval B∧l.length=max A.length B.length+1∧Steps w w':=by
 rcases Nat.lt_or_ge A.length B.length with h | h
 · exact wplus_swap w ha hb nA nB h
 · exact wplus_keep w ha hb nA nB h
theorem fill_get' {xs:List Int} {k n:Nat} (h:xs.length=k) (hk:k<n):(u32s xs++List.replicate (n-k) (Value.int .u32 0)).toArray[k]? = some (.int .u32 0):=by
 rw[show n-k=(n-k-1)+1 by omega]; exact fill_get h
theorem wminus {a b:Value} {A B:List Int} (w:World) (ha:Lim w a A) (hb:Lim w b B) (nA:A.length≤few) (nB:B.length≤A.length) (hle:lval B≤lval A) :
  Calls Tryz.prog 114 #[a,b] w fun e w'=>∃v l,e = .returned v∧Lim w' v l∧lval l=lval A-lval B∧l.length=A.length∧Steps w w':=by
 obtain⟨aa,ca,rfl⟩:=ha.shape
 obtain⟨ab,cb,rfl⟩:=hb.shape
 obtain⟨oA,-,lA,fA⟩:=ha.cells
 obtain⟨oB,-,lB,fB⟩:=hb.cells
 clear ha hb
 unfold few at nA
 obtain⟨nU,hU⟩:∃n,A.length=n:=⟨_,rfl⟩
 obtain⟨nV,hV⟩:∃n,B.length=n:=⟨_,rfl⟩
 have H:Hid (A.length=nU∧B.length=nV∧lval B≤lval A):=⟨hU,hV,hle⟩
 rw[hV,hU]at nB
 rw[hU]at nA lA fA
 rw[hV]at lB fB
 rw[hU,hV]
 clear hU hV hle
 have hmk:=make_row nU (by omega)
 have Z0:(w.alloc (.cells (madeCells #[.int .u32 0] nU) 130)).heap.size=w.heap.size+1:=World.size_alloc _ _
 have B0:Below w.heap.size w (w.alloc (.cells (madeCells #[.int .u32 0] nU) 130)):=(Below.refl _ _).alloc (Nat.le_refl _) _
 have K0:Blk (w.alloc (.cells (madeCells #[.int .u32 0] nU) 130)) w.heap.size 130 (u32s []++List.replicate nU (Value.int .u32 0)).toArray:=by
  have:=Blk.new w 130 (madeCells #[.int .u32 0] nU)
  rw[made_zeros,zeros_fill]at this
  rw[made_zeros,zeros_fill]
  exact this
 go_enter Tryz.func114,Tryz.ntmps114
 go_wp2
 go_loopw [6,7,8,9,15] (fun c i x y kk wr=>∃ (k:Nat) (xs:List Int) (cv:Int),k≤nU∧kk = .int .i64 k∧c = .int .u32 cv∧0≤cv∧cv≤1∧xs.length=k∧lok xs∧lval xs=lval (A.take k)-lval (B.take k)+bp k*cv∧
   Blk wr w.heap.size 130 (u32s xs++List.replicate (nU-k) (Value.int .u32 0)).toArray∧Below w.heap.size w wr) (fun _ _ _ _ k _=>(nU-(intOf k).toNat))
 case atStart=>exact⟨0,[],0,Nat.zero_le _,rfl,rfl,by omega,by omega,rfl,lok_nil,by simp[lval],K0,B0⟩
 case round=>
  obtain⟨k,xs,cv,hk,rfl,rfl,c0,c1,hl,hok,hv,hblk,hnx⟩:=hrel
  have HV:Hid (xs.length=k∧lok xs∧lval xs=lval (A.take k)-lval (B.take k)+bp k*cv):=⟨hl,hok,hv⟩
  have HK:=Hid.mk_ hblk
  have HX:=Hid.mk_ hnx
  have z1:=hblk.lt
  clear hmk Z0 B0 K0 hok
  obtain⟨u,hu⟩:∃u,A.getD k 0=u:=⟨_,rfl⟩
  obtain⟨v,hv'⟩:∃v,B.getD k 0=v:=⟨_,rfl⟩
  have u0:=lok_getD oA k
  have v0:=lok_getD oB k
  rw[hu]at u0
  rw[hv']at v0
  have HU:Hid (A.getD k 0=u∧B.getD k 0=v):=⟨hu,hv'⟩
  have zv':nV≤k→v=0:=fun h=>by rw[← hv']; have:=H.out.2.1; simp[List.getD,List.getElem?_eq_none (show B.length≤k by omega)]
  rcases Nat.lt_or_ge k nU with h1 | h1
  ·
   have g4:wr.cell? ⟨w.heap.size,k,none⟩=some (.int .u32 0):=hblk.c _ (fill_get' hl h1)
   have g5:wr.frozen? ⟨w.heap.size,k,none⟩=false:=hblk.fr _
   obtain⟨ba,oa',rfl,hba,hca⟩:=fA (by omega)
   have g1:=(hnx.cell (p:=⟨ba,oa'+k,none⟩) hba).trans (hca k (by rw[H.out.1]; omega))
   rw[hu]at g1
   obtain⟨bw,hbw⟩:∃b:Int,(if u-v-cv<0 then 1 else 0:Int)=b:=⟨_,rfl⟩
   have b0:0≤bw∧bw≤1∧0≤u-v-cv+4294967296*bw∧u-v-cv+4294967296*bw<4294967296∧(u-v-cv)%4294967296=u-v-cv+4294967296*bw:=by
    rw[← hbw]; split<;>omega
   have SB:∀w',Calls Tryz.prog 148 #[.int .u32 u,.int .u32 v,.int .u32 cv] w' fun e w2=>e = .returned (.tuple #[.int .u32 (u-v-cv+4294967296*bw),.int .u32 bw])∧w2=w':=fun w'=>by
    have:=bsub u v cv w' u0 v0 ⟨c0,c1⟩
    rw[hbw,b0.2.2.2.2]at this
    exact this
   obtain⟨d,hd⟩:∃d,u-v-cv+4294967296*bw=d:=⟨_,rfl⟩
   have S:Hid (lval (xs ++ [d])=lval (A.take (k+1))-lval (B.take (k+1))+bp (k+1)*bw):=minus_step (t:=u-v-cv) (x:=d) (c':=bw) HV.out.1 HV.out.2.2 (by rw[HU.out.1,HU.out.2]) hd.symm
   rw[hd]at b0 SB
   have b1:0≤d∧d<4294967296:=⟨b0.2.2.1,b0.2.2.2.1⟩
   have b2:0≤bw∧bw≤1:=⟨b0.1,b0.2.1⟩
   rcases Nat.lt_or_ge k nV with h2 | h2
   focus
    obtain⟨bb,ob',rfl,hbb,hcb⟩:=fB (by omega)
    have g2:=(hnx.cell (p:=⟨bb,ob'+k,none⟩) hbb).trans (hcb k (by rw[H.out.2.1]; omega))
    rw[hv']at g2
    clear hca hcb fA fB hu hv hv' zv' hblk hnx hbw hd b0 hl
   rotate_left
   focus
    obtain rfl:=zv' h2
    clear hca fA fB hu hv hv' zv' hblk hnx hbw hd b0 hl
   rotate_left
   all_goals
    go_wp2_with (go_at_call 148; refine(SB _).mono ?_; rintro e w' ⟨rfl,rfl⟩)
    go_roundw
    case rel=>
     refine⟨k+1,xs ++ [d],bw,by omega,by go_num,rfl,b2.1,b2.2,by rw[List.length_append,HV.out.1]; rfl,lok_snoc HV.out.2.1 b1.1 b1.2,S.out,?_,HX.out.setCell (p:=⟨w.heap.size,k,none⟩) (Nat.le_refl _) _⟩
     have kb:=HK.out
     rw[show nU-k=(nU-(k+1))+1 by omega]at kb
     exact kb.set2 (set_fill xs k _ _ HV.out.1)
    case measure=>simp[intOf]; omega
  ·
   clear fA fB hu hv' zv' hnx
   have hkn:k=nU:=by omega
   subst hkn
   have E:=H.out
   rw[Nat.sub_self,List.replicate_zero,List.append_nil]at hblk
   have L:=Lim.of_blk' hblk HV.out.2.1
   rw[hl]at L
   have e2:=lval_lt HV.out.2.1
   have e4:=lval_nonneg HV.out.2.1
   rw[hl]at e2
   rw[List.take_of_length_le (by omega),List.take_of_length_le (by omega)]at hv
   have hc0:cv=0:=by
    rcases(show cv=0∨cv=1 by omega)with h | h
    · exact h
    · subst h; rw[Int.mul_one]at hv; have:=H.out.2.2; omega
   subst hc0
   rw[Int.mul_zero,Int.add_zero]at hv
   have F:=Hid.mk_ (And.intro L (And.intro hv hl))
   clear L hv hl hblk e2 e4 E
   go_wp2
   go_returns
   exact⟨_,xs,rfl,F.out.1,F.out.2.1,F.out.2.2,HX.out⟩
theorem wsubtract {g j b o m capu capv:Nat} {pre post:List Value} {U V:List Int} {q:Int} (w:World) (hB:Blk w g 130 (seg pre U post)) (hj:pre.length=j) (hU:U.length=m+1) (okU:lok U)
  (hV:Cells w b o V) (lV:V.length=m) (okV:lok V) (m0:0<m) (hb:b<w.heap.size) (hne:b≠g) (hn:m≤few) (q0:0≤q) (q1:q<4294967296) :
  Calls Tryz.prog 162 #[.slice (some ⟨g,j,none⟩) (m+1) capu,.slice (some ⟨b,o,none⟩) m capv,.int .u32 q] w fun e w'=>
   ∃ (U':List Int) (bw:Int),e = .returned (.bool (bw==0))∧0≤bw∧bw≤1∧U'.length=m+1∧lok U'∧lval U'=lval U-q*lval V+bp (m+1)*bw∧Blk w' g 130 (seg pre U' post)∧w.grownBy w' (some g):=by
 unfold few at hn
 have HJ:Hid (pre.length=j∧U.length=m+1∧V.length=m):=⟨hj,hU,lV⟩
 have HV:=Hid.mk_ hV
 have G0:w.grownBy w (some g):=World.grownBy.refl w _
 have B0:Blk w g 130 (seg pre ([]++U.drop 0) post):=hB
 clear hB hj hU lV hV
 go_enter Tryz.func162,Tryz.ntmps162
 go_wp2
 go_loopw [7,8,9,10,14] (fun c bo i x kk wr=>∃ (k:Nat) (xs:List Int) (bv cv:Int),k≤m∧kk = .int .i64 k∧bo = .int .u32 bv∧c = .int .u64 cv∧0≤bv∧bv≤1∧0≤cv∧cv<4294967296∧xs.length=k∧lok xs∧
   lval xs=lval (U.take k)-q*lval (V.take k)+bp k*(cv+bv)∧Blk wr g 130 (seg pre (xs++U.drop k) post)∧w.grownBy wr (some g)) (fun _ _ _ _ k _=>m-(intOf k).toNat)
 case atStart=>exact⟨0,[],0,0,Nat.zero_le _,rfl,rfl,rfl,by omega,by omega,by omega,by omega,rfl,lok_nil,by simp[lval],B0,G0⟩
 case round=>
  obtain⟨k,xs,bv,cv,hk,rfl,rfl,rfl,b0,b1,c0,c1,hl,hok,hv,hblk,hgr⟩:=hrel
  have HR:Hid (xs.length=k∧lok xs∧lval xs=lval (U.take k)-q*lval (V.take k)+bp k*(cv+bv)):=⟨hl,hok,hv⟩
  have HG:=Hid.mk_ hgr
  have HK:=Hid.mk_ hblk
  clear B0 G0
  obtain⟨u,hu⟩:∃x,U.getD k 0=x:=⟨_,rfl⟩
  obtain⟨v,hv'⟩:∃x,V.getD k 0=x:=⟨_,rfl⟩
  have u0:=lok_getD okU k
  have v0:=lok_getD okV k
  rw[hu]at u0
  rw[hv']at v0
  have gU:(xs++U.drop k).getD k 0=u:=by
   rw[← hu]
   simp only[List.getD]
   rw[List.getElem?_append_right (by omega),hl,Nat.sub_self,List.getElem?_drop,Nat.add_zero]
  have g1:wr.cell? ⟨g,j+k,none⟩=some (.int .u32 u):=by
   rw[← gU]
   exact hblk.c _ (seg_get HJ.out.1 (by rw[List.length_append,List.length_drop,hl]; have:=HJ.out.2.1; omega))
  have g2:wr.frozen? ⟨g,j+k,none⟩=false:=hblk.fr _
  have HX:Hid (U.getD k 0=u∧V.getD k 0=v):=⟨hu,hv'⟩
  rcases Nat.lt_or_ge k m with h1 | h1
  ·
   have g3:=(HV.out.grown hgr hb hne) k (by have:=HJ.out.2.2; omega)
   rw[hv']at g3
   obtain⟨p,hp⟩:∃p,q*v=p:=⟨_,rfl⟩
   have p0:0≤p:=by rw[← hp]; exact Int.mul_nonneg q0 v0.1
   have p1:p≤18446744065119617025:=by
    rw[← hp]
    have:=Int.mul_le_mul (show q≤4294967295 by omega) (show v≤4294967295 by omega) v0.1 (by omega)
    omega
   have hw:IntKind.u64.wrap (q*v)=p:=by rw[hp,wrap_u64 (by omega) (by omega)]
   obtain⟨lo,hlo⟩:∃l,(cv+p)%4294967296=l:=⟨_,rfl⟩
   have l0:0≤lo∧lo<4294967296:=by omega
   obtain⟨bw,hbw⟩:∃b:Int,(if u-lo-bv<0 then 1 else 0:Int)=b:=⟨_,rfl⟩
   have e0:0≤bw∧bw≤1∧0≤u-lo-bv+4294967296*bw∧u-lo-bv+4294967296*bw<4294967296∧(u-lo-bv)%4294967296=u-lo-bv+4294967296*bw:=by
    rw[← hbw]; split<;>omega
   have SB:∀w',Calls Tryz.prog 148 #[.int .u32 u,.int .u32 ((cv+p)%4294967296),.int .u32 bv] w' fun e w2=>e = .returned (.tuple #[.int .u32 (u-lo-bv+4294967296*bw),.int .u32 bw])∧w2=w':=fun w'=>by
    have:=bsub u lo bv w' u0 l0 ⟨b0,b1⟩
    rw[hbw,e0.2.2.2.2]at this
    rw[hlo]
    exact this
   obtain⟨d,hd⟩:∃d,u-lo-bv+4294967296*bw=d:=⟨_,rfl⟩
   have S:Hid (lval (xs ++ [d])=lval (U.take (k+1))-q*lval (V.take (k+1))+bp (k+1)*((cv+p) / 4294967296+bw)):=sub_step (s:=cv+p) (t:=u-lo-bv) (b':=bw) HR.out.1 HR.out.2.2 (by rw[HX.out.2,hp]) (by rw[HX.out.1,hlo]) hd.symm
   rw[hd]at e0 SB
   have d0:0≤d∧d<4294967296:=⟨e0.2.2.1,e0.2.2.2.1⟩
   have b2:0≤bw∧bw≤1:=⟨e0.1,e0.2.1⟩
   clear hbw e0 hd hlo l0
   clear hu hv' gU hp hl hok hv hblk hgr
   go_wp2_with (go_at_call 148; refine(SB _).mono ?_; rintro e w' ⟨rfl,rfl⟩)
   go_roundw
   case rel=>
    have R:=HR.out
    refine⟨k+1,xs ++ [d],bw,(cv+p) / 4294967296,by omega,by go_num,rfl,by go_num,b2.1,b2.2,by omega,by omega,by rw[List.length_append,R.1]; rfl,lok_snoc R.2.1 d0.1 d0.2,S.out,?_,grown_set HG.out _ _⟩
    exact HK.out.set2 (seg_set HJ.out.1 R.1 (by have:=HJ.out.2.1; omega) _)
   case measure=>simp[intOf]; omega
  ·
   have hkm:k=m:=by omega
   subst hkm
   have hv0:v=0:=by rw[← hv']; have:=HJ.out.2.2; simp[List.getD,List.getElem?_eq_none (show V.length≤k by omega)]
   subst hv0
   obtain⟨lo,hlo⟩:∃l,(cv)%4294967296=l:=⟨_,rfl⟩
   have l0:0≤lo∧lo<4294967296:=by omega
   obtain⟨bw,hbw⟩:∃b:Int,(if u-lo-bv<0 then 1 else 0:Int)=b:=⟨_,rfl⟩
   have e0:0≤bw∧bw≤1∧0≤u-lo-bv+4294967296*bw∧u-lo-bv+4294967296*bw<4294967296∧(u-lo-bv)%4294967296=u-lo-bv+4294967296*bw:=by
    rw[← hbw]; split<;>omega
   have SB:∀w',Calls Tryz.prog 148 #[.int .u32 u,.int .u32 ((cv)%4294967296),.int .u32 bv] w' fun e w2=>e = .returned (.tuple #[.int .u32 (u-lo-bv+4294967296*bw),.int .u32 bw])∧w2=w':=fun w'=>by
    have:=bsub u lo bv w' u0 l0 ⟨b0,b1⟩
    rw[hbw,e0.2.2.2.2]at this
    rw[hlo]
    exact this
   obtain⟨d,hd⟩:∃d,u-lo-bv+4294967296*bw=d:=⟨_,rfl⟩
   have S:Hid (lval (xs ++ [d])=lval (U.take (k+1))-q*lval (V.take (k+1))+bp (k+1)*((cv) / 4294967296+bw)):=sub_step (s:=cv) (t:=u-lo-bv) (b':=bw) HR.out.1 HR.out.2.2 (by rw[HX.out.2]; omega) (by rw[HX.out.1,hlo]) hd.symm
   rw[hd]at e0 SB
   have d0:0≤d∧d<4294967296:=⟨e0.2.2.1,e0.2.2.2.1⟩
   have b2:0≤bw∧bw≤1:=⟨e0.1,e0.2.1⟩
   clear hbw e0 hd hlo l0
   rw[Int.emod_eq_of_lt c0 c1]at SB
   rw[Int.ediv_eq_zero_of_lt c0 c1,Int.zero_add]at S
   have hc2:cv%4294967296=cv:=Int.emod_eq_of_lt c0 c1
   clear hu hv' gU hl hok hv hblk hgr
   go_wp2_with (go_at_call 148; refine(SB _).mono ?_; rintro e w' ⟨rfl,rfl⟩)
   go_returns
   have R:=HR.out
   refine⟨xs ++ [d],bw,rfl,b2.1,b2.2,by rw[List.length_append,R.1]; rfl,lok_snoc R.2.1 d0.1 d0.2,?_,?_,grown_set HG.out _ _⟩
   ·
    have:=S.out
    rw[List.take_of_length_le (by have:=HJ.out.2.1; omega),List.take_of_length_le (by have:=HJ.out.2.2; omega)]at this
    exact this
   ·
    have:=HK.out.set2 (u:= .int .u32 d) (seg_set HJ.out.1 R.1 (by have:=HJ.out.2.1; omega) d)
    rw[List.drop_of_length_le (by have:=HJ.out.2.1; omega),List.append_nil]at this
    exact this
theorem wmadeN (neg:Bool) {s:Value} {l:List Int} (w:World) (hs:Lim w s l) (nl:l.length≤few) :
  Calls Tryz.prog 115 #[.bool neg,s] w fun e w'=>∃v,e = .returned (.tuple #[v,.int .i64 (errN (zv neg (lval l)))])∧Num w' v (clipN (zv neg (lval l)))∧Steps w w':=by
 have ok:=hs.ok
 have nt:=ltrim_le l
 unfold few at nl
 obtain⟨n,hn⟩:∃n,(ltrim l).length=n:=⟨_,rfl⟩
 have hf:=fits_zv neg ok
 have F1:Hid (n≤4096→errN (zv neg (lval l))=0∧clipN (zv neg (lval l))=zv neg (lval l)):=fun h=>by
  have g:fits (zv neg (lval l)):=hf.2 (by omega)
  exact⟨if_pos g,if_pos g⟩
 have F2:Hid (4096<n→errN (zv neg (lval l))=16∧clipN (zv neg (lval l))=0):=fun h=>by
  have g:¬fits (zv neg (lval l)):=fun g=>by have:=hf.1 g; omega
  exact⟨if_neg g,if_neg g⟩
 have HO:=Hid.mk_ ok
 have HN:=Hid.mk_ hn
 clear hf ok hn
 go_enter Tryz.func115,Tryz.ntmps115
 go_wp2_with fail
 refine(wtrim _ (hs.steps belowB) (by unfold few; omega)).mono ?_
 rintro e w1 ⟨v1,rfl,hv1,st⟩
 have Bn:=bA w st
 have or:Blk w1 (w.heap.size) 30 #[.bool false,.slice none 0 0]:=Blk.stepsA st
 clear st
 have B:=Bn
 clear Bn
 obtain⟨cr0,cr1,fr,lr⟩:=or.s1
 have HV:=Hid.mk_ hv1
 obtain⟨ao,cap,hsh⟩:=hv1.shape
 rw[HN.out]at hsh
 subst hsh
 have hn':=HN.out
 clear hv1
 rcases Nat.lt_or_ge 4096 n with h1 | h1
 ·
  go_wp2
  refine bodyPost_ret (by simp[results,Tryz.results115,go_sem,cr0,cr1,fr,lr]; rfl) rfl ?_
  exact⟨_,retW rfl (F2.out h1).1.symm,by rw[(F2.out h1).2]; exact Num.zero _,belowB⟩
 ·
  have F:=F1.out h1
  rcases Nat.eq_zero_or_pos n with h2 | h2
  ·
   subst h2
   cases neg
   all_goals
    go_wp2
    refine bodyPost_ret (by simp[results,Tryz.results115,go_sem,cr0,cr1,fr,lr]; rfl) rfl ?_
    exact⟨_,retW rfl F.1.symm,by rw[F.2]; exact Num.of (HV.out.put2 or) HO.out (by rw[HN.out]; rfl),belowB⟩
  ·
   cases neg
   all_goals
    go_wp2
    refine bodyPost_ret (by simp[results,Tryz.results115,go_sem,cr0,cr1,fr,lr]; rfl) rfl ?_
    exact⟨_,retW rfl F.1.symm,by rw[F.2]; exact Num.of (HV.out.put2 or) HO.out (by rw[HN.out]; simp[h2]),belowB⟩
theorem rbothN (na nb:Bool) {sa sb:Value} {la lb:List Int} (w:World) (ha:Lim w sa la) (hb:Lim w sb lb) :
  Calls Tryz.prog 118 #[.agg #[.bool na,sa],.agg #[.bool nb,sb]] w fun e w'=>e = .returned (.int .i64 (errC (valid na la∧valid nb lb)))∧Steps w w':=by
 obtain⟨aa,ca,rfl⟩:=ha.shape
 obtain⟨ab,cb,rfl⟩:=hb.shape
 obtain⟨n,hn⟩:∃n,la.length=n:=⟨_,rfl⟩
 obtain⟨m,hm⟩:∃m,lb.length=m:=⟨_,rfl⟩
 rw[hn]at ha⊢
 rw[hm]at hb⊢
 clear hn hm
 by_cases h1:valid na la
 ·
  have H1:Hid (errC (valid na la)=0):=if_pos h1
  have H:Hid (errC (valid na la∧valid nb lb)=errC (valid nb lb)):=by show errC (valid na la∧valid nb lb)=_; unfold errC; simp[h1]
  clear h1
  go_enter Tryz.func118,Tryz.ntmps118
  go_wp2_with fail
  refine(rcheckN na _ (ha.steps belowB)).mono ?_
  rintro e w1 ⟨rfl,hb1⟩
  have st:Steps _ w1:=hb1
  have Bn:=bA w st
  have oa:Blk w1 (w.heap.size) 30 #[.bool na,.slice aa n ca]:=Blk.stepsA st
  have ob:Blk w1 (w.heap.size+1) 30 #[.bool nb,.slice ab m cb]:=Blk.stepsA st
  clear st
  have B:=Bn
  clear Bn
  obtain⟨ca0,ca1,fa,la⟩:=oa.s1
  obtain⟨cb0,cb1,fb,lb⟩:=ob.s1
  rw[H1.out]
  have HB1:=hb.steps B
  go_wp2_with fail
  refine(rcheckN nb _ HB1).mono ?_
  rintro e w2 ⟨rfl,hb2⟩
  have st:Steps _ w2:=hb2
  have Bn:=bA w st
  have na:=oa.stq st
  have nb:=ob.stq st
  clear B oa ob ca0 ca1 fa la cb0 cb1 fb lb
  clear st
  have B:=Bn
  clear Bn
  have oa:=na
  clear na
  obtain⟨ca0,ca1,fa,la⟩:=oa.s1
  have ob:=nb
  clear nb
  obtain⟨cb0,cb1,fb,lb⟩:=ob.s1
  go_wp2
  go_returns
  exact⟨retI H.out.symm,belowB⟩
 ·
  have H1:Hid (errC (valid na la)=8):=if_neg h1
  have H:Hid (errC (valid na la∧valid nb lb)=8):=if_neg (fun h=>h1 h.1)
  clear h1
  go_enter Tryz.func118,Tryz.ntmps118
  go_wp2_with fail
  refine(rcheckN na _ (ha.steps belowB)).mono ?_
  rintro e w1 ⟨rfl,hb1⟩
  have st:Steps _ w1:=hb1
  have Bn:=bA w st
  have oa:Blk w1 (w.heap.size) 30 #[.bool na,.slice aa n ca]:=Blk.stepsA st
  have ob:Blk w1 (w.heap.size+1) 30 #[.bool nb,.slice ab m cb]:=Blk.stepsA st
  clear st
  have B:=Bn
  clear Bn
  obtain⟨ca0,ca1,fa,la⟩:=oa.s1
  obtain⟨cb0,cb1,fb,lb⟩:=ob.s1
  rw[H1.out]
  have HA1:=ha.steps B
  go_wp2_with fail
  refine(rcheckN na _ HA1).mono ?_
  rintro e w2 ⟨rfl,hb2⟩
  have st:Steps _ w2:=hb2
  have Bn:=bA w st
  have na:=oa.stq st
  have nb:=ob.stq st
  clear B oa ob ca0 ca1 fa la cb0 cb1 fb lb
  clear st
  have B:=Bn
  clear Bn
  have oa:=na
  clear na
  obtain⟨ca0,ca1,fa,la⟩:=oa.s1
  have ob:=nb
  clear nb
  obtain⟨cb0,cb1,fb,lb⟩:=ob.s1
  rw[H1.out]
  go_wp2
  go_returns
  exact⟨retI H.out.symm,belowB⟩
theorem Num.parts {w:World} {v:Value} {z:Int} (h:Num w v z):∃ao c,v = .agg #[.bool (decide (z<0)),.slice ao (limbs (absN z)).length c]∧Lim w (.slice ao (limbs (absN z)).length c) (limbs (absN z)):=by
 obtain⟨s,rfl,hl⟩:=h
 obtain⟨ao,c,rfl⟩:=hl.shape
 exact⟨ao,c,rfl,hl⟩
theorem absN_nonneg (z:Int):0≤absN z:=by unfold absN; omega
theorem cmpN_neg (x y:Int) (hx:x<0) (hy:y<0):cmpI (absN y) (absN x)=cmpI x y:=by unfold cmpI absN; split<;>split<;>(try split)<;>(try split)<;>omega
theorem cmpN_pos (x y:Int) (hx:0≤x) (hy:0≤y):cmpI (absN x) (absN y)=cmpI x y:=by unfold cmpI absN; split<;>split<;>(try split)<;>(try split)<;>omega
theorem rcompared {va vb:Value} {x y:Int} (w:World) (ha:Num w va x) (hb:Num w vb y) (fx:fits x) (fy:fits y) :
  Calls Tryz.prog 84 #[va,vb] w fun e w'=>e = .returned (.int .i64 (cmpI x y))∧Steps w w':=by
 obtain⟨aa,ca,rfl,pa⟩:=ha.parts
 obtain⟨ab,cb,rfl,pb⟩:=hb.parts
 unfold fits at fx fy
 have nx:(limbs (absN x)).length≤few:=by unfold few; omega
 have ny:(limbs (absN y)).length≤few:=by unfold few; omega
 obtain⟨n,hn⟩:∃n,(limbs (absN x)).length=n:=⟨_,rfl⟩
 obtain⟨m,hm⟩:∃m,(limbs (absN y)).length=m:=⟨_,rfl⟩
 rw[hn]at pa⊢
 rw[hm]at pb⊢
 clear ha hb
 rcases Int.lt_or_le x 0 with h1 | h1
 ·
  have e1:decide (x<0)=true:=by simp[h1]
  rcases Int.lt_or_le y 0 with h2 | h2
  ·
   have e2:decide (y<0)=true:=by simp[h2]
   have E:=Hid.mk_ (cmpN_neg x y h1 h2)
   rw[e1,e2]
   clear hn hm e1 e2 h1 h2
   go_enter Tryz.func84,Tryz.ntmps84
   go_wp2_with fail
   refine(rcompare _ (pb.steps belowB) (pa.steps belowB) (absN_nonneg _) (absN_nonneg _) ny nx).mono ?_
   rintro e w1 ⟨rfl,hs1⟩
   go_wp2
   go_returns
   exact⟨retI E.out,(show Below _ _ _ from belowB).trans (hs1.mono (by simp only[World.size_alloc]; omega))⟩
  ·
   have e2:decide (y<0)=false:=by simp; omega
   have E:Hid (cmpI x y = -1):=by show cmpI x y = -1; unfold cmpI; rw[if_neg (by omega),if_pos (by omega)]
   rw[e1,e2]
   clear hn hm e1 e2 h1 h2
   go_enter Tryz.func84,Tryz.ntmps84
   go_wp2
   go_returns
   exact⟨retI E.out.symm,belowB⟩
 ·
  have e1:decide (x<0)=false:=by simp; omega
  rcases Int.lt_or_le y 0 with h2 | h2
  ·
   have e2:decide (y<0)=true:=by simp[h2]
   have E:Hid (cmpI x y=1):=by show cmpI x y=1; unfold cmpI; rw[if_neg (by omega),if_neg (by omega)]
   rw[e1,e2]
   clear hn hm e1 e2 h1 h2
   go_enter Tryz.func84,Tryz.ntmps84
   go_wp2
   go_returns
   exact⟨retI E.out.symm,belowB⟩
  ·
   have e2:decide (y<0)=false:=by simp; omega
   have E:=Hid.mk_ (cmpN_pos x y h1 h2)
   rw[e1,e2]
   clear hn hm e1 e2 h1 h2
   go_enter Tryz.func84,Tryz.ntmps84
   go_wp2_with fail
   refine(rcompare _ (pa.steps belowB) (pb.steps belowB) (absN_nonneg _) (absN_nonneg _) nx ny).mono ?_
   rintro e w1 ⟨rfl,hs1⟩
   go_wp2
   go_returns
   exact⟨retI E.out,(show Below _ _ _ from belowB).trans (hs1.mono (by simp only[World.size_alloc]; omega))⟩
theorem bp_two:bp 2=18446744073709551616:=by rw[bp_succ,bp_succ,bp_zero]; decide
theorem fits_small {z:Int} (h:absN z<18446744073709551616):fits z:=by
 unfold fits
 have:=(limbs_length (absN_nonneg z) 2).2 (by rw[bp_two]; exact h)
 omega
theorem errN_fits {z:Int} (h:fits z):errN z=0:=if_pos h
theorem clipN_fits {z:Int} (h:fits z):clipN z=z:=if_pos h
theorem Num.shape {w:World} {v:Value} {z:Int} (h:Num w v z):∃b ao n c,v = .agg #[.bool b,.slice ao n c]:=by
 obtain⟨ao,c,e,_⟩:=h.parts
 exact⟨_,ao,_,c,e⟩
theorem rfrom (z:Int) (w:World) (z0 : -9223372036854775808≤z) (z1:z≤9223372036854775807) :
  Calls Tryz.prog 65 #[.int .i64 z] w fun e w'=>∃v,e = .returned v∧Num w' v z∧Steps w w':=by
 have hz:fits z:=fits_small (by unfold absN; omega)
 rcases Int.lt_or_le z 0 with h1 | h1
 focus
  have hd:decide (z<0)=true:=by simp[h1]
  have HZ:Hid (zv true (lval [(-z)%4294967296,(-z) / 4294967296])=z):=by show zv _ _=z; simp only[zv,lval,if_true,Bool.false_eq_true,if_false]; omega
  have HE:=Hid.mk_ (And.intro (errN_fits hz) (clipN_fits hz))
  clear hz
  obtain⟨m,hm⟩:∃m,-z=m:=⟨_,rfl⟩
  have hw:IntKind.u64.wrap (-IntKind.u64.wrap z)=m:=by simp only[IntKind.wrap_u64]; omega
  rw[hm]at HZ
  have m0:0≤m∧m≤9223372036854775808:=by omega
  clear hm
  have cm:Calls Tryz.prog 97 #[.bool true,.slice (some ⟨w.heap.size+1,0,none⟩) 2 2] ((w.alloc (.cells #[.bool false,.slice none 0 0] 30)).alloc (.cells #[.int .u32 (m%4294967296),.int .u32 (m / 4294967296)] 130)) (fun e w'=>∃v,e = .returned (.tuple #[v,.int .i64 0])∧Num w' v z∧Steps ((w.alloc (.cells #[.bool false,.slice none 0 0] 30)).alloc (.cells #[.int .u32 (m%4294967296),.int .u32 (m / 4294967296)] 130)) w'):=by
   have L:Lim ((w.alloc (.cells #[.bool false,.slice none 0 0] 30)).alloc (.cells #[.int .u32 (m%4294967296),.int .u32 (m / 4294967296)] 130)) (.slice (some ⟨w.heap.size+1,0,none⟩) 2 2) [m%4294967296,m / 4294967296]:=Lim.of_blk' (l:= [m%4294967296,m / 4294967296]) (Blk.new1 w _ _ _) (by simp only[lok_cons]; refine⟨⟨by omega,by omega⟩,⟨by omega,by omega⟩,lok_nil⟩)
   have C:=rmadeN true _ L (by unfold few; simp)
   rw[HZ.out,HE.out.1,HE.out.2]at C
   exact C
 rotate_left
 focus
  have hd:decide (z<0)=false:=by simp; omega
  have HZ:Hid (zv false (lval [z%4294967296,z / 4294967296])=z):=by show zv _ _=z; simp only[zv,lval,if_true,Bool.false_eq_true,if_false]; omega
  have HE:=Hid.mk_ (And.intro (errN_fits hz) (clipN_fits hz))
  clear hz
  have cm:Calls Tryz.prog 97 #[.bool false,.slice (some ⟨w.heap.size+1,0,none⟩) 2 2] ((w.alloc (.cells #[.bool false,.slice none 0 0] 30)).alloc (.cells #[.int .u32 (z%4294967296),.int .u32 (z / 4294967296)] 130)) (fun e w'=>∃v,e = .returned (.tuple #[v,.int .i64 0])∧Num w' v z∧Steps ((w.alloc (.cells #[.bool false,.slice none 0 0] 30)).alloc (.cells #[.int .u32 (z%4294967296),.int .u32 (z / 4294967296)] 130)) w'):=by
   have L:Lim ((w.alloc (.cells #[.bool false,.slice none 0 0] 30)).alloc (.cells #[.int .u32 (z%4294967296),.int .u32 (z / 4294967296)] 130)) (.slice (some ⟨w.heap.size+1,0,none⟩) 2 2) [z%4294967296,z / 4294967296]:=Lim.of_blk' (l:= [z%4294967296,z / 4294967296]) (Blk.new1 w _ _ _) (by simp only[lok_cons]; refine⟨⟨by omega,by omega⟩,⟨by omega,by omega⟩,lok_nil⟩)
   have C:=rmadeN false _ L (by unfold few; simp)
   rw[HZ.out,HE.out.1,HE.out.2]at C
   exact C
 rotate_left
 all_goals
  go_enter Tryz.func65,Tryz.ntmps65
  go_wp2_with fail
  refine(cm).mono ?_
  rintro e w1 ⟨v1,rfl,hv1,hb1⟩
  have st:Steps _ w1:=hb1
  have Bn:=bA w st
  have or:Blk w1 (w.heap.size) 30 #[.bool false,.slice none 0 0]:=Blk.stepsA st
  clear st
  have B:=Bn
  clear Bn
  obtain⟨cr0,cr1,fr,lr⟩:=or.s1
  obtain⟨bb,ao,n,c,rfl⟩:=hv1.shape
  have HV:=Hid.mk_ hv1
  clear hv1
  go_wp2
  refine bodyPost_ret (by simp[results,Tryz.results65,go_sem,cr0,cr1,fr,lr]; rfl) rfl ?_
  exact⟨_,rfl,(HV.out.put2 or).steps ((Below.refl _ _).alloc (Nat.le_refl _) _),belowB⟩
theorem cmpI_cases (x y:Int):(cmpI x y=0∧x=y)∨(cmpI x y = -1∧x<y)∨(cmpI x y=1∧y<x):=by
 unfold cmpI
 split
 · left; omega
 ·
  split
  · right; left; omega
  · right; right; omega
theorem absN_cases (z:Int):(z<0∧absN z = -z)∨(0≤z∧absN z=z):=by unfold absN; omega
theorem rsum {va vb:Value} {x y:Int} (w:World) (ha:Num w va x) (hb:Num w vb y) (fx:fits x) (fy:fits y) :
  Calls Tryz.prog 125 #[va,vb] w fun e w'=>∃v,e = .returned (.tuple #[v,.int .i64 (errN (x+y))])∧Num w' v (clipN (x+y))∧Steps w w':=by
 obtain⟨aa,ca,rfl,pa⟩:=ha.parts
 obtain⟨ab,cb,rfl,pb⟩:=hb.parts
 unfold fits at fx fy
 have nx:(limbs (absN x)).length≤few:=by unfold few; omega
 have ny:(limbs (absN y)).length≤few:=by unfold few; omega
 have vx:=lval_limbs (absN_nonneg x)
 have vy:=lval_limbs (absN_nonneg y)
 obtain⟨n,hn⟩:∃n,(limbs (absN x)).length=n:=⟨_,rfl⟩
 obtain⟨m,hm⟩:∃m,(limbs (absN y)).length=m:=⟨_,rfl⟩
 have HNM:Hid ((limbs (absN x)).length=n∧(limbs (absN y)).length=m):=⟨hn,hm⟩
 have HL:Hid (lval (limbs (absN x))=absN x∧lval (limbs (absN y))=absN y):=⟨vx,vy⟩
 rw[hn]at pa⊢
 rw[hm]at pb⊢
 have X:=absN_cases x
 have Y:=absN_cases y
 obtain⟨gx,hna⟩:∃b,decide (x<0)=b:=⟨_,rfl⟩
 obtain⟨gy,hnb⟩:∃b,decide (y<0)=b:=⟨_,rfl⟩
 rw[hna,hnb]
 have HS:Hid (decide (x<0)=gx∧decide (y<0)=gy):=⟨hna,hnb⟩
 have HX:=Hid.mk_ (And.intro X Y)
 have HF:=Hid.mk_ (And.intro fx fy)
 clear ha hb hn hm hna hnb X Y vx vy nx ny fx fy
 by_cases hs:gx=gy
 ·
  subst hs
  have hz:∀l,lval l=lval (limbs (absN x))+lval (limbs (absN y))→zv gx (lval l)=x+y:=fun l h=>by
   rw[h,HL.out.1,HL.out.2]
   have h1:=HS.out.1
   have h2:=HS.out.2
   have h3:=HX.out
   unfold zv
   cases gx
   · simp at h1 h2; simp only[Bool.false_eq_true,if_false]; omega
   · simp at h1 h2; simp only[if_true]; omega
  have Hz:=Hid.mk_ hz
  clear hz
  go_enter Tryz.func125,Tryz.ntmps125
  go_wp2_with fail
  go_region_held3 (fun w'=>w'.cell? ⟨w.heap.size,0,none⟩=some (.bool gx)∧w'.cell? ⟨w.heap.size,1,none⟩=some (.slice aa n ca)∧w'.cell? ⟨w.heap.size+1,0,none⟩=some (.bool gx)∧w'.cell? ⟨w.heap.size+1,1,none⟩=some (.slice ab m cb))
   ((refine⟨Blk.c (t:=30) (cs:=#[.bool gx,.slice aa n ca]) ?_ 0 rfl,Blk.c (t:=30) (cs:=#[.bool gx,.slice aa n ca]) ?_ 1 rfl,Blk.c (t:=30) (cs:=#[.bool gx,.slice ab m cb]) ?_ 0 rfl,Blk.c (t:=30) (cs:=#[.bool gx,.slice ab m cb]) ?_ 1 rfl⟩<;>(repeat' first | with_reducible assumption | (with_reducible refine Blk.new' ?_; first | with_reducible rfl | (simp only[World.size_alloc,World.size_setCell,World.size_drew]; done)) | with_reducible refine Blk.alloc ?_ _ | with_reducible refine Blk.drew ?_ | with_reducible refine Blk.drewN ?_ _ | with_reducible apply Blk.both | with_reducible refine Blk.far' ?_ ?_ | (show _≠_; omega))))
   (first
    | ((go_at_call 152; refine(rplus _ (pa.steps belowB) (pb.steps belowB) (by have:=HF.out; unfold few; omega) (by have:=HF.out; unfold few; omega)).mono ?_; rintro e wv ⟨v1,l1,rfl,hv1,vl1,ll1,hbv⟩; have HV1:=Hid.mk_ vl1; clear vl1; go_must (have st:Steps _ wv:=hbv; have Bn:=bA w st; have na:Blk wv (w.heap.size) 30 #[.bool gx,.slice aa n ca]:=Blk.stepsA st; have nb:Blk wv (w.heap.size+1) 30 #[.bool gx,.slice ab m cb]:=Blk.stepsA st; have nr:Blk wv (w.heap.size+1+1) 30 #[.bool false,.slice none 0 0]:=Blk.stepsA st; clear st; have B:=Bn; clear Bn; have oa:=na; clear na; have ca0:World.cell? wv ⟨w.heap.size,0,none⟩=some (.bool gx):=oa.c 0 rfl; have ca1:World.cell? wv ⟨w.heap.size,1,none⟩=some (.slice aa n ca):=oa.c 1 rfl; have fa:=oa.fr; have la:=oa.lt; have ob:=nb; clear nb; have cb0:World.cell? wv ⟨w.heap.size+1,0,none⟩=some (.bool gx):=ob.c 0 rfl; have cb1:World.cell? wv ⟨w.heap.size+1,1,none⟩=some (.slice ab m cb):=ob.c 1 rfl; have fb:=ob.fr; have lb:=ob.lt; have or:=nr; clear nr; have cr0:World.cell? wv ⟨w.heap.size+1+1,0,none⟩=some (.bool false):=or.c 0 rfl; have cr1:World.cell? wv ⟨w.heap.size+1+1,1,none⟩=some (.slice none 0 0):=or.c 1 rfl; have fr:=or.fr; have lr:=or.lt)))
    | ((go_at_call 97; refine(rmadeN gx _ hv1 (by have:=HF.out; unfold few; omega)).mono ?_; rintro e wv ⟨v2,rfl,hv2,hbv⟩; go_must (have st:Steps _ wv:=hbv; have Bn:=bA w st; have na:Blk wv (w.heap.size) 30 #[.bool gx,.slice aa n ca]:=Blk.stepsA st; have nb:Blk wv (w.heap.size+1) 30 #[.bool gx,.slice ab m cb]:=Blk.stepsA st; have nr:Blk wv (w.heap.size+1+1) 30 #[.bool false,.slice none 0 0]:=Blk.stepsA st; clear B oa ob or ca0 ca1 fa la cb0 cb1 fb lb cr0 cr1 fr lr; clear st; have B:=Bn; clear Bn; have oa:=na; clear na; have ca0:World.cell? wv ⟨w.heap.size,0,none⟩=some (.bool gx):=oa.c 0 rfl; have ca1:World.cell? wv ⟨w.heap.size,1,none⟩=some (.slice aa n ca):=oa.c 1 rfl; have fa:=oa.fr; have la:=oa.lt; have ob:=nb; clear nb; have cb0:World.cell? wv ⟨w.heap.size+1,0,none⟩=some (.bool gx):=ob.c 0 rfl; have cb1:World.cell? wv ⟨w.heap.size+1,1,none⟩=some (.slice ab m cb):=ob.c 1 rfl; have fb:=ob.fr; have lb:=ob.lt; have or:=nr; clear nr; have cr0:World.cell? wv ⟨w.heap.size+1+1,0,none⟩=some (.bool false):=or.c 0 rfl; have cr1:World.cell? wv ⟨w.heap.size+1+1,1,none⟩=some (.slice none 0 0):=or.c 1 rfl; have fr:=or.fr; have lr:=or.lt; obtain⟨bb,ao2,n2,c2,rfl⟩:=hv2.shape))))
  have HV2:=Hid.mk_ hv2
  clear hv2
  go_wp2
  refine bodyPost_ret (by simp[results,Tryz.results125,go_sem,ca0,ca1,fa,la,cb0,cb1,fb,lb,cr0,cr1,fr,lr]; rfl) rfl ?_
  have e:=Hz.out l1 HV1.out
  exact⟨_,retW rfl (by rw[e]),by rw[← e]; exact HV2.out.put2 or,belowB⟩
 ·
  have hsg:gx = !gy:=by cases gx<;>cases gy<;>simp_all
  obtain⟨c,hc⟩:∃c,cmpI (absN x) (absN y)=c:=⟨_,rfl⟩
  have cc:=cmpI_cases (absN x) (absN y)
  rw[hc]at cc
  have CC:=Hid.mk_ cc
  have h0:=absN_nonneg x
  have h0':=absN_nonneg y
  rcases Int.lt_or_le c 0 with hcz | hcz
  focus
   have hle:absN x≤absN y:=by omega
   have hz:zv gy (lval (limbs (absN y-absN x)))=x+y:=by
    rw[lval_limbs (by omega)]
    have h1:=HS.out.1
    have h2:=HS.out.2
    have h3:=HX.out
    unfold zv
    cases gx
    ·
     cases gy
     · simp at hsg
     · simp at h1 h2; simp only[Bool.false_eq_true,if_false,if_true]; omega
    ·
     cases gy
     · simp at h1 h2; simp only[Bool.false_eq_true,if_false,if_true]; omega
     · simp at hsg
   have hle2:(limbs (absN x)).length≤(limbs (absN y)).length:=by
    rcases Nat.lt_or_ge (limbs (absN y)).length (limbs (absN x)).length with g | g
    · have:=limbs_len_lt (absN_nonneg y) (absN_nonneg x) g; omega
    · exact g
   have hlm:(limbs (absN y-absN x)).length≤few:=by
    have h5:(limbs (absN y-absN x)).length≤(limbs (absN y)).length:=by
     rcases Nat.lt_or_ge (limbs (absN y)).length (limbs (absN y-absN x)).length with g | g
     · have:=limbs_len_lt (absN_nonneg y) (show 0≤absN y-absN x by omega) g; omega
     · exact g
    have:=HF.out; unfold few; omega
   have Hz:=Hid.mk_ hz
   have HC:=Hid.mk_ hc
   have mi:∀w',Lim w' (.slice aa n ca) (limbs (absN x))→Lim w' (.slice ab m cb) (limbs (absN y))→Calls Tryz.prog 153 #[.slice ab m cb,.slice aa n ca] w' fun e w2=>∃v,e = .returned v∧Lim w2 v (limbs (absN y-absN x))∧Steps w' w2:=fun w' h1 h2=>by
    have:=rminus w' h2 h1 (by have:=HF.out; unfold few; omega) hle2 (by rw[HL.out.1,HL.out.2]; exact hle)
    rw[HL.out.1,HL.out.2]at this
    exact this
   have cmpc:∀w',Lim w' (.slice aa n ca) (limbs (absN x))→Lim w' (.slice ab m cb) (limbs (absN y))→Calls Tryz.prog 120 #[.slice aa n ca,.slice ab m cb] w' fun e w2=>e = .returned (.int .i64 c)∧Steps w' w2:=fun w' h1 h2=>by
    have:=rcompare w' h1 h2 (absN_nonneg x) (absN_nonneg y) (by have:=HF.out; unfold few; omega) (by have:=HF.out; unfold few; omega)
    rw[HC.out]at this
    exact this
   have hgg:(gx==gy)=false:=by simp[hs]
   clear hz hc cc hle hle2 h0 h0' hsg hs
   go_enter Tryz.func125,Tryz.ntmps125
   go_wp2_with fail
   refine(cmpc _ (pa.steps belowB) (pb.steps belowB)).mono ?_
   rintro e w1 ⟨rfl,hb1⟩
   have st:Steps _ w1:=hb1
   have Bn:=bA w st
   have oa:Blk w1 (w.heap.size) 30 #[.bool gx,.slice aa n ca]:=Blk.stepsA st
   have ob:Blk w1 (w.heap.size+1) 30 #[.bool gy,.slice ab m cb]:=Blk.stepsA st
   have or:Blk w1 (w.heap.size+1+1) 30 #[.bool false,.slice none 0 0]:=Blk.stepsA st
   clear st
   have B:=Bn
   clear Bn
   obtain⟨ca0,ca1,fa,la⟩:=oa.s1
   obtain⟨cb0,cb1,fb,lb⟩:=ob.s1
   obtain⟨cr0,cr1,fr,lr⟩:=or.s1
   clear cmpc
   go_wp2_with fail
   go_region_held3 (fun w'=>w'.cell? ⟨w.heap.size,0,none⟩=some (.bool gx)∧w'.cell? ⟨w.heap.size,1,none⟩=some (.slice aa n ca)∧w'.cell? ⟨w.heap.size+1,0,none⟩=some (.bool gy)∧w'.cell? ⟨w.heap.size+1,1,none⟩=some (.slice ab m cb))
    ((refine⟨Blk.c (t:=30) (cs:=#[.bool gx,.slice aa n ca]) ?_ 0 rfl,Blk.c (t:=30) (cs:=#[.bool gx,.slice aa n ca]) ?_ 1 rfl,Blk.c (t:=30) (cs:=#[.bool gy,.slice ab m cb]) ?_ 0 rfl,Blk.c (t:=30) (cs:=#[.bool gy,.slice ab m cb]) ?_ 1 rfl⟩<;>(repeat' first | with_reducible assumption | (with_reducible refine Blk.new' ?_; first | with_reducible rfl | (simp only[World.size_alloc,World.size_setCell,World.size_drew]; done)) | with_reducible refine Blk.alloc ?_ _ | with_reducible refine Blk.drew ?_ | with_reducible refine Blk.drewN ?_ _ | with_reducible apply Blk.both | with_reducible refine Blk.far' ?_ ?_ | (show _≠_; omega))))
    (first
     | ((go_at_call 153; refine(mi _ (pa.steps belowB) (pb.steps belowB)).mono ?_; rintro e wv ⟨v1,rfl,hv1,hbv⟩; go_must (have st:Steps _ wv:=hbv; have Bn:=bA w st; have na:Blk wv (w.heap.size) 30 #[.bool gx,.slice aa n ca]:=Blk.stepsA st; have nb:Blk wv (w.heap.size+1) 30 #[.bool gy,.slice ab m cb]:=Blk.stepsA st; have nr:Blk wv (w.heap.size+1+1) 30 #[.bool false,.slice none 0 0]:=Blk.stepsA st; clear B oa ob or ca0 ca1 fa la cb0 cb1 fb lb cr0 cr1 fr lr; clear st; have B:=Bn; clear Bn; have oa:=na; clear na; have ca0:World.cell? wv ⟨w.heap.size,0,none⟩=some (.bool gx):=oa.c 0 rfl; have ca1:World.cell? wv ⟨w.heap.size,1,none⟩=some (.slice aa n ca):=oa.c 1 rfl; have fa:=oa.fr; have la:=oa.lt; have ob:=nb; clear nb; have cb0:World.cell? wv ⟨w.heap.size+1,0,none⟩=some (.bool gy):=ob.c 0 rfl; have cb1:World.cell? wv ⟨w.heap.size+1,1,none⟩=some (.slice ab m cb):=ob.c 1 rfl; have fb:=ob.fr; have lb:=ob.lt; have or:=nr; clear nr; have cr0:World.cell? wv ⟨w.heap.size+1+1,0,none⟩=some (.bool false):=or.c 0 rfl; have cr1:World.cell? wv ⟨w.heap.size+1+1,1,none⟩=some (.slice none 0 0):=or.c 1 rfl; have fr:=or.fr; have lr:=or.lt)))
     | ((go_at_call 97; refine(rmadeN gy _ hv1 hlm).mono ?_; rintro e wv ⟨v2,rfl,hv2,hbv⟩; go_must (have st:Steps _ wv:=hbv; have Bn:=bA w st; have na:Blk wv (w.heap.size) 30 #[.bool gx,.slice aa n ca]:=Blk.stepsA st; have nb:Blk wv (w.heap.size+1) 30 #[.bool gy,.slice ab m cb]:=Blk.stepsA st; have nr:Blk wv (w.heap.size+1+1) 30 #[.bool false,.slice none 0 0]:=Blk.stepsA st; clear B oa ob or ca0 ca1 fa la cb0 cb1 fb lb cr0 cr1 fr lr; clear st; have B:=Bn; clear Bn; have oa:=na; clear na; have ca0:World.cell? wv ⟨w.heap.size,0,none⟩=some (.bool gx):=oa.c 0 rfl; have ca1:World.cell? wv ⟨w.heap.size,1,none⟩=some (.slice aa n ca):=oa.c 1 rfl; have fa:=oa.fr; have la:=oa.lt; have ob:=nb; clear nb; have cb0:World.cell? wv ⟨w.heap.size+1,0,none⟩=some (.bool gy):=ob.c 0 rfl; have cb1:World.cell? wv ⟨w.heap.size+1,1,none⟩=some (.slice ab m cb):=ob.c 1 rfl; have fb:=ob.fr; have lb:=ob.lt; have or:=nr; clear nr; have cr0:World.cell? wv ⟨w.heap.size+1+1,0,none⟩=some (.bool false):=or.c 0 rfl; have cr1:World.cell? wv ⟨w.heap.size+1+1,1,none⟩=some (.slice none 0 0):=or.c 1 rfl; have fr:=or.fr; have lr:=or.lt; obtain⟨bb,ao2,n2,c2,rfl⟩:=hv2.shape))))
  rotate_left
  focus
   have hle:absN y≤absN x:=by omega
   have hz:zv gx (lval (limbs (absN x-absN y)))=x+y:=by
    rw[lval_limbs (by omega)]
    have h1:=HS.out.1
    have h2:=HS.out.2
    have h3:=HX.out
    unfold zv
    cases gx
    ·
     cases gy
     · simp at hsg
     · simp at h1 h2; simp only[Bool.false_eq_true,if_false,if_true]; omega
    ·
     cases gy
     · simp at h1 h2; simp only[Bool.false_eq_true,if_false,if_true]; omega
     · simp at hsg
   have hle2:(limbs (absN y)).length≤(limbs (absN x)).length:=by
    rcases Nat.lt_or_ge (limbs (absN x)).length (limbs (absN y)).length with g | g
    · have:=limbs_len_lt (absN_nonneg x) (absN_nonneg y) g; omega
    · exact g
   have hlm:(limbs (absN x-absN y)).length≤few:=by
    have h5:(limbs (absN x-absN y)).length≤(limbs (absN x)).length:=by
     rcases Nat.lt_or_ge (limbs (absN x)).length (limbs (absN x-absN y)).length with g | g
     · have:=limbs_len_lt (absN_nonneg x) (show 0≤absN x-absN y by omega) g; omega
     · exact g
    have:=HF.out; unfold few; omega
   have Hz:=Hid.mk_ hz
   have HC:=Hid.mk_ hc
   have mi:∀w',Lim w' (.slice aa n ca) (limbs (absN x))→Lim w' (.slice ab m cb) (limbs (absN y))→Calls Tryz.prog 153 #[.slice aa n ca,.slice ab m cb] w' fun e w2=>∃v,e = .returned v∧Lim w2 v (limbs (absN x-absN y))∧Steps w' w2:=fun w' h1 h2=>by
    have:=rminus w' h1 h2 (by have:=HF.out; unfold few; omega) hle2 (by rw[HL.out.1,HL.out.2]; exact hle)
    rw[HL.out.1,HL.out.2]at this
    exact this
   have cmpc:∀w',Lim w' (.slice aa n ca) (limbs (absN x))→Lim w' (.slice ab m cb) (limbs (absN y))→Calls Tryz.prog 120 #[.slice aa n ca,.slice ab m cb] w' fun e w2=>e = .returned (.int .i64 c)∧Steps w' w2:=fun w' h1 h2=>by
    have:=rcompare w' h1 h2 (absN_nonneg x) (absN_nonneg y) (by have:=HF.out; unfold few; omega) (by have:=HF.out; unfold few; omega)
    rw[HC.out]at this
    exact this
   have hgg:(gx==gy)=false:=by simp[hs]
   clear hz hc cc hle hle2 h0 h0' hsg hs
   go_enter Tryz.func125,Tryz.ntmps125
   go_wp2_with fail
   refine(cmpc _ (pa.steps belowB) (pb.steps belowB)).mono ?_
   rintro e w1 ⟨rfl,hb1⟩
   have st:Steps _ w1:=hb1
   have Bn:=bA w st
   have oa:Blk w1 (w.heap.size) 30 #[.bool gx,.slice aa n ca]:=Blk.stepsA st
   have ob:Blk w1 (w.heap.size+1) 30 #[.bool gy,.slice ab m cb]:=Blk.stepsA st
   have or:Blk w1 (w.heap.size+1+1) 30 #[.bool false,.slice none 0 0]:=Blk.stepsA st
   clear st
   have B:=Bn
   clear Bn
   obtain⟨ca0,ca1,fa,la⟩:=oa.s1
   obtain⟨cb0,cb1,fb,lb⟩:=ob.s1
   obtain⟨cr0,cr1,fr,lr⟩:=or.s1
   clear cmpc
   go_wp2_with fail
   go_region_held3 (fun w'=>w'.cell? ⟨w.heap.size,0,none⟩=some (.bool gx)∧w'.cell? ⟨w.heap.size,1,none⟩=some (.slice aa n ca)∧w'.cell? ⟨w.heap.size+1,0,none⟩=some (.bool gy)∧w'.cell? ⟨w.heap.size+1,1,none⟩=some (.slice ab m cb))
    ((refine⟨Blk.c (t:=30) (cs:=#[.bool gx,.slice aa n ca]) ?_ 0 rfl,Blk.c (t:=30) (cs:=#[.bool gx,.slice aa n ca]) ?_ 1 rfl,Blk.c (t:=30) (cs:=#[.bool gy,.slice ab m cb]) ?_ 0 rfl,Blk.c (t:=30) (cs:=#[.bool gy,.slice ab m cb]) ?_ 1 rfl⟩<;>(repeat' first | with_reducible assumption | (with_reducible refine Blk.new' ?_; first | with_reducible rfl | (simp only[World.size_alloc,World.size_setCell,World.size_drew]; done)) | with_reducible refine Blk.alloc ?_ _ | with_reducible refine Blk.drew ?_ | with_reducible refine Blk.drewN ?_ _ | with_reducible apply Blk.both | with_reducible refine Blk.far' ?_ ?_ | (show _≠_; omega))))
    (first
     | ((go_at_call 153; refine(mi _ (pa.steps belowB) (pb.steps belowB)).mono ?_; rintro e wv ⟨v1,rfl,hv1,hbv⟩; go_must (have st:Steps _ wv:=hbv; have Bn:=bA w st; have na:Blk wv (w.heap.size) 30 #[.bool gx,.slice aa n ca]:=Blk.stepsA st; have nb:Blk wv (w.heap.size+1) 30 #[.bool gy,.slice ab m cb]:=Blk.stepsA st; have nr:Blk wv (w.heap.size+1+1) 30 #[.bool false,.slice none 0 0]:=Blk.stepsA st; clear B oa ob or ca0 ca1 fa la cb0 cb1 fb lb cr0 cr1 fr lr; clear st; have B:=Bn; clear Bn; have oa:=na; clear na; have ca0:World.cell? wv ⟨w.heap.size,0,none⟩=some (.bool gx):=oa.c 0 rfl; have ca1:World.cell? wv ⟨w.heap.size,1,none⟩=some (.slice aa n ca):=oa.c 1 rfl; have fa:=oa.fr; have la:=oa.lt; have ob:=nb; clear nb; have cb0:World.cell? wv ⟨w.heap.size+1,0,none⟩=some (.bool gy):=ob.c 0 rfl; have cb1:World.cell? wv ⟨w.heap.size+1,1,none⟩=some (.slice ab m cb):=ob.c 1 rfl; have fb:=ob.fr; have lb:=ob.lt; have or:=nr; clear nr; have cr0:World.cell? wv ⟨w.heap.size+1+1,0,none⟩=some (.bool false):=or.c 0 rfl; have cr1:World.cell? wv ⟨w.heap.size+1+1,1,none⟩=some (.slice none 0 0):=or.c 1 rfl; have fr:=or.fr; have lr:=or.lt)))
     | ((go_at_call 97; refine(rmadeN gx _ hv1 hlm).mono ?_; rintro e wv ⟨v2,rfl,hv2,hbv⟩; go_must (have st:Steps _ wv:=hbv; have Bn:=bA w st; have na:Blk wv (w.heap.size) 30 #[.bool gx,.slice aa n ca]:=Blk.stepsA st; have nb:Blk wv (w.heap.size+1) 30 #[.bool gy,.slice ab m cb]:=Blk.stepsA st; have nr:Blk wv (w.heap.size+1+1) 30 #[.bool false,.slice none 0 0]:=Blk.stepsA st; clear B oa ob or ca0 ca1 fa la cb0 cb1 fb lb cr0 cr1 fr lr; clear st; have B:=Bn; clear Bn; have oa:=na; clear na; have ca0:World.cell? wv ⟨w.heap.size,0,none⟩=some (.bool gx):=oa.c 0 rfl; have ca1:World.cell? wv ⟨w.heap.size,1,none⟩=some (.slice aa n ca):=oa.c 1 rfl; have fa:=oa.fr; have la:=oa.lt; have ob:=nb; clear nb; have cb0:World.cell? wv ⟨w.heap.size+1,0,none⟩=some (.bool gy):=ob.c 0 rfl; have cb1:World.cell? wv ⟨w.heap.size+1,1,none⟩=some (.slice ab m cb):=ob.c 1 rfl; have fb:=ob.fr; have lb:=ob.lt; have or:=nr; clear nr; have cr0:World.cell? wv ⟨w.heap.size+1+1,0,none⟩=some (.bool false):=or.c 0 rfl; have cr1:World.cell? wv ⟨w.heap.size+1+1,1,none⟩=some (.slice none 0 0):=or.c 1 rfl; have fr:=or.fr; have lr:=or.lt; obtain⟨bb,ao2,n2,c2,rfl⟩:=hv2.shape))))
  rotate_left
  all_goals
   have HV2:=Hid.mk_ hv2
   clear hv2
   go_wp2
   refine bodyPost_ret (by simp[results,Tryz.results125,go_sem,ca0,ca1,fa,la,cb0,cb1,fb,lb,cr0,cr1,fr,lr]; rfl) rfl ?_
   exact⟨_,retW rfl (by rw[Hz.out]),by have:=HV2.out; rw[Hz.out]at this; exact this.put2 or,belowB⟩
end Go.Proofs.YtdkcffnmlllamaaGreat
