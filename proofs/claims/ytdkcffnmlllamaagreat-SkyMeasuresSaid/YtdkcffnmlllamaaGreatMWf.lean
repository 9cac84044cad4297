import Derived.Test.YtdkcffnmlllamaaGreatMWa
import Derived.Deep.OwnRows
set_option linter.unusedVariables false
set_option linter.unusedSimpArgs false
namespace Go.Proofs.YtdkcffnmlllamaaGreat
open Go.RowKit
theorem made_zeros (n:Nat):madeCells #[Value.int .u32 0] n=(u32s (List.replicate n 0)).toArray:=by
 apply Array.ext'
 simp[madeCells,u32s]
 apply List.ext_getElem
 · simp
 · intro i h1 h2; simp[Nat.mod_one]
theorem set_down (j:Nat) (x:Int) (qs:List Int):(u32s (List.replicate (j+1) 0++qs)).toArray.setIfInBounds j (.int .u32 x)=(u32s (List.replicate j 0++x::qs)).toArray:=by
 have e:List.replicate (j+1) (0:Int)++qs=List.replicate j 0++0::qs:=by
  rw[show j+1=j+1 from rfl,List.replicate_succ']; simp
 rw[e]
 simp[u32s,List.set_append]
theorem make_row (n:Nat) (h:n≤1000000000) (w:World):(Instr.makeSlice 28 (.int .i64 (n:Int)) (.int .i64 (n:Int))).run Tryz.prog w = .ok (.slice (some ⟨w.heap.size,0,none⟩) n n) (w.alloc (.cells (madeCells #[.int .u32 0] n) 130)):=
 run_make_row' (P:=Tryz.prog) 28 130 (.int .u32 0) 4 Tryz.underlying28 infoU rfl .i64 .i64 n (by omega) (by omega) w
set_option maxHeartbeats 3200000 in
set_option maxRecDepth 1000000 in
theorem rshort {a:Value} {A:List Int} {d:Int} (w:World) (ha:Lim w a A) (nA:A.length≤few) (d0:1≤d) (d1:d<4294967296) :
  Calls Tryz.prog 149 #[a,.int .u32 d] w fun e w'=>∃q r,e = .returned (.tuple #[q,r])∧Lim w' q (limbs (lval A / d))∧Lim w' r (limbs (lval A%d))∧Steps w w':=by
 obtain⟨aa,ca,rfl⟩:=ha.shape
 obtain⟨oa,-,la,fa⟩:=ha.cells
 clear ha
 unfold few at nA
 obtain⟨n,hn⟩:∃n,A.length=n:=⟨_,rfl⟩
 have H:Hid (A.length=n):=hn
 rw[hn]at fa la nA
 rw[hn]
 clear hn
 have hmk:=make_row n (by omega)
 have Z0:(w.alloc (.cells (madeCells #[.int .u32 0] n) 130)).heap.size=w.heap.size+1:=World.size_alloc _ _
 have B0:Below w.heap.size w (w.alloc (.cells (madeCells #[.int .u32 0] n) 130)):=(Below.refl _ _).alloc (Nat.le_refl _) _
 have K0:Blk (w.alloc (.cells (madeCells #[.int .u32 0] n) 130)) w.heap.size 130 (u32s (List.replicate n 0 ++ [])).toArray:=by
  have:=Blk.new w 130 (madeCells #[.int .u32 0] n)
  rw[made_zeros,← List.append_nil (List.replicate n (0:Int))]at this
  rw[made_zeros]
  simpa using this
 go_enter Tryz.func149,Tryz.ntmps149
 go_wp2
 go_loopw [7,8] (fun r i wr=>∃ (k:Nat) (qs:List Int) (rv:Int),k≤n∧i = .int .i64 ((k:Int)-1)∧r = .int .u64 rv∧0≤rv∧rv<d∧lok qs∧qs.length+k=n∧lval (A.drop k)=d*lval qs+rv∧
   Blk wr w.heap.size 130 (u32s (List.replicate k 0++qs)).toArray∧Below w.heap.size w wr) (fun _ i _=>(intOf i+1).toNat)
 case atStart=>exact⟨n,[],0,Nat.le_refl _,by go_num,rfl,by omega,by omega,lok_nil,by simp,by rw[List.drop_of_length_le (by have:=H.out; omega)]; simp[lval],K0,B0⟩
 case round=>
  obtain⟨k,qs,rv,hk,rfl,rfl,r0,r1,hok,hl,hv,hblk,hnx⟩:=hrel
  have Z:=hnx.size
  have HV:Hid (qs.length+k=n∧lok qs∧lval (A.drop k)=d*lval qs+rv):=⟨hl,hok,hv⟩
  clear hl hok hv hmk Z0 B0 K0
  rcases Nat.eq_zero_or_pos k with rfl | hp
  ·
   clear fa
   have E:=HV.out
   rw[Nat.add_zero]at E
   obtain⟨E1,E2,E3⟩:=E
   rw[List.drop_zero]at E3
   simp only[List.replicate_zero,List.nil_append]at hblk
   have Lq:Lim wr (.slice (some ⟨w.heap.size,0,none⟩) n n) qs:=by
    have:=Lim.of_blk' hblk E2
    rw[E1]at this
    exact this
   have Q:=quot_of E3 r0 r1
   have F:=Hid.mk_ (And.intro Q E2)
   have lq:qs.length≤few:=by unfold few; omega
   clear E1 E3 Q hblk
   go_wp2_with (first
    | (go_at_call 127; refine(rtrim _ Lq lq).mono ?_; clear Lq; rintro e w2 ⟨v2,rfl,hv2,hs2⟩)
    | (go_at_call 127; refine(rtrim _ (Lim.one (x:=rv) (by omega) (by omega)) (by unfold few; simp)).mono ?_; rintro e w3 ⟨v3,rfl,hv3,hs3⟩))
   go_returns
   have Z2:Steps w2 w3:=((Below.refl w2.heap.size w2).alloc (Nat.le_refl _) _).trans (hs3.mono (by rw[World.size_alloc]; omega))
   refine⟨_,_,rfl,?_,?_,below_steps (below_steps hnx (Nat.le_refl _) hs2) (Nat.le_refl _) Z2⟩
   ·
    rw[F.out.1.1]
    rw[← limbs_lval F.out.2]at hv2
    exact hv2.steps Z2
   ·
    rw[F.out.1.2]
    have:=limbs_lval (lok_cons.2 ⟨⟨r0,by omega⟩,lok_nil⟩:lok [rv])
    rw[← this]at hv3
    simpa[lval]using hv3
  ·
   obtain⟨j,rfl⟩:∃j,k=j+1:=⟨k-1,by omega⟩
   obtain⟨ba,oa',rfl,hba,hca⟩:=fa (by omega)
   have g1:=(hnx.cell (p:=⟨ba,oa'+j,none⟩) hba).trans (hca j (by rw[H.out]; omega))
   obtain⟨u,hu⟩:∃u,A.getD j 0=u:=⟨_,rfl⟩
   have u0:=lok_getD oa j
   rw[hu]at g1 u0
   have HU:Hid (A.getD j 0=u):=hu
   clear fa hca hu
   have g2:wr.cell? ⟨w.heap.size,0+j,none⟩=some (.int .u32 0):=by
    refine hblk.c _ ?_
    rw[Nat.zero_add]
    simp[u32s,List.getElem?_append,List.getElem?_replicate]
   have g3:wr.frozen? ⟨w.heap.size,0+j,none⟩=false:=hblk.fr _
   rw[Nat.zero_add]at g2 g3
   have hblk':=Hid.mk_ hblk
   clear hblk
   go_wp2
   go_roundw
   case rel=>
    have hb:=hblk'.out
    have q0:0≤(rv*4294967296+u) / d:=Int.ediv_nonneg (by omega) (by omega)
    have q1:(rv*4294967296+u) / d<4294967296:=Int.ediv_lt_of_lt_mul (by omega) (by omega)
    have m0:=Int.emod_nonneg (rv*4294967296+u) (show d≠0 by omega)
    have m1:=Int.emod_lt_of_pos (rv*4294967296+u) (show 0<d by omega)
    have S:=short_step (x:=u) HV.out.2.2
    rw[Int.emod_eq_of_lt q0 q1]
    have E:=HV.out.1
    refine⟨j,(rv*4294967296+u) / d::qs,(rv*4294967296+u)%d,by omega,rfl,rfl,m0,m1,lok_cons.2 ⟨⟨q0,q1⟩,HV.out.2.1⟩,by rw[List.length_cons]; omega,?_,hb.set2 (set_down j _ qs),hnx.setCell (p:=⟨w.heap.size,j,none⟩) (Nat.le_refl _) _⟩
    rw[lval_drop,HU.out,S]
    simp only[lval]
   case measure=>simp[intOf]
end Go.Proofs.YtdkcffnmlllamaaGreat
