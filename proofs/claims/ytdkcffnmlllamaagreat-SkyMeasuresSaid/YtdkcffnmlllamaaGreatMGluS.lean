import Derived.Test.YtdkcffnmlllamaaGreatMGluV
import Derived.Test.YtdkcffnmlllamaaGreatMGlue
import Derived.Test.YtdkcffnmlllamaaGreatMKe
import Derived.Deep.Grids
/- Meshes, fields and lists of booleans as arguments. -/
set_option linter.unusedVariables false
set_option linter.unusedSimpArgs false
set_option maxHeartbeats 6400000
set_option maxRecDepth 1000000
namespace Go.Proofs.YtdkcffnmlllamaaGreat
open Go.ChangeShapes Go.WideShapes Go.ChangeAt Go.RowKit Go.Joins Go.Deep
section
variable {H:Type} {enc:TypeId×Value→H} {W:World} {base:Nat} {held:Bool} {n:Nat}
theorem cellsI:Tryz.prog.cellsOf 3=1:=by kernel_rfl
theorem cellsL:Tryz.prog.cellsOf 22=1:=by kernel_rfl
theorem cellsMesh:Tryz.prog.cellsOf 24=4:=by kernel_rfl
theorem cellsField:Tryz.prog.cellsOf 26=3:=by kernel_rfl
theorem open_i64s {v:Value} {y:DataW H×List MemPlace} (hf:DataW.trod enc Tryz.prog W base (fun _=>true) held n 22 [v]=some y):∃l,IntsR W v l:=by
 rcases open_ints Tryz.underlying22 Tryz.underlying2 cellsJ hf with⟨e,_⟩ | ⟨a,len,cap,zs,e,_,hle,_,hl,_,hcell,hwf⟩
 ·
  simp only[List.cons.injEq,and_true]at e
  rw[e]
  exact⟨[],IntsR.nil W⟩
 ·
  simp only[List.cons.injEq,and_true]at e
  rw[e]
  rw[if_pos rfl]at hl
  have lt:(zs.take len).length=len:=by rw[List.length_take]; omega
  refine⟨zs.take len,some a,cap,by rw[lt],by omega,fun hne=> ?_⟩
  have hp:0<zs.length:=by
   rcases Nat.eq_zero_or_pos len with h0 | h0
   · exact absurd (by rw[h0,List.take_zero]) hne
   · omega
  obtain⟨b,off,rfl,hc⟩:=Go.ints_at hcell hp
  refine⟨b,off,rfl,cell_lt (hc 0 hp),fun t ht=> ?_⟩
  rw[lt]at ht
  rw[hc t (by omega)]
  simp[List.getD,List.getElem?_take,ht]
theorem BoolsR.nil (w:World):BoolsR w (.slice none 0 0) []:=⟨none,0,rfl,Nat.le_refl _,fun h=>absurd rfl h⟩
theorem open_boolsArg {r:Reach} {b0:Nat} {v:Value} {d:DataW H} {p:List MemPlace} (hv:Value.okWide Tryz.prog W r b0 27 v) (h:DataW.Trod enc Tryz.prog W base (fun _=>true) held 27 v d p):∃l,BoolsR W v l:=by
 obtain⟨a0,len0,cap0,rfl⟩:=okWide_slice Tryz.underlying27 hv
 obtain⟨fuel,hf⟩:=h
 replace hf:DataW.trod enc Tryz.prog W base (fun _=>true) held fuel 27 [.slice a0 len0 cap0]=some (d,p):=hf
 rcases open_bools Tryz.underlying27 Tryz.underlying4 cellsB hf with⟨e,_⟩ | ⟨a,len,cap,B,e,_,hle,_,_,hcell⟩
 ·
  simp only[List.cons.injEq,and_true]at e
  rw[e]
  exact⟨[],BoolsR.nil W⟩
 ·
  simp only[List.cons.injEq,and_true]at e
  rw[e]
  have lt:((List.range len).map B).length=len:=by simp
  refine⟨(List.range len).map B,some a,cap,by rw[lt],by omega,fun hne=> ?_⟩
  have hp:0<len:=by
   rcases Nat.eq_zero_or_pos len with h0 | h0
   · exact absurd (by rw[h0]; rfl) hne
   · exact h0
  obtain⟨b,off,spot⟩:=a
  have hspot:spot=none:=by simpa[Addr.add]using World.cell?_spot (hcell 0 (by omega))
  subst hspot
  have hc:∀t,t<len→W.cell? ⟨b,off+t,none⟩=some (.bool (B t)):=fun t ht=>by rw[← Go.WideShapes.add_plain]; exact hcell t (by omega)
  refine⟨b,off,rfl,cell_lt (hc 0 hp),fun t ht=> ?_⟩
  rw[lt]at ht
  rw[hc t ht]
  simp[List.getD,ht]
theorem open_meshArg {r0:Reach} {b0:Nat} {v:Value} {d:DataW H} {p:List MemPlace} (hv:Value.okWide Tryz.prog W r0 b0 24 v) (h:DataW.Trod enc Tryz.prog W base (fun _=>true) held 24 v d p) :
  ∃x y z u,∃l,v = .agg #[.int .i64 x,.int .i64 y,.int .i64 z,u]∧IntsR W u l:=by
 obtain⟨cs,rfl,_⟩:=okWide_struct Tryz.underlying24 hv
 obtain⟨fuel,hf⟩:=h
 replace hf:DataW.trod enc Tryz.prog W base (fun _=>true) held fuel 24 cs.toList=some (d,p):=hf
 suffices hs:∀l,DataW.trod enc Tryz.prog W base (fun _=>true) held fuel 24 l=some (d,p)→∃x y z u,∃k,l = [.int .i64 x,.int .i64 y,.int .i64 z,u]∧IntsR W u k by
  obtain⟨x,y,z,u,k,e,hk⟩:=hs _ hf
  exact⟨x,y,z,u,k,by rw[show cs=cs.toList.toArray by simp,e],hk⟩
 intro l h
 obtain⟨xs,m,_,_,hc,hl,hf⟩:=DataW.trod_struct Tryz.underlying24 h
 rw[cellsMesh]at hc
 have h0:=hf 0 _ rfl
 have h1:=hf 1 _ rfl
 have h2:=hf 2 _ rfl
 have h3:=hf 3 _ rfl
 match xs,hl,l,hc with
 | [x0,x1,x2,x3],_,[c0,c1,c2,c3],_=>
  simp[cellsI,cellsL]at h0 h1 h2 h3
  obtain⟨i0,f0,_,w0⟩:=DataW.trod_int Tryz.underlying3 h0
  obtain⟨i1,f1,_,w1⟩:=DataW.trod_int Tryz.underlying3 h1
  obtain⟨i2,f2,_,w2⟩:=DataW.trod_int Tryz.underlying3 h2
  obtain⟨k,hk⟩:=open_i64s h3
  simp only[List.cons.injEq,and_true]at f0 f1 f2
  subst f0 f1 f2
  exact⟨i0,i1,i2,c3,k,rfl,hk⟩
theorem open_fieldArg {r0:Reach} {b0:Nat} {v:Value} {d:DataW H} {p:List MemPlace} (hv:Value.okWide Tryz.prog W r0 b0 26 v) (h:DataW.Trod enc Tryz.prog W base (fun _=>true) held 26 v d p) :
  ∃x y u,∃l,v = .agg #[.int .i64 x,.int .i64 y,u]∧IntsR W u l:=by
 obtain⟨cs,rfl,_⟩:=okWide_struct Tryz.underlying26 hv
 obtain⟨fuel,hf⟩:=h
 replace hf:DataW.trod enc Tryz.prog W base (fun _=>true) held fuel 26 cs.toList=some (d,p):=hf
 suffices hs:∀l,DataW.trod enc Tryz.prog W base (fun _=>true) held fuel 26 l=some (d,p)→∃x y u,∃k,l = [.int .i64 x,.int .i64 y,u]∧IntsR W u k by
  obtain⟨x,y,u,k,e,hk⟩:=hs _ hf
  exact⟨x,y,u,k,by rw[show cs=cs.toList.toArray by simp,e],hk⟩
 intro l h
 obtain⟨xs,m,_,_,hc,hl,hf⟩:=DataW.trod_struct Tryz.underlying26 h
 rw[cellsField]at hc
 have h0:=hf 0 _ rfl
 have h1:=hf 1 _ rfl
 have h2:=hf 2 _ rfl
 match xs,hl,l,hc with
 | [x0,x1,x2],_,[c0,c1,c2],_=>
  simp[cellsI,cellsL]at h0 h1 h2
  obtain⟨i0,f0,_,w0⟩:=DataW.trod_int Tryz.underlying3 h0
  obtain⟨i1,f1,_,w1⟩:=DataW.trod_int Tryz.underlying3 h1
  obtain⟨k,hk⟩:=open_i64s h2
  simp only[List.cons.injEq,and_true]at f0 f1
  subst f0 f1
  exact⟨i0,i1,c2,k,rfl,hk⟩
end
end Go.Proofs.YtdkcffnmlllamaaGreat
