import Derived.RowKit
/- Limbs of 32 bits: lists of whole numbers, their values, and what is canonical. -/
set_option linter.unusedVariables false
set_option linter.unusedSimpArgs false
namespace Go.Proofs.YtdkcffnmlllamaaGreat
def lval:List Int→Int
 | []=>0
 | x::l=>x+4294967296*lval l
def lok (l:List Int):Prop:=∀x∈l,0≤x∧x<4294967296
def dig:Nat→Int→List Int
 | 0,_=> []
 | k+1,n=>n%4294967296::dig k (n / 4294967296)
def bp (k:Nat):Int:=((4294967296^k:Nat):Int)
theorem bp_zero:bp 0=1:=rfl
theorem bp_succ (k:Nat):bp (k+1)=4294967296*bp k:=by unfold bp; rw[Nat.pow_succ]; omega
theorem bp_pos (k:Nat):1≤bp k:=by have:=Nat.one_le_pow k 4294967296 (by omega); unfold bp; omega
theorem bp_add (i j:Nat):bp (i+j)=bp i*bp j:=by unfold bp; rw[Nat.pow_add]; simp
theorem bp_mono {i j:Nat} (h:i≤j):bp i≤bp j:=by
 unfold bp; have:=Nat.pow_le_pow_right (show 0<4294967296 by omega) h; omega
theorem lok_nil:lok []:=fun _ h=>by cases h
theorem lok_cons {x:Int} {l:List Int} : lok (x::l)↔(0≤x∧x<4294967296)∧lok l:=by simp[lok]
theorem lok_append {l m:List Int} : lok (l++m)↔lok l∧lok m:=by
 unfold lok; constructor
 · intro h; exact⟨fun x hx=>h x (List.mem_append_left _ hx),fun x hx=>h x (List.mem_append_right _ hx)⟩
 ·
  rintro ⟨h1,h2⟩ x hx
  rcases List.mem_append.1 hx with h | h
  · exact h1 x h
  · exact h2 x h
theorem lok_take {l:List Int} (h:lok l) (k:Nat):lok (l.take k):=fun x hx=>h x (List.mem_of_mem_take hx)
theorem lok_drop {l:List Int} (h:lok l) (k:Nat):lok (l.drop k):=fun x hx=>h x (List.mem_of_mem_drop hx)
theorem lval_nonneg {l:List Int} (h:lok l):0≤lval l:=by
 induction l with
 | nil=>exact Int.le_refl _
 | cons x l ih=>obtain⟨h1,h2⟩:=lok_cons.1 h; have:=ih h2; simp only[lval]; omega
theorem lval_lt {l:List Int} (h:lok l):lval l<bp l.length:=by
 induction l with
 | nil=>exact(by decide:(0:Int)<1)
 | cons x l ih=>obtain⟨h1,h2⟩:=lok_cons.1 h; have:=ih h2; simp only[lval,List.length_cons,bp_succ]; omega
theorem lval_append (l m:List Int):lval (l++m)=lval l+bp l.length*lval m:=by
 induction l with
 | nil=>simp[lval,bp_zero]
 | cons x l ih=>
  simp only[List.cons_append,lval,List.length_cons,bp_succ,ih]
  rw[Int.mul_add,Int.mul_assoc]; omega
theorem lval_snoc (l:List Int) (x:Int):lval (l ++ [x])=lval l+bp l.length*x:=by
 rw[lval_append]; simp[lval]
theorem lval_zeros (k:Nat):lval (List.replicate k 0)=0:=by
 induction k with
 | zero=>rfl
 | succ k ih=>simp[List.replicate_succ,lval,ih]
theorem dig_length (k:Nat) (n:Int):(dig k n).length=k:=by
 induction k generalizing n with
 | zero=>rfl
 | succ k ih=>simp[dig,ih]
theorem dig_ok (k:Nat) (n:Int):lok (dig k n):=by
 induction k generalizing n with
 | zero=>exact lok_nil
 | succ k ih=>rw[dig,lok_cons]; exact⟨by omega,ih _⟩
theorem lval_dig {k:Nat} {n:Int} (h0:0≤n) (h1:n<bp k):lval (dig k n)=n:=by
 induction k generalizing n with
 | zero=>rw[bp_zero]at h1; simp only[dig,lval]; omega
 | succ k ih=>
  rw[bp_succ]at h1
  simp only[dig,lval]
  rw[ih (by omega) (by omega)]; omega
def ltrim:List Int→List Int
 | []=> []
 | x::l=>match ltrim l with
  | []=>if x=0 then []else [x]
  | y::t=>x::y::t
theorem ltrim_cons (x:Int) (l:List Int):ltrim (x::l)=if ltrim l = []then(if x=0 then []else [x])else x::ltrim l:=by
 rw[ltrim]; cases ltrim l<;>simp
theorem lval_ltrim (l:List Int):lval (ltrim l)=lval l:=by
 induction l with
 | nil=>rfl
 | cons x l ih=>
  rw[ltrim_cons]
  split
  · rename_i h; rw[h]at ih; simp only[lval]at ih⊢; split<;>simp[lval]<;>omega
  · simp only[lval,ih]
theorem ltrim_ok {l:List Int} (h:lok l):lok (ltrim l):=by
 induction l with
 | nil=>exact h
 | cons x l ih=>
  obtain⟨h1,h2⟩:=lok_cons.1 h
  rw[ltrim_cons]
  split
  ·
   split
   · exact lok_nil
   · exact lok_cons.2 ⟨h1,lok_nil⟩
  · exact lok_cons.2 ⟨h1,ih h2⟩
theorem ltrim_le (l:List Int):(ltrim l).length≤l.length:=by
 induction l with
 | nil=>exact Nat.le_refl _
 | cons x l ih=>rw[ltrim_cons]; split<;>(try split)<;>simp<;>omega
theorem ltrim_ltrim (l:List Int):ltrim (ltrim l)=ltrim l:=by
 induction l with
 | nil=>rfl
 | cons x l ih=>
  rw[ltrim_cons]
  split
  ·
   rename_i h
   split
   · rfl
   · rename_i hx; rw[ltrim_cons]; simp[ltrim,hx]
  · rename_i h; rw[ltrim_cons,ih,if_neg h]
theorem ltrim_last {l:List Int} (hc:ltrim l=l) (h:l≠ []):l.getLast h≠0:=by
 induction l with
 | nil=>exact absurd rfl h
 | cons x l ih=>
  rw[ltrim_cons]at hc
  split at hc
  ·
   rename_i hl
   split at hc
   · cases hc
   ·
    rename_i hx
    injection hc with _ hc
    subst hc
    simpa using hx
  ·
   rename_i hl
   injection hc with _ hc
   have hne:l≠ []:=fun e=>hl (hc.trans e)
   rw[List.getLast_cons hne]
   exact ih hc hne
theorem ltrim_of_last {l:List Int} (h:l≠ []) (hl:l.getLast h≠0):ltrim l=l:=by
 induction l with
 | nil=>exact absurd rfl h
 | cons x l ih=>
  rw[ltrim_cons]
  by_cases hne:l = []
  · subst hne; rw[List.getLast_singleton]at hl; simp[ltrim,hl]
  ·
   rw[List.getLast_cons hne]at hl
   have:=ih hne hl
   rw[this,if_neg hne]
theorem ltrim_snoc_zero (l:List Int):ltrim (l ++ [0])=ltrim l:=by
 induction l with
 | nil=>simp[ltrim]
 | cons x l ih=>rw[List.cons_append,ltrim_cons,ltrim_cons,ih]
theorem canon_ext {l m:List Int} (h1:lok l) (h2:lok m) (c1:ltrim l=l) (c2:ltrim m=m) (hv:lval l=lval m):l=m:=by
 induction l generalizing m with
 | nil=>
  cases m with
  | nil=>rfl
  | cons y m=>
   exfalso
   obtain⟨g1,g2⟩:=lok_cons.1 h2
   have gm:=lval_nonneg g2
   simp only[lval]at hv
   have hy:y=0:=by omega
   have hm:lval m=0:=by omega
   have key:∀k:List Int,lok k→lval k=0→ltrim k = []:=by
    intro k
    induction k with
    | nil=>intro _ _; rfl
    | cons z k ih=>
     intro hk hz
     obtain⟨q1,q2⟩:=lok_cons.1 hk
     have:=lval_nonneg q2
     simp only[lval]at hz
     rw[ltrim_cons,ih q2 (by omega),if_pos rfl,if_pos (by omega)]
   rw[ltrim_cons,key m g2 hm,if_pos rfl,if_pos hy]at c2
   cases c2
 | cons x l ih=>
  obtain⟨f1,f2⟩:=lok_cons.1 h1
  have gl:=lval_nonneg f2
  cases m with
  | nil=>
   exfalso
   simp only[lval]at hv
   have hx:x=0:=by omega
   have hl:lval l=0:=by omega
   have key:∀k:List Int,lok k→lval k=0→ltrim k = []:=by
    intro k
    induction k with
    | nil=>intro _ _; rfl
    | cons z k ih=>
     intro hk hz
     obtain⟨q1,q2⟩:=lok_cons.1 hk
     have:=lval_nonneg q2
     simp only[lval]at hz
     rw[ltrim_cons,ih q2 (by omega),if_pos rfl,if_pos (by omega)]
   rw[ltrim_cons,key l f2 hl,if_pos rfl,if_pos hx]at c1
   cases c1
  | cons y m=>
   obtain⟨g1,g2⟩:=lok_cons.1 h2
   simp only[lval]at hv
   have hxy:x=y:=by omega
   have hlm:lval l=lval m:=by omega
   have cl:ltrim l=l:=by
    rw[ltrim_cons]at c1
    split at c1
    ·
     rename_i h
     split at c1
     · cases c1
     · injection c1 with _ c1; subst c1; rfl
    · injection c1
   have cm:ltrim m=m:=by
    rw[ltrim_cons]at c2
    split at c2
    ·
     rename_i h
     split at c2
     · cases c2
     · injection c2 with _ c2; subst c2; rfl
    · injection c2
   rw[hxy,ih f2 g2 cl cm hlm]
def limbs (n:Int):List Int:=ltrim (dig n.toNat n)
theorem lt_bp (n:Nat):(n:Int)<bp n:=by
 unfold bp
 have:=Nat.lt_pow_self (show 1<4294967296 by omega) (n:=n)
 omega
theorem limbs_ok (n:Int):lok (limbs n):=ltrim_ok (dig_ok _ _)
theorem lval_limbs {n:Int} (h:0≤n):lval (limbs n)=n:=by
 unfold limbs
 rw[lval_ltrim]
 obtain⟨m,rfl⟩:=Int.eq_ofNat_of_zero_le h
 exact lval_dig h (lt_bp m)
theorem limbs_canon (n:Int):ltrim (limbs n)=limbs n:=ltrim_ltrim _
theorem limbs_lval {l:List Int} (h:lok l):limbs (lval l)=ltrim l:=
 canon_ext (limbs_ok _) (ltrim_ok h) (limbs_canon _) (ltrim_ltrim _) (by rw[lval_limbs (lval_nonneg h),lval_ltrim])
theorem limbs_nil {n:Int} (h:0≤n):limbs n = []↔n=0:=by
 constructor
 · intro e; have:=lval_limbs h; rw[e]at this; exact this.symm
 · rintro rfl; rfl
theorem limbs_length {n:Int} (h:0≤n) (k:Nat):(limbs n).length≤k↔n<bp k:=by
 constructor
 ·
  intro e
  have h1:=lval_lt (limbs_ok n)
  rw[lval_limbs h]at h1
  have:=bp_mono e
  omega
 ·
  intro e
  have h1:limbs n=ltrim (dig k n):=by rw[← limbs_lval (dig_ok k n),lval_dig h e]
  rw[h1]
  have:=ltrim_le (dig k n)
  rw[dig_length]at this
  exact this
theorem canon_len {l m:List Int} (h1:lok l) (h2:lok m) (c2:ltrim m=m) (h:l.length<m.length):lval l<lval m:=by
 have a:=lval_lt h1
 have hm:limbs (lval m)=m:=(limbs_lval h2).trans c2
 have b:=limbs_length (lval_nonneg h2) l.length
 rw[hm]at b
 rcases Int.lt_or_le (lval m) (bp l.length)with c | c
 · have:=b.2 c; omega
 · omega
end Go.Proofs.YtdkcffnmlllamaaGreat
/- Limbs: what one round of each loop on limbs does to the values. -/
namespace Go.Proofs.YtdkcffnmlllamaaGreat
theorem lval_take_succ (l:List Int) (k:Nat):lval (l.take (k+1))=lval (l.take k)+bp k*l.getD k 0:=by
 rcases Nat.lt_or_ge k l.length with h | h
 ·
  rw[List.take_succ_eq_append_getElem h,lval_snoc,List.length_take,Nat.min_eq_left (by omega)]
  simp[List.getD,h]
 ·
  rw[List.take_of_length_le (by omega),List.take_of_length_le h]
  simp[List.getD,h]
theorem lval_drop (l:List Int) (k:Nat):lval (l.drop k)=l.getD k 0+4294967296*lval (l.drop (k+1)):=by
 rcases Nat.lt_or_ge k l.length with h | h
 ·
  rw[List.drop_eq_getElem_cons h]
  simp[lval,List.getD,h]
 ·
  rw[List.drop_of_length_le h,List.drop_of_length_le (by omega)]
  simp[lval,List.getD,h]
theorem lval_split (l:List Int) (k:Nat) (h:k≤l.length):lval l=lval (l.take k)+bp k*lval (l.drop k):=by
 have:=lval_append (l.take k) (l.drop k)
 rw[List.take_append_drop,List.length_take,Nat.min_eq_left h]at this
 exact this
theorem lok_getD {l:List Int} (h:lok l) (k:Nat):0≤l.getD k 0∧l.getD k 0<4294967296:=by
 rcases Nat.lt_or_ge k l.length with g | g
 ·
  simp only[List.getD,List.getElem?_eq_getElem g,Option.getD_some]
  exact h _ (List.getElem_mem g)
 · simp[List.getD,g]
theorem lok_snoc {l:List Int} {x:Int} (h:lok l) (h0:0≤x) (h1:x<4294967296):lok (l ++ [x]):=
 lok_append.2 ⟨h,lok_cons.2 ⟨⟨h0,h1⟩,lok_nil⟩⟩
theorem lok_set {l:List Int} {x:Int} (h:lok l) (i:Nat) (h0:0≤x) (h1:x<4294967296):lok (l.set i x):=by
 intro y hy
 rcases List.mem_or_eq_of_mem_set hy with g | g
 · exact h y g
 · subst g; exact⟨h0,h1⟩
theorem bp_split (k:Nat) (s:Int):bp k*(s%4294967296)+bp (k+1)*(s / 4294967296)=bp k*s:=by
 rw[bp_succ,Int.mul_comm 4294967296 (bp k),Int.mul_assoc,← Int.mul_add]
 congr 1
 omega
theorem plus_step {k:Nat} {A B:List Int} {xs:List Int} {c s:Int} (hl:xs.length=k) (h:lval xs+bp k*c=lval (A.take k)+lval (B.take k)) (hs:s=A.getD k 0+B.getD k 0+c) :
  lval (xs ++ [s%4294967296])+bp (k+1)*(s / 4294967296)=lval (A.take (k+1))+lval (B.take (k+1)):=by
 rw[lval_snoc,hl,lval_take_succ,lval_take_succ]
 have:=bp_split k s
 rw[hs]at this⊢
 rw[Int.mul_add,Int.mul_add]at this
 omega
theorem minus_step {k:Nat} {A B:List Int} {xs:List Int} {c t x c':Int} (hl:xs.length=k) (h:lval xs=lval (A.take k)-lval (B.take k)+bp k*c) (ht:t=A.getD k 0-B.getD k 0-c) (hx:x=t+4294967296*c') :
  lval (xs ++ [x])=lval (A.take (k+1))-lval (B.take (k+1))+bp (k+1)*c':=by
 rw[lval_snoc,hl,lval_take_succ,lval_take_succ,bp_succ,hx,ht]
 rw[Int.mul_add,Int.mul_sub,Int.mul_sub,← Int.mul_assoc,Int.mul_comm (bp k) 4294967296]
 omega
theorem sub_step {k:Nat} {U V:List Int} {xs:List Int} {q c b s t x b':Int} (hl:xs.length=k) (h:lval xs=lval (U.take k)-q*lval (V.take k)+bp k*(c+b))
  (hs:s=c+q*V.getD k 0) (ht:t=U.getD k 0-s%4294967296-b) (hx:x=t+4294967296*b') :
  lval (xs ++ [x])=lval (U.take (k+1))-q*lval (V.take (k+1))+bp (k+1)*(s / 4294967296+b'):=by
 rw[lval_snoc,hl,lval_take_succ,lval_take_succ,h,hx,ht]
 have e:=bp_split k s
 have e2:bp k*s=bp k*c+bp k*(q*V.getD k 0):=by rw[hs,Int.mul_add]
 have e3:q*(lval (V.take k)+bp k*V.getD k 0)=q*lval (V.take k)+bp k*(q*V.getD k 0):=by
  rw[Int.mul_add,← Int.mul_assoc,Int.mul_comm q (bp k),Int.mul_assoc]
 have e4:bp k*(4294967296*b')=bp (k+1)*b':=by rw[bp_succ,← Int.mul_assoc,Int.mul_comm (bp k) 4294967296]
 rw[e3,Int.mul_add (bp (k+1)),Int.mul_add (bp k) c b,Int.mul_add,Int.mul_sub,Int.mul_sub,e4]
 omega
theorem short_step {A q d r x:Int} (h:A=d*q+r):x+4294967296*A=d*((r*4294967296+x) / d+4294967296*q)+(r*4294967296+x)%d:=by
 have:=Int.mul_ediv_add_emod (r*4294967296+x) d
 rw[Int.mul_add,← Int.mul_assoc d 4294967296 q,Int.mul_comm d 4294967296,Int.mul_assoc,h]
 omega
theorem row_step {k:Nat} {O B:List Int} {xs:List Int} {x c s:Int} (hl:xs.length=k) (h:lval xs+bp k*c=lval (O.take k)+x*lval (B.take k)) (hs:s=c+(x*B.getD k 0+O.getD k 0)) :
  lval (xs ++ [s%4294967296])+bp (k+1)*(s / 4294967296)=lval (O.take (k+1))+x*lval (B.take (k+1)):=by
 rw[lval_snoc,hl,lval_take_succ,lval_take_succ]
 have e:=bp_split k s
 have e2:bp k*s=bp k*c+(bp k*(x*B.getD k 0)+bp k*O.getD k 0):=by rw[hs,Int.mul_add,Int.mul_add]
 have e3:x*(lval (B.take k)+bp k*B.getD k 0)=x*lval (B.take k)+bp k*(x*B.getD k 0):=by
  rw[Int.mul_add,← Int.mul_assoc,Int.mul_comm x (bp k),Int.mul_assoc]
 rw[e3]
 omega
theorem guess_top {n:Nat} {U V u v:Int} {q:Int} (hU:U<(u+1)*bp n) (hV:v*bp n≤V) (h0:0≤q) (h:q*V≤U):q*v≤u:=by
 have h1:q*(v*bp n)≤q*V:=Int.mul_le_mul_of_nonneg_left hV h0
 have h2:(q*v)*bp n<(u+1)*bp n:=by rw[Int.mul_assoc]; omega
 have:=Int.lt_of_mul_lt_mul_right h2 (by have:=bp_pos n; omega)
 omega
theorem quot_of {A D q r:Int} (h:A=D*q+r) (h0:0≤r) (h1:r<D):A / D=q∧A%D=r:=by
 subst h
 constructor
 · rw[Int.add_comm,Int.add_mul_ediv_left _ _ (by omega),Int.ediv_eq_zero_of_lt h0 h1]; omega
 · rw[Int.add_comm,Int.add_mul_emod_self_left,Int.emod_eq_of_lt h0 h1]
theorem cmp_at {A B:List Int} (ha:lok A) (hb:lok B) {i:Nat} (hA:i<A.length) (hB:i<B.length) (hd:lval (A.drop (i+1))=lval (B.drop (i+1))) (h:A.getD i 0<B.getD i 0):lval A<lval B:=by
 rw[lval_split A i (by omega),lval_split B i (by omega),lval_drop A i,lval_drop B i,hd]
 have h1:=lval_lt (lok_take ha i)
 rw[List.length_take,Nat.min_eq_left (by omega)]at h1
 have h2:=lval_nonneg (lok_take hb i)
 have h3:bp i*(A.getD i 0+4294967296*lval (B.drop (i+1))+1)≤bp i*(B.getD i 0+4294967296*lval (B.drop (i+1))):=
  Int.mul_le_mul_of_nonneg_left (by omega) (by have:=bp_pos i; omega)
 rw[Int.mul_add (bp i) (A.getD i 0+_) 1]at h3
 omega
theorem limbs_len_lt {x y:Int} (hx:0≤x) (hy:0≤y) (h:(limbs x).length<(limbs y).length):x<y:=by
 have:=canon_len (limbs_ok x) (limbs_ok y) (limbs_canon y) h
 rwa[lval_limbs hx,lval_limbs hy]at this
end Go.Proofs.YtdkcffnmlllamaaGreat
/- Knuth's division: one digit. -/
namespace Go.Proofs.YtdkcffnmlllamaaGreat
theorem drop_top {l:List Int} {m:Nat} (h:l.length=m+1):lval (l.drop m)=l.getD m 0:=by
 rw[lval_drop,List.drop_of_length_le (by omega)]; simp[lval]
theorem digit_math {m:Nat} {U V:List Int} (okU:lok U) (okV:lok V) (hU:U.length=m+3) (hV:V.length=m+2) (htop:1≤V.getD (m+1) 0) (hlt:lval U<lval V*4294967296) :
  0≤lval U / lval V∧lval U / lval V<4294967296∧lval U / lval V*V.getD (m+1) 0≤U.getD (m+2) 0*4294967296+U.getD (m+1) 0∧
  lval U / lval V*(V.getD (m+1) 0*4294967296+V.getD m 0)≤(U.getD (m+2) 0*4294967296+U.getD (m+1) 0)*4294967296+U.getD m 0∧
  lval U / lval V*lval V≤lval U∧lval U-lval U / lval V*lval V<lval V∧0<lval V:=by
 have dU2:=drop_top (l:=U) (m:=m+2) hU
 have dU1:=lval_drop U (m+1)
 have dU0:=lval_drop U m
 have dV1:=drop_top (l:=V) (m:=m+1) hV
 have dV0:=lval_drop V m
 rw[dU2]at dU1
 rw[dU1]at dU0
 rw[dV1]at dV0
 have sU1:=lval_split U (m+1) (by omega)
 have sU0:=lval_split U m (by omega)
 have sV1:=lval_split V (m+1) (by omega)
 have sV0:=lval_split V m (by omega)
 have tU1:=lval_lt (lok_take okU (m+1))
 have tU0:=lval_lt (lok_take okU m)
 have tV1:=lval_nonneg (lok_take okV (m+1))
 have tV0:=lval_nonneg (lok_take okV m)
 rw[List.length_take,Nat.min_eq_left (by omega)]at tU1 tU0
 have hVp:0<lval V:=by
  have h1:bp (m+1)*1≤bp (m+1)*V.getD (m+1) 0:=Int.mul_le_mul_of_nonneg_left htop (by have:=bp_pos (m+1); omega)
  have:=bp_pos (m+1)
  rw[dV1]at sV1
  omega
 have hU0:=lval_nonneg okU
 have q0:0≤lval U / lval V:=Int.ediv_nonneg hU0 (by omega)
 have q1:lval U / lval V<4294967296:=Int.ediv_lt_of_lt_mul hVp (by rw[Int.mul_comm]; exact hlt)
 have e:=Int.mul_ediv_add_emod (lval U) (lval V)
 have m0:=Int.emod_nonneg (lval U) (show lval V≠0 by omega)
 have m1:=Int.emod_lt_of_pos (lval U) hVp
 rw[Int.mul_comm]at e
 have le:lval U / lval V*lval V≤lval U:=by omega
 refine⟨q0,q1,?_,?_,le,by omega,hVp⟩
 ·
  refine guess_top (n:=m+1) ?_ ?_ q0 le
  ·
   rw[Int.add_mul,Int.one_mul,Int.mul_comm]
   rw[dU1]at sU1
   rw[show U.getD (m+2) 0*4294967296+U.getD (m+1) 0=U.getD (m+1) 0+4294967296*U.getD (m+2) 0 by omega]
   omega
  ·
   rw[Int.mul_comm]
   rw[dV1]at sV1
   omega
 ·
  refine guess_top (n:=m) ?_ ?_ q0 le
  ·
   rw[Int.add_mul,Int.one_mul,Int.mul_comm]
   rw[dU0]at sU0
   rw[show (U.getD (m+2) 0*4294967296+U.getD (m+1) 0)*4294967296+U.getD m 0=U.getD m 0+4294967296*(U.getD (m+1) 0+4294967296*U.getD (m+2) 0) by omega]
   omega
  ·
   rw[Int.mul_comm]
   rw[dV0]at sV0
   rw[show V.getD (m+1) 0*4294967296+V.getD m 0=V.getD m 0+4294967296*V.getD (m+1) 0 by omega]
   omega
theorem guess_down {Q q r v1 v2 t u:Int} (h:q*v1+r=t) (hQ:Q*(v1*4294967296+v2)≤t*4294967296+u) (hv:0≤v1*4294967296+v2) (hq:r*4294967296+u<q*v2):Q<q:=by
 rcases Int.lt_or_le Q q with g | g
 · exact g
 ·
  have h1:=Int.mul_le_mul_of_nonneg_right g hv
  rw[Int.mul_add,Int.mul_add]at h1
  have h2:q*(v1*4294967296)=q*v1*4294967296:=by rw[Int.mul_assoc]
  rw[Int.mul_add]at hQ
  omega
theorem guess_le {Q q r v1 t:Int} (h:q*v1+r=t) (hr:r<v1) (hQ:Q*v1≤t) (hv:0<v1):Q≤q:=by
 rcases Int.lt_or_le q Q with g | g
 ·
  have h1:=Int.mul_le_mul_of_nonneg_right (show q+1≤Q by omega) (show 0≤v1 by omega)
  rw[Int.add_mul]at h1
  omega
 · exact g
end Go.Proofs.YtdkcffnmlllamaaGreat
/- A division of limbs: what is ahead of the digits, one digit, and what is behind them. -/
namespace Go.Proofs.YtdkcffnmlllamaaGreat
theorem take_all {l:List Int} {n:Nat} (hl:lok l) (hn:n≤l.length) (h:lval l<bp n):lval (l.take n)=lval l∧lval (l.drop n)=0:=by
 have s:=lval_split l n hn
 have a:=lval_nonneg (lok_take hl n)
 have b:=lval_nonneg (lok_drop hl n)
 have p:=bp_pos n
 have z:lval (l.drop n)=0:=by
  rcases Int.lt_or_le 0 (lval (l.drop n))with g | g
  ·
   have:=Int.mul_le_mul_of_nonneg_left (show 1≤lval (l.drop n) by omega) (show 0≤bp n by omega)
   omega
  · omega
 rw[z,Int.mul_zero]at s
 exact⟨by omega,z⟩
theorem norm_top {m:Nat} {Dl L:List Int} {P Q:Int} (oD:lok Dl) (lD:Dl.length=m+2) (oL:lok L) (lL:L.length=m+3) (hL:lval L=lval Dl*P) (P0:1≤P) (hPQ:P*Q=4294967296)
  (h0:2147483648≤Dl.getD (m+1) 0*P) (h1:Dl.getD (m+1) 0*P<4294967296) :
  lval (L.take (m+2))=lval Dl*P∧2147483648≤(L.take (m+2)).getD (m+1) 0∧2147483648*bp (m+1)≤lval Dl*P:=by
 have d0:=lval_split Dl (m+1) (by omega)
 rw[drop_top lD]at d0
 have d1:=lval_lt (lok_take oD (m+1))
 have d2:=lval_nonneg (lok_take oD (m+1))
 rw[List.length_take,Nat.min_eq_left (by omega)]at d1
 obtain⟨t,ht⟩:∃t,Dl.getD (m+1) 0=t:=⟨_,rfl⟩
 rw[ht]at d0 h0 h1
 have p:=bp_pos (m+1)
 have tQ:t+1≤Q:=by
  have:t*P<Q*P:=by rw[Int.mul_comm Q P,hPQ]; exact h1
  have:=Int.lt_of_mul_lt_mul_right this (by omega)
  omega
 have tP:(t+1)*P≤4294967296:=by
  have:=Int.mul_le_mul_of_nonneg_right tQ (show 0≤P by omega)
  rw[Int.mul_comm Q P,hPQ]at this
  exact this
 have up:lval Dl*P<bp (m+2):=by
  have e1:lval Dl*P≤(bp (m+1)*(t+1)-1)*P:=by
   refine Int.mul_le_mul_of_nonneg_right ?_ (by omega)
   rw[Int.mul_add,Int.mul_one]
   omega
  have e2:bp (m+1)*((t+1)*P)≤bp (m+1)*4294967296:=Int.mul_le_mul_of_nonneg_left tP (by omega)
  rw[Int.sub_mul,Int.mul_assoc,Int.one_mul]at e1
  rw[bp_succ (m+1)]
  omega
 have lo:2147483648*bp (m+1)≤lval Dl*P:=by
  have e1:bp (m+1)*t*P≤lval Dl*P:=Int.mul_le_mul_of_nonneg_right (by omega) (by omega)
  have e2:bp (m+1)*2147483648≤bp (m+1)*(t*P):=Int.mul_le_mul_of_nonneg_left h0 (by omega)
  rw[← Int.mul_assoc]at e2
  omega
 have T:=(take_all oL (n:=m+2) (by omega) (by rw[hL]; exact up)).1
 rw[hL]at T
 refine⟨T,?_,lo⟩
 have lT:(L.take (m+2)).length=m+2:=by rw[List.length_take]; omega
 have g0:=lval_split (L.take (m+2)) (m+1) (by omega)
 rw[drop_top lT]at g0
 have g1:=lval_lt (lok_take (lok_take oL (m+2)) (m+1))
 rw[List.length_take,lT,Nat.min_eq_left (by omega)]at g1
 rcases Int.lt_or_le ((L.take (m+2)).getD (m+1) 0) 2147483648 with g | g
 ·
  exfalso
  have:=Int.mul_le_mul_of_nonneg_left (show (L.take (m+2)).getD (m+1) 0≤2147483647 by omega) (show 0≤bp (m+1) by omega)
  omega
 · exact g
theorem over_start {m K la:Nat} {U:List Int} {A P V:Int} (oU:lok U) (lU:U.length=K+(m+2)) (hla:la+1=K+(m+2)) (hU:lval U=A*P) (hA:A<bp la) (A0:0≤A) (P0:1≤P) (P1:P≤2147483648) (hV:2147483648*bp (m+1)≤V) :
  lval (U.drop K)<V:=by
 have s:=lval_split U K (by omega)
 have a:=lval_nonneg (lok_take oU K)
 have e1:A*P≤A*2147483648:=Int.mul_le_mul_of_nonneg_left P1 A0
 have e2:bp la=bp K*bp (m+1):=by rw[← bp_add]; congr 1; omega
 have p:=bp_pos K
 have e3:bp K*(2147483648*bp (m+1))≤bp K*V:=Int.mul_le_mul_of_nonneg_left hV (by omega)
 have e4:bp K*(2147483648*bp (m+1))=bp K*bp (m+1)*2147483648:=by rw[Int.mul_comm 2147483648,Int.mul_assoc]
 have e5:bp K*lval (U.drop K)<bp K*V:=by omega
 exact Int.lt_of_mul_lt_mul_left e5 (by omega)
theorem over_step {m j:Nat} {U:List Int} {V:Int} (oU:lok U) (hj:j+(m+3)≤U.length) (hV:V<bp (m+2)) (hd:lval (U.drop (j+1))<V) :
  lval ((U.drop j).take (m+3))<V*4294967296∧lval ((U.drop j).take (m+3))=lval (U.drop j)∧lval (U.drop (j+(m+3)))=0:=by
 have d0:=lval_drop U j
 have u0:=lok_getD oU j
 have h1:lval (U.drop j)<V*4294967296:=by omega
 have h2:lval (U.drop j)<bp (m+3):=by rw[bp_succ (m+2)]; omega
 have T:=take_all (lok_drop oU j) (n:=m+3) (by rw[List.length_drop]; omega) h2
 rw[List.drop_drop]at T
 exact⟨by rw[T.1]; exact h1,T.1,T.2⟩
theorem over_next {m j:Nat} {U S qs:List Int} {V A q:Int} (lS:S.length=m+3) (hj:j+(m+3)≤U.length) (hz:lval (U.drop (j+(m+3)))=0) (hU:lval U+V*(bp (j+1)*lval qs)=A)
  (hS:lval S=lval (U.drop j)-q*V) (hlt:lval S<V) :
  lval (U.take j++(S++U.drop (j+(m+3))))+V*(bp j*lval (q::qs))=A∧lval ((U.take j++(S++U.drop (j+(m+3)))).drop j)<V:=by
 have lT:(U.take j).length=j:=by rw[List.length_take]; omega
 have s:=lval_split U j (by omega)
 constructor
 ·
  rw[lval_append,lval_append,hz,lT,hS,Int.mul_zero,Int.add_zero]
  simp only[lval]
  rw[Int.mul_sub,Int.mul_add,Int.mul_add]
  have e1:bp j*(q*V)=V*(bp j*q):=by rw[Int.mul_comm q V,← Int.mul_assoc,Int.mul_comm (bp j) V,Int.mul_assoc]
  have e2:V*(bp j*(4294967296*lval qs))=V*(bp (j+1)*lval qs):=by rw[bp_succ,← Int.mul_assoc (bp j),Int.mul_comm (bp j) 4294967296]
  omega
 ·
  rw[List.drop_left' lT,lval_append,hz,Int.mul_zero,Int.add_zero]
  exact hlt
theorem dig_snoc (k:Nat) (n:Int):dig (k+1) n=dig k n ++ [n / bp k%4294967296]:=by
 induction k generalizing n with
 | zero=>simp[dig,bp_zero]
 | succ k ih=>
  rw[dig,ih,dig,List.cons_append]
  congr 3
  rw[bp_succ,Int.ediv_ediv_of_nonneg (by omega)]
theorem back_limb {R:List Int} {k:Nat} {P Q:Int} (oR:lok R) (hk:k<R.length) (P0:1≤P) (hPQ:P*Q=4294967296) :
  (R.getD k 0+R.getD (k+1) 0*4294967296) / P%4294967296=lval R / P / bp k%4294967296:=by
 have p:=bp_pos k
 have s:=lval_split R k (by omega)
 have a:=lval_nonneg (lok_take oR k)
 have b:=lval_lt (lok_take oR k)
 rw[List.length_take,Nat.min_eq_left (by omega)]at b
 have e1:lval R / P / bp k=lval R / bp k / P:=by
  rw[Int.ediv_ediv_of_nonneg (by omega),Int.ediv_ediv_of_nonneg (by omega),Int.mul_comm]
 have e2:lval R / bp k=lval (R.drop k):=by
  rw[s,Int.add_mul_ediv_left _ _ (by omega),Int.ediv_eq_zero_of_lt a b,Int.zero_add]
 have e3:=lval_drop R k
 have e4:=lval_drop R (k+1)
 rw[e1,e2,e3,e4]
 obtain⟨T,hT⟩:∃T,lval (R.drop (k+1+1))=T:=⟨_,rfl⟩
 rw[hT]
 have e5:R.getD k 0+4294967296*(R.getD (k+1) 0+4294967296*T)=(R.getD k 0+R.getD (k+1) 0*4294967296)+P*(Q*(4294967296*T)):=by
  rw[← Int.mul_assoc P Q,hPQ]; omega
 rw[e5,Int.add_mul_ediv_left _ _ (by omega),Int.mul_comm Q,Int.mul_assoc,Int.add_mul_emod_self_left]
end Go.Proofs.YtdkcffnmlllamaaGreat
