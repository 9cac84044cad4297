import Derived.RowKit
import Derived.Orders
set_option linter.unusedVariables false
set_option linter.unusedSimpArgs false
namespace Go.Proofs.YtdkcffnmlllamaaGreat
open Go.RowKit
section
variable {P:Program} {ops:Array Oper} {Q:Exit→Act→World→Prop} {md:Region.Mode}
def unlisted (ops:Array Oper) (listed:Array Bool):Nat:=((List.range ops.size).filter fun i=> !listed.getD i true).length
theorem ready_sub {listed:Array Bool} {i:Nat} (h:i∈Region.ready md ops listed):i<ops.size∧listed.getD i true=false:=by
 unfold Region.ready at h
 simp only[List.mem_filter,List.mem_range,Bool.and_eq_true,Bool.not_eq_true']at h
 exact⟨h.1,h.2.1⟩
theorem unlisted_set {listed:Array Bool} {i:Nat} (hi:i<ops.size) (h:listed.getD i true=false) :
  unlisted ops (listed.setIfInBounds i true)+1≤unlisted ops listed:=by
 have hsz:i<listed.size:=by
  rcases Nat.lt_or_ge i listed.size with g | g
  · exact g
  · simp[Array.getD,Nat.not_lt.2 g]at h
 unfold unlisted
 have key:∀l:List Nat,l.Nodup→i∈l→((l.filter fun j=> !(listed.setIfInBounds i true).getD j true).length+1≤(l.filter fun j=> !listed.getD j true).length):=by
  intro l
  induction l with
  | nil=>intro _ hm; cases hm
  | cons x l ih=>
   intro hn hm
   rw[List.nodup_cons]at hn
   have same:∀j,j≠i→(listed.setIfInBounds i true).getD j true=listed.getD j true:=fun j hj=>by
    simp[Array.getD_eq_getD_getElem?,Array.getElem?_setIfInBounds_ne (Ne.symm hj)]
   by_cases hx:x=i
   ·
    subst hx
    have e1:(listed.setIfInBounds x true).getD x true=true:=by simp[Array.getD_eq_getD_getElem?,hsz]
    have e2:(l.filter fun j=> !(listed.setIfInBounds x true).getD j true)=l.filter fun j=> !listed.getD j true:=
     List.filter_congr fun j hj=>by rw[same j (fun e=>hn.1 (e▸hj))]
    simp only[List.filter_cons,e1,h,e2]
    simp
   ·
    have hm':i∈l:=by
     cases hm with
     | head=>exact absurd rfl hx
     | tail _ hm=>exact hm
    have:=ih hn.2 hm'
    simp only[List.filter_cons,same x hx]
    split
    · simp only[List.length_cons]; omega
    · exact this
 exact key _ List.nodup_range (List.mem_range.2 hi)
theorem ready_nil_of {listed:Array Bool} (h:unlisted ops listed=0):Region.ready md ops listed = []:=by
 apply List.eq_nil_iff_forall_not_mem.2
 intro i hi
 obtain⟨h1,h2⟩:=ready_sub hi
 have:i∈(List.range ops.size).filter fun i=> !listed.getD i true:=by
  rw[List.mem_filter]
  exact⟨List.mem_range.2 h1,by rw[h2]; rfl⟩
 unfold unlisted at h
 rw[List.length_eq_zero_iff.1 h]at this
 cases this
theorem wpAny_inv (I:Array Bool→Act→World→Prop)
  (step:∀listed a w i,I listed a w→i∈Region.ready md ops listed→wpOp P ops Q i (fun a' w'=>I (listed.setIfInBounds i true) a' w') a w)
  (done:∀listed a w,I listed a w→Region.ready md ops listed = []→Q .normal a w) :
  ∀fuel listed a w,I listed a w→unlisted ops listed≤fuel→wpAny P md ops Q fuel listed a w:=by
 intro fuel
 induction fuel with
 | zero=>
  intro listed a w hI hf
  have hr:=ready_nil_of (md:=md) (Nat.le_zero.1 hf)
  exact⟨hr,done _ _ _ hI hr⟩
 | succ fuel ih=>
  intro listed a w hI hf
  refine⟨fun hr=>done _ _ _ hI hr,fun i hi=>wpOp_mono (fun a' w' h=>ih _ a' w' h ?_) (step _ _ _ i hI hi)⟩
  obtain⟨h1,h2⟩:=ready_sub hi
  have:=unlisted_set (ops:=ops) h1 h2
  omega
theorem wp_region_inv {id:Nat} {a:Act} {w:World} (hm:P.follows .mixedOrders=true) (I:Array Bool→Act→World→Prop)
  (start:I (Array.replicate ops.size false) a w.drew)
  (step:∀listed a w i,I listed a w→i∈Region.ready .any ops listed→wpOp P ops Q i (fun a' w'=>I (listed.setIfInBounds i true) a' w') a w)
  (done:∀listed a w,I listed a w→Region.ready .any ops listed = []→Q .normal a w):(Code.region id ops true).wp P Q a w:=
 wp_region_any hm (wpAny_inv I step done _ _ _ _ start (by
  unfold unlisted
  have:=List.length_filter_le (fun i=> !(Array.replicate ops.size false).getD i true) (List.range ops.size)
  rwa[List.length_range]at this))
end
end Go.Proofs.YtdkcffnmlllamaaGreat
