import Derived.Test.YtdkcffnmlllamaaGreatMReg
import Derived.RangeFuncNested
import Derived.OrdersIn
import Derived.TacticsIn
/- A region that draws its order in a round of a range over a function: by XReg's chain. -/
set_option linter.unusedVariables false
set_option linter.unusedSimpArgs false
namespace Go.Proofs.YtdkcffnmlllamaaGreat
open Go.RowKit
def strict (Q : Exit → Act → World → Prop) : Exit → Act → World → Prop
 | .outgrown, _, _ => False
 | e, a, w => Q e a w
theorem strict_out (Q : Exit → Act → World → Prop) : ¬ LetsOut (strict Q) := fun ⟨_, _, h⟩ => h
theorem oper_round {P : Program} {o : Oper} {a : Act} {w : World} {K K' : Act → World → Prop} {Q : Exit → Act → World → Prop} {l n : Nat} (hd : ∀ c, o.op ≠ .defer c) (h : o.wp P a w K (strict Q))
  (hK : ∀ a w, K a w → K' a w) : o.wpIn (Fence.wide.inRound l) n P a w K' Q := by
 refine ⟨fun _ _ => trivial, ?_⟩
 rw [Fence.inRound_round, Oper.semAt_some l _ o hd]
 unfold Oper.wp at h
 generalize (execOp a.eval o).run P w = r at h
 cases r with
 | ok nx w' =>
  cases nx with
  | value v => exact hK _ _ h
  | skip => exact hK _ _ h
  | defer d => exact hK _ _ h
  | enter f args =>
   refine ⟨fun h => (by cases h), CallsIn.inRound l (callsIn_wide.2 (Calls.mono h ?_))⟩
   intro e w'' hh
   cases e with
   | returned v => exact hK _ _ hh
   | panicked c => exact hh
   | outgrown => exact (strict_out Q hh).elim
  | row r args =>
   refine ⟨fun h => (by cases h), fun c cs _ => ?_⟩
   obtain ⟨v, w', r, s⟩ := h c cs
   exact ⟨v, w', hK _ _ r, stepsIn_wide.2 s⟩
  | _ => exact h.elim
 | halt x w' =>
  cases x with
  | panic v => exact h
  | _ => exact h.elim
def noDefer (ops : Array Oper) : Bool := ops.toList.all fun o => match o.op with | .defer _ => false | _ => true
theorem noDefer_spec {ops : Array Oper} (h : noDefer ops = true) {i : Nat} {o : Oper} (ho : ops[i]? = some o) : ∀ c, o.op ≠ .defer c := by
 intro c e
 have hm : o ∈ ops.toList := by rw [Array.mem_toList_iff]; exact Array.mem_of_getElem? ho
 have := List.all_eq_true.1 h o hm
 rw [e] at this
 cases this
theorem op_round {P : Program} {ops : Array Oper} {Q : Exit → Act → World → Prop} {l n i : Nat} {K K' : Act → World → Prop} {a : Act} {w : World} (hd : noDefer ops = true) (hK : ∀ a w, K a w → K' a w)
  (h : wpOp P ops (strict Q) i K a w) : wpOpIn (Fence.wide.inRound l) n P ops Q i K' a w := by
 unfold wpOp at h
 unfold wpOpIn
 cases ho : ops[i]? with
 | none => rw [ho] at h; exact hK _ _ h
 | some o =>
  rw [ho] at h
  dsimp only at h ⊢
  by_cases hw : Region.wanted o (yielded ops a.tmps) = true
  ·
   rw [if_pos hw] at h ⊢
   rcases h with h | ⟨_, h⟩
   · exact oper_round (noDefer_spec hd ho) h hK
   · exact (strict_out Q h).elim
  ·
   rw [if_neg hw] at h ⊢
   exact ⟨fun _ _ => trivial, hK _ _ h⟩
theorem any_round {P : Program} {ops : Array Oper} {Q : Exit → Act → World → Prop} {l n : Nat} {md : Region.Mode} (hd : noDefer ops = true) : ∀ (fuel : Nat) (listed : Array Bool) (a : Act) (w : World),
  wpAny P md ops (strict Q) fuel listed a w → wpAnyIn (Fence.wide.inRound l) n P md ops Q fuel listed a w := by
 intro fuel
 induction fuel with
 | zero => intro listed a w h; exact ⟨h.1, h.2⟩
 | succ fuel ih => intro listed a w h; exact ⟨fun hr => h.1 hr, fun i hi => op_round hd (fun a w => ih _ a w) (h.2 i hi)⟩
section
open Reg
variable {P : Program} {ops : Array Oper} {Q : Exit → Act → World → Prop}
theorem wpIn_chain {l n id : Nat} {base : Act} {w : World} (J : (Nat → Bool) → (Nat → Value) → World → Prop) (isC : Nat → Bool) (V : Nat → Value → Prop) (G : Nat → Value → World → Prop) (Sx : Nat → World → World → Prop) (Pan : List PanicEntry → World → Prop) (pre : Nat → List (Nat × Option Tmp)) (post : Nat → List Nat)
  (hd : noDefer ops = true) (hm : P.follows .mixedOrders = true) (ht : tidy ops base.tmps.size = true) (hsub : subs ops isC pre post = true)
  (hV : ∀ k, ∃ x, V k x) (hJ0 : ∀ v, J (fun _ => false) v w.drew) (hJv : ∀ D v v' W, (∀ j, D j = true → v j = v' j) → J D v W → J D v' W)
  (hG : ∀ D v k j W W' x, j ≠ k → isC j = true → isC k = true → J D v W → Sx k W W' → G j x W → G j x W')
  (hP : ∀ a W c, a.defers = base.defers → Pan c W → Q (.panic c) a W)
  (h : ∀ ops' Q', ops' = ops → (∀ a W, Q .normal a W → Q' .normal a W) → RC P ops' Q' J isC V G Sx Pan pre post 0 ops.toList base) : (Code.region id ops true).wpIn (Fence.wide.inRound l) n P Q base w := by
 have hc := h ops (strict Q) rfl (fun _ _ h => h)
 refine wpIn_region_any hm (any_round hd _ _ _ _ ?_)
 exact wpAny_inv (Inv P ops J isC V G pre post base) (chain_step (Q := strict Q) ht hsub hV hJv hG (fun a W c h1 h2 => hP a W c h1 h2) hc) (chain_done (Q := strict Q) ht hsub hV hJv hG (fun a W c h1 h2 => hP a W c h1 h2) hc) _ _ _ _ (chain_start hJ0) (by
  unfold unlisted
  have := List.length_filter_le (fun i => !(Array.replicate ops.size false).getD i true) (List.range ops.size)
  rwa [List.length_range] at this)
end
end Go.Proofs.YtdkcffnmlllamaaGreat
/- The chain of XReg where an operation of the region calls 'yield': for an iterator's own text. -/
namespace Go.Proofs.YtdkcffnmlllamaaGreat
open Go.RowKit
def DoesY (P : Program) (o : Oper) (ρ : Operand → Value) (W : World) (Pan : List PanicEntry → World → Prop) (N : Value → World → Prop) : Prop :=
 match (execOp ρ o).run P W with
 | .ok (.value v) W' => N v W'
 | .ok .skip W' => N undef W'
 | .ok (.enter f args) W' => Calls P f args W' fun
   | .returned v, W'' => N v W''
   | .panicked c, W'' => Pan c W''
   | .outgrown, _ => False
 | .ok (.row row args) W' => Rows P row args W' N
 | .ok (.round l f tmps assign body) W' => RoundIn Fence.wide 0 P l f tmps assign body W' fun
   | .returned v, W'' => N v W''
   | .panicked c, W'' => Pan c W''
   | .outgrown, _ => False
 | .halt (.panic v) W' => Pan [{ v, recovered := false }] W'
 | _ => False
namespace RegY
open Reg
section
variable (P : Program) (ops : Array Oper) (Q : Exit → Act → World → Prop) (J : (Nat → Bool) → (Nat → Value) → World → Prop) (isC : Nat → Bool) (V : Nat → Value → Prop) (G : Nat → Value → World → Prop) (Sx : Nat → World → World → Prop) (Pan : List PanicEntry → World → Prop) (pre : Nat → List (Nat × Option Tmp)) (post : Nat → List Nat)
def CallOk (k : Nat) (o : Oper) (a : Act) (D : Nat → Bool) (v : Nat → Value) (W : World) : Prop :=
 if Region.wanted o (yielded ops a.tmps) = true then DoesY P o a.eval W Pan (fun x W' => Sx k W W' ∧ J (upd D k) (updv v k (dv o x)) W' ∧ G k (dv o x) W' ∧ V k (dv o x)) else J (upd D k) (updv v k undef) W ∧ G k undef W ∧ V k undef
def RC : Nat → List Oper → Act → Prop
 | k, [], a => ∀ D v W, (∀ j, j < k → D j = isC j) → J D v W → Facts isC G pre k a D v W → Q .normal a W
 | k, o :: rest, a =>
  if isC k = true then (∀ D v W, Cond post k D → J D v W → Facts isC G pre k a D v W → CallOk P ops J V G Sx Pan k o a D v W) ∧ ∀ x, V k x → RC (k + 1) rest (a.put o.dst x)
  else ∃ x, (∀ D v W, Cond post k D → J D v W → Facts isC G pre k a D v W → PureOk P ops o a x W) ∧ RC (k + 1) rest (a.put o.dst x)
end
section
variable {P : Program} {ops : Array Oper} {Q : Exit → Act → World → Prop} {J : (Nat → Bool) → (Nat → Value) → World → Prop} {isC : Nat → Bool} {V : Nat → Value → Prop} {G : Nat → Value → World → Prop} {Sx : Nat → World → World → Prop} {Pan : List PanicEntry → World → Prop} {pre : Nat → List (Nat × Option Tmp)} {post : Nat → List Nat}
end
end RegY
end Go.Proofs.YtdkcffnmlllamaaGreat
