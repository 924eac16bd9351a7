/-
  The law of XRegL for a region in a round of a range over a function, at the wide fence: what holds of a drawn region's operations everywhere holds of them there. Any program.
-/
import Derived.Test.YtdkfaphclhaiaaaRegL
import Derived.OrdersIn
import Derived.TacticsIn
import Derived.RangeFuncCalls
namespace Go.Proofs.Ytdkfaphclhaiaaa
open Go.RowKit
set_option linter.unusedSimpArgs false
set_option linter.unusedVariables false

section
variable {P : Program} {ops : Array Oper} {Q : Exit → Act → World → Prop} {md : Region.Mode} {l n : Nat}
/-- The normal way out alone. -/
def onlyNormal (Q : Exit → Act → World → Prop) : Exit → Act → World → Prop
  | .normal, a, w => Q .normal a w
  | _, _, _ => False
theorem onlyNormal_out : ¬ LetsOut (onlyNormal Q) := fun ⟨_, _, h⟩ => h
theorem wpIn_of_wp {o : Oper} {a : Act} {w : World} {K : Act → World → Prop} (hd : ∀ c, o.op ≠ .defer c) (h : o.wp P a w K (onlyNormal Q)) : o.wpIn (Fence.wide.inRound l) n P a w K Q := by
  unfold Oper.wpIn
  refine ⟨fun _ _ => trivial, ?_⟩
  rw [show (Fence.wide.inRound l).round = some l from rfl, Oper.semAt_some l _ _ hd]
  have hdep : (Fence.wide.inRound l).depth.isSome = true → 1 ≤ n := fun e => by cases e
  unfold Oper.wp at h
  generalize (execOp a.eval o).run P w = r at h ⊢
  cases r with
  | ok x w' =>
    cases x with
    | value v => exact h
    | skip => exact h
    | defer d => exact h
    | enter f args =>
      refine ⟨hdep, CallsIn.inRound l (CallsIn.mono (callsIn_wide.2 h) (fun e w'' he => ?_))⟩
      cases e with
      | returned v => exact he
      | panicked c => exact he.elim
      | outgrown => exact absurd he onlyNormal_out
    | row row args => exact ⟨hdep, fun c cs _ => let ⟨v, w2, r, s⟩ := h c cs; ⟨v, w2, r, stepsIn_wide.2 s⟩⟩
    | _ => exact h.elim
  | halt x w' => cases x <;> first | exact h.elim | exact h
/-- None of the operations is a defer statement. -/
def noDefer (ops : Array Oper) : Bool := ops.all fun o => match o.op with | .defer _ => false | _ => true
theorem noDefer_at (h : noDefer ops = true) {i : Nat} {o : Oper} (ho : ops[i]? = some o) : ∀ c, o.op ≠ .defer c := by
  intro c hc
  unfold noDefer at h
  rw [Array.all_eq_true] at h
  obtain ⟨hi, rfl⟩ := Array.getElem?_eq_some_iff.1 ho
  have := h i hi
  rw [hc] at this
  cases this
theorem wpOpIn_of {i : Nat} {a : Act} {w : World} {K : Act → World → Prop} (hn : noDefer ops = true) (h : wpOp P ops (onlyNormal Q) i K a w) : wpOpIn (Fence.wide.inRound l) n P ops Q i K a w := by
  unfold wpOp at h
  unfold wpOpIn
  cases ho : ops[i]? with
  | none => rw [ho] at h; exact h
  | some o =>
    rw [ho] at h
    simp only at h ⊢
    split at h
    · rename_i hw
      rw [if_pos hw]
      exact wpIn_of_wp (noDefer_at hn ho) (h.resolve_right (fun e => onlyNormal_out e.2))
    · rename_i hw
      rw [if_neg hw]
      exact ⟨fun _ _ => trivial, h⟩
theorem wpAnyIn_of (hn : noDefer ops = true) : ∀ (f : Nat) (lst : Array Bool) (a : Act) (w : World), wpAny P md ops (onlyNormal Q) f lst a w → wpAnyIn (Fence.wide.inRound l) n P md ops Q f lst a w
  | 0, _, _, _, h => h
  | f + 1, lst, a, w, h => ⟨h.1, fun i hi => wpOpIn_of hn (wpOp_mono (fun b u hb => wpAnyIn_of hn f _ b u hb) (h.2 i hi))⟩
/-- The beginning. -/
theorem wpIn_region_L {id : Nat} {a : Act} {w : World} (S : World → Prop) (W : List Nat) (hm : P.follows .mixedOrders = true) (hn : noDefer ops = true) (hS : S w.drew)
    (h : S w.drew → restL P .any ops (onlyNormal Q) S W ops.size (Array.replicate ops.size false) a w.drew) : (Code.region id ops true).wpIn (Fence.wide.inRound l) n P Q a w :=
  wpIn_region_any hm (wpAnyIn_of hn _ _ _ _ (anyL_any _ _ _ _ (h hS closedL.none)))
theorem restL_doneN {S : World → Prop} {W : List Nat} {lst : Array Bool} {a : Act} {w : World} (hr : Region.ready md ops lst = []) (h : Q .normal a w) (f : Nat) : restL P md ops (onlyNormal Q) S W f lst a w := restL_done (Q := onlyNormal Q) hr h f
end
end Go.Proofs.Ytdkfaphclhaiaaa
