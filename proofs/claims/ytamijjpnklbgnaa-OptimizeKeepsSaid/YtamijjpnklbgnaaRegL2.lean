/-
  A region that draws its order: two operations are ready, each may come first. Any program.
-/
import Derived.Test.YtamijjpnklbgnaaRegL
namespace Go.Proofs.Ytamijjpnklbgnaa
open Go.RowKit
set_option linter.unusedSimpArgs false
set_option linter.unusedVariables false
section
variable {P : Program} {ops : Array Oper} {Q : Exit → Act → World → Prop} {md : Region.Mode} {S : World → Prop} {W : List Nat}
theorem restL_two {i j : Nat} {o p : Oper} {f : Nat} {lst : Array Bool} {a : Act} {w : World} (hr : Region.ready md ops lst = [i, j]) (ho : ops[i]? = some o) (hp : ops[j]? = some p)
    (h : ∀ K' : Act → World → Prop, Shut (∀ b u, (W.contains i = false → S u) → ((W.contains i = false → S u) → restL P md ops Q S W f (lst.setIfInBounds i true) b u) → K' b u) → if Region.wanted o (yielded ops a.tmps) = true then Oper.wp P o a w K' Q else K' (a.put o.dst undef) w)
    (h2 : ∀ K' : Act → World → Prop, Shut (∀ b u, (W.contains j = false → S u) → ((W.contains j = false → S u) → restL P md ops Q S W f (lst.setIfInBounds j true) b u) → K' b u) → if Region.wanted p (yielded ops a.tmps) = true then Oper.wp P p a w K' Q else K' (a.put p.dst undef) w) :
    restL P md ops Q S W (f + 1) lst a w := by
  intro hc
  refine And.intro (fun h0 => absurd (hr.symm.trans h0) (by simp)) (fun k hk => ?_)
  have hc' := hc.set hk
  rw [hr] at hk
  rcases List.mem_cons.1 hk with e | hk
  · subst e
    exact wpOp_step ho (fun K' hK => h K' (fun b u hS hW => hK b u ⟨fun e _ => hS e, hW hS hc'⟩))
  · obtain rfl := List.mem_singleton.1 hk
    exact wpOp_step hp (fun K' hK => h2 K' (fun b u hS hW => hK b u ⟨fun e _ => hS e, hW hS hc'⟩))
end
end Go.Proofs.Ytamijjpnklbgnaa
