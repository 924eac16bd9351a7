/-
 A part.
-/
import Derived.Test.YtiemhbogbaamlaaYF32
set_option linter.unusedSimpArgs false
set_option linter.unusedVariables false
namespace Go.Proofs.Ytiemhbogbaamlaa
open Go.RowKit
def kd (n:Int) (s:Wk) (g:Gt) (k:Nat):Nat→Int
 | 0=>n+(k:Int)
 | j+1=>if s.to.getD (n.toNat+(k - 1 - j)) 0=n+((k - 1 - j:Nat):Int)∧s.gates.getD (k - 1 - j) default=g then n+((k - 1 - j:Nat):Int) else kd n s g k j
def kdC (n:Int) (s:Wk) (g:Gt) (t:Nat):Prop:=s.to.getD (n.toNat+t) 0=n+(t:Int)∧s.gates.getD t default=g
theorem kd_spec (n:Int) (s:Wk) (g:Gt) (k j:Nat) (hj:j≤k):(∃ t,k - j≤t∧t < k∧kdC n s g t∧kd n s g k j=n+(t:Int)∧∀ t',k - j≤t'→t' < t→¬ kdC n s g t')∨(kd n s g k j=n+(k:Int)∧∀ t,k - j≤t→t < k→¬ kdC n s g t):=by
 induction j with
 | zero=>exact .inr ⟨rfl,fun t h1 h2=>by omega⟩
 | succ j ih=>
  rw [kd]
  by_cases hc:kdC n s g (k - 1 - j)
  ·rw [if_pos (show _∧_ from hc)]
   exact .inl ⟨k - 1 - j,by omega,by omega,hc,rfl,fun t' h1 h2=>by omega⟩
  ·rw [if_neg (show ¬ (_∧_) from hc)]
   rcases ih (by omega) with ⟨t,h1,h2,h3,h4,h5⟩ | ⟨h4,h5⟩
   ·refine .inl ⟨t,by omega,h2,h3,h4,fun t' h6 h7=>?_⟩
    rcases Nat.lt_or_ge t' (k - j) with h8 | h8
    ·have:t'=k - 1 - j:=by omega
     rw [this];exact hc
    ·exact h5 t' h8 h7
   ·refine .inr ⟨h4,fun t h6 h7=>?_⟩
    rcases Nat.lt_or_ge t (k - j) with h8 | h8
    ·have:t=k - 1 - j:=by omega
     rw [this];exact hc
    ·exact h5 t h8 h7
theorem kd_end {c:Circ} (h:rightC c=true) {k:Nat} (hk:k < c.gates.length) (g:Gt):kd c.inputs (shareTo c k) g k k=if knownW c.inputs (shareTo c k).gates g < 0 then c.inputs+(k:Int) else knownW c.inputs (shareTo c k).gates g:=by
 obtain ⟨⟨h0,h1,_⟩,_⟩:=rightC_parts h
 obtain ⟨l1,l2⟩:=shareTo_len c k
 have hch:=shareChain c
 have hfix:∀ j,j < k→(∀ d,d < j→(shareTo c k).gates.getD d default≠(shareTo c k).gates.getD j default)→(shareTo c k).to.getD (c.inputs.toNat+j) 0=c.inputs+(j:Int):=fun j hj hb=>by
  rw [share_to_at c hj,if_pos]
  rw [← share_g_at c hj,knownW_none]
  ·decide
  ·intro d hd
   rw [(hch.len j).1] at hd
   rw [← hch.g_keep (Nat.le_of_lt hj) hd]
   exact hb d hd
 by_cases hz:knownW c.inputs (shareTo c k).gates g < 0
 ·rw [if_pos hz]
  have hno:∀ t,t < k→¬ kdC c.inputs (shareTo c k) g t:=fun t ht hc=>by
   unfold knownW at hz
   split at hz
   ·omega
   ·rename_i hnone
    have hm:g ∈ (shareTo c k).gates:=by
     rw [← hc.2,List.getD_eq_getElem?_getD,List.getElem?_eq_getElem (by omega)]
     exact List.getElem_mem _
    have:=List.findIdx?_eq_none_iff.1 hnone _ hm
    rw [(gtEq_iff _ _).2 rfl] at this
    cases this
  rcases kd_spec c.inputs (shareTo c k) g k k (Nat.le_refl _) with ⟨t,_,h2,h3,_⟩ | ⟨h4,_⟩
  ·exact absurd h3 (hno t h2)
  ·exact h4
 ·rw [if_neg hz]
  obtain ⟨j,hj,hjl,hje,hjb⟩:=knownW_some h0 (Int.not_lt.1 hz)
  rw [hj]
  have hjk:j < k:=by omega
  have hcj:kdC c.inputs (shareTo c k) g j:=⟨hfix j hjk (fun d hd=>by rw [hje];exact hjb d hd),hje⟩
  rcases kd_spec c.inputs (shareTo c k) g k k (Nat.le_refl _) with ⟨t,_,h2,h3,h4,h5⟩ | ⟨_,h5⟩
  ·have:t=j:=by
    rcases Nat.lt_trichotomy t j with h6 | h6 | h6
    ·exact absurd h3.2 (hjb t h6)
    ·exact h6
    ·exact absurd hcj (h5 j (by omega) h6)
   rw [h4,this]
  ·exact absurd hcj (h5 j (by omega) hjk)
theorem alias_self {s:Wk} {n:Int} {k m:Nat} (hs:s.to.length=n.toNat+k) (hm:0 < m):(aliasL s n k m).set (n.toNat+k) (n+(k:Int))=aliasL s n k m:=by
 obtain ⟨m,rfl⟩:∃ m',m=m'+1:=⟨m - 1,by omega⟩
 rw [← alias_next hs,alias_same hs]
theorem alias_share {c:Circ} (h:rightC c=true) {k:Nat} (hk:k < c.gates.length) (m:Nat):aliasL (shareTo c (k+1)) c.inputs (k+1) m=(aliasL (shareTo c k) c.inputs k (m+1)).set (c.inputs.toNat+k) (kd c.inputs (shareTo c k) (swapG (moveG (shareTo c k).to (gateAt c k))) k k):=by
 obtain ⟨l1,l2⟩:=shareTo_len c k
 rw [kd_end h hk]
 have:=alias_add (m:=m) l2 l1 (shareG c.inputs (shareTo c k) (gateAt c k))
 rw [show addW c.inputs (shareTo c k) (shareG c.inputs (shareTo c k) (gateAt c k))=shareTo c (k+1) from rfl] at this
 rw [this]
 show (if knownW c.inputs (shareTo c k).gates (swapG (moveG (shareTo c k).to (gateAt c k))) < 0 then _ else _)=_
 split
 ·rw [alias_self l2 (by omega)]
 ·rfl
theorem alias_set_lt {s:Wk} {n:Int} {k m t:Nat} (hs:s.to.length=n.toNat+k) (ht:t < k) (v:Int):((aliasL s n k m).set (n.toNat+k) v).getD (n.toNat+t) 0=s.to.getD (n.toNat+t) 0:=by
 rw [List.getD_eq_getElem?_getD,List.getElem?_set_ne (by omega),← List.getD_eq_getElem?_getD,alias_lt hs (by omega)]
end Go.Proofs.Ytiemhbogbaamlaa
