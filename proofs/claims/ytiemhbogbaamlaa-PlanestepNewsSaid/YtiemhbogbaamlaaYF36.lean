/-
 A part.
-/
import Derived.Test.YtiemhbogbaamlaaYF32
set_option linter.unusedSimpArgs false
set_option linter.unusedVariables false
namespace Go.Proofs.Ytiemhbogbaamlaa
open Go.RowKit
def rTrimTo (c:Circ):Nat→Wk
 | 0=>startW c.inputs
 | k+1=>if ndg c k=true then addW c.inputs (rTrimTo c k) (moveG (rTrimTo c k).to (gateAt c k),-1) else ⟨(rTrimTo c k).gates,(rTrimTo c k).to ++ [c.inputs+(k:Int)]⟩
theorem rTrimTo_len (c:Circ) (k:Nat):(rTrimTo c k).gates.length≤k∧(rTrimTo c k).to.length=c.inputs.toNat+k:=by
 induction k with
 | zero=>exact ⟨Nat.le_of_eq (startW_len _).1,(startW_len _).2⟩
 | succ k ih=>
  rw [rTrimTo]
  split
  ·have:=addW_len c.inputs (rTrimTo c k) (moveG (rTrimTo c k).to (gateAt c k),-1);omega
  ·exact ⟨by show (rTrimTo c k).gates.length≤_;omega,by simp;omega⟩
theorem rTrim_eq {c:Circ} (h:rightC c=true) (k:Nat) (hk:k≤c.gates.length):(rTrimTo c k).gates=(trimTo c k).gates∧∀ w,w < c.inputs.toNat+k→(c.inputs≤(w:Int)→Ned c (w:Int))→(rTrimTo c k).to.getD w 0=(trimTo c k).to.getD w 0:=by
 obtain ⟨⟨h0,h1,_⟩,_⟩:=rightC_parts h
 have hcl:=need_closed h
 induction k with
 | zero=>exact ⟨rfl,fun w _ _=>rfl⟩
 | succ k ih=>
  obtain ⟨i1,i2⟩:=ih (by omega)
  have r2:=(rTrimTo_len c k).2
  have t2:=(trimTo_len c k).2
  rw [rTrimTo,trimTo_succ]
  by_cases hn:ndg c k=true
  ·rw [if_pos hn,if_pos hn]
   have hg:=gateAt_ok h (show k < c.gates.length by omega)
   obtain ⟨ho,ha,hb,_,_⟩:=gateOk_parts hg
   have hm:moveG (rTrimTo c k).to (gateAt c k)=moveG (trimTo c k).to (gateAt c k):=by
    refine gt_ext rfl ?_ ?_
    ·rcases (by omega:(gateAt c k).op < 2∨2≤(gateAt c k).op) with h2 | h2
     ·rw [moveG_a0 ho h2,moveG_a0 ho h2]
     ·have:=ha h2
      rw [moveG_a ho h2,moveG_a ho h2]
      exact i2 _ (by omega) (fun _=>by rw [Int.toNat_of_nonneg this.1];exact hcl.fst k (by omega) hn h2)
    ·rcases (by omega:(gateAt c k).op < 3∨3≤(gateAt c k).op) with h3 | h3
     ·rw [moveG_b0 ho h3,moveG_b0 ho h3]
     ·have:=hb h3
      rw [moveG_b ho h3,moveG_b ho h3]
      exact i2 _ (by omega) (fun _=>by rw [Int.toNat_of_nonneg this.1];exact hcl.snd k (by omega) hn h3)
   rw [hm]
   refine ⟨by show (rTrimTo c k).gates ++ _=(trimTo c k).gates ++ _;rw [i1],fun w hw hq=>?_⟩
   show ((rTrimTo c k).to ++ [_]).getD w 0=((trimTo c k).to ++ [_]).getD w 0
   rcases Nat.lt_or_ge w (c.inputs.toNat+k) with h2 | h2
   ·rw [snocZ_lt _ _ _ (by omega),snocZ_lt _ _ _ (by omega)];exact i2 w h2 hq
   ·obtain rfl:w=c.inputs.toNat+k:=by omega
    rw [← r2,snocZ_eq,r2,← t2,snocZ_eq,i1]
  ·rw [if_neg hn,if_neg hn]
   refine ⟨i1,fun w hw hq=>?_⟩
   show ((rTrimTo c k).to ++ [_]).getD w 0=((trimTo c k).to ++ [_]).getD w 0
   rcases Nat.lt_or_ge w (c.inputs.toNat+k) with h2 | h2
   ·rw [snocZ_lt _ _ _ (by omega),snocZ_lt _ _ _ (by omega)];exact i2 w h2 hq
   ·obtain rfl:w=c.inputs.toNat+k:=by omega
    have e:((c.inputs.toNat+k:Nat):Int)=c.inputs+(k:Int):=by omega
    have:=hq (by omega)
    rw [e] at this
    exact absurd this hn
theorem rTrimC_eq {c:Circ} (h:rightC c=true):trimC c=doneW c (rTrimTo c c.gates.length):=by
 obtain ⟨⟨h0,h1,_⟩,_,ho⟩:=rightC_parts h
 obtain ⟨e1,e2⟩:=rTrim_eq h _ (Nat.le_refl _)
 rw [trimC_eq h]
 refine circ_ext rfl e1.symm ?_
 show c.outs.map _=c.outs.map _
 apply List.map_congr_left
 intro o hm
 obtain ⟨k,hk,rfl⟩:=List.getElem_of_mem hm
 have hb:=outOk_at ho hk
 have hn:=trim_outs h k hk
 have e:c.outs.getD k 0=c.outs[k]:=by rw [List.getD_eq_getElem?_getD,List.getElem?_eq_getElem hk];rfl
 rw [e] at hb hn
 exact (e2 _ (by omega) hn).symm
theorem alias_rtrim {c:Circ} (k m:Nat):aliasL (rTrimTo c (k+1)) c.inputs (k+1) m=if ndg c k=true then (aliasL (rTrimTo c k) c.inputs k (m+1)).set (c.inputs.toNat+k) (c.inputs+((rTrimTo c k).gates.length:Int)) else aliasL (rTrimTo c k) c.inputs k (m+1):=by
 have r2:=(rTrimTo_len c k).2
 rw [rTrimTo]
 split
 ·show ((rTrimTo c k).to ++ [if (-1:Int) < 0 then c.inputs+((rTrimTo c k).gates.length:Int) else -1]) ++ (List.range m).map (fun i:Nat=>c.inputs+((k+1:Nat):Int)+(i:Int))=_
  rw [if_pos (by decide)]
  exact alias_next r2 _
 ·exact alias_same r2
theorem rtrim_move {c:Circ} (h:rightC c=true) {k:Nat} (hk:k < c.gates.length) (m:Nat) (v:Int):moveG ((aliasL (rTrimTo c k) c.inputs k m).set (c.inputs.toNat+k) v) (gateAt c k)=moveG (rTrimTo c k).to (gateAt c k):=by
 obtain ⟨⟨h0,h1,_⟩,_⟩:=rightC_parts h
 exact moveG_congr (L:=c.inputs.toNat+k) (fun w hw=>by
  rw [List.getD_eq_getElem?_getD,List.getElem?_set_ne (by omega),← List.getD_eq_getElem?_getD,alias_lt (rTrimTo_len c k).2 hw]) (gateAt_ok h hk) (by omega)
end Go.Proofs.Ytiemhbogbaamlaa
