/-
  Lemmas for the law TopCircuits.
-/
import Derived.Test.YtbijfnbelkbofaaGreatDoorJZ1
import Derived.Maps.OwnSet
import Derived.Test.YtbijfnbelkbofaaGreatDoorJZ11
import Derived.Test.YtbijfnbelkbofaaGreatDoorProg
import Derived.DeepKeys4
import Derived.MapViews
set_option linter.unusedSimpArgs false
set_option linter.unusedVariables false
namespace Go.Proofs.YtbijfnbelkbofaaGreatDoor
open Go.RowKit
section
open Go.Maps
variable {P:Program} {ops:Array Oper} {w:World} {o:Oper} {a:Act} {Q:Exit→Act→World→Prop} {K:Act→World→Prop} {E:Prop}
theorem step_mapUpdate {H:Type} (hgd:o.guard=none) (m x v:Operand) (t:TypeId) (hop:o.op=Op.mapUpdate t m x v)
 (k e:TypeId) (KK:Keyed P k) (ht:P.underlying t=some (.map k e)) (R:Value→Option (DataW H × List MemPlace)) (b n:Nat) (D:DataW H)
 (hm:a.eval m=.map (some b)) (hown:w.ownsMap P k R b n D) (hn:n < maxLen) (key val:Value) (kl:Lit) (hx:a.eval x=key) (hv:a.eval v=val) (hkey:keyOf P k key=some kl)
 (d:DataW H) (ps:List MemPlace) (hval:R val=some (d,ps))
 (hK:∀ w',w'.ownsMap P k R b (n+1) (D.put kl d)→w.grownBy w' (some b)→K (a.put o.dst undef) w'):
 if Region.wanted o (yielded ops a.tmps)=true then Oper.wp P o a w K Q else E:=by
 rw [if_pos (by simp [Region.wanted,hgd])];obtain ⟨w',hrun,r1,r2⟩:=hown.update KK ht hn hkey hval;unfold Oper.wp
 simp [execOp,hop,hm,hx,hv,hrun,Result.andThen]
 exact hK w' r1 r2
end
theorem ownsMap_below {H:Type} {P:Program} {k:TypeId} {R:Value→Option (DataW H × List MemPlace)} {b n:Nat} {D:DataW H} {X Y:World} (h:X.ownsMap P k R b n D) (hb:Below X.heap.size X Y):Y.ownsMap P k R b n D:=
 h.kept (row:=none) ⟨hb.os,hb.tape,hb.output,hb.size,fun j hj _=>hb.block j hj⟩ (by simp)
end Go.Proofs.YtbijfnbelkbofaaGreatDoor
namespace Go.Proofs.YtbijfnbelkbofaaGreatDoor
open Go.RowKit
theorem gate_keyedZ:Maps.Keyed Tryz.prog 135:=
 Maps.Keyed.of_law (deep_law_laid (by kernel_rfl) (m:=2) (by omega) (of_decide_eq_true (by kernel_rfl)) (by kernel_rfl) (by kernel_rfl))
def gval (g:Gt):Value:=.agg #[.int .i64 g.op,.int .i64 g.a,.int .i64 g.b]
def gsmall (g:Gt):Prop:=(-1000000≤g.op∧g.op≤1000000)∧(-1000000≤g.a∧g.a≤1000000)∧(-1000000≤g.b∧g.b≤1000000)
theorem gate_lit {n:Int} (h:-1000000≤n∧n≤1000000):(Lit.int .i64 n).wf=true:=by
 have h1:=wrap64_wf n;rw [show wrap64 n=n from IntWalk.wrap64_in _ (by omega)] at h1;exact h1
def gkey (g:Gt):Lit:=.string (keyBytes [.int .i64 g.op,.int .i64 g.a,.int .i64 g.b])
theorem keyOf_gate {g:Gt} (h:gsmall g):keyOf Tryz.prog 135 (gval g)=some (gkey g):=by
 have h0:=gate_lit h.1;have h1:=gate_lit h.2.1;have h2:=gate_lit h.2.2;have hkt:Tryz.prog.keyType 135=true:=by kernel_rfl
 have hc:Tryz.prog.cellsOf 135=3:=by kernel_rfl
 have hc1:Tryz.prog.cellsOf 3=1:=by kernel_rfl
 have hf:(gval g).formed Tryz.prog 135=true:=by simp [gval,Value.formed,Tryz.underlying135,hc]
 obtain ⟨m,hm⟩:∃ m,Tryz.prog.types.size=m+1:=⟨Tryz.prog.types.size - 1,by kernel_rfl⟩
 unfold keyOf;rw [Tryz.underlying135];dsimp only;rw [if_pos (by rw [hkt,hf];rfl),hm]
 have e:Tryz.prog.keyLits (m+1+1) 135 (gval g).cells.toList=some [.int .i64 g.op,.int .i64 g.a,.int .i64 g.b]:=by
  simp [Program.keyLits,Tryz.underlying135,Tryz.underlying3,hc,hc1,gval,Value.cells,h0,h1,h2]
 rw [e];rfl
theorem gkey_key (g:Gt):WideAt.IsKeyLit (gkey g):=trivial
theorem gkey_inj {g g':Gt} (h:gsmall g) (h':gsmall g') (e:gkey g=gkey g'):g=g':=by
 have:=gate_keyedZ.inj (keyOf_gate h) (e ▸ keyOf_gate h');unfold gval at this;simp only [Value.agg.injEq,Array.mk.injEq,List.cons.injEq,Value.int.injEq,true_and,and_true] at this;exact gt_ext this.1 this.2.1 this.2.2
theorem gsmall_of {lim:Int} {g:Gt} (h:gateOk lim g=true) (hl:lim≤30000):gsmall g:=by
 obtain ⟨ho,ha,hb,ha0,hb0⟩:=gateOk_parts h;refine ⟨by omega,?_,?_⟩
 ·rcases (by omega:g.op < 2∨2≤g.op) with h2 | h2
  ·have:=ha0 h2;omega
  ·have:=ha h2;omega
 ·rcases (by omega:g.op < 3∨3≤g.op) with h2 | h2
  ·have:=hb0 h2;omega
  ·have:=hb h2;omega
def gS (c:Circ) (k:Nat):Gt:=swapG (moveG (shareTo c k).tq (gateAt c k))
theorem gS_ok {c:Circ} (h:rightC c=true) {k:Nat} (hk:k < c.gates.length):gateOk (c.inputs+(k:Int)) (gS c k)=true:=by
 obtain ⟨⟨h0,h1,_⟩,_⟩:=rightC_parts h;have hs:=shareTo_ok h k (by omega);obtain ⟨l1,l2⟩:=shareTo_len c k;have:=swapG_ok (moveG_ok hs (gateAt_ok h hk) (by omega) (fun _=>trivial) (fun _=>trivial));rw [l1] at this;exact this
theorem knownW_snoc {n:Int} (hn:0≤n) (gs:List Gt) (x g:Gt):knownW n (gs ++ [x]) g=if 0≤knownW n gs g then knownW n gs g else if x=g then n+(gs.length:Int) else -1:=by
 unfold knownW;rw [List.findIdx?_append]
 cases h:gs.findIdx? (fun x=>gtEq x g) with
 | some j=>
  show n+(j:Int)=_;rw [if_pos (by show 0≤n+(j:Int);omega)]
 | none=>
  rw [if_neg (by show ¬ (0:Int)≤-1;decide)];by_cases e:x=g
  ·have e2:gtEq x g=true:=(gtEq_iff _ _).2 e;rw [if_pos e]
   simp [List.findIdx?_cons,e2]
  ·have e2:gtEq x g=false:=by rw [Bool.eq_false_iff];exact fun q=>e ((gtEq_iff _ _).1 q)
   rw [if_neg e]
   simp [List.findIdx?_cons,e2]
def seenS (c:Circ):Nat→DataW Unit
 | 0=>.map []
 | k+1=>if knownW c.inputs (shareTo c k).gates (gS c k) < 0 then (seenS c k).put (gkey (gS c k)) (.lit (.int .i64 (c.inputs+(k:Int)))) else seenS c k
theorem seenS_map (c:Circ) (k:Nat):Maps.IsMap (seenS c k):=by
 induction k with
 | zero=>exact Maps.isMap_empty
 | succ k ih=>
  rw [seenS];split
  ·exact ih.put _ _
  ·exact ih
theorem seenS_spec {c:Circ} (h:rightC c=true) (k:Nat) (hk:k≤c.gates.length) {g:Gt} (hg:gsmall g):Maps.has (seenS c k) (gkey g)=decide (0≤knownW c.inputs (shareTo c k).gates g)∧(0≤knownW c.inputs (shareTo c k).gates g→∀ z,(seenS c k).atKey (gkey g) z=.lit (.int .i64 (knownW c.inputs (shareTo c k).gates g))):=by
 obtain ⟨⟨h0,h1,h2,_⟩,_⟩:=rightC_parts h
 induction k with
 | zero=>
  have e:knownW c.inputs (shareTo c 0).gates g=-1:=rfl;rw [e];exact ⟨rfl,fun q=>by omega⟩
 | succ k ih=>
  obtain ⟨i1,i2⟩:=ih (by omega);have hgk:gsmall (gS c k):=gsmall_of (gS_ok h (show k < c.gates.length by omega)) (by omega);have hl:=(shareTo_len c k).1;have eg:(shareTo c (k+1)).gates=(shareTo c k).gates ++ [gS c k]:=rfl;rw [eg,knownW_snoc h0,hl,seenS];have hbd:=knownW_bd c.inputs (shareTo c k).gates g h0;by_cases hz:knownW c.inputs (shareTo c k).gates (gS c k) < 0
  ·rw [if_pos hz];by_cases he:gS c k=g
   ·rw [if_pos he,he,if_neg (by rw [← he];omega)];exact ⟨by rw [Maps.has_put_same (seenS_map c k) (gkey_key _)];exact (decide_eq_true (by omega)).symm,fun _ z=>Maps.atKey_put_same (seenS_map c k) (gkey_key _) _ _⟩
   ·have hne:gkey g≠gkey (gS c k):=fun e=>he (gkey_inj hg hgk e).symm
    rw [if_neg he,Maps.has_put_other hne,i1];split
    ·exact ⟨rfl,fun q z=>by rw [Maps.atKey_put_other hne];exact i2 q z⟩
    ·rename_i q
     exact ⟨by rw [decide_eq_false q];rfl,fun q=>by omega⟩
  ·rw [if_neg hz];by_cases he:gS c k=g
   ·rw [he] at hz;rw [if_pos (show 0≤knownW c.inputs (shareTo c k).gates g by omega)];exact ⟨i1,i2⟩
   ·rw [if_neg he];split
    ·exact ⟨i1,i2⟩
    ·rename_i q
     exact ⟨by rw [i1,decide_eq_false q];rfl,fun q=>by omega⟩
end Go.Proofs.YtbijfnbelkbofaaGreatDoor
