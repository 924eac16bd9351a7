/-
 A part.
-/
import Derived.Test.YtiemhbogbaamlaaYF2
import Derived.Test.YtiemhbogbaamlaaProg
import Derived.Deep.QuietTactic
import Derived.BigQuiet
import Derived.Deep.Light
set_option linter.unusedSimpArgs false
set_option linter.unusedVariables false
namespace Go.Proofs.Ytiemhbogbaamlaa
open Go.RowKit
set_option maxHeartbeats 400000 in
theorem rOperands_any (op:Int) (w:World):
 Calls Try.prog 94 #[.int .i64 op] w fun e w'=>e=.returned (.int .i64 (operandsF op))∧w=w':=by
 go_enter Try.func94,Try.ntmps94
 go_wp2
 all_goals go_ret
 all_goals (refine ⟨?_,rfl⟩;simp_all [operandsF])
set_option maxRecDepth 100000 in
set_option maxHeartbeats 1000000 in
theorem rRight_any (inputs:Int) (GA OA:Option Addr) (gn gc on oc:Nat) (gs:List Gt) (os:List Int) (w:World)
 (hG:Rd w w.heap.size 3 GA gn (gatesCells gs)) (hO:Rd w w.heap.size 1 OA on (ints os)) (hm1:gn≤maxLen) (hm2:on≤maxLen):
 Calls Try.prog 62 #[.agg #[.int .i64 inputs,.slice GA gn gc,.slice OA on oc]] w fun e w'=>e=.returned (.bool (rightC ⟨inputs,gs,os⟩))∧Below w.heap.size w w':=by
 unfold maxLen at hm1 hm2
 have HN:Hid (gs.length=gn):=by have:=hG.1;simp [gatesCells_length] at this;show gs.length=gn;omega
 have HM:Hid (os.length=on):=by have:=hO.1;simp at this;show os.length=on;omega
 have HG:=hiD hG
 have HO:=hiD hO
 clear hG hO
 by_cases hok:0≤inputs∧inputs≤1000∧gn≤20000∧on≤1000
 ·obtain ⟨h0,h1,h2,h3⟩:=hok
  go_enter Try.func62,Try.ntmps62
  go_wp2
  go_loopg [3] gn (fun gg s3 wr=>∃ kk:Nat,kk≤gn∧gn - kk≤gg∧s3=.int .i64 kk∧Aside (Below (w.heap.size+1) (w.alloc (.cells #[.int .i64 inputs,.slice GA gn gc,.slice OA on oc] 37)) wr)∧Aside (∀ j,j < kk→gateOk (inputs+j) (gs.getD j default)=true))
  case atStart=>exact ⟨0,Nat.zero_le _,by omega,rfl,Below.refl _ _,fun j hj=>absurd hj (Nat.not_lt_zero _)⟩
  case round=>
   obtain ⟨kk,hkk,hg,rfl,BW,AA⟩:=hrel
   have hc0:wr.cell? ⟨w.heap.size,0,none⟩=some (.int .i64 inputs):=(BW.out.cell (p:=⟨w.heap.size,0,none⟩) (by simp)).trans (by simp)
   have hc1:wr.cell? ⟨w.heap.size,1,none⟩=some (.slice GA gn gc):=(BW.out.cell (p:=⟨w.heap.size,1,none⟩) (by simp)).trans (by simp)
   have hc2:wr.cell? ⟨w.heap.size,2,none⟩=some (.slice OA on oc):=(BW.out.cell (p:=⟨w.heap.size,2,none⟩) (by simp)).trans (by simp)
   have hsz:w.heap.size < wr.heap.size:=by have:=BW.out.size;simp at this;omega
   by_cases hlt:kk < gn
   ·have hltz:(kk:Int) < (gn:Int):=by omega
    obtain ⟨ad,rfl,hb,hg0,hg1,hg2⟩:=((HG.out.alloc (Nat.le_refl _) _).below BW.out (by omega)).gate hlt
    generalize hy:gs.getD kk default=g at hg0 hg1 hg2
    have HY:Aside (gs.getD kk default=g):=hy
    clear hy
    have b0:=operandsF_bd g.op
    go_wp2_with fail
    refine (rOperands_any _ _).mono ?_
    rintro e w' ⟨rfl,rfl⟩
    generalize hn:operandsF g.op=n at b0
    have HF:Aside (operandsF g.op=n):=hn
    clear hn
    have hne:wr.heap.size≠w.heap.size:=by omega
    obtain ⟨b1,b2⟩:=b0
    go_wp2
    all_goals have BB:=BW.out
    all_goals have B0:=below_box (k:=1) BW.out
    all_goals first
     | (go_ret
        refine ⟨ret_bool ?_,by go_grown⟩
        refine (right_false_gate ⟨inputs,gs,os⟩ kk (by rw [HN.out];exact hlt) ?_).symm
        rw [HY.out]
        go_light
        unfold gateOk wireOk
        rw [HF.out]
        simp only [bne_iff_ne,bne_eq_false_iff_eq,ne_eq] at *
        simp
        omega)
     | (go_roundg (gn - (kk + 1))
        case measure=>omega
        case rel=>
         refine ⟨kk+1,by omega,by omega,by go_num,(show Below _ _ _ by go_grown),(show Aside _ from fun j hj=>?_)⟩
         by_cases e:j=kk
         ·subst e
          rw [HY.out]
          go_light
          unfold gateOk wireOk
          rw [HF.out]
          simp only [bne_iff_ne,bne_eq_false_iff_eq,ne_eq] at *
          simp
          omega
         ·exact AA.out j (by omega))
   ·have hltz:¬ (kk:Int) < (gn:Int):=by omega
    obtain rfl:kk=gn:=by omega
    have HT:Aside (rightC ⟨inputs,gs,os⟩=os.all (outOk (inputs+kk))):=by
     have:=right_true_gates ⟨inputs,gs,os⟩ ⟨h0,h1,by rw [HN.out];exact h2,by rw [HM.out];exact h3⟩ (fun j hj=>AA.out j (by rw [HN.out] at hj;exact hj))
     simp only [HN.out] at this
     exact this
    have BB0:=BW.out
    go_wp2
    clear AA BW hc0 hc1 hc2 hsz
    go_loopg [7] on (fun gg s7 wr'=>∃ jj:Nat,jj≤on∧on - jj≤gg∧s7=.int .i64 jj∧Aside (Below (w.heap.size+1) (w.alloc (.cells #[.int .i64 inputs,.slice GA kk gc,.slice OA on oc] 37)) wr')∧Aside (∀ j,j < jj→outOk (inputs+kk) (os.getD j 0)=true))
    case atStart=>exact ⟨0,Nat.zero_le _,by omega,rfl,BB0,fun j hj=>absurd hj (Nat.not_lt_zero _)⟩
    case round=>
     rename World=>wr2
     obtain ⟨jj,hjj,hg2,rfl,BW,A2⟩:=hrel
     clear BB0
     have hc0:wr2.cell? ⟨w.heap.size,0,none⟩=some (.int .i64 inputs):=(BW.out.cell (p:=⟨w.heap.size,0,none⟩) (by simp)).trans (by simp)
     have hc1:wr2.cell? ⟨w.heap.size,1,none⟩=some (.slice GA kk gc):=(BW.out.cell (p:=⟨w.heap.size,1,none⟩) (by simp)).trans (by simp)
     have hc2:wr2.cell? ⟨w.heap.size,2,none⟩=some (.slice OA on oc):=(BW.out.cell (p:=⟨w.heap.size,2,none⟩) (by simp)).trans (by simp)
     by_cases hlt2:jj < on
     ·have hltz2:(jj:Int) < (on:Int):=by omega
      obtain ⟨ad,rfl,hb,hcell⟩:=((HO.out.alloc (Nat.le_refl _) _).below BW.out (by omega)).int hlt2
      generalize hy:os.getD jj 0=o at hcell
      have HY:Aside (os.getD jj 0=o):=hy
      clear hy
      by_cases ho:o < 0
      ·have hd:decide (o < 0)=true:=by simpa using ho
       go_wp2_with fail
       go_quiet (fail)
       go_wp2
       have BB:=below_box (k:=1) BW.out
       go_ret
       refine ⟨ret_bool ?_,below_drewN BB _⟩
       rw [HT.out]
       exact (all_false_at _ os jj (by rw [HM.out];exact hlt2) (by rw [HY.out];unfold outOk;simp;omega)).symm
      ·have hd:decide (o < 0)=false:=by simpa using ho
       by_cases ho2:inputs+kk≤o
       ·have hd2:decide (inputs+kk≤o)=true:=by simpa using ho2
        go_wp2_with fail
        go_quiet (fail)
        go_wp2
        have BB:=below_box (k:=1) BW.out
        go_ret
        refine ⟨ret_bool ?_,below_drewN BB _⟩
        rw [HT.out]
        exact (all_false_at _ os jj (by rw [HM.out];exact hlt2) (by rw [HY.out];unfold outOk;simp;omega)).symm
       ·have hd2:decide (inputs+kk≤o)=false:=by simpa using ho2
        go_wp2_with fail
        go_quiet (fail)
        go_wp2
        go_roundg (on - (jj+1))
        case measure=>omega
        case rel=>
         refine ⟨jj+1,by omega,by omega,by go_num,(show Below _ _ _ from below_drewN BW.out _),(show Aside _ from fun j hj=>?_)⟩
         by_cases e:j=jj
         ·subst e
          rw [HY.out];unfold outOk;simp;omega
         ·exact A2.out j (by omega)
     ·have hltz2:¬ (jj:Int) < (on:Int):=by omega
      obtain rfl:jj=on:=by omega
      go_wp2
      have BB:=below_box (k:=1) BW.out
      go_ret
      refine ⟨ret_bool ?_,BB⟩
      rw [HT.out]
      exact (all_true_at _ os (fun j hj=>A2.out j (by rw [HM.out] at hj;exact hj))).symm
 ·have h':¬ (((0≤inputs∧inputs≤1000)∧(gn:Int)≤20000)∧(on:Int)≤1000):=by omega
  have HK:Aside (rightC ⟨inputs,gs,os⟩=false):=by
   show _=_
   unfold rightC
   rw [decide_eq_false (by simp only [HN.out,HM.out];exact hok)]
   rfl
  clear hok
  go_enter Try.func62,Try.ntmps62
  go_wp2
  all_goals go_ret
  all_goals (rw [HK.out];exact ⟨rfl,by go_grown⟩)
end Go.Proofs.Ytiemhbogbaamlaa
