/-
 A part.
-/
import Derived.Test.YtiemhbogbaamlaaYF1
import Derived.Test.YtiemhbogbaamlaaYF2
import Derived.Test.YtiemhbogbaamlaaProg
import Derived.Deep.QuietTactic
import Derived.BigQuiet
import Derived.Deep.Light
import Derived.Test.YtiemhbogbaamlaaYF13
import Derived.Test.YtiemhbogbaamlaaYF14
import Derived.Test.YtiemhbogbaamlaaYF7
import Derived.Deep.RegionHeld3
import Derived.Test.YtiemhbogbaamlaaYF3
set_option linter.unusedSimpArgs false
set_option linter.unusedVariables false
namespace Go.Proofs.Ytiemhbogbaamlaa
open Go.RowKit
theorem list_eq_of_getD {α:Type} [Inhabited α] {xs ys:List α} (hl:xs.length=ys.length) (d:α) (h:∀ k,k < xs.length→xs.getD k d=ys.getD k d):xs=ys:=by
 apply List.ext_getElem hl
 intro k h1 h2
 have:=h k h1
 simpa [List.getD_eq_getElem?_getD,List.getElem?_eq_getElem h1,List.getElem?_eq_getElem h2] using this
end Go.Proofs.Ytiemhbogbaamlaa
/-
 A part.
-/
namespace Go.Proofs.Ytiemhbogbaamlaa
open Go.RowKit
theorem gate_neq (x y:Gt) (W:World):(binOp .neq 77 (.agg #[.int .i64 x.op,.int .i64 x.a,.int .i64 x.b]) (.agg #[.int .i64 y.op,.int .i64 y.a,.int .i64 y.b])).run Try.prog W=.ok (.bool (!gtEq x y)) W:=by
 unfold gtEq
 cases h1:(x.op == y.op) <;> cases h2:(x.a == y.a) <;> cases h3:(x.b == y.b) <;> (simp only [beq_eq_false_iff_ne,beq_iff_eq] at h1 h2 h3;go_simp)
end Go.Proofs.Ytiemhbogbaamlaa
/-
 A part.
-/
namespace Go.Proofs.Ytiemhbogbaamlaa
open Go.RowKit
set_option maxHeartbeats 400000 in
theorem equal_ints (A A':Option Addr) (n m c c':Nat) (xs ys:List Int) (w:World)
 (hx:Rd w w.heap.size 1 A n (ints xs)) (hy:Rd w w.heap.size 1 A' m (ints ys)) (hn:n≤maxLen) (hm:m≤maxLen):
 Calls Try.prog 93 #[.slice A n c,.slice A' m c'] w fun e w'=>e=.returned (.bool (decide (xs=ys)))∧Below w.heap.size w w':=by
 unfold maxLen at hn hm
 have HX:=hiD hx
 have HY:=hiD hy
 have LX:Hid (xs.length=n):=by have:=hx.1;simp at this;show _=_;omega
 have LY:Hid (ys.length=m):=by have:=hy.1;simp at this;show _=_;omega
 clear hx hy
 by_cases hnm:n=m
 ·subst hnm
  go_enter Try.func93,Try.ntmps93
  go_wp2
  go_loopg [5,13] n (fun gg _ s13 wr=>∃ kk:Nat,kk≤n∧n - kk≤gg∧s13=.int .i64 kk∧Aside (Below w.heap.size w wr)∧Aside (∀ j,j < kk→xs.getD j 0=ys.getD j 0))
  case atStart=>exact ⟨0,Nat.zero_le _,by omega,rfl,Below.refl _ _,fun j hj=>absurd hj (Nat.not_lt_zero _)⟩
  case round=>
   obtain ⟨kk,hkk,hg,rfl,BW,AA⟩:=hrel
   by_cases hlt:kk < n
   ·have hltz:(kk:Int) < (n:Int):=by omega
    obtain ⟨ad,rfl,hb,hcell⟩:=(HX.out.below BW.out (Nat.le_refl _)).int hlt
    obtain ⟨ad',rfl,hb',hcell'⟩:=(HY.out.below BW.out (Nat.le_refl _)).int hlt
    generalize h1:xs.getD kk 0=x at hcell
    generalize h2:ys.getD kk 0=y at hcell'
    have HE:Aside (xs.getD kk 0=x∧ys.getD kk 0=y):=⟨h1,h2⟩
    clear h1 h2
    cases hxy:(x != y)
    ·go_wp2_with fail
     go_quiet (fail)
     go_wp2
     go_roundg (n - (kk+1))
     case measure=>omega
     case rel=>
      refine ⟨kk+1,by omega,by omega,by go_num,(show Below _ _ _ from below_drewN BW.out _),(show Aside _ from fun j hj=>?_)⟩
      by_cases e:j=kk
      ·subst e
       rw [HE.out.1,HE.out.2]
       simpa using hxy
      ·exact AA.out j (by omega)
    ·go_wp2_with fail
     go_quiet (fail)
     go_wp2
     go_ret
     refine ⟨ret_bool ?_,below_drewN BW.out _⟩
     symm
     rw [decide_eq_false_iff_not]
     rintro rfl
     have:=HE.out.1.symm.trans HE.out.2
     simp [this] at hxy
   ·have hltz:¬ (kk:Int) < (n:Int):=by omega
    obtain rfl:kk=n:=by omega
    go_wp2
    go_ret
    refine ⟨ret_bool ?_,BW.out⟩
    symm
    rw [decide_eq_true_iff]
    exact list_eq_of_getD (LX.out.trans LY.out.symm) 0 (fun k hk=>AA.out k (by rw [LX.out] at hk;exact hk))
 ·have hnm':((n:Int) != (m:Int))=true:=by rw [bne_iff_ne];omega
  go_enter Try.func93,Try.ntmps93
  go_wp2
  go_ret
  refine ⟨ret_bool ?_,Below.refl _ _⟩
  symm
  rw [decide_eq_false_iff_not]
  rintro rfl
  exact hnm (LX.out.symm.trans LY.out)
end Go.Proofs.Ytiemhbogbaamlaa
/-
 A part.
-/
namespace Go.Proofs.Ytiemhbogbaamlaa
open Go.RowKit
set_option maxHeartbeats 400000 in
theorem equal_gates (A A':Option Addr) (n m c c':Nat) (xs ys:List Gt) (w:World)
 (hx:Rd w w.heap.size 3 A n (gatesCells xs)) (hy:Rd w w.heap.size 3 A' m (gatesCells ys)) (hn:n≤maxLen) (hm:m≤maxLen):
 Calls Try.prog 92 #[.slice A n c,.slice A' m c'] w fun e w'=>e=.returned (.bool (decide (xs=ys)))∧Below w.heap.size w w':=by
 unfold maxLen at hn hm
 have HX:=hiD hx
 have HY:=hiD hy
 have LX:Hid (xs.length=n):=by have:=hx.1;rw [gatesCells_length] at this;show _=_;omega
 have LY:Hid (ys.length=m):=by have:=hy.1;rw [gatesCells_length] at this;show _=_;omega
 clear hx hy
 by_cases hnm:n=m
 ·subst hnm
  go_enter Try.func92,Try.ntmps92
  go_wp2
  go_loopg [5,13] n (fun gg _ s13 wr=>∃ kk:Nat,kk≤n∧n - kk≤gg∧s13=.int .i64 kk∧Aside (Below w.heap.size w wr)∧Aside (∀ j,j < kk→xs.getD j default=ys.getD j default))
  case atStart=>exact ⟨0,Nat.zero_le _,by omega,rfl,Below.refl _ _,fun j hj=>absurd hj (Nat.not_lt_zero _)⟩
  case round=>
   obtain ⟨kk,hkk,hg,rfl,BW,AA⟩:=hrel
   by_cases hlt:kk < n
   ·have hltz:(kk:Int) < (n:Int):=by omega
    obtain ⟨ad,rfl,hb,h0,h1,h2⟩:=(HX.out.below BW.out (Nat.le_refl _)).gate hlt
    obtain ⟨ad',rfl,hb',g0,g1,g2⟩:=(HY.out.below BW.out (Nat.le_refl _)).gate hlt
    generalize hz1:xs.getD kk default=x at h0 h1 h2
    generalize hz2:ys.getD kk default=y at g0 g1 g2
    have HE:Aside (xs.getD kk default=x∧ys.getD kk default=y):=⟨hz1,hz2⟩
    clear hz1 hz2
    have hq:=gate_neq x y
    cases hxy:!gtEq x y
    all_goals rw [hxy] at hq
    ·go_wp2_with fail
     go_quiet (fail)
     go_wp2
     go_roundg (n - (kk+1))
     case measure=>omega
     case rel=>
      refine ⟨kk+1,by omega,by omega,by go_num,(show Below _ _ _ from below_drewN BW.out _),(show Aside _ from fun j hj=>?_)⟩
      by_cases e:j=kk
      ·subst e
       rw [HE.out.1,HE.out.2]
       exact (gtEq_iff x y).1 (by simpa using hxy)
      ·exact AA.out j (by omega)
    ·go_wp2_with fail
     go_quiet (fail)
     go_wp2
     go_ret
     refine ⟨ret_bool ?_,below_drewN BW.out _⟩
     symm
     rw [decide_eq_false_iff_not]
     rintro rfl
     have:=HE.out.1.symm.trans HE.out.2
     rw [(gtEq_iff x y).2 this] at hxy
     cases hxy
   ·have hltz:¬ (kk:Int) < (n:Int):=by omega
    obtain rfl:kk=n:=by omega
    go_wp2
    go_ret
    refine ⟨ret_bool ?_,BW.out⟩
    symm
    rw [decide_eq_true_iff]
    exact list_eq_of_getD (LX.out.trans LY.out.symm) default (fun k hk=>AA.out k (by rw [LX.out] at hk;exact hk))
 ·have hnm':((n:Int) != (m:Int))=true:=by rw [bne_iff_ne];omega
  go_enter Try.func92,Try.ntmps92
  go_wp2
  go_ret
  refine ⟨ret_bool ?_,Below.refl _ _⟩
  symm
  rw [decide_eq_false_iff_not]
  rintro rfl
  exact hnm (LX.out.symm.trans LY.out)
end Go.Proofs.Ytiemhbogbaamlaa
/-
 A part.
-/
namespace Go.Proofs.Ytiemhbogbaamlaa
open Go.RowKit
set_option maxRecDepth 100000 in
set_option maxHeartbeats 1000000 in
theorem rSame_any (i j:Int) (GA OA GB OB:Option Addr) (gn gc on oc hn hc pn pc:Nat) (gs hs:List Gt) (os ps:List Int) (w:World)
 (hG:Rd w w.heap.size 3 GA gn (gatesCells gs)) (hO:Rd w w.heap.size 1 OA on (ints os)) (hm1:gn≤maxLen) (hm2:on≤maxLen)
 (hH:Rd w w.heap.size 3 GB hn (gatesCells hs)) (hP:Rd w w.heap.size 1 OB pn (ints ps)) (hm3:hn≤maxLen) (hm4:pn≤maxLen):
 Calls Try.prog 12 #[.agg #[.int .i64 i,.slice GA gn gc,.slice OA on oc],.agg #[.int .i64 j,.slice GB hn hc,.slice OB pn pc]] w fun e w'=>
  e=.returned (.bool (sameC ⟨i,gs,os⟩ ⟨j,hs,ps⟩))∧Below w.heap.size w w':=by
 unfold maxLen at hm1 hm2 hm3 hm4
 have LG:Hid (gs.length=gn):=by have:=hG.1;rw [gatesCells_length] at this;show _=_;omega
 have LH:Hid (hs.length=hn):=by have:=hH.1;rw [gatesCells_length] at this;show _=_;omega
 have LO:Hid (os.length=on):=by have:=hO.1;simp at this;show _=_;omega
 have LP:Hid (ps.length=pn):=by have:=hP.1;simp at this;show _=_;omega
 have HG:=hiD hG
 have HO:=hiD hO
 have HH:=hiD hH
 have HP:=hiD hP
 clear hG hO hH hP
 by_cases hok:i=j∧gn=hn∧on=pn
 ·obtain ⟨rfl,rfl,rfl⟩:=hok
  go_enter Try.func12,Try.ntmps12
  go_wp2
  go_loopg [5] gn (fun gg s5 wr=>∃ kk:Nat,kk≤gn∧gn - kk≤gg∧s5=.int .i64 kk∧Aside (Below (w.heap.size+2) ((w.alloc (.cells #[.int .i64 i,.slice GA gn gc,.slice OA on oc] 37)).alloc (.cells #[.int .i64 i,.slice GB gn hc,.slice OB on pc] 37)) wr)∧Aside (∀ k,k < kk→gs.getD k default=hs.getD k default))
  case atStart=>exact ⟨0,Nat.zero_le _,by omega,rfl,Below.refl _ _,fun j hj=>absurd hj (Nat.not_lt_zero _)⟩
  case round=>
   obtain ⟨kk,hkk,hg,rfl,BW,AA⟩:=hrel
   have hc1:wr.cell? ⟨w.heap.size,1,none⟩=some (.slice GA gn gc):=(BW.out.cell (p:=⟨w.heap.size,1,none⟩) (by simp)).trans (by go_cell)
   have hd1:wr.cell? ⟨w.heap.size+1,1,none⟩=some (.slice GB gn hc):=(BW.out.cell (p:=⟨w.heap.size+1,1,none⟩) (by simp)).trans (by go_cell)
   have B0:Below w.heap.size w wr:=(show Below w.heap.size w _ by go_grown).trans (BW.out.mono (by omega))
   have HB0:Aside (Below w.heap.size w wr):=B0
   clear B0
   by_cases hlt:kk < gn
   ·have hltz:(kk:Int) < (gn:Int):=by omega
    obtain ⟨ad,rfl,hb,h0,h1,h2⟩:=(HG.out.below HB0.out (Nat.le_refl _)).gate hlt
    obtain ⟨ad',rfl,hb',g0,g1,g2⟩:=(HH.out.below HB0.out (Nat.le_refl _)).gate hlt
    generalize hz1:gs.getD kk default=x at h0 h1 h2
    generalize hz2:hs.getD kk default=y at g0 g1 g2
    have HE:Aside (gs.getD kk default=x∧hs.getD kk default=y):=⟨hz1,hz2⟩
    clear hz1 hz2
    have hq:=gate_neq x y
    cases hxy:!gtEq x y
    all_goals rw [hxy] at hq
    ·go_wp2_with fail
     go_quiet (fail)
     go_wp2
     go_roundg (gn - (kk+1))
     case measure=>omega
     case rel=>
      refine ⟨kk+1,by omega,by omega,by go_num,(show Below _ _ _ from below_drewN BW.out _),(show Aside _ from fun j hj=>?_)⟩
      by_cases e:j=kk
      ·subst e
       rw [HE.out.1,HE.out.2]
       exact (gtEq_iff x y).1 (by simpa using hxy)
      ·exact AA.out j (by omega)
    ·go_wp2_with fail
     go_quiet (fail)
     go_wp2
     go_ret
     refine ⟨ret_bool ?_,below_drewN HB0.out _⟩
     symm
     have hne:gs≠hs:=by
      rintro rfl
      have:=HE.out.1.symm.trans HE.out.2
      rw [(gtEq_iff x y).2 this] at hxy
      cases hxy
     simp [sameC,hne]
   ·have hltz:¬ (kk:Int) < (gn:Int):=by omega
    obtain rfl:kk=gn:=by omega
    have HGS:Aside (gs=hs):=list_eq_of_getD (LG.out.trans LH.out.symm) default (fun k hk=>AA.out k (by rw [LG.out] at hk;exact hk))
    go_wp2
    have BB0:=BW.out
    clear AA BW hc1 hd1 HB0
    go_loopg [6] on (fun gg s6 wr'=>∃ jj:Nat,jj≤on∧on - jj≤gg∧s6=.int .i64 jj∧Aside (Below (w.heap.size+2) ((w.alloc (.cells #[.int .i64 i,.slice GA kk gc,.slice OA on oc] 37)).alloc (.cells #[.int .i64 i,.slice GB kk hc,.slice OB on pc] 37)) wr')∧Aside (∀ k,k < jj→os.getD k 0=ps.getD k 0))
    case atStart=>exact ⟨0,Nat.zero_le _,by omega,rfl,BB0,fun j hj=>absurd hj (Nat.not_lt_zero _)⟩
    case round=>
     rename World=>wr2
     obtain ⟨jj,hjj,hg2,rfl,BW,A2⟩:=hrel
     clear BB0
     have hc2:wr2.cell? ⟨w.heap.size,2,none⟩=some (.slice OA on oc):=(BW.out.cell (p:=⟨w.heap.size,2,none⟩) (by simp)).trans (by go_cell)
     have hd2:wr2.cell? ⟨w.heap.size+1,2,none⟩=some (.slice OB on pc):=(BW.out.cell (p:=⟨w.heap.size+1,2,none⟩) (by simp)).trans (by go_cell)
     have B0:Below w.heap.size w wr2:=(show Below w.heap.size w _ by go_grown).trans (BW.out.mono (by omega))
     have HB0:Aside (Below w.heap.size w wr2):=B0
     clear B0
     by_cases hlt2:jj < on
     ·have hltz2:(jj:Int) < (on:Int):=by omega
      obtain ⟨ad,rfl,hb,hcell⟩:=(HO.out.below HB0.out (Nat.le_refl _)).int hlt2
      obtain ⟨ad',rfl,hb',hcell'⟩:=(HP.out.below HB0.out (Nat.le_refl _)).int hlt2
      generalize h1:os.getD jj 0=x at hcell
      generalize h2:ps.getD jj 0=y at hcell'
      have HE:Aside (os.getD jj 0=x∧ps.getD jj 0=y):=⟨h1,h2⟩
      clear h1 h2
      cases hxy:(x != y)
      ·go_wp2_with fail
       go_quiet (fail)
       go_wp2
       go_roundg (on - (jj+1))
       case measure=>omega
       case rel=>
        refine ⟨jj+1,by omega,by omega,by go_num,(show Below _ _ _ from below_drewN BW.out _),(show Aside _ from fun j hj=>?_)⟩
        by_cases e:j=jj
        ·subst e
         rw [HE.out.1,HE.out.2]
         simpa using hxy
        ·exact A2.out j (by omega)
      ·go_wp2_with fail
       go_quiet (fail)
       go_wp2
       go_ret
       refine ⟨ret_bool ?_,below_drewN HB0.out _⟩
       symm
       have hne:os≠ps:=by
        rintro rfl
        have:=HE.out.1.symm.trans HE.out.2
        simp [this] at hxy
       simp [sameC,hne]
     ·have hltz2:¬ (jj:Int) < (on:Int):=by omega
      obtain rfl:jj=on:=by omega
      go_wp2
      go_ret
      refine ⟨ret_bool ?_,HB0.out⟩
      have hos:os=ps:=list_eq_of_getD (LO.out.trans LP.out.symm) 0 (fun k hk=>A2.out k (by rw [LO.out] at hk;exact hk))
      simp [sameC,HGS.out,hos]
 ·have HK:Aside (sameC ⟨i,gs,os⟩ ⟨j,hs,ps⟩=false):=by
   show _=_
   rw [Bool.eq_false_iff]
   intro hh
   simp only [sameC,Bool.and_eq_true,beq_iff_eq,decide_eq_true_eq] at hh
   obtain ⟨rfl,rfl,rfl⟩:=hh
   exact hok ⟨rfl,LG.out.symm.trans LH.out,LO.out.symm.trans LP.out⟩
  have hok':¬ ((i=j∧(gn:Int)=hn)∧(on:Int)=pn):=by omega
  clear hok
  go_enter Try.func12,Try.ntmps12
  go_wp2
  go_ways
  all_goals first
   | (go_ret;rw [HK.out];exact ⟨rfl,by go_grown⟩)
   | (exfalso;go_light;simp only [bne_iff_ne,bne_eq_false_iff_eq,ne_eq] at *;omega)
end Go.Proofs.Ytiemhbogbaamlaa
/-
 A part.
-/
namespace Go.Proofs.Ytiemhbogbaamlaa
open Go.RowKit
set_option maxHeartbeats 400000 in
theorem same_any (i j:Int) (GA OA GB OB:Option Addr) (gn gc on oc hn hc pn pc:Nat) (gs hs:List Gt) (os ps:List Int) (w:World)
 (hG:Rd w w.heap.size 3 GA gn (gatesCells gs)) (hO:Rd w w.heap.size 1 OA on (ints os)) (hm1:gn≤maxLen) (hm2:on≤maxLen)
 (hH:Rd w w.heap.size 3 GB hn (gatesCells hs)) (hP:Rd w w.heap.size 1 OB pn (ints ps)) (hm3:hn≤maxLen) (hm4:pn≤maxLen):
 Calls Try.prog 58 #[.agg #[.int .i64 i,.slice GA gn gc,.slice OA on oc],.agg #[.int .i64 j,.slice GB hn hc,.slice OB pn pc]] w fun e w'=>
  e=.returned (.bool (sameC ⟨i,gs,os⟩ ⟨j,hs,ps⟩))∧Below w.heap.size w w':=by
 have HG:=hiD hG
 have HO:=hiD hO
 have HH:=hiD hH
 have HP:=hiD hP
 clear hG hO hH hP
 cases hij:(i == j)
 ·have HK:Aside (sameC ⟨i,gs,os⟩ ⟨j,hs,ps⟩=false):=by show _=_;simp [sameC,hij]
  go_enter Try.func58,Try.ntmps58
  go_wp2
  go_ret
  rw [HK.out]
  exact ⟨rfl,by go_grown⟩
 ·have HK:Aside (sameC ⟨i,gs,os⟩ ⟨j,hs,ps⟩=(decide (gs=hs) && decide (os=ps))):=by show _=_;simp [sameC,hij]
  go_enter Try.func58,Try.ntmps58
  go_wp2_with fail
  refine (equal_gates GA GB gn hn gc hc gs hs _ (HG.out.up (by go_grown)) (HH.out.up (by go_grown)) hm1 hm3).mono ?_
  rintro e w1 ⟨rfl,hb⟩
  have B1:Below w.heap.size w w1:=(show Below w.heap.size w _ by go_grown).trans (hb.mono (by simp;omega))
  cases hgs:decide (gs=hs)
  ·rw [hgs] at HK
   go_wp2
   go_ret
   rw [HK.out]
   exact ⟨rfl,B1⟩
  ·rw [hgs] at HK
   have c2:w1.cell? ⟨w.heap.size,2,none⟩=some (.slice OA on oc):=(hb.cell (p:=⟨w.heap.size,2,none⟩) (by simp;omega)).trans (by go_cell)
   have c3:w1.cell? ⟨w.heap.size+1,2,none⟩=some (.slice OB pn pc):=(hb.cell (p:=⟨w.heap.size+1,2,none⟩) (by simp)).trans (by go_cell)
   go_wp2_with fail
   refine (equal_ints OA OB on pn oc pc os ps _ (HO.out.up B1) (HP.out.up B1) hm2 hm4).mono ?_
   rintro e w2 ⟨rfl,hb2⟩
   go_wp2
   go_ret
   rw [HK.out]
   exact ⟨rfl,B1.trans (hb2.mono B1.size)⟩
end Go.Proofs.Ytiemhbogbaamlaa
/-
 A part.
-/
namespace Go.Proofs.Ytiemhbogbaamlaa
open Go.RowKit
def NotIn (A:Option Addr) (n b:Nat):Prop:=∀ ad,A=some ad→0 < n→ad.block≠b
theorem same_at (c d:Circ) (GA OA GB OB:Option Addr) (gn gc on oc hn hc pn pc:Nat) (w:World) (h:CAt w c GA OA gn on) (k:CAt w d GB OB hn pn):
 Calls Try.prog 58 #[.agg #[.int .i64 c.inputs,.slice GA gn gc,.slice OA on oc],.agg #[.int .i64 d.inputs,.slice GB hn hc,.slice OB pn pc]] w fun e w'=>e=.returned (.bool (sameC c d))∧Below w.heap.size w w':=
 same_any c.inputs d.inputs GA OA GB OB gn gc on oc hn hc pn pc c.gates d.gates c.outs d.outs w h.gates h.outs h.g63 h.o63 k.gates k.outs k.g63 k.o63
def OldNew (A:Option Addr) (n:Nat) (GA:Option Addr) (gn lo:Nat):Prop:=∀ ad,A=some ad→0 < n→(∃ ad',GA=some ad'∧0 < gn∧ad'.block=ad.block)∨lo+2≤ad.block
theorem OldNew.self (A:Option Addr) (n lo:Nat):OldNew A n A n lo:=fun ad e hn=>.inl ⟨ad,e,hn,rfl⟩
theorem OldNew.notIn {A GA:Option Addr} {n gn lo b:Nat} (h:OldNew A n GA gn lo) (hg:NotIn GA gn b) (hb:b < lo+2):NotIn A n b:=fun ad e hn=>by
 rcases h ad e hn with ⟨ad',e',hn',e2⟩ | h2
 ·rw [← e2];exact hg ad' e' hn'
 ·omega
set_option maxRecDepth 100000 in
set_option maxHeartbeats 8000000 in
theorem allF_any (c:Circ) (GA OA:Option Addr) (gn gc on oc:Nat) (w:World) (hc:CAt w c GA OA gn on):
 Calls Try.prog 31 #[.agg #[.int .i64 c.inputs,.slice GA gn gc,.slice OA on oc]] w fun e w'=>∃ A B n k m j,e=.returned (.agg #[.int .i64 (allC c).inputs,.slice A n k,.slice B m j])∧CAt w' (allC c) A B n m∧OldNew A n GA gn w.heap.size∧OldNew B m OA on w.heap.size∧Below w.heap.size w w':=by
 have HC0:=hiD hc
 clear hc
 go_enter Try.func31,Try.ntmps31
 go_wp2_with fail
 obtain ⟨wa,hW9,RC,RR,hgr9⟩:=laid2 w [.int .i64 c.inputs,.slice GA gn gc,.slice OA on oc] 37 [.int .i64 0,.slice none 0 0,.slice none 0 0] 37
 rewrite [hW9]
 clear hW9
 have B_w:=hiD hgr9
 clear hgr9
 have hwa:w.heap.size+1 < wa.heap.size:=RR.out.lt
 obtain ⟨q,hq⟩:∃ q,rightC c=q:=⟨_,rfl⟩
 have HQ:=hiU hq
 have HC:=cright_at c GA OA gn gc on oc wa (HC0.out.up B_w.out)
 rw [hq] at HC
 clear hq
 refine HC.mono ?_
 clear HC
 rintro e w1 ⟨rfl,hb⟩
 have B_w:=hiD (below_on2 B_w.out hb)
 have B_wa:=hiD hb
 clear hb
 have RR1:=hiD (rowCells RR.out B_wa.out)
 have RC1:=hiD (rowCells RC.out B_wa.out)
 have BW1:=hiD B_w
 clear B_w B_wa RC RR
 cases q
 ·skip
  obtain ⟨z0,z1,z2,zl⟩:=RR1.out.cells3
  obtain ⟨zf0,zf1,zf2⟩:=RR1.out.froz3
  go_wp2
  have Z9:=RR1.out.set3 (.int .i64 0) (.slice none 0 0) (.slice none 0 0)
  have B9:=bSet3 BW1.out (w.heap.size+1) (by show _≤(w.heap.size+1);omega) (.int .i64 0) (.slice none 0 0) (.slice none 0 0)
  obtain ⟨d0,d1,d2,-⟩:=Z9.cells3
  clear Z9
  refine bodyPost_ret (v:=.agg #[.int .i64 0,.slice none 0 0,.slice none 0 0]) (by simp [results,Try.results31,go_sem,d0,d1,d2]) rfl ?_
  have HV:allC c=noCirc:=by unfold allC;rw [if_neg (by rw [HQ.out ()];decide)]
  rw [HV]
  exact ⟨none,none,0,0,0,0,rfl,noCirc_at _,fun ad e=>(by cases e),fun ad e=>(by cases e),B9⟩
 ·have HR:Hid (rightC c=true):=HQ.out ()
  have HV:Hid (∀ _:Unit,allC c=iterC (measC c) c):=fun _=>by rw [allC,if_pos HR.out]
  clear HQ
  go_wp2_with fail
  go_loopg [3] (measC c) (fun gg _ wr=>∃ (m:Nat) (d:Circ) (DA EA:Option Addr) (dn dc en ec:Nat),m≤gg∧w.heap.size+1 < wr.heap.size∧Aside (rightC d=true∧measC d≤m)∧Aside (∀ _:Unit,allC c=iterC m d)∧Aside (CAt wr d DA EA dn en)∧Aside (OldNew DA dn GA gn w.heap.size)∧Aside (OldNew EA en OA on w.heap.size)∧Aside (Below w.heap.size w wr)∧Aside (Row wr w.heap.size 37 [.int .i64 d.inputs,.slice DA dn dc,.slice EA en ec])∧Aside (Row wr (w.heap.size+1) 37 [.int .i64 0,.slice none 0 0,.slice none 0 0]))
  case atStart=>
   exact ⟨measC c,c,GA,OA,gn,gc,on,oc,Nat.le_refl _,RR1.out.lt,⟨HR.out,Nat.le_refl _⟩,HV.out,HC0.out.up BW1.out,OldNew.self _ _ _,OldNew.self _ _ _,BW1.out,RC1.out,RR1.out⟩
  case round=>
   clear RC1 RR1 BW1
   obtain ⟨m,d,DA,EA,dn,dc,en,ec,hgg,hsz,HD,HIT,HCD,HN1,HN2,BW,RC,RR⟩:=hrel
   obtain ⟨k0,k1,k2,kl⟩:=RC.out.cells3
   go_wp2_with fail
   clear k0 k1 k2 kl
   refine (fold_any d DA EA dn dc en ec wr HCD.out).mono ?_
   rintro e w2 ⟨FA,FB,FAn,FAc,FBn,FBc,he,hca,hf1,hf2,hb⟩
   have he2:e=.returned (.agg #[.int .i64 (foldC d).inputs,.slice FA FAn FAc,.slice FB FBn FBc]):=he
   subst he2
   clear he
   have HFA:=hiD hca
   have FFA:=hiD hf1
   have FFB:=hiD hf2
   have hsz_w2:wr.heap.size≤w2.heap.size:=hb.size
   clear hca hf1 hf2
   have B_wr:=hiD hb
   clear hb
   go_wp2_with fail
   refine (share_any (foldC d) FA FB FAn FAc FBn FBc w2 HFA.out).mono ?_
   rintro e w3 ⟨SA,SB,SAn,SAc,SBn,SBc,he,hca,hf1,hf2,hb⟩
   have he2:e=.returned (.agg #[.int .i64 (shareC (foldC d)).inputs,.slice SA SAn SAc,.slice SB SBn SBc]):=he
   subst he2
   clear he
   have HSA:=hiD hca
   have FSA:=hiD hf1
   have FSB:=hiD hf2
   have hsz_w3:w2.heap.size≤w3.heap.size:=hb.size
   clear hca hf1 hf2
   have B_wr:=hiD (below_on2 B_wr.out hb)
   have B_w2:=hiD hb
   clear hb
   go_wp2_with fail
   refine (trim_any (shareC (foldC d)) SA SB SAn SAc SBn SBc w3 HSA.out).mono ?_
   rintro e w4 ⟨TA,TB,TAn,TAc,TBn,TBc,he,hca,hf1,hf2,hb⟩
   have he2:e=.returned (.agg #[.int .i64 (trimC (shareC (foldC d))).inputs,.slice TA TAn TAc,.slice TB TBn TBc]):=he
   subst he2
   clear he
   have HTA:=hiD hca
   have FTA:=hiD hf1
   have FTB:=hiD hf2
   have hsz_w4:w3.heap.size≤w4.heap.size:=hb.size
   clear hca hf1 hf2
   have B_wr:=hiD (below_on2 B_wr.out hb)
   have B_w3:=hiD hb
   clear hb
   have HTA:=hiD HTA
   have HIN:Hid (∀ _:Unit,(trimC (shareC (foldC d))).inputs=(oneC d).inputs):=fun _=>rfl
   rw [HIN.out ()]
   have BW4:=hiD (below_on2 BW.out B_wr.out)
   have RC4:=hiD (rowCells RC.out B_wr.out)
   have RR4:=hiD (rowCells RR.out B_wr.out)
   have HCD4:Hid (CAt w4 d DA EA dn en):=HCD.out.up B_wr.out
   have hs4:w.heap.size+1 < w4.heap.size:=RR4.out.lt
   have hwr3:wr.heap.size≤w3.heap.size:=by omega
   clear B_wr B_w2 B_w3 RC RR BW HCD HFA FFA FFB HSA FSA FSB HIN
   obtain ⟨q,HQ⟩:=naM (sameC (oneC d) d)
   have HI2:Hid (∀ _:Unit,(oneC d).inputs=(oneC d).inputs):=fun _=>rfl
   go_upto_region 4 with fail
   have RT5:Hid (Row (World.alloc w4 (.cells #[.int .i64 (oneC d).inputs,.slice TA TAn TAc,.slice TB TBn TBc] 37)) w4.heap.size 37 [.int .i64 (oneC d).inputs,.slice TA TAn TAc,.slice TB TBn TBc]):=Row.new w4 37 [.int .i64 (oneC d).inputs,.slice TA TAn TAc,.slice TB TBn TBc]
   have HCD5:Hid (CAt (World.alloc w4 (.cells #[.int .i64 (oneC d).inputs,.slice TA TAn TAc,.slice TB TBn TBc] 37)) d DA EA dn en):=HCD4.out.up ((Below.refl _ _).alloc (Nat.le_refl _) _)
   have HT5:Hid (CAt (World.alloc w4 (.cells #[.int .i64 (oneC d).inputs,.slice TA TAn TAc,.slice TB TBn TBc] 37)) (oneC d) TA TB TAn TBn):=HTA.out.up ((Below.refl _ _).alloc (Nat.le_refl _) _)
   have RC5:Hid (Row (World.alloc w4 (.cells #[.int .i64 (oneC d).inputs,.slice TA TAn TAc,.slice TB TBn TBc] 37)) w.heap.size 37 [.int .i64 d.inputs,.slice DA dn dc,.slice EA en ec]):=RC4.out.alloc _
   have RR5:Hid (Row (World.alloc w4 (.cells #[.int .i64 (oneC d).inputs,.slice TA TAn TAc,.slice TB TBn TBc] 37)) (w.heap.size+1) 37 [.int .i64 0,.slice none 0 0,.slice none 0 0]):=RR4.out.alloc _
   have BW5:Hid (Below w.heap.size w (World.alloc w4 (.cells #[.int .i64 (oneC d).inputs,.slice TA TAn TAc,.slice TB TBn TBc] 37))):=BW4.out.alloc BW4.out.size _
   clear RC4 RR4 BW4 HCD4 HTA
   revert RT5 HCD5 HT5 RC5 RR5 BW5
   generalize (World.alloc w4 (.cells #[.int .i64 (oneC d).inputs,.slice TA TAn TAc,.slice TB TBn TBc] 37))=w5
   intro RT5 HCD5 HT5 RC5 RR5 BW5
   obtain ⟨t0,t1,t2,tl⟩:=RT5.out.cells3
   obtain ⟨k0,k1,k2,kl⟩:=RC5.out.cells3
   go_wp2_with fail
   clear t0 t1 t2 tl k0 k1 k2 kl
   have HC:=same_at (oneC d) d TA TB DA EA TAn TAc TBn TBc dn dc en ec w5 HT5.out HCD5.out
   rw [HQ.out ()] at HC
   refine HC.mono ?_
   clear HC
   rintro e w6 ⟨rfl,hb⟩
   have RT6:=hiD (rowCells RT5.out hb)
   have HCD6:Hid (CAt w6 d DA EA dn en):=HCD5.out.up hb
   have HT6:Hid (CAt w6 (oneC d) TA TB TAn TBn):=HT5.out.up hb
   have RC6:=hiD (rowCells RC5.out hb)
   have RR6:=hiD (rowCells RR5.out hb)
   have BW6:=hiD (below_on2 BW5.out hb)
   have hs6:w.heap.size+1 < w6.heap.size:=RR6.out.lt
   clear hb RT5 HCD5 HT5 RC5 RR5 BW5
   cases q
   ·obtain ⟨hrd,hmd⟩:=HD.out
    obtain ⟨m',hm1,hm2,hm3⟩:=iter_go hrd hmd (HQ.out ())
    have HIT2:Hid (∀ _:Unit,allC c=iterC m' (oneC d)):=fun _=>by rw [HIT.out (),hm3]
    have HD2:Hid (rightC (oneC d)=true∧measC (oneC d)≤m'):=⟨one_right hrd,hm2⟩
    clear hrd hmd hm2 hm3
    obtain ⟨t0,t1,t2,tl⟩:=RT6.out.cells3
    obtain ⟨k0,k1,k2,kl⟩:=RC6.out.cells3
    obtain ⟨kf0,kf1,kf2⟩:=RC6.out.froz3
    go_wp2_with fail
    go_roundg m'
    case measure=>omega
    case rel=>exact ⟨m',oneC d,TA,TB,TAn,TAc,TBn,TBc,Nat.le_refl _,by simp only [World.size_setCell];exact hs6,HD2.out,HIT2.out,(CAt.farSet (CAt.farSet (CAt.farSet HT6.out (p:=⟨w.heap.size,0,none⟩) (FTA.out.ne (by show w.heap.size < _;omega)) (FTB.out.ne (by show w.heap.size < _;omega)) (.int .i64 (oneC d).inputs)) (p:=⟨w.heap.size,1,none⟩) (FTA.out.ne (by show w.heap.size < _;omega)) (FTB.out.ne (by show w.heap.size < _;omega)) (.slice TA TAn TAc)) (p:=⟨w.heap.size,2,none⟩) (FTA.out.ne (by show w.heap.size < _;omega)) (FTB.out.ne (by show w.heap.size < _;omega)) (.slice TB TBn TBc)),fun ad e hn=>.inr (Nat.le_trans (by omega) (FTA.out ad e hn)),fun ad e hn=>.inr (Nat.le_trans (by omega) (FTB.out ad e hn)),(Below.setCell (Below.setCell (Below.setCell BW6.out (p:=⟨w.heap.size,0,none⟩) (Nat.le_refl _) (.int .i64 (oneC d).inputs)) (p:=⟨w.heap.size,1,none⟩) (Nat.le_refl _) (.slice TA TAn TAc)) (p:=⟨w.heap.size,2,none⟩) (Nat.le_refl _) (.slice TB TBn TBc)),(Row.set (Row.set (Row.set RC6.out 0 (.int .i64 (oneC d).inputs)) 1 (.slice TA TAn TAc)) 2 (.slice TB TBn TBc)),(Row.far (Row.far (Row.far RR6.out (p:=⟨w.heap.size,0,none⟩) (by show (w.heap.size+1)≠w.heap.size;omega) (.int .i64 (oneC d).inputs)) (p:=⟨w.heap.size,1,none⟩) (by show (w.heap.size+1)≠w.heap.size;omega) (.slice TA TAn TAc)) (p:=⟨w.heap.size,2,none⟩) (by show (w.heap.size+1)≠w.heap.size;omega) (.slice TB TBn TBc))⟩
   ·have HV2:Hid (∀ _:Unit,allC c=d):=fun _=>by rw [HIT.out (),iter_stop (HQ.out ())]
    clear HIT HD HV
    obtain ⟨k0,k1,k2,kl⟩:=RC6.out.cells3
    obtain ⟨z0,z1,z2,zl⟩:=RR6.out.cells3
    obtain ⟨zf0,zf1,zf2⟩:=RR6.out.froz3
    go_wp2
    have Z9:=RR6.out.set3 (.int .i64 d.inputs) (.slice DA dn dc) (.slice EA en ec)
    have B9:=bSet3 BW6.out (w.heap.size+1) (by show _≤(w.heap.size+1);omega) (.int .i64 d.inputs) (.slice DA dn dc) (.slice EA en ec)
    obtain ⟨d0,d1,d2,-⟩:=Z9.cells3
    clear Z9
    refine bodyPost_ret (v:=.agg #[.int .i64 d.inputs,.slice DA dn dc,.slice EA en ec]) (by simp [results,Try.results31,go_sem,d0,d1,d2]) rfl ?_
    have HE:allC c=d:=HV2.out ()
    rw [HE]
    exact ⟨DA,EA,dn,dc,en,ec,rfl,(CAt.farSet (CAt.farSet (CAt.farSet HCD6.out (p:=⟨(w.heap.size+1),0,none⟩) (HN1.out.notIn (HC0.out.gates.low (Nat.le_succ _)) (Nat.lt_succ_self (w.heap.size+1))) (HN2.out.notIn (HC0.out.outs.low (Nat.le_succ _)) (Nat.lt_succ_self (w.heap.size+1))) (.int .i64 d.inputs)) (p:=⟨(w.heap.size+1),1,none⟩) (HN1.out.notIn (HC0.out.gates.low (Nat.le_succ _)) (Nat.lt_succ_self (w.heap.size+1))) (HN2.out.notIn (HC0.out.outs.low (Nat.le_succ _)) (Nat.lt_succ_self (w.heap.size+1))) (.slice DA dn dc)) (p:=⟨(w.heap.size+1),2,none⟩) (HN1.out.notIn (HC0.out.gates.low (Nat.le_succ _)) (Nat.lt_succ_self (w.heap.size+1))) (HN2.out.notIn (HC0.out.outs.low (Nat.le_succ _)) (Nat.lt_succ_self (w.heap.size+1))) (.slice EA en ec)),HN1.out,HN2.out,B9⟩
theorem all_any (c:Circ) (GA OA:Option Addr) (gn gc on oc:Nat) (w:World) (hc:CAt w c GA OA gn on):
 Calls Try.prog 31 #[.agg #[.int .i64 c.inputs,.slice GA gn gc,.slice OA on oc]] w (CiPost (allC c) 0 w):=
 (allF_any c GA OA gn gc on oc w hc).mono fun e w' ⟨A,B,n,k,m,j,he,h1,h2,h3,h4⟩=>⟨A,B,n,k,m,j,he,h1,fun _ _ _=>Nat.zero_le _,fun _ _ _=>Nat.zero_le _,h4⟩
end Go.Proofs.Ytiemhbogbaamlaa
/-
 A part.
-/
namespace Go.Proofs.Ytiemhbogbaamlaa
open Go.RowKit
def cmpI (a b:Int):Int:=if a < b then -1 else if b < a then 1 else 0
theorem cmpI_cases (a b:Int):cmpI a b=-1∧a < b∨cmpI a b=1∧b < a∨cmpI a b=0∧a=b:=by unfold cmpI;split <;> (try split) <;> omega
set_option maxHeartbeats 400000 in
theorem isNaN_any (x:Int) (w:World):Calls Try.prog 114 #[.int .i64 x] w fun e w'=>e=.returned (.bool false)∧w=w':=by
 go_enter Try.func114,Try.ntmps114
 go_wp2
 go_ret
 exact ⟨ret_bool (by simp),rfl⟩
set_option maxHeartbeats 400000 in
theorem cmpCompare_any (a b:Int) (w:World):Calls Try.prog 112 #[.int .i64 a,.int .i64 b] w fun e w'=>e=.returned (.int .i64 (cmpI a b))∧w=w':=by
 go_enter Try.func112,Try.ntmps112
 go_wp2_with fail
 refine (isNaN_any a _).mono ?_
 rintro e w1 ⟨rfl,rfl⟩
 go_wp2_with fail
 refine (isNaN_any b _).mono ?_
 rintro e w1 ⟨rfl,rfl⟩
 go_wp2
 all_goals go_ret
 all_goals refine ⟨ret_i64 ?_,rfl⟩
 all_goals (unfold cmpI;split <;> (try split) <;> omega)
set_option maxHeartbeats 400000 in
theorem cmpOr_any (A:Option Addr) (c:Nat) (a b:Int) (w:World) (h:Rd w w.heap.size 1 A 2 (ints [a,b])):Calls Try.prog 111 #[.slice A 2 c] w fun e w'=>e=.returned (.int .i64 (if a≠0 then a else b))∧w=w':=by
 obtain ⟨ad,rfl,hb,h0⟩:=h.int (k:=0) (by omega)
 obtain ⟨ad',e',hb',h1⟩:=h.int (k:=1) (by omega)
 cases e'
 simp only [List.getD_cons_zero,List.getD_cons_succ] at h0 h1
 have H0:=hiD h0
 have H1:=hiD h1
 clear h0 h1 h
 go_enter Try.func111,Try.ntmps111
 go_wp2
 go_loopg [5,8] 2 (fun gg _ s8 wr=>∃ kk:Nat,kk≤2∧2 - kk≤gg∧s8=.int .i64 kk∧wr=w∧Aside (0 < kk→a=0)∧Aside (1 < kk→b=0))
 case atStart=>exact ⟨0,by omega,by omega,rfl,rfl,fun h=>absurd h (by omega),fun h=>absurd h (by omega)⟩
 case round=>
  obtain ⟨kk,hkk,hg,rfl,rfl,A0,A1⟩:=hrel
  have hc:kk=0∨kk=1∨kk=2:=by omega
  rcases hc with rfl | rfl | rfl
  ·have h0:wr.cell? ad=some (.int .i64 a):=H0.out
   by_cases hz:a=0
   ·subst hz
    go_wp2
    go_roundg 1
    case measure=>omega
    case rel=>exact ⟨1,by omega,by omega,by go_num,rfl,(by first | exact trivial | exact fun _=>trivial | exact fun _=>rfl),(show Aside _ from fun h=>absurd h (by omega))⟩
   ·have hz':(a != 0)=true:=by simpa using hz
    go_wp2
    go_ret
    exact ⟨ret_i64 (by simp [hz]),rfl⟩
  ·have h1:wr.cell? ⟨ad.block,ad.off+1,none⟩=some (.int .i64 b):=H1.out
   have ha:=A0.out (by omega)
   by_cases hz:b=0
   ·subst hz
    go_wp2
    go_roundg 0
    case measure=>omega
    case rel=>exact ⟨2,by omega,by omega,by go_num,rfl,(show Aside _ from fun _=>ha),(by first | exact trivial | exact fun _=>trivial | exact fun _=>rfl)⟩
   ·have hz':(b != 0)=true:=by simpa using hz
    have HA:=hiD ha
    clear ha
    go_wp2
    go_ret
    exact ⟨ret_i64 (by have h1:=HA.out;simp [h1]),rfl⟩
  ·have HA:Hid (a=0):=A0.out (by omega)
   have HB:Hid (b=0):=A1.out (by omega)
   go_wp2
   go_ret
   exact ⟨ret_i64 (by have h1:=HA.out;have h2:=HB.out;simp [h1,h2]),rfl⟩
set_option maxRecDepth 100000 in
set_option maxHeartbeats 1000000 in
theorem pointCompare_any (a b c d:Int) (w:World):Calls Try.prog 104 #[.agg #[.int .i64 a,.int .i64 b],.agg #[.int .i64 c,.int .i64 d]] w fun e w'=>e=.returned (.int .i64 (if cmpI b d≠0 then cmpI b d else cmpI a c))∧Below w.heap.size w w':=by
 generalize hp:cmpI b d=p
 generalize hq:cmpI a c=q
 have HP:=hiD hp
 have HQ:=hiD hq
 clear hp hq
 generalize hr:(if p≠0 then p else q)=r
 have HR:=hiD hr
 clear hr
 go_enter Try.func104,Try.ntmps104
 go_wp2_with fail
 have RA:Hid (Row (World.alloc (World.alloc w _) _) w.heap.size 73 [.int .i64 a,.int .i64 b]):=(Row.new w 73 [.int .i64 a,.int .i64 b]).alloc (.cells #[.int .i64 c,.int .i64 d] 73)
 have RB:Hid (Row (World.alloc (World.alloc w (.cells #[.int .i64 a,.int .i64 b] 73)) _) (w.heap.size+1) 73 [.int .i64 c,.int .i64 d]):=rowNew1 w _ 73 [.int .i64 c,.int .i64 d]
 have HB:Hid (Below w.heap.size w (World.alloc (World.alloc w (.cells #[.int .i64 a,.int .i64 b] 73)) (.cells #[.int .i64 c,.int .i64 d] 73))):=by show Below _ _ _;go_grown
 revert RA RB HB
 generalize World.alloc (World.alloc w (.cells #[.int .i64 a,.int .i64 b] 73)) (.cells #[.int .i64 c,.int .i64 d] 73)=w1
 intro RA RB HB
 have HS:∀ w',Below w1.heap.size w1 w'→w'.cell? ⟨w.heap.size,0,none⟩=some (.int .i64 a)∧w'.cell? ⟨w.heap.size,1,none⟩=some (.int .i64 b)∧w'.cell? ⟨w.heap.size+1,0,none⟩=some (.int .i64 c)∧w'.cell? ⟨w.heap.size+1,1,none⟩=some (.int .i64 d):=fun w' hw=>⟨(rowCells RA.out hw).cell 0,(rowCells RA.out hw).cell 1,(rowCells RB.out hw).cell 0,(rowCells RB.out hw).cell 1⟩
 have HN:Hid (Below w1.heap.size w1 w1):=Below.refl _ _
 clear RA RB
 go_region_held3 (fun w'=>w'.cell? ⟨w.heap.size,0,none⟩=some (.int .i64 a)∧w'.cell? ⟨w.heap.size,1,none⟩=some (.int .i64 b)∧w'.cell? ⟨w.heap.size+1,0,none⟩=some (.int .i64 c)∧w'.cell? ⟨w.heap.size+1,1,none⟩=some (.int .i64 d)) (exact HS _ (by first | exact below_on2 HN.out (by go_grown) | go_grown)) (first
  | (go_at_call_of 112 (Value.int .i64 b)
     refine (cmpCompare_any b d _).mono ?_
     rw [HP.out]
     rintro e w7 ⟨rfl,rfl⟩)
  | (go_at_call 112
     refine (cmpCompare_any a c _).mono ?_
     rw [HQ.out]
     rintro e w7 ⟨rfl,rfl⟩)
  | (go_at_call 111
     refine (cmpOr_any _ _ p q _ (by first | exact ((Row.new w1 3 (ints [p,q])).drew).rd rfl | exact (Row.new w1 3 (ints [p,q])).rd rfl | exact ((Row.new w1 3 (ints [p,q])).drewN _).rd rfl)).mono ?_
     rw [HR.out]
     rintro e w7 ⟨rfl,rfl⟩))
 all_goals
  go_wp2
  go_ret
  exact ⟨rfl,below_on2 HB.out (by go_grown)⟩
end Go.Proofs.Ytiemhbogbaamlaa
/-
 A part.
-/
namespace Go.Proofs.Ytiemhbogbaamlaa
open Go.RowKit
set_option maxHeartbeats 400000 in
theorem lBits_any (x:Int) (w:World):Calls Try.prog 50 #[.int .i64 x] w fun e w'=>e=.returned (.int .i64 (bitsF x))∧w=w':=by
 have hb:Hid (x=2∨x=3∨x=4∨(x≠2∧x≠3∧x≠4)):=by show _∨_;omega
 rcases hb.out with rfl | rfl | rfl | h
 ·go_enter Try.func50,Try.ntmps50
  go_wp2
  go_ret
  exact ⟨rfl,rfl⟩
 ·go_enter Try.func50,Try.ntmps50
  go_wp2
  go_ret
  exact ⟨rfl,rfl⟩
 ·go_enter Try.func50,Try.ntmps50
  go_wp2
  go_ret
  exact ⟨rfl,rfl⟩
 ·have h2:(x == 2)=false:=by simpa using h.1
  have h3:(x == 3)=false:=by simpa using h.2.1
  have h4:(x == 4)=false:=by simpa using h.2.2
  have HX:=hiD h
  clear h hb
  go_enter Try.func50,Try.ntmps50
  go_wp2
  all_goals go_ret
  all_goals refine ⟨ret_i64 ?_,rfl⟩
  all_goals
   have:=HX.out
   unfold bitsF
   rw [if_neg (by omega),if_neg (by omega)]
   first
    | rw [if_pos (by omega)];rfl
    | rw [if_neg (by omega)];rfl
set_option maxHeartbeats 400000 in
theorem rBits_any (x:Int) (w:World):Calls Try.prog 25 #[.int .i64 x] w fun e w'=>e=.returned (.int .i64 (bitsF x))∧w=w':=by
 have hb:Hid (x=2∨x=3∨x=4∨(x≠2∧x≠3∧x≠4)):=by show _∨_;omega
 rcases hb.out with rfl | rfl | rfl | h
 ·go_enter Try.func25,Try.ntmps25
  go_wp2
  go_ret
  exact ⟨rfl,rfl⟩
 ·go_enter Try.func25,Try.ntmps25
  go_wp2
  go_ret
  exact ⟨rfl,rfl⟩
 ·go_enter Try.func25,Try.ntmps25
  go_wp2
  go_ret
  exact ⟨rfl,rfl⟩
 ·have h2:(x == 2)=false:=by simpa using h.1
  have h3:(x == 3)=false:=by simpa using h.2.1
  have h4:(x == 4)=false:=by simpa using h.2.2
  have HX:=hiD h
  clear h hb
  go_enter Try.func25,Try.ntmps25
  go_wp2
  all_goals go_ret
  all_goals refine ⟨ret_i64 ?_,rfl⟩
  all_goals
   have:=HX.out
   unfold bitsF
   rw [if_neg (by omega),if_neg (by omega)]
   first
    | rw [if_pos (by omega)];rfl
    | rw [if_neg (by omega)];rfl
theorem bit_and (v:Int) (h0:0≤v) (h1:v≤7):bits BinOp.and IntKind.i64 v 1=v % 2:=by
 have:v=0∨v=1∨v=2∨v=3∨v=4∨v=5∨v=6∨v=7:=by omega
 rcases this with rfl | rfl | rfl | rfl | rfl | rfl | rfl | rfl <;> decide
theorem bit_run (x:Int) (k:Nat) (h0:0≤x) (h1:x≤7):bits BinOp.and IntKind.i64 (x / 2 ^ k) 1=x / 2 ^ k % 2:=by
 have hp:(0:Int) < 2 ^ k:=Int.pow_pos (by omega)
 have h2:x / 2 ^ k≤x:=Int.ediv_le_self _ h0
 have h3:0≤x / 2 ^ k:=Int.ediv_nonneg h0 (by omega)
 exact bit_and _ h3 (by omega)
theorem bit_cases (x:Int) (k:Nat):x / 2 ^ k % 2=if bitI x k=true then 1 else 0:=by
 unfold bitI
 split <;> simp_all <;> omega
set_option maxHeartbeats 400000 in
theorem rBit_any (x:Int) (k:Nat) (w:World) (h0:0≤x) (h1:x≤7) (hk:k≤10):Calls Try.prog 60 #[.int .i64 x,.int .i64 k] w fun e w'=>e=.returned (.bool (bitI x k))∧w=w':=by
 go_enter Try.func60,Try.ntmps60
 go_wp2
 go_ret
 refine ⟨ret_bool ?_,rfl⟩
 rw [bit_run x k h0 h1];rfl
end Go.Proofs.Ytiemhbogbaamlaa
