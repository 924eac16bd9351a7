/-
  Lemmas for the law TopCircuits.
-/
import Derived.Test.YtbijfnbelkbofaaGreatDoorJZ24
import Derived.Test.YtbijfnbelkbofaaGreatDoorJZ31
import Derived.Test.YtbijfnbelkbofaaGreatDoorJZ32
import Derived.Test.YtbijfnbelkbofaaGreatDoorJZ30
set_option linter.unusedSimpArgs false
set_option linter.unusedVariables false
namespace Go.Proofs.YtbijfnbelkbofaaGreatDoor
open Go.RowKit Go.Maps
theorem letter_small {l:List Pt} (h:letterB l=true):l.length≤9:=by
 unfold letterB at h;simp only [Bool.or_eq_true,decide_eq_true_eq] at h;rcases h with (rfl | rfl) | rfl
 ·exact moore_len
 ·exact neum_len
 ·exact hex_len
theorem rightTot_facts {x:Tot} {n:Int} (h:rightTot x n=true):letterB x.hood=true∧2≤x.states∧x.states≤8:=by
 unfold rightTot at h;simp only [Bool.and_eq_true,decide_eq_true_eq] at h;exact ⟨h.1.1.1.1,h.1.1.1.2,h.1.1.2⟩
set_option maxRecDepth 100000 in
set_option maxHeartbeats 4000000 in
theorem totals_any (x : Tot) (HA BA SA : Option Addr) (hn hc bn bc sn sc : Nat) (w : World) (hT : TotAt w x HA BA SA hn bn sn) (htab : Lib.TabBelow Tryz.prog w.heap.size w "internal/strconv.uint64pow10" .u64 Lib.pow10Tab) :
 Calls Tryz.prog 18 #[.agg #[.slice HA hn hc,.int .i64 x.states,.slice BA bn bc,.slice SA sn sc]] w (TrB w):=by
 obtain ⟨hood,states,birth,survive⟩:=x;have HT:=hiD hT;have HTB:=hiD htab;have HCR:=hiD (fun W h=>rightTot_any ⟨hood,states,birth,survive⟩ HA BA SA hn hc bn bc sn sc W h);dsimp only at HCR;dsimp only;clear hT htab;go_enter Tryz.func18,Tryz.ntmps18;go_upto_region 1 with fail;obtain ⟨w1,hW9,RX,RZ,hgr9⟩:=laid2 w [.slice HA hn hc,.int .i64 states,.slice BA bn bc,.slice SA sn sc] 51 [.int .i64 0,.slice none 0 0,.slice none 0 0] 27;rewrite [hW9];clear hW9;have B_w:=hiD hgr9;clear hgr9;have HT1:=hiD (HT.out.up B_w.out);have HC:=hiD (HCR.out w1 HT1.out);clear HCR;have HL1:Hid (w.heap.size+1 < w1.heap.size):=(show Row w1 (w.heap.size+1) _ _ from RZ.out).lt;obtain ⟨k0,k1,k2,k3,kl⟩:=RX.out.cells4;go_wp2_with fail;refine HC.out.mono ?_;rintro e w2 ⟨rfl,hb⟩;clear HC HT1;have B_w:=hiD (below_on2 B_w.out hb);have B_w1:=hiD hb;clear k0 k1 k2 k3 kl;clear hb;have HT2:=hiD (HT.out.up B_w.out);have HL2:Hid (w.heap.size+1 < w2.heap.size):=hiD (Nat.lt_of_lt_of_le HL1.out B_w1.out.size)
 cases hr:rightTot ⟨hood,states,birth,survive⟩ ((hn:Int) - 1) with
 | false=>
  clear hr;have RZ2:=hiD (rowCells RZ.out B_w1.out);obtain ⟨z0,z1,z2,zl⟩:=RZ2.out.cells3;obtain ⟨zf0,zf1,zf2⟩:=RZ2.out.froz3;have HRF:Hid (Row (((w2.setCell ⟨w.heap.size+1,0,none⟩ (.int .i64 0)).setCell ⟨w.heap.size+1,1,none⟩ (.slice none 0 0)).setCell ⟨w.heap.size+1,2,none⟩ (.slice none 0 0)) (w.heap.size+1) 27 [.int .i64 0,.slice none 0 0,.slice none 0 0]):=hiD (((RZ2.out.set 0 _).set 1 _).set 2 _);have HBF:Hid (Below w.heap.size w (((w2.setCell ⟨w.heap.size+1,0,none⟩ (.int .i64 0)).setCell ⟨w.heap.size+1,1,none⟩ (.slice none 0 0)).setCell ⟨w.heap.size+1,2,none⟩ (.slice none 0 0))):=hiD (((B_w.out.setCell (p:=⟨w.heap.size+1,0,none⟩) (by show _≤w.heap.size+1;omega) _).setCell (p:=⟨w.heap.size+1,1,none⟩) (by show _≤w.heap.size+1;omega) _).setCell (p:=⟨w.heap.size+1,2,none⟩) (by show _≤w.heap.size+1;omega) _);obtain ⟨d0,d1,d2,dl⟩:=HRF.out.cells3;go_wp2;refine bodyPost_ret (v:=.tuple #[.agg #[.int .i64 0,.slice none 0 0,.slice none 0 0],.int .i64 2]) (by simp [results,Tryz.results18,go_sem,d0,d1,d2]) rfl ?_;exact trB_err 2 HBF.out
 | true=>
  obtain ⟨f1,f2,f3⟩:=rightTot_facts hr;dsimp only at f1 f2 f3;clear hr;have hhl:=letter_small f1;have hln:hood.length=hn:=by have:=HT2.out.h.1;rw [hoodCells,flat2_length _ (fun _=>rfl)] at this;dsimp only at this;omega
  clear f1
  obtain ⟨S,rfl⟩:∃ S:Nat,states=(S:Int):=⟨states.toNat,by omega⟩
  have HCC:=hiD (centre_any hood HA hn hc w2 HT2.out.h (by unfold maxLen;omega));obtain ⟨k0,k1,k2,k3,kl⟩:=(rowCells RX.out B_w1.out).cells4;go_wp2_with fail;refine HCC.out.mono ?_;rintro e w3 ⟨rfl,hb⟩;clear HCC;have B_w:=hiD (below_on2 B_w.out hb);have B_w1:=hiD (below_on2 B_w1.out hb);have B_w2:=hiD hb;clear k0 k1 k2 k3 kl;clear hb;generalize KT.centreK hood=cz;go_upto_region 4 with fail;obtain ⟨w4,hW9,RC,hgr9⟩:=laid1 w3 [.int .i64 cz] 3;rewrite [hW9];clear hW9;have B_w:=hiD (below_on2 B_w.out hgr9);have B_w1:=hiD (below_on2 B_w1.out hgr9);have B_w2:=hiD (below_on2 B_w2.out hgr9);clear hgr9;go_upto_region 6 with fail;have HT4:=hiD (HT.out.up B_w.out);have RX4:=hiD (rowCells RX.out B_w1.out);have RZ4:=hiD (rowCells RZ.out B_w1.out);have HL4:Hid (w.heap.size+1 < w4.heap.size):=hiD (Nat.lt_of_lt_of_le HL2.out B_w2.out.size);have HCL:=hiD (fun W (hb:Below w4.heap.size w4 W)=>clone_pts HA hn hc hood W (HT4.out.h.up hb) (by omega))
  have e00:KU.hi 0=0∧KU.lo 0=0:=⟨rfl,rfl⟩
  have HBD:Hid (∀ (W:World) (A':Option Addr) (c':Nat),Below w4.heap.size w4 W→Calls Tryz.prog 60 #[.int .i64 (S:Int),.slice A' hn c',.agg #[.int .i64 0,.int .i64 0],.func (.func 57) #[] #[.pointer (some ⟨w3.heap.size,0,none⟩)],.func (.func 58) #[] #[.pointer (some ⟨w.heap.size,0,none⟩)]] W (TrPost ⟨(S:Int),hood,(KU.visitT S hn (totStep cz) (totFin ⟨hood,(S:Int),birth,survive⟩) hn 0 ⟨[],[]⟩).2.ns⟩ A' hn c' W)):=hiD (fun W A' c' hb=>by
   have h:=TS.buildS_any W S A' hn c' 0 57 #[.pointer (some ⟨w3.heap.size,0,none⟩)] 58 #[.pointer (some ⟨w.heap.size,0,none⟩)] hood (totStep cz) (totFin ⟨hood,(S:Int),birth,survive⟩) totK 1440 totUs
    {hyp:=tot_hyp ⟨hood,(S:Int),birth,survive⟩ S hn cz rfl (by omega) (by omega) (by omega)
     ln:=rfl
     s8:=by show S≤8;omega
     ep:=enters Tryz.func57 (by kernel_rfl) rfl
     ee:=enters Tryz.func58 (by kernel_rfl) rfl
     cstep:=fun a s j V ha hk hj hv=>by
      obtain ⟨k0,k1,k2⟩:=hk;dsimp only at hj;exact totStep_any w3.heap.size cz s a j V (rowCells RC.out (hb.trans (hv.mono hb.size))) (by omega) (by omega)
     cfin:=fun s V hk hv=>totFin_any ⟨hood,(S:Int),birth,survive⟩ HA BA SA hn hc bn bc sn sc w.heap.size s V (HT4.out.up (hb.trans (hv.mono hb.size))) (rowCells RX4.out (hb.trans (hv.mono hb.size))) (by show (2:Int)≤S;omega) (by show (S:Int)≤8;omega)
     sb:=fun a s ha hk=>by
      obtain ⟨k0,k1,k2⟩:=hk;have:=lo_in s;exact ⟨wf_small (by omega),wf_small (by omega)⟩
     tab:=tab_up HTB.out (B_w.out.trans (hb.mono B_w.out.size)) (by have:=B_w.out.size;have:=hb.size;omega) }
    ⟨by decide,by decide,by decide⟩
   exact h)
  have HS:∀ W,Below w4.heap.size w4 W→W.cell? ⟨w.heap.size,0,none⟩=some (.slice HA hn hc)∧W.cell? ⟨w.heap.size,1,none⟩=some (.int .i64 (S:Int)):=fun W hb=>⟨(rowCells RX4.out hb).cell 0,(rowCells RX4.out hb).cell 1⟩
  have HD0:=hiD ((Below.refl w4.heap.size w4).drew)
  go_region_held3 (fun W=>W.cell? ⟨w.heap.size,0,none⟩=some (.slice HA hn hc)∧W.cell? ⟨w.heap.size,1,none⟩=some (.int .i64 (S:Int))) (first | exact HS7.out | exact HS _ HN6.out | exact HS _ HN5.out | exact HS _ HD0.out) (first
   | (go_at_call 61
      refine (HCL.out _ (by exact HD0.out)).mono ?_;rintro e w5 ⟨A5,c5,rfl,ho5,hb5⟩
      have HN5:=(show Hid (Below w4.heap.size w4 w5) from below_on2 HD0.out hb5)
      have HO5:=hiD ho5;have HW5:Hid (w4.heap.size≤w5.heap.size):=hiD HN5.out.size;have HL5:Hid (∀ k,blk A5=some k→w4.heap.size≤k):=hiD (fun k hk=>(ho5.lt k (by rw [own_blk];exact hk)).1)
      clear ho5 hb5)
   | (go_at_call 60
      refine (HBD.out _ _ _ (by exact HN5.out)).mono ?_;rintro e w6 ⟨NA,nc,sl,rfl,ho6,hb6⟩
      have HN6:=(show Hid (Below w4.heap.size w4 w6) from below_on2 HN5.out hb6)
      have HH6:Hid (Rd w6 w6.heap.size 2 A5 hn (hoodCells hood)):=hiD ((Rd.of_own HO5.out).up hb6);have HO6:=hiD ho6;have HX6:=hiD (rowCells RX4.out HN6.out);have HZ6:=hiD (rowCells RZ4.out HN6.out);clear ho6 hb6
      have HS7:Hid (World.cell? (((w6.setCell ⟨w.heap.size+1,0,none⟩ (.int .i64 (S:Int))).setCell ⟨w.heap.size+1,1,none⟩ (.slice A5 hn c5)).setCell ⟨w.heap.size+1,2,none⟩ (.slice NA (KU.visitT S hn (totStep cz) (totFin ⟨hood,(S:Int),birth,survive⟩) hn 0 ⟨[],[]⟩).2.ns.length nc)) ⟨w.heap.size,0,none⟩=some (.slice HA hn hc)∧World.cell? (((w6.setCell ⟨w.heap.size+1,0,none⟩ (.int .i64 (S:Int))).setCell ⟨w.heap.size+1,1,none⟩ (.slice A5 hn c5)).setCell ⟨w.heap.size+1,2,none⟩ (.slice NA (KU.visitT S hn (totStep cz) (totFin ⟨hood,(S:Int),birth,survive⟩) hn 0 ⟨[],[]⟩).2.ns.length nc)) ⟨w.heap.size,1,none⟩=some (.int .i64 (S:Int))):=hiD (by
       have h:=((HX6.out.far (p:=⟨w.heap.size+1,0,none⟩) (by show w.heap.size≠w.heap.size+1;omega) (.int .i64 (S:Int))).far (p:=⟨w.heap.size+1,1,none⟩) (by show w.heap.size≠w.heap.size+1;omega) (.slice A5 hn c5)).far (p:=⟨w.heap.size+1,2,none⟩) (by show w.heap.size≠w.heap.size+1;omega) (.slice NA (KU.visitT S hn (totStep cz) (totFin ⟨hood,(S:Int),birth,survive⟩) hn 0 ⟨[],[]⟩).2.ns.length nc)
       exact ⟨h.cell 0,h.cell 1⟩)
      have HB7:Hid (TrB w (.returned (.tuple #[.agg #[.int .i64 (S:Int),.slice A5 hn c5,.slice NA (KU.visitT S hn (totStep cz) (totFin ⟨hood,(S:Int),birth,survive⟩) hn 0 ⟨[],[]⟩).2.ns.length nc],.int .i64 0])) (((w6.setCell ⟨w.heap.size+1,0,none⟩ (.int .i64 (S:Int))).setCell ⟨w.heap.size+1,1,none⟩ (.slice A5 hn c5)).setCell ⟨w.heap.size+1,2,none⟩ (.slice NA (KU.visitT S hn (totStep cz) (totFin ⟨hood,(S:Int),birth,survive⟩) hn 0 ⟨[],[]⟩).2.ns.length nc))):=hiD (by
       have hl4:=HL4.out;have hw5:=HW5.out
       have h6:TrAt w4.heap.size w6 ⟨(S:Int),hood,(KU.visitT S hn (totStep cz) (totFin ⟨hood,(S:Int),birth,survive⟩) hn 0 ⟨[],[]⟩).2.ns⟩ A5 hn NA nc sl:=⟨HO6.out.mono (by omega),HH6.out,HL5.out,by show hn≤_;omega⟩
       have h7:=((h6.set (p:=⟨w.heap.size+1,0,none⟩) (by show w.heap.size+1 < _;omega) (.int .i64 (S:Int))).set (p:=⟨w.heap.size+1,1,none⟩) (by show w.heap.size+1 < _;omega) (.slice A5 hn c5)).set (p:=⟨w.heap.size+1,2,none⟩) (by show w.heap.size+1 < _;omega) (.slice NA (KU.visitT S hn (totStep cz) (totFin ⟨hood,(S:Int),birth,survive⟩) hn 0 ⟨[],[]⟩).2.ns.length nc);have hb:Below w.heap.size w w6:=B_w.out.trans (HN6.out.mono B_w.out.size)
       exact ⟨_,A5,hn,c5,NA,nc,sl,0,rfl,h7.mono (by omega),((hb.setCell (p:=⟨w.heap.size+1,0,none⟩) (by show _≤w.heap.size+1;omega) _).setCell (p:=⟨w.heap.size+1,1,none⟩) (by show _≤w.heap.size+1;omega) _).setCell (p:=⟨w.heap.size+1,2,none⟩) (by show _≤w.heap.size+1;omega) _⟩)
      have HR7:Hid (Row (((w6.setCell ⟨w.heap.size+1,0,none⟩ (.int .i64 (S:Int))).setCell ⟨w.heap.size+1,1,none⟩ (.slice A5 hn c5)).setCell ⟨w.heap.size+1,2,none⟩ (.slice NA (KU.visitT S hn (totStep cz) (totFin ⟨hood,(S:Int),birth,survive⟩) hn 0 ⟨[],[]⟩).2.ns.length nc)) (w.heap.size+1) 27 [.int .i64 (S:Int),.slice A5 hn c5,.slice NA (KU.visitT S hn (totStep cz) (totFin ⟨hood,(S:Int),birth,survive⟩) hn 0 ⟨[],[]⟩).2.ns.length nc]):=hiD (((HZ6.out.set 0 _).set 1 _).set 2 _);have z0:=HZ6.out.cell 0;have z1:=HZ6.out.cell 1;have z2:=HZ6.out.cell 2;obtain ⟨zf0,zf1,zf2⟩:=HZ6.out.froz3;have zl:=HZ6.out.lt
      simp only [List.getElem?_cons_zero,List.getElem?_cons_succ] at z0 z1 z2))
  obtain ⟨d0,d1,d2,dl⟩:=HR7.out.cells3;go_wp2;refine bodyPost_ret (v:=.tuple #[.agg #[.int .i64 (S:Int),.slice A5 hn c5,.slice NA (KU.visitT S hn (totStep cz) (totFin ⟨hood,(S:Int),birth,survive⟩) hn 0 ⟨[],[]⟩).2.ns.length nc],.int .i64 0]) (by simp [results,Tryz.results18,go_sem,d0,d1,d2]) rfl ?_;exact HB7.out
end Go.Proofs.YtbijfnbelkbofaaGreatDoor
namespace Go.Proofs.YtbijfnbelkbofaaGreatDoor
open Go.RowKit Go.Maps
def wolfOk (n:Int):Prop:=0≤n∧n≤255
instance (n:Int):Decidable (wolfOk n):=by unfold wolfOk;exact inferInstance
def wolfAt (n:Int) (i:Nat):List Int:=(List.range 8).map (fun j=>if j < i then n / 2 ^ j % 2 else 0)
def wolfL (n:Int):List Int:=if wolfOk n then wolfAt n 8 else List.replicate 8 0
def wolfErr (n:Int):Int:=if wolfOk n then 0 else 5
theorem wolfAt_len (n:Int) (i:Nat):(wolfAt n i).length=8:=by simp [wolfAt]
theorem wolfAt_get (n:Int) (i j:Nat) (h:j < 8):(wolfAt n i).getD j 0=if j < i then n / 2 ^ j % 2 else 0:=by
 simp [wolfAt,List.getD_eq_getElem?_getD,List.getElem?_range h]
theorem wolfAt_set (n:Int) (i:Nat) (h:i < 8):(wolfAt n i).set i (n / 2 ^ i % 2)=wolfAt n (i+1):=by
 apply List.ext_getElem (by simp [wolfAt])
 intro j h1 h2;have hj:j < 8:=by simpa [wolfAt] using h2
 rw [List.getElem_set];simp only [wolfAt,List.getElem_map,List.getElem_range];by_cases e:i=j
 ·subst e;simp
 ·rw [if_neg e];by_cases e2:j < i
  ·rw [if_pos e2,if_pos (by omega)]
  ·rw [if_neg e2,if_neg (by omega)]
theorem wolf_in (n:Int) (j:Nat) (h:j < 8):0≤(wolfL n).getD j 0∧(wolfL n).getD j 0 < 2:=by
 unfold wolfL;split
 ·rw [wolfAt_get n 8 j h,if_pos h];omega
 ·have key:∀ j,j < 8→(List.replicate 8 (0:Int)).getD j 0=0:=by decide
  rw [key j h];omega
theorem eight (l:List Int) (h:l.length=8):∃ a0 a1 a2 a3 a4 a5 a6 a7,l=[a0,a1,a2,a3,a4,a5,a6,a7]:=by
 match l,h with
 | [a0,a1,a2,a3,a4,a5,a6,a7],_=>exact ⟨a0,a1,a2,a3,a4,a5,a6,a7,rfl⟩
set_option maxRecDepth 100000 in
set_option maxHeartbeats 4000000 in
theorem wolf_any (n:Int) (w:World) (hn64:-9223372036854775808≤n∧n≤9223372036854775807):
 Calls Tryz.prog 37 #[.int .i64 n] w fun e w'=>e=.returned (.tuple #[.agg (ints (wolfL n)).toArray,.int .i64 (wolfErr n)])∧Below w.heap.size w w':=by
 go_enter Tryz.func37,Tryz.ntmps37;go_upto_region 2 with fail;obtain ⟨w1,hW9,RZ,RA,hgr9⟩:=laid2 w [.int .i64 0,.int .i64 0,.int .i64 0,.int .i64 0,.int .i64 0,.int .i64 0,.int .i64 0,.int .i64 0] 84 [.int .i64 0,.int .i64 0,.int .i64 0,.int .i64 0,.int .i64 0,.int .i64 0,.int .i64 0,.int .i64 0] 84;rewrite [hW9];clear hW9;have B_w:=hiD hgr9;clear hgr9;by_cases hok:wolfOk n
 ·have hok2:=hok;obtain ⟨n0,n1⟩:=hok2;have d0:decide (n < 0)=false:=decide_eq_false (by omega);have d1:decide (255 < n)=false:=decide_eq_false (by omega);have HE:Hid (wolfL n=wolfAt n 8∧wolfErr n=0):=hiD ⟨if_pos hok,if_pos hok⟩;clear hok;have HRA:=hiD RA;go_wp2
  go_loopg [5,13] 8 (fun gg _ s13 wr=>∃ i:Nat,i≤8∧8 - i≤gg∧s13=.int .i64 (i:Int)∧Aside (Below w.heap.size w wr∧Row wr (w.heap.size+1) 84 (ints (wolfAt n i))∧Row wr w.heap.size 84 [.int .i64 0,.int .i64 0,.int .i64 0,.int .i64 0,.int .i64 0,.int .i64 0,.int .i64 0,.int .i64 0]))
  case atStart=>exact ⟨0,by omega,by omega,rfl,B_w.out,HRA.out,RZ.out⟩
  case round=>
   obtain ⟨i,hi,hgg,rfl,hv⟩:=hrel;have HB:=hiD hv.out.1;have HR:=hiD hv.out.2.1;have HZ:=hiD hv.out.2.2;clear hv RZ RA B_w HRA;by_cases hlt:i < 8
   ·have hltz:(i:Int) < 8:=by omega
    have hi0:(0:Int)≤(i:Int):=by omega
    have hmin:min i 64=i:=by omega
    have HBT:Hid (bits .and .i64 (n / 2 ^ i) 1=n / 2 ^ i % 2):=i64_and1 _;have c0:=HR.out.cell i;rw [ints_get _ _ (by rw [wolfAt_len];exact hlt)] at c0;have cf:=HR.out.frozen i;have cl:=HR.out.lt;revert c0;generalize (wolfAt n i).getD i 0=z;intro c0
    have HRN:Hid (Row (wr.setCell ⟨w.heap.size+1,i,none⟩ (.int .i64 (bits .and .i64 (n / 2 ^ i) 1))) (w.heap.size+1) 84 (ints (wolfAt n (i+1)))):=hiD (by
     have h1:=HR.out.set i (.int .i64 (bits .and .i64 (n / 2 ^ i) 1));rw [← wolfAt_set n i hlt,← HBT.out];have h2:(ints (wolfAt n i)).set i (.int .i64 (bits .and .i64 (n / 2 ^ i) 1))=ints ((wolfAt n i).set i (bits .and .i64 (n / 2 ^ i) 1)):=by unfold ints;rw [List.map_set]
     rw [← h2];exact h1)
    have HZN:=hiD (HZ.out.far (p:=⟨w.heap.size+1,i,none⟩) (by show w.heap.size≠w.heap.size+1;omega) (.int .i64 (bits .and .i64 (n / 2 ^ i) 1)));have HBN:=hiD (HB.out.setCell (p:=⟨w.heap.size+1,i,none⟩) (by show _≤w.heap.size+1;omega) (.int .i64 (bits .and .i64 (n / 2 ^ i) 1)));go_wp2;go_roundg (8 - (i+1))
    case measure=>omega
    case rel=>exact ⟨i+1,by omega,by omega,by go_num,HBN.out,HRN.out,HZN.out⟩
   ·have hltz:¬ (i:Int) < 8:=by omega
    obtain rfl:i=8:=by omega
    obtain ⟨a0,a1,a2,a3,a4,a5,a6,a7,h8⟩:=eight (wolfAt n 8) (wolfAt_len n 8);have HL:=hiD h8;rw [h8] at HR;clear h8;have HR8:=hiD HR;clear HR;obtain ⟨k0,k1,k2,k3,k4,k5,k6,k7,kl⟩:=HR8.out.cells8;obtain ⟨z0,z1,z2,z3,z4,z5,z6,z7,zl⟩:=HZ.out.cells8;have zf0:=HZ.out.frozen 0;have zf1:=HZ.out.frozen 1;have zf2:=HZ.out.frozen 2;have zf3:=HZ.out.frozen 3;have zf4:=HZ.out.frozen 4;have zf5:=HZ.out.frozen 5;have zf6:=HZ.out.frozen 6;have zf7:=HZ.out.frozen 7;have HRF:Hid (Row ((((((((wr.setCell ⟨w.heap.size,0,none⟩ (.int .i64 a0)).setCell ⟨w.heap.size,1,none⟩ (.int .i64 a1)).setCell ⟨w.heap.size,2,none⟩ (.int .i64 a2)).setCell ⟨w.heap.size,3,none⟩ (.int .i64 a3)).setCell ⟨w.heap.size,4,none⟩ (.int .i64 a4)).setCell ⟨w.heap.size,5,none⟩ (.int .i64 a5)).setCell ⟨w.heap.size,6,none⟩ (.int .i64 a6)).setCell ⟨w.heap.size,7,none⟩ (.int .i64 a7)) w.heap.size 84 [.int .i64 a0,.int .i64 a1,.int .i64 a2,.int .i64 a3,.int .i64 a4,.int .i64 a5,.int .i64 a6,.int .i64 a7]):=hiD ((((((((HZ.out.set 0 (.int .i64 a0)).set 1 (.int .i64 a1)).set 2 (.int .i64 a2)).set 3 (.int .i64 a3)).set 4 (.int .i64 a4)).set 5 (.int .i64 a5)).set 6 (.int .i64 a6)).set 7 (.int .i64 a7));have HBF:Hid (Below w.heap.size w ((((((((wr.setCell ⟨w.heap.size,0,none⟩ (.int .i64 a0)).setCell ⟨w.heap.size,1,none⟩ (.int .i64 a1)).setCell ⟨w.heap.size,2,none⟩ (.int .i64 a2)).setCell ⟨w.heap.size,3,none⟩ (.int .i64 a3)).setCell ⟨w.heap.size,4,none⟩ (.int .i64 a4)).setCell ⟨w.heap.size,5,none⟩ (.int .i64 a5)).setCell ⟨w.heap.size,6,none⟩ (.int .i64 a6)).setCell ⟨w.heap.size,7,none⟩ (.int .i64 a7))):=hiD ((((((((HB.out.setCell (p:=⟨w.heap.size,0,none⟩) (Nat.le_refl _) (.int .i64 a0)).setCell (p:=⟨w.heap.size,1,none⟩) (Nat.le_refl _) (.int .i64 a1)).setCell (p:=⟨w.heap.size,2,none⟩) (Nat.le_refl _) (.int .i64 a2)).setCell (p:=⟨w.heap.size,3,none⟩) (Nat.le_refl _) (.int .i64 a3)).setCell (p:=⟨w.heap.size,4,none⟩) (Nat.le_refl _) (.int .i64 a4)).setCell (p:=⟨w.heap.size,5,none⟩) (Nat.le_refl _) (.int .i64 a5)).setCell (p:=⟨w.heap.size,6,none⟩) (Nat.le_refl _) (.int .i64 a6)).setCell (p:=⟨w.heap.size,7,none⟩) (Nat.le_refl _) (.int .i64 a7));obtain ⟨d0,d1,d2,d3,d4,d5,d6,d7,dl⟩:=HRF.out.cells8;go_wp2;refine bodyPost_ret (v:=.tuple #[.agg #[.int .i64 a0,.int .i64 a1,.int .i64 a2,.int .i64 a3,.int .i64 a4,.int .i64 a5,.int .i64 a6,.int .i64 a7],.int .i64 0]) (by simp [results,Tryz.results37,go_sem,d0,d1,d2,d3,d4,d5,d6,d7]) rfl ?_;rw [HE.out.1,HE.out.2,HL.out];exact ⟨rfl,HBF.out⟩
 ·have HE:Hid (wolfL n=List.replicate 8 0∧wolfErr n=5):=hiD ⟨if_neg hok,if_neg hok⟩;have HF:Hid (∀ _:Unit,Ending.returned (.tuple #[.agg #[.int .i64 0,.int .i64 0,.int .i64 0,.int .i64 0,.int .i64 0,.int .i64 0,.int .i64 0,.int .i64 0],.int .i64 5])=Ending.returned (.tuple #[.agg (ints (wolfL n)).toArray,.int .i64 (wolfErr n)])):=fun _=>by rw [HE.out.1,HE.out.2];rfl
  have HRF:Hid (Row ((((((((w1.setCell ⟨w.heap.size,0,none⟩ (.int .i64 0)).setCell ⟨w.heap.size,1,none⟩ (.int .i64 0)).setCell ⟨w.heap.size,2,none⟩ (.int .i64 0)).setCell ⟨w.heap.size,3,none⟩ (.int .i64 0)).setCell ⟨w.heap.size,4,none⟩ (.int .i64 0)).setCell ⟨w.heap.size,5,none⟩ (.int .i64 0)).setCell ⟨w.heap.size,6,none⟩ (.int .i64 0)).setCell ⟨w.heap.size,7,none⟩ (.int .i64 0)) w.heap.size 84 [.int .i64 0,.int .i64 0,.int .i64 0,.int .i64 0,.int .i64 0,.int .i64 0,.int .i64 0,.int .i64 0]):=hiD ((((((((RZ.out.set 0 (.int .i64 0)).set 1 (.int .i64 0)).set 2 (.int .i64 0)).set 3 (.int .i64 0)).set 4 (.int .i64 0)).set 5 (.int .i64 0)).set 6 (.int .i64 0)).set 7 (.int .i64 0));have HBF:Hid (Below w.heap.size w ((((((((w1.setCell ⟨w.heap.size,0,none⟩ (.int .i64 0)).setCell ⟨w.heap.size,1,none⟩ (.int .i64 0)).setCell ⟨w.heap.size,2,none⟩ (.int .i64 0)).setCell ⟨w.heap.size,3,none⟩ (.int .i64 0)).setCell ⟨w.heap.size,4,none⟩ (.int .i64 0)).setCell ⟨w.heap.size,5,none⟩ (.int .i64 0)).setCell ⟨w.heap.size,6,none⟩ (.int .i64 0)).setCell ⟨w.heap.size,7,none⟩ (.int .i64 0))):=hiD ((((((((B_w.out.setCell (p:=⟨w.heap.size,0,none⟩) (Nat.le_refl _) (.int .i64 0)).setCell (p:=⟨w.heap.size,1,none⟩) (Nat.le_refl _) (.int .i64 0)).setCell (p:=⟨w.heap.size,2,none⟩) (Nat.le_refl _) (.int .i64 0)).setCell (p:=⟨w.heap.size,3,none⟩) (Nat.le_refl _) (.int .i64 0)).setCell (p:=⟨w.heap.size,4,none⟩) (Nat.le_refl _) (.int .i64 0)).setCell (p:=⟨w.heap.size,5,none⟩) (Nat.le_refl _) (.int .i64 0)).setCell (p:=⟨w.heap.size,6,none⟩) (Nat.le_refl _) (.int .i64 0)).setCell (p:=⟨w.heap.size,7,none⟩) (Nat.le_refl _) (.int .i64 0));obtain ⟨k0,k1,k2,k3,k4,k5,k6,k7,kl⟩:=RA.out.cells8;obtain ⟨z0,z1,z2,z3,z4,z5,z6,z7,zl⟩:=RZ.out.cells8;have zf0:=RZ.out.frozen 0;have zf1:=RZ.out.frozen 1;have zf2:=RZ.out.frozen 2;have zf3:=RZ.out.frozen 3;have zf4:=RZ.out.frozen 4;have zf5:=RZ.out.frozen 5;have zf6:=RZ.out.frozen 6;have zf7:=RZ.out.frozen 7;obtain ⟨d0,d1,d2,d3,d4,d5,d6,d7,dl⟩:=HRF.out.cells8;by_cases h0:n < 0
  ·have d0':decide (n < 0)=true:=decide_eq_true h0;clear hok;go_wp2;refine bodyPost_ret (v:=.tuple #[.agg #[.int .i64 0,.int .i64 0,.int .i64 0,.int .i64 0,.int .i64 0,.int .i64 0,.int .i64 0,.int .i64 0],.int .i64 5]) (by simp [results,Tryz.results37,go_sem,d0,d1,d2,d3,d4,d5,d6,d7]) rfl ?_;exact ⟨HF.out (),HBF.out⟩
  ·have d0':decide (n < 0)=false:=decide_eq_false h0;have d1':decide (255 < n)=true:=decide_eq_true (by unfold wolfOk at hok;omega);clear hok;go_wp2;refine bodyPost_ret (v:=.tuple #[.agg #[.int .i64 0,.int .i64 0,.int .i64 0,.int .i64 0,.int .i64 0,.int .i64 0,.int .i64 0,.int .i64 0],.int .i64 5]) (by simp [results,Tryz.results37,go_sem,d0,d1,d2,d3,d4,d5,d6,d7]) rfl ?_;exact ⟨HF.out (),HBF.out⟩
def rowL:List Pt:=[⟨-1,0⟩,⟨0,0⟩,⟨1,0⟩]
theorem row_any (w:World):Calls Tryz.prog 39 #[] w fun e w'=>e=.returned (.slice (some ⟨w.heap.size,0,none⟩) 3 3)∧Row w' w.heap.size 114 (hoodCells rowL)∧Below w.heap.size w w':=by
 go_enter Tryz.func39,Tryz.ntmps39;go_wp2;go_ret;exact ⟨rfl,Row.new w 114 (hoodCells rowL),by go_grown⟩
theorem clos1_any (s a j:Int) (w:World) (hs:-1000≤s∧s≤1000) (hj:-1000≤j∧j≤1000):Calls Tryz.prog 40 #[.int .i64 s,.int .i64 a,.int .i64 j] w fun e w'=>e=.returned (.int .i64 (2 * s+j))∧Below w.heap.size w w':=by
 go_enter Tryz.func40,Tryz.ntmps40;go_wp2;go_ret;exact ⟨rfl,Below.refl _ _⟩
theorem clos2_any (l:List Int) (hl:l.length=8) (lb:Nat) (s:Nat) (hs:s < 8) (w:World) (hr:Row w lb 84 (ints l)):Calls Tryz.prog 41 #[.int .i64 (s:Int),.pointer (some ⟨lb,0,none⟩)] w fun e w'=>e=.returned (.int .i64 (l.getD s 0))∧Below w.heap.size w w':=by
 have c0:=hr.cell s;rw [ints_get _ _ (by omega)] at c0;have cl:=hr.lt;have h0:(0:Int)≤(s:Int):=by omega
 have h1:(s:Int) < 8:=by omega
 revert c0;generalize l.getD s 0=z;intro c0;clear hr;go_enter Tryz.func41,Tryz.ntmps41;go_wp2;go_ret;exact ⟨rfl,Below.refl _ _⟩
def elemK (a:Nat) (s:Int):Prop:=a≤3∧0≤s∧s < 2 ^ a
def elemUs:List (Int × Int):=(List.range 3).flatMap (fun (a:Nat)=>(List.range 8).map (fun (s:Nat)=>((a:Int),(s:Int))))
def elemFin (n s:Int):Int:=(wolfL n).getD s.toNat 0
def elemStep (s a j:Int):Int:=2 * s+j
def elemNs (n:Int):List Nd:=(KU.visitT 2 3 elemStep (elemFin n) 3 0 ⟨[],[]⟩).2.ns
def elemT (n:Int):Tre:=if wolfOk n then ⟨2,rowL,elemNs n⟩ else noTre
theorem elem_small {a:Nat} {s:Int} (h:elemK a s):0≤s∧s < 8:=by
 obtain ⟨h1,h2,h3⟩:=h
 match a,h1 with
 | 0,_=>simp at h3;omega
 | 1,_=>simp at h3;omega
 | 2,_=>simp at h3;omega
 | 3,_=>simp at h3;omega
theorem elem_hyp (n:Int):KU.UHyp 2 3 24 elemUs elemStep (elemFin n) elemK where
 step a s j ha hk hj:=by
  obtain ⟨h1,h2,h3⟩:=hk;refine ⟨by omega,by unfold elemStep;omega,?_⟩;unfold elemStep;rw [Int.pow_succ];omega
 us a s ha hk:=by
  have h8:=elem_small hk;unfold elemUs;rw [List.mem_flatMap];refine ⟨a,List.mem_range.2 ha,List.mem_map.2 ⟨s.toNat,List.mem_range.2 (by omega),?_⟩⟩;rw [Int.toNat_of_nonneg h8.1]
 fin s hk:=by
  have h8:=elem_small hk;have:=wolf_in n s.toNat (by omega);unfold elemFin;omega
 H25:=by omega
 UM:=by decide
 M30:=by omega
set_option maxRecDepth 100000 in
set_option maxHeartbeats 4000000 in
theorem elementary_both (n : Int) (w : World) (hn64 : -9223372036854775808 ≤ n ∧ n ≤ 9223372036854775807) (htab : Lib.TabBelow Tryz.prog w.heap.size w "internal/strconv.uint64pow10" .u64 Lib.pow10Tab) :
 Calls Tryz.prog 14 #[.int .i64 n] w (fun e w'=>TPost (elemT n) (wolfErr n) w e w'∧TrB w e w'):=by
 have HT:=hiD htab;have HC:=hiD (fun W=>wolf_any n W hn64);clear htab;go_enter Tryz.func14,Tryz.ntmps14;go_upto_region 1 with fail;obtain ⟨w1,hW9,RZ,hgr9⟩:=laid1 w [.int .i64 0,.slice none 0 0,.slice none 0 0] 27;rewrite [hW9];clear hW9;have B_w:=hiD hgr9;clear hgr9
 have hl8:(wolfL n).length=8:=by
  unfold wolfL;split
  ·exact wolfAt_len n 8
  ·rfl
 obtain ⟨a0,a1,a2,a3,a4,a5,a6,a7,h8⟩:=eight (wolfL n) hl8;have HL:=hiD h8;rw [h8] at HC;clear h8 hl8;go_wp2_with fail;refine (HC.out _).mono ?_;rintro e w2 ⟨rfl,hb⟩;have hsh:(ints [a0,a1,a2,a3,a4,a5,a6,a7]).toArray=#[.int .i64 a0,.int .i64 a1,.int .i64 a2,.int .i64 a3,.int .i64 a4,.int .i64 a5,.int .i64 a6,.int .i64 a7]:=rfl;rw [hsh];clear hsh HC;have B_w:=hiD (below_on2 B_w.out hb);have B_w1:=hiD hb;clear hb;go_upto_region 2 with fail;obtain ⟨w3,hW9,RL,hgr9⟩:=laid1 w2 [.int .i64 a0,.int .i64 a1,.int .i64 a2,.int .i64 a3,.int .i64 a4,.int .i64 a5,.int .i64 a6,.int .i64 a7] 84;rewrite [hW9];clear hW9;have B_w:=hiD (below_on2 B_w.out hgr9);have B_w1:=hiD (below_on2 B_w1.out hgr9);clear hgr9;have HS3:Hid (w.heap.size < w3.heap.size):=hiD (by have:=(show Row w1 w.heap.size _ _ from RZ.out).lt;have:=B_w1.out.size;omega);by_cases hok:wolfOk n
 ·have HE:Hid (elemT n=⟨2,rowL,elemNs n⟩):=if_pos hok;have HE0:Hid (wolfErr n=0):=if_pos hok;rw [show wolfErr n=0 from if_pos hok];clear hok;go_wp2_with fail;refine (row_any w3).mono ?_;rintro e w4 ⟨rfl,hrow,hb⟩;have HRow:=hiD hrow;clear hrow;have B_w:=hiD (below_on2 B_w.out hb);have B_w1:=hiD (below_on2 B_w1.out hb);have B_w3:=hiD hb;clear hb
  have RL4:Hid (Row w4 w2.heap.size 84 (ints (wolfL n))):=hiD (by
   rw [HL.out]
   exact (rowCells RL.out B_w3.out))
  have HV:VHyp w4 ⟨w4.heap.size,2,some ⟨w3.heap.size,0,none⟩,3,3,40,#[],41,#[.pointer (some ⟨w2.heap.size,0,none⟩)]⟩ elemStep (elemFin n) elemK 3 24 elemUs:=
   {hyp:=elem_hyp n
    ln:=rfl
    s8:=by show 2≤8;omega
    ep:=enters Tryz.func40 (by kernel_rfl) rfl
    ee:=enters Tryz.func41 (by kernel_rfl) rfl
    cstep:=fun a s j W ha hk hj hb=>by
     have h8:=elem_small hk;dsimp only at hj;exact clos1_any s a j W (by omega) (by omega)
    cfin:=fun s W hk hb=>by
     have h8:=elem_small hk;have:=clos2_any (wolfL n) (by rw [HL.out];rfl) w2.heap.size s.toNat (by omega) W (rowCells RL4.out hb);rw [Int.toNat_of_nonneg h8.1] at this;exact this
    sb:=fun a s ha hk=>wf_small (by have:=elem_small hk;omega)
    tab:=tab_up HT.out B_w.out B_w.out.size }
  have HB:Hid (Calls Tryz.prog 38 #[.int .i64 2,.slice (some ⟨w3.heap.size,0,none⟩) 3 3,.int .i64 0,.func (.func 40) #[] #[],.func (.func 41) #[] #[.pointer (some ⟨w2.heap.size,0,none⟩)]] w4 (TrPost ⟨2,rowL,elemNs n⟩ (some ⟨w3.heap.size,0,none⟩) 3 3 w4)):=
   hiD (buildI_any w4 2 (some ⟨w3.heap.size,0,none⟩) 3 3 0 _ _ _ _ rowL elemStep (elemFin n) elemK 24 elemUs HV ⟨by omega,by decide,by decide⟩)
  clear HV RL4;go_wp2_with fail;refine HB.out.mono ?_;rintro e w5 ⟨NA,nc,sl,rfl,hat,hb⟩;have HAT:=hiD hat;dsimp only;clear hat HB;have B_w:=hiD (below_on2 B_w.out hb);have B_w1:=hiD (below_on2 B_w1.out hb);have B_w4:=hiD hb;clear hb;have HH5:Hid (Row w5 w3.heap.size 114 (hoodCells rowL)):=hiD (rowCells HRow.out B_w4.out);have HR5:=hiD (rowCells RZ.out B_w1.out);obtain ⟨z0,z1,z2,zl⟩:=HR5.out.cells3;obtain ⟨zf0,zf1,zf2⟩:=HR5.out.froz3;have hs3:=HS3.out;have hs4:w.heap.size < w4.heap.size:=by have:=(show Row w3 w2.heap.size _ _ from RL.out).lt;have:=HRow.out.lt;omega
  have HRF:Hid (Row (((w5.setCell ⟨w.heap.size,0,none⟩ (.int .i64 2)).setCell ⟨w.heap.size,1,none⟩ (.slice (some ⟨w3.heap.size,0,none⟩) 3 3)).setCell ⟨w.heap.size,2,none⟩ (.slice NA (elemNs n).length nc)) w.heap.size 27 [.int .i64 2,.slice (some ⟨w3.heap.size,0,none⟩) 3 3,.slice NA (elemNs n).length nc]):=hiD (((HR5.out.set 0 _).set 1 _).set 2 _);have HTF:Hid (TOwn w4.heap.size (((w5.setCell ⟨w.heap.size,0,none⟩ (.int .i64 2)).setCell ⟨w.heap.size,1,none⟩ (.slice (some ⟨w3.heap.size,0,none⟩) 3 3)).setCell ⟨w.heap.size,2,none⟩ (.slice NA (elemNs n).length nc)) (elemNs n) NA nc sl):=hiD (((HAT.out.set (p:=⟨w.heap.size,0,none⟩) hs4 _).set (p:=⟨w.heap.size,1,none⟩) hs4 _).set (p:=⟨w.heap.size,2,none⟩) hs4 _);have HHF:Hid (Row (((w5.setCell ⟨w.heap.size,0,none⟩ (.int .i64 2)).setCell ⟨w.heap.size,1,none⟩ (.slice (some ⟨w3.heap.size,0,none⟩) 3 3)).setCell ⟨w.heap.size,2,none⟩ (.slice NA (elemNs n).length nc)) w3.heap.size 114 (hoodCells rowL)):=hiD (((HH5.out.far (p:=⟨w.heap.size,0,none⟩) (by show w3.heap.size≠w.heap.size;omega) _).far (p:=⟨w.heap.size,1,none⟩) (by show w3.heap.size≠w.heap.size;omega) _).far (p:=⟨w.heap.size,2,none⟩) (by show w3.heap.size≠w.heap.size;omega) _);have HBF:Hid (Below w.heap.size w (((w5.setCell ⟨w.heap.size,0,none⟩ (.int .i64 2)).setCell ⟨w.heap.size,1,none⟩ (.slice (some ⟨w3.heap.size,0,none⟩) 3 3)).setCell ⟨w.heap.size,2,none⟩ (.slice NA (elemNs n).length nc))):=hiD (((B_w.out.setCell (p:=⟨w.heap.size,0,none⟩) (Nat.le_refl _) _).setCell (p:=⟨w.heap.size,1,none⟩) (Nat.le_refl _) _).setCell (p:=⟨w.heap.size,2,none⟩) (Nat.le_refl _) _);obtain ⟨d0,d1,d2,dl⟩:=HRF.out.cells3;go_wp2;refine bodyPost_ret (v:=.tuple #[.agg #[.int .i64 2,.slice (some ⟨w3.heap.size,0,none⟩) 3 3,.slice NA (elemNs n).length nc],.int .i64 0]) (by simp [results,Tryz.results14,go_sem,d0,d1,d2]) rfl ?_;rw [HE.out,HE0.out];exact ⟨⟨_,_,3,3,_,_,_,rfl,HTF.out.tat (HHF.out.rd rfl) (by unfold maxLen;omega),HBF.out⟩,⟨2,rowL,elemNs n⟩,some ⟨w3.heap.size,0,none⟩,3,3,NA,nc,sl,0,rfl,⟨HTF.out.mono (by omega),HHF.out.rd rfl,fun k hk=>by (injection hk with hk;subst hk;exact Nat.le_of_lt hs3),by omega⟩,HBF.out⟩
 ·have HE:Hid (elemT n=noTre):=if_neg hok;have HE0:Hid (wolfErr n=5):=if_neg hok;rw [show wolfErr n=5 from if_neg hok];clear hok;have HR5:=hiD (rowCells RZ.out B_w1.out);obtain ⟨z0,z1,z2,zl⟩:=HR5.out.cells3;obtain ⟨zf0,zf1,zf2⟩:=HR5.out.froz3;have HRF:Hid (Row (((w3.setCell ⟨w.heap.size,0,none⟩ (.int .i64 0)).setCell ⟨w.heap.size,1,none⟩ (.slice none 0 0)).setCell ⟨w.heap.size,2,none⟩ (.slice none 0 0)) w.heap.size 27 [.int .i64 0,.slice none 0 0,.slice none 0 0]):=hiD (((HR5.out.set 0 _).set 1 _).set 2 _);have HBF:Hid (Below w.heap.size w (((w3.setCell ⟨w.heap.size,0,none⟩ (.int .i64 0)).setCell ⟨w.heap.size,1,none⟩ (.slice none 0 0)).setCell ⟨w.heap.size,2,none⟩ (.slice none 0 0))):=hiD (((B_w.out.setCell (p:=⟨w.heap.size,0,none⟩) (Nat.le_refl _) _).setCell (p:=⟨w.heap.size,1,none⟩) (Nat.le_refl _) _).setCell (p:=⟨w.heap.size,2,none⟩) (Nat.le_refl _) _);obtain ⟨d0,d1,d2,dl⟩:=HRF.out.cells3;go_wp2;refine bodyPost_ret (v:=.tuple #[.agg #[.int .i64 0,.slice none 0 0,.slice none 0 0],.int .i64 5]) (by simp [results,Tryz.results14,go_sem,d0,d1,d2]) rfl ?_;rw [HE.out,HE0.out];exact ⟨tpost_err rfl HBF.out,trB_err 5 HBF.out⟩
theorem elementary_any (n : Int) (w : World) (hn64 : -9223372036854775808 ≤ n ∧ n ≤ 9223372036854775807) (htab : Lib.TabBelow Tryz.prog w.heap.size w "internal/strconv.uint64pow10" .u64 Lib.pow10Tab) :
 Calls Tryz.prog 14 #[.int .i64 n] w (TPost (elemT n) (wolfErr n) w):=(elementary_both n w hn64 htab).mono fun _ _ h=>h.1
theorem elementary_trb (n : Int) (w : World) (hn64 : -9223372036854775808 ≤ n ∧ n ≤ 9223372036854775807) (htab : Lib.TabBelow Tryz.prog w.heap.size w "internal/strconv.uint64pow10" .u64 Lib.pow10Tab) :
 Calls Tryz.prog 14 #[.int .i64 n] w (TrB w):=(elementary_both n w hn64 htab).mono fun _ _ h=>h.2
end Go.Proofs.YtbijfnbelkbofaaGreatDoor
