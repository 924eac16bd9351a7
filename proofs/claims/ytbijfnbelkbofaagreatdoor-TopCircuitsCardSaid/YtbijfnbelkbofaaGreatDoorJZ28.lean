/-
  Lemmas for the law TopCircuits.
-/
import Derived.Test.YtbijfnbelkbofaaGreatDoorJZ1
import Derived.Test.YtbijfnbelkbofaaGreatDoorJZ20
set_option linter.unusedSimpArgs false
set_option linter.unusedVariables false
namespace Go.Proofs.YtbijfnbelkbofaaGreatDoor
open Go.RowKit
theorem rightT_head {t:Tre} (h:headOk t=false):rightT t=false:=by simp [rightT,h]
theorem rightT_node {t:Tre} (i:Nat) (hi:i < t.nodes.length) (h:nodeOk t i=false):rightT t=false:=by
 have:nodesOk t=false:=decide_eq_false (fun hh=>by have:=hh i hi;rw [h] at this;cases this)
 simp [rightT,this]
set_option maxRecDepth 100000 in
set_option maxHeartbeats 2000000 in
theorem treeRight_bad (t:Tre) (HA NA:Option Addr) (hn hc nn nc:Nat) (sl:List Sl) (w:World) (h:TAt w t HA NA hn nn sl) (hbad:¬ (hoodOk t.hood=true∧headOk t=true)):
 Calls Tryz.prog 23 #[.agg #[.int .i64 t.states,.slice HA hn hc,.slice NA nn nc]] w fun e w'=>e=.returned (.bool (rightT t))∧Below w.heap.size w w':=by
 have H:=hiD h;have HL:Hid (t.nodes.length=nn):=h.nl;have HLH:Hid (t.hood.length=hn):=h.hl;have hm1:=h.h63;have hm2:=h.n63;clear h;have hm1':=hm1;unfold maxLen at hm2 hm1';by_cases hs0:t.states < 2
 ·have HF:Hid (rightT t=false):=rightT_head (decide_eq_false (by omega));have hd0:decide (t.states < 2)=true:=by simpa using hs0
  go_enter Tryz.func23,Tryz.ntmps23;go_wp2_with fail;have RA:Hid (Row (World.alloc w _) w.heap.size 27 [.int .i64 t.states,.slice HA hn hc,.slice NA nn nc]):=Row.new w 27 [.int .i64 t.states,.slice HA hn hc,.slice NA nn nc];have HB:Hid (Below w.heap.size w (World.alloc w (.cells #[.int .i64 t.states,.slice HA hn hc,.slice NA nn nc] 27))):=by show Below _ _ _;go_grown
  revert RA HB;generalize World.alloc w (.cells #[.int .i64 t.states,.slice HA hn hc,.slice NA nn nc] 27)=w1;intro RA HB;have hu:undef=Value.tuple #[]:=rfl;have HH:Hid (Rd w1 w1.heap.size 2 HA hn (hoodCells t.hood)):=H.out.hood.up HB.out;have HN:Hid (Below w1.heap.size w1 w1):=Below.refl _ _;have hbox:w.heap.size < w1.heap.size:=RA.out.lt
  have HS:∀ w',Below w1.heap.size w1 w'→w'.cell? ⟨w.heap.size,0,none⟩=some (.int .i64 t.states)∧w'.cell? ⟨w.heap.size,1,none⟩=some (.slice HA hn hc)∧w'.cell? ⟨w.heap.size,2,none⟩=some (.slice NA nn nc):=fun w' hw=>⟨(rowCells RA.out hw).cell 0,(rowCells RA.out hw).cell 1,(rowCells RA.out hw).cell 2⟩
  clear RA;refine wp_region_held_drew (S:=fun w'=>w'.cell? ⟨w.heap.size,0,none⟩=some (.int .i64 t.states)∧w'.cell? ⟨w.heap.size,1,none⟩=some (.slice HA hn hc)∧w'.cell? ⟨w.heap.size,2,none⟩=some (.slice NA nn nc)) (by kernel_rfl) (by (try dsimp only);exact HS _ (by first | exact below_on2 HN.out (by go_grown) | go_grown)) (fun hHeld=>?_);refine tW 0 ?_;go_simp;refine tW 1 ?_;go_simp;refine tW 2 ?_;go_simp;refine tW 3 ?_;go_simp;refine tU 4 ?_;go_simp;refine tU 5 ?_;go_simp;refine tU 6 ?_;go_simp;refine tW 7 ?_;go_simp;refine tW 8 ?_;go_simp;refine tU 9 ?_;go_simp;refine tU 10 ?_;go_simp;refine tU 11 ?_;go_simp;refine tU 12 ?_;go_simp;refine tW 13 ?_;go_simp;refine tW 14 ?_;go_simp;refine tU 15 ?_;go_simp;refine tU 16 ?_;go_simp;refine tW 17 ?_;go_simp;refine tW 18 ?_;go_simp;refine tU 19 ?_;go_simp;refine tU 20 ?_;go_simp;refine tW 21 ?_;go_simp;refine tW 22 ?_;go_simp;refine tU 23 ?_;go_simp;refine tU 24 ?_;go_simp;refine tU 25 ?_;go_simp;refine tU 26 ?_;go_simp;refine tU 27 ?_;go_simp;refine tU 28 ?_;go_simp;refine tU 29 ?_;go_simp;refine tU 30 ?_;go_simp;refine tU 31 ?_;go_simp;refine tU 32 ?_;go_simp;refine tU 33 ?_;go_simp;refine tW 34 ?_;go_simp;refine wpAnyH_done (by kernel_rfl) ?_ _;go_wp2;go_ret;exact ⟨ret_bool HF.out.symm,below_on HB.out HN.out (by go_grown)⟩
 have hd0:decide (t.states < 2)=false:=by simpa using hs0
 by_cases hs1:8 < t.states
 ·have HF:Hid (rightT t=false):=rightT_head (decide_eq_false (by omega));have hd1:decide (8 < t.states)=true:=by simpa using hs1
  go_enter Tryz.func23,Tryz.ntmps23;go_wp2_with fail;have RA:Hid (Row (World.alloc w _) w.heap.size 27 [.int .i64 t.states,.slice HA hn hc,.slice NA nn nc]):=Row.new w 27 [.int .i64 t.states,.slice HA hn hc,.slice NA nn nc];have HB:Hid (Below w.heap.size w (World.alloc w (.cells #[.int .i64 t.states,.slice HA hn hc,.slice NA nn nc] 27))):=by show Below _ _ _;go_grown
  revert RA HB;generalize World.alloc w (.cells #[.int .i64 t.states,.slice HA hn hc,.slice NA nn nc] 27)=w1;intro RA HB;have hu:undef=Value.tuple #[]:=rfl;have HH:Hid (Rd w1 w1.heap.size 2 HA hn (hoodCells t.hood)):=H.out.hood.up HB.out;have HN:Hid (Below w1.heap.size w1 w1):=Below.refl _ _;have hbox:w.heap.size < w1.heap.size:=RA.out.lt
  have HS:∀ w',Below w1.heap.size w1 w'→w'.cell? ⟨w.heap.size,0,none⟩=some (.int .i64 t.states)∧w'.cell? ⟨w.heap.size,1,none⟩=some (.slice HA hn hc)∧w'.cell? ⟨w.heap.size,2,none⟩=some (.slice NA nn nc):=fun w' hw=>⟨(rowCells RA.out hw).cell 0,(rowCells RA.out hw).cell 1,(rowCells RA.out hw).cell 2⟩
  clear RA;refine wp_region_held_drew (S:=fun w'=>w'.cell? ⟨w.heap.size,0,none⟩=some (.int .i64 t.states)∧w'.cell? ⟨w.heap.size,1,none⟩=some (.slice HA hn hc)∧w'.cell? ⟨w.heap.size,2,none⟩=some (.slice NA nn nc)) (by kernel_rfl) (by (try dsimp only);exact HS _ (by first | exact below_on2 HN.out (by go_grown) | go_grown)) (fun hHeld=>?_);refine tW 0 ?_;go_simp;refine tW 1 ?_;go_simp;refine tW 2 ?_;go_simp;refine tW 3 ?_;go_simp;refine tW 4 ?_;go_simp;refine tW 5 ?_;go_simp;refine tW 6 ?_;go_simp;refine tW 7 ?_;go_simp;refine tW 8 ?_;go_simp;refine tU 9 ?_;go_simp;refine tU 10 ?_;go_simp;refine tU 11 ?_;go_simp;refine tU 12 ?_;go_simp;refine tW 13 ?_;go_simp;refine tW 14 ?_;go_simp;refine tU 15 ?_;go_simp;refine tU 16 ?_;go_simp;refine tW 17 ?_;go_simp;refine tW 18 ?_;go_simp;refine tU 19 ?_;go_simp;refine tU 20 ?_;go_simp;refine tW 21 ?_;go_simp;refine tW 22 ?_;go_simp;refine tU 23 ?_;go_simp;refine tU 24 ?_;go_simp;refine tU 25 ?_;go_simp;refine tU 26 ?_;go_simp;refine tU 27 ?_;go_simp;refine tU 28 ?_;go_simp;refine tU 29 ?_;go_simp;refine tU 30 ?_;go_simp;refine tU 31 ?_;go_simp;refine tU 32 ?_;go_simp;refine tU 33 ?_;go_simp;refine tW 34 ?_;go_simp;refine wpAnyH_done (by kernel_rfl) ?_ _;go_wp2;go_ret;exact ⟨ret_bool HF.out.symm,below_on HB.out HN.out (by go_grown)⟩
 have hd1:decide (8 < t.states)=false:=by simpa using hs1
 cases hh:hoodOk t.hood
 ·have HF:Hid (rightT t=false):=by show _=_;simp [rightT,hh]
  go_enter Tryz.func23,Tryz.ntmps23;go_wp2_with fail;have RA:Hid (Row (World.alloc w _) w.heap.size 27 [.int .i64 t.states,.slice HA hn hc,.slice NA nn nc]):=Row.new w 27 [.int .i64 t.states,.slice HA hn hc,.slice NA nn nc];have HB:Hid (Below w.heap.size w (World.alloc w (.cells #[.int .i64 t.states,.slice HA hn hc,.slice NA nn nc] 27))):=by show Below _ _ _;go_grown
  revert RA HB;generalize World.alloc w (.cells #[.int .i64 t.states,.slice HA hn hc,.slice NA nn nc] 27)=w1;intro RA HB;have hu:undef=Value.tuple #[]:=rfl;have HH:Hid (Rd w1 w1.heap.size 2 HA hn (hoodCells t.hood)):=H.out.hood.up HB.out;have HN:Hid (Below w1.heap.size w1 w1):=Below.refl _ _;have hbox:w.heap.size < w1.heap.size:=RA.out.lt
  have HS:∀ w',Below w1.heap.size w1 w'→w'.cell? ⟨w.heap.size,0,none⟩=some (.int .i64 t.states)∧w'.cell? ⟨w.heap.size,1,none⟩=some (.slice HA hn hc)∧w'.cell? ⟨w.heap.size,2,none⟩=some (.slice NA nn nc):=fun w' hw=>⟨(rowCells RA.out hw).cell 0,(rowCells RA.out hw).cell 1,(rowCells RA.out hw).cell 2⟩
  clear RA;refine wp_region_held_drew (S:=fun w'=>w'.cell? ⟨w.heap.size,0,none⟩=some (.int .i64 t.states)∧w'.cell? ⟨w.heap.size,1,none⟩=some (.slice HA hn hc)∧w'.cell? ⟨w.heap.size,2,none⟩=some (.slice NA nn nc)) (by kernel_rfl) (by (try dsimp only);exact HS _ (by first | exact below_on2 HN.out (by go_grown) | go_grown)) (fun hHeld=>?_);refine tW 0 ?_;go_simp;refine tW 1 ?_;go_simp;refine tW 2 ?_;go_simp;refine tW 3 ?_;go_simp;refine tW 4 ?_;go_simp;refine tW 5 ?_;go_simp;refine tW 6 ?_;go_simp;refine tW 7 ?_;go_simp;refine tW 8 ?_;go_simp;refine tW 9 ?_;go_simp;refine tW 10 ?_;go_simp;refine wpAnyH_ready (rs:=[11]) (by kernel_rfl) (by simp) ?_;refine AllReadyH.cons rfl (fun K hK=>?_) AllReadyH.nil;go_simp
  go_at_call 72
  refine (hoodRight_any t.hood HA hn hc _ (by exact HH.out.up (by first | exact below_on2 HN.out (by go_grown) | go_grown)) hm1).mono ?_;rw [hh];rintro e w7 ⟨rfl,hb⟩
  have HN:=(show Hid (Below w1.heap.size w1 w7) from below_on HN.out (by go_grown) hb)
  clear hb;refine hK.out _ _ ?_ (fun hHeld=>?_)
  ·(try dsimp only);exact HS _ (by first | exact below_on2 HN.out (by go_grown) | go_grown)
  clear hK K
  try go_simp
  refine tW 12 ?_;go_simp;refine tW 13 ?_;go_simp;refine tW 14 ?_;go_simp;refine tU 15 ?_;go_simp;refine tU 16 ?_;go_simp;refine tW 17 ?_;go_simp;refine tW 18 ?_;go_simp;refine tU 19 ?_;go_simp;refine tU 20 ?_;go_simp;refine tW 21 ?_;go_simp;refine tW 22 ?_;go_simp;refine tU 23 ?_;go_simp;refine tU 24 ?_;go_simp;refine tU 25 ?_;go_simp;refine tU 26 ?_;go_simp;refine tU 27 ?_;go_simp;refine tU 28 ?_;go_simp;refine tU 29 ?_;go_simp;refine tU 30 ?_;go_simp;refine tU 31 ?_;go_simp;refine tU 32 ?_;go_simp;refine tU 33 ?_;go_simp;refine tW 34 ?_;go_simp;refine wpAnyH_done (by kernel_rfl) ?_ _;go_wp2;go_ret;exact ⟨ret_bool HF.out.symm,below_on HB.out HN.out (by go_grown)⟩
 by_cases hv0:(nn:Int) < 1
 ·have HF:Hid (rightT t=false):=rightT_head (decide_eq_false (by rw [HL.out];omega));have he0:decide ((nn:Int) < 1)=true:=by simpa using hv0
  go_enter Tryz.func23,Tryz.ntmps23;go_wp2_with fail;have RA:Hid (Row (World.alloc w _) w.heap.size 27 [.int .i64 t.states,.slice HA hn hc,.slice NA nn nc]):=Row.new w 27 [.int .i64 t.states,.slice HA hn hc,.slice NA nn nc];have HB:Hid (Below w.heap.size w (World.alloc w (.cells #[.int .i64 t.states,.slice HA hn hc,.slice NA nn nc] 27))):=by show Below _ _ _;go_grown
  revert RA HB;generalize World.alloc w (.cells #[.int .i64 t.states,.slice HA hn hc,.slice NA nn nc] 27)=w1;intro RA HB;have hu:undef=Value.tuple #[]:=rfl;have HH:Hid (Rd w1 w1.heap.size 2 HA hn (hoodCells t.hood)):=H.out.hood.up HB.out;have HN:Hid (Below w1.heap.size w1 w1):=Below.refl _ _;have hbox:w.heap.size < w1.heap.size:=RA.out.lt
  have HS:∀ w',Below w1.heap.size w1 w'→w'.cell? ⟨w.heap.size,0,none⟩=some (.int .i64 t.states)∧w'.cell? ⟨w.heap.size,1,none⟩=some (.slice HA hn hc)∧w'.cell? ⟨w.heap.size,2,none⟩=some (.slice NA nn nc):=fun w' hw=>⟨(rowCells RA.out hw).cell 0,(rowCells RA.out hw).cell 1,(rowCells RA.out hw).cell 2⟩
  clear RA;refine wp_region_held_drew (S:=fun w'=>w'.cell? ⟨w.heap.size,0,none⟩=some (.int .i64 t.states)∧w'.cell? ⟨w.heap.size,1,none⟩=some (.slice HA hn hc)∧w'.cell? ⟨w.heap.size,2,none⟩=some (.slice NA nn nc)) (by kernel_rfl) (by (try dsimp only);exact HS _ (by first | exact below_on2 HN.out (by go_grown) | go_grown)) (fun hHeld=>?_);refine tW 0 ?_;go_simp;refine tW 1 ?_;go_simp;refine tW 2 ?_;go_simp;refine tW 3 ?_;go_simp;refine tW 4 ?_;go_simp;refine tW 5 ?_;go_simp;refine tW 6 ?_;go_simp;refine tW 7 ?_;go_simp;refine tW 8 ?_;go_simp;refine tW 9 ?_;go_simp;refine tW 10 ?_;go_simp;refine wpAnyH_ready (rs:=[11]) (by kernel_rfl) (by simp) ?_;refine AllReadyH.cons rfl (fun K hK=>?_) AllReadyH.nil;go_simp
  go_at_call 72
  refine (hoodRight_any t.hood HA hn hc _ (by exact HH.out.up (by first | exact below_on2 HN.out (by go_grown) | go_grown)) hm1).mono ?_;rw [hh];rintro e w7 ⟨rfl,hb⟩
  have HN:=(show Hid (Below w1.heap.size w1 w7) from below_on HN.out (by go_grown) hb)
  clear hb;refine hK.out _ _ ?_ (fun hHeld=>?_)
  ·(try dsimp only);exact HS _ (by first | exact below_on2 HN.out (by go_grown) | go_grown)
  clear hK K
  try go_simp
  refine tW 12 ?_;go_simp;refine tW 13 ?_;go_simp;refine tW 14 ?_;go_simp;refine tW 15 ?_;go_simp;refine tW 16 ?_;go_simp;refine tW 17 ?_;go_simp;refine tW 18 ?_;go_simp;refine tU 19 ?_;go_simp;refine tU 20 ?_;go_simp;refine tW 21 ?_;go_simp;refine tW 22 ?_;go_simp;refine tU 23 ?_;go_simp;refine tU 24 ?_;go_simp;refine tU 25 ?_;go_simp;refine tU 26 ?_;go_simp;refine tU 27 ?_;go_simp;refine tU 28 ?_;go_simp;refine tU 29 ?_;go_simp;refine tU 30 ?_;go_simp;refine tU 31 ?_;go_simp;refine tU 32 ?_;go_simp;refine tU 33 ?_;go_simp;refine tW 34 ?_;go_simp;refine wpAnyH_done (by kernel_rfl) ?_ _;go_wp2;go_ret;exact ⟨ret_bool HF.out.symm,below_on HB.out HN.out (by go_grown)⟩
 have he0:decide ((nn:Int) < 1)=false:=by simpa using hv0
 by_cases hv1:4096 < (nn:Int)
 ·have HF:Hid (rightT t=false):=rightT_head (decide_eq_false (by rw [HL.out];omega));have he1:decide (4096 < (nn:Int))=true:=by simpa using hv1
  go_enter Tryz.func23,Tryz.ntmps23;go_wp2_with fail;have RA:Hid (Row (World.alloc w _) w.heap.size 27 [.int .i64 t.states,.slice HA hn hc,.slice NA nn nc]):=Row.new w 27 [.int .i64 t.states,.slice HA hn hc,.slice NA nn nc];have HB:Hid (Below w.heap.size w (World.alloc w (.cells #[.int .i64 t.states,.slice HA hn hc,.slice NA nn nc] 27))):=by show Below _ _ _;go_grown
  revert RA HB;generalize World.alloc w (.cells #[.int .i64 t.states,.slice HA hn hc,.slice NA nn nc] 27)=w1;intro RA HB;have hu:undef=Value.tuple #[]:=rfl;have HH:Hid (Rd w1 w1.heap.size 2 HA hn (hoodCells t.hood)):=H.out.hood.up HB.out;have HN:Hid (Below w1.heap.size w1 w1):=Below.refl _ _;have hbox:w.heap.size < w1.heap.size:=RA.out.lt
  have HS:∀ w',Below w1.heap.size w1 w'→w'.cell? ⟨w.heap.size,0,none⟩=some (.int .i64 t.states)∧w'.cell? ⟨w.heap.size,1,none⟩=some (.slice HA hn hc)∧w'.cell? ⟨w.heap.size,2,none⟩=some (.slice NA nn nc):=fun w' hw=>⟨(rowCells RA.out hw).cell 0,(rowCells RA.out hw).cell 1,(rowCells RA.out hw).cell 2⟩
  clear RA;refine wp_region_held_drew (S:=fun w'=>w'.cell? ⟨w.heap.size,0,none⟩=some (.int .i64 t.states)∧w'.cell? ⟨w.heap.size,1,none⟩=some (.slice HA hn hc)∧w'.cell? ⟨w.heap.size,2,none⟩=some (.slice NA nn nc)) (by kernel_rfl) (by (try dsimp only);exact HS _ (by first | exact below_on2 HN.out (by go_grown) | go_grown)) (fun hHeld=>?_);refine tW 0 ?_;go_simp;refine tW 1 ?_;go_simp;refine tW 2 ?_;go_simp;refine tW 3 ?_;go_simp;refine tW 4 ?_;go_simp;refine tW 5 ?_;go_simp;refine tW 6 ?_;go_simp;refine tW 7 ?_;go_simp;refine tW 8 ?_;go_simp;refine tW 9 ?_;go_simp;refine tW 10 ?_;go_simp;refine wpAnyH_ready (rs:=[11]) (by kernel_rfl) (by simp) ?_;refine AllReadyH.cons rfl (fun K hK=>?_) AllReadyH.nil;go_simp
  go_at_call 72
  refine (hoodRight_any t.hood HA hn hc _ (by exact HH.out.up (by first | exact below_on2 HN.out (by go_grown) | go_grown)) hm1).mono ?_;rw [hh];rintro e w7 ⟨rfl,hb⟩
  have HN:=(show Hid (Below w1.heap.size w1 w7) from below_on HN.out (by go_grown) hb)
  clear hb;refine hK.out _ _ ?_ (fun hHeld=>?_)
  ·(try dsimp only);exact HS _ (by first | exact below_on2 HN.out (by go_grown) | go_grown)
  clear hK K
  try go_simp
  refine tW 12 ?_;go_simp;refine tW 13 ?_;go_simp;refine tW 14 ?_;go_simp;refine tW 15 ?_;go_simp;refine tW 16 ?_;go_simp;refine tW 17 ?_;go_simp;refine tW 18 ?_;go_simp;refine tW 19 ?_;go_simp;refine tW 20 ?_;go_simp;refine tW 21 ?_;go_simp;refine tW 22 ?_;go_simp;refine tU 23 ?_;go_simp;refine tU 24 ?_;go_simp;refine tU 25 ?_;go_simp;refine tU 26 ?_;go_simp;refine tU 27 ?_;go_simp;refine tU 28 ?_;go_simp;refine tU 29 ?_;go_simp;refine tU 30 ?_;go_simp;refine tU 31 ?_;go_simp;refine tU 32 ?_;go_simp;refine tU 33 ?_;go_simp;refine tW 34 ?_;go_simp;refine wpAnyH_done (by kernel_rfl) ?_ _;go_wp2;go_ret;exact ⟨ret_bool HF.out.symm,below_on HB.out HN.out (by go_grown)⟩
 have he1:decide (4096 < (nn:Int))=false:=by simpa using hv1
 obtain ⟨m,rfl⟩:∃ m,nn=m+1:=⟨nn - 1,by omega⟩
 obtain ⟨ad,rfl,hb,g0,g1⟩:=H.out.node (k:=m) (by omega);clear g1;generalize hlv:(t.nodes.getD m default).level=lv at g0;have HV:=hiD hlv;clear hlv;have hj1:(0:Int)≤(m:Int):=by omega
 have hjn:(m:Int) < (m:Int)+1:=by omega
 have hwj:IntKind.i64.wrap (m:Int)=(m:Int):=IntWalk.i64_in _ (by omega);have he0:decide ((m:Int)+1 < 1)=false:=by rw [decide_eq_false_iff_not];omega
 have he1:decide (4096 < (m:Int)+1)=false:=by rw [decide_eq_false_iff_not];omega
 have hne:(lv != (hn:Int))=true:=by
  rw [bne_iff_ne];intro e
  apply hbad
  refine ⟨hh,decide_eq_true ⟨⟨by omega,by omega⟩,by rw [HL.out];omega,by rw [HL.out];omega,?_⟩⟩;rw [HL.out,Nat.add_sub_cancel,HV.out,e,HLH.out]
 have HF:Hid (rightT t=false):=rightT_head (decide_eq_false (fun h=>by
  have:=h.2.2.2;rw [HL.out,Nat.add_sub_cancel,HV.out,HLH.out] at this
  rw [this] at hne;simp at hne))
 clear hbad hs0 hs1 hv0 hv1;go_enter Tryz.func23,Tryz.ntmps23;go_wp2_with fail;have RA:Hid (Row (World.alloc w _) w.heap.size 27 [.int .i64 t.states,.slice HA hn hc,.slice (some ad) (m+1) nc]):=Row.new w 27 [.int .i64 t.states,.slice HA hn hc,.slice (some ad) (m+1) nc];have HB:Hid (Below w.heap.size w (World.alloc w (.cells #[.int .i64 t.states,.slice HA hn hc,.slice (some ad) (m+1) nc] 27))):=by show Below _ _ _;go_grown
 revert RA HB;generalize World.alloc w (.cells #[.int .i64 t.states,.slice HA hn hc,.slice (some ad) (m+1) nc] 27)=w1;intro RA HB;have hu:undef=Value.tuple #[]:=rfl;have HH:Hid (Rd w1 w1.heap.size 2 HA hn (hoodCells t.hood)):=H.out.hood.up HB.out;have HN:Hid (Below w1.heap.size w1 w1):=Below.refl _ _;have hbox:w.heap.size < w1.heap.size:=RA.out.lt
 have HS:∀ w',Below w1.heap.size w1 w'→w'.cell? ⟨w.heap.size,0,none⟩=some (.int .i64 t.states)∧w'.cell? ⟨w.heap.size,1,none⟩=some (.slice HA hn hc)∧w'.cell? ⟨w.heap.size,2,none⟩=some (.slice (some ad) (m+1) nc)∧w'.cell? (ad.add (m * 2))=some (.int .i64 lv):=fun w' hw=>⟨(rowCells RA.out hw).cell 0,(rowCells RA.out hw).cell 1,(rowCells RA.out hw).cell 2,((HB.out.trans (hw.mono HB.out.size)).cell (by rw [add_block];exact hb)).trans g0⟩
 clear RA g0;refine wp_region_held_drew (S:=fun w'=>w'.cell? ⟨w.heap.size,0,none⟩=some (.int .i64 t.states)∧w'.cell? ⟨w.heap.size,1,none⟩=some (.slice HA hn hc)∧w'.cell? ⟨w.heap.size,2,none⟩=some (.slice (some ad) (m+1) nc)∧w'.cell? (ad.add (m * 2))=some (.int .i64 lv)) (by kernel_rfl) (by (try dsimp only);exact HS _ (by first | exact below_on2 HN.out (by go_grown) | go_grown)) (fun hHeld=>?_);refine tW 0 ?_;go_simp;refine tW 1 ?_;go_simp;refine tW 2 ?_;go_simp;refine tW 3 ?_;go_simp;refine tW 4 ?_;go_simp;refine tW 5 ?_;go_simp;refine tW 6 ?_;go_simp;refine tW 7 ?_;go_simp;refine tW 8 ?_;go_simp;refine tW 9 ?_;go_simp;refine tW 10 ?_;go_simp;refine wpAnyH_ready (rs:=[11]) (by kernel_rfl) (by simp) ?_;refine AllReadyH.cons rfl (fun K hK=>?_) AllReadyH.nil;go_simp
 go_at_call 72
 refine (hoodRight_any t.hood HA hn hc _ (by exact HH.out.up (by first | exact below_on2 HN.out (by go_grown) | go_grown)) hm1).mono ?_;rw [hh];rintro e w7 ⟨rfl,hb⟩
 have HN:=(show Hid (Below w1.heap.size w1 w7) from below_on HN.out (by go_grown) hb)
 clear hb;refine hK.out _ _ ?_ (fun hHeld=>?_)
 ·(try dsimp only);exact HS _ (by first | exact below_on2 HN.out (by go_grown) | go_grown)
 clear hK K
 try go_simp
 refine tW 12 ?_;go_simp;refine tW 13 ?_;go_simp;refine tW 14 ?_;go_simp;refine tW 15 ?_;go_simp;refine tW 16 ?_;go_simp;refine tW 17 ?_;go_simp;refine tW 18 ?_;go_simp;refine tW 19 ?_;go_simp;refine tW 20 ?_;go_simp;refine tW 21 ?_;go_simp;refine tW 22 ?_;go_simp;refine tW 23 ?_;go_simp;refine tW 24 ?_;go_simp;refine tW 25 ?_;go_simp;refine tW 26 ?_;go_simp;refine tW 27 ?_;go_simp;refine tW 28 ?_;go_simp;refine tW 29 ?_;go_simp;refine tW 30 ?_;go_simp;refine tW 31 ?_;go_simp;refine tW 32 ?_;go_simp;refine tW 33 ?_;go_simp;refine tW 34 ?_;go_simp;refine wpAnyH_done (by kernel_rfl) ?_ _;go_wp2;go_ret;exact ⟨ret_bool HF.out.symm,below_on HB.out HN.out (by go_grown)⟩
end Go.Proofs.YtbijfnbelkbofaaGreatDoor
namespace Go.Proofs.YtbijfnbelkbofaaGreatDoor
open Go.RowKit
theorem headOk_parts {t:Tre} (h:headOk t=true):(2≤t.states∧t.states≤8)∧1≤t.nodes.length∧t.nodes.length≤4096∧(t.nodes.getD (t.nodes.length - 1) default).level=t.hood.length:=by
 simpa [headOk] using h
theorem rightT_all {t:Tre} (h1:hoodOk t.hood=true) (h2:headOk t=true) (h:∀ i,i < t.nodes.length→nodeOk t i=true):rightT t=true:=by
 have:nodesOk t=true:=decide_eq_true h
 simp [rightT,h1,h2,this]
theorem nodeOk_len {t:Tre} {i:Nat} {x:Nd} (hx:t.nodes.getD i default=x) (h:¬ (1≤x.level∧x.level≤t.hood.length∧(x.next.length:Int)=t.states)):nodeOk t i=false:=by
 rw [nodeOk,hx,decide_eq_false h];rfl
theorem nodeOk_link {t:Tre} {i:Nat} {x:Nd} (hx:t.nodes.getD i default=x) (s:Nat) (hs:s < x.next.length) (h:linkOk t i x (x.next.getD s 0)=false):nodeOk t i=false:=by
 rw [nodeOk,hx,all_false_at _ _ s hs h];simp
theorem nodeOk_all {t:Tre} {i:Nat} {x:Nd} (hx:t.nodes.getD i default=x) (h:1≤x.level∧x.level≤t.hood.length∧(x.next.length:Int)=t.states) (hs:∀ s,s < x.next.length→linkOk t i x (x.next.getD s 0)=true):nodeOk t i=true:=by
 rw [nodeOk,hx,decide_eq_true h,all_true_at _ _ hs];rfl
set_option maxRecDepth 100000 in
set_option maxHeartbeats 4000000 in
theorem treeRight_ok (t:Tre) (HA NA:Option Addr) (hn hc nn nc:Nat) (sl:List Sl) (w:World) (h:TAt w t HA NA hn nn sl) (hh:hoodOk t.hood=true) (hg:headOk t=true):
 Calls Tryz.prog 23 #[.agg #[.int .i64 t.states,.slice HA hn hc,.slice NA nn nc]] w fun e w'=>e=.returned (.bool (rightT t))∧Below w.heap.size w w':=by
 have H:=hiD h;have HL:Hid (t.nodes.length=nn):=h.nl;have HLH:Hid (t.hood.length=hn):=h.hl;have hm1:=h.h63;have HG:=hiD hg;obtain ⟨⟨q1,q2⟩,q3,q4,q5⟩:=headOk_parts hg;rw [HL.out] at q3 q4
 have hn25:hn≤25:=by
  simp only [hoodOk,Bool.and_eq_true,decide_eq_true_eq] at hh;rw [HLH.out] at hh;omega
 have HH0:=hiD hh;clear h hg;have hs0:¬ t.states < 2:=by omega
 have hs1:¬ 8 < t.states:=by omega
 have hd0:decide (t.states < 2)=false:=by simpa using hs0
 have hd1:decide (8 < t.states)=false:=by simpa using hs1
 obtain ⟨m,rfl⟩:∃ m,nn=m+1:=⟨nn - 1,by omega⟩
 obtain ⟨ad,rfl,hb,g0,g1⟩:=H.out.node (k:=m) (by omega);clear g1;rw [HL.out,Nat.add_sub_cancel,HLH.out] at q5;rw [q5] at g0;clear q5;have hj1:(0:Int)≤(m:Int):=by omega
 have hjn:(m:Int) < (m:Int)+1:=by omega
 have hwj:IntKind.i64.wrap (m:Int)=(m:Int):=IntWalk.i64_in _ (by omega);have he0:decide ((m:Int)+1 < 1)=false:=by rw [decide_eq_false_iff_not];omega
 have he1:decide (4096 < (m:Int)+1)=false:=by rw [decide_eq_false_iff_not];omega
 have hne:((hn:Int) != (hn:Int))=false:=by simp
 go_enter Tryz.func23,Tryz.ntmps23;go_wp2_with fail;have RA:Hid (Row (World.alloc w _) w.heap.size 27 [.int .i64 t.states,.slice HA hn hc,.slice (some ad) (m+1) nc]):=Row.new w 27 [.int .i64 t.states,.slice HA hn hc,.slice (some ad) (m+1) nc];have HB:Hid (Below w.heap.size w (World.alloc w (.cells #[.int .i64 t.states,.slice HA hn hc,.slice (some ad) (m+1) nc] 27))):=by show Below _ _ _;go_grown
 revert RA HB;generalize World.alloc w (.cells #[.int .i64 t.states,.slice HA hn hc,.slice (some ad) (m+1) nc] 27)=w1;intro RA HB;have hu:undef=Value.tuple #[]:=rfl;have HH:Hid (Rd w1 w1.heap.size 2 HA hn (hoodCells t.hood)):=H.out.hood.up HB.out;have HN:Hid (Below w1.heap.size w1 w1):=Below.refl _ _;have hbox:w.heap.size < w1.heap.size:=RA.out.lt
 have HS:∀ w',Below w1.heap.size w1 w'→w'.cell? ⟨w.heap.size,0,none⟩=some (.int .i64 t.states)∧w'.cell? ⟨w.heap.size,1,none⟩=some (.slice HA hn hc)∧w'.cell? ⟨w.heap.size,2,none⟩=some (.slice (some ad) (m+1) nc)∧w'.cell? (ad.add (m * 2))=some (.int .i64 hn):=fun w' hw=>⟨(rowCells RA.out hw).cell 0,(rowCells RA.out hw).cell 1,(rowCells RA.out hw).cell 2,((HB.out.trans (hw.mono HB.out.size)).cell (by rw [add_block];exact hb)).trans g0⟩
 clear g0;refine wp_region_held_drew (S:=fun w'=>w'.cell? ⟨w.heap.size,0,none⟩=some (.int .i64 t.states)∧w'.cell? ⟨w.heap.size,1,none⟩=some (.slice HA hn hc)∧w'.cell? ⟨w.heap.size,2,none⟩=some (.slice (some ad) (m+1) nc)∧w'.cell? (ad.add (m * 2))=some (.int .i64 hn)) (by kernel_rfl) (by (try dsimp only);exact HS _ (by first | exact below_on2 HN.out (by go_grown) | go_grown)) (fun hHeld=>?_);refine tW 0 ?_;go_simp;refine tW 1 ?_;go_simp;refine tW 2 ?_;go_simp;refine tW 3 ?_;go_simp;refine tW 4 ?_;go_simp;refine tW 5 ?_;go_simp;refine tW 6 ?_;go_simp;refine tW 7 ?_;go_simp;refine tW 8 ?_;go_simp;refine tW 9 ?_;go_simp;refine tW 10 ?_;go_simp;refine wpAnyH_ready (rs:=[11]) (by kernel_rfl) (by simp) ?_;refine AllReadyH.cons rfl (fun K hK=>?_) AllReadyH.nil;go_simp
 go_at_call 72
 refine (hoodRight_any t.hood HA hn hc _ (by exact HH.out.up (by first | exact below_on2 HN.out (by go_grown) | go_grown)) hm1).mono ?_;rw [hh];rintro e w7 ⟨rfl,hb⟩
 have HN:=(show Hid (Below w1.heap.size w1 w7) from below_on HN.out (by go_grown) hb)
 clear hb;refine hK.out _ _ ?_ (fun hHeld=>?_)
 ·(try dsimp only);exact HS _ (by first | exact below_on2 HN.out (by go_grown) | go_grown)
 clear hK K
 try go_simp
 refine tW 12 ?_;go_simp;refine tW 13 ?_;go_simp;refine tW 14 ?_;go_simp;refine tW 15 ?_;go_simp;refine tW 16 ?_;go_simp;refine tW 17 ?_;go_simp;refine tW 18 ?_;go_simp;refine tW 19 ?_;go_simp;refine tW 20 ?_;go_simp;refine tW 21 ?_;go_simp;refine tW 22 ?_;go_simp;refine tW 23 ?_;go_simp;refine tW 24 ?_;go_simp;refine tW 25 ?_;go_simp;refine tW 26 ?_;go_simp;refine tW 27 ?_;go_simp;refine tW 28 ?_;go_simp;refine tW 29 ?_;go_simp;refine tW 30 ?_;go_simp;refine tW 31 ?_;go_simp;refine tW 32 ?_;go_simp;refine tW 33 ?_;go_simp;refine tW 34 ?_;go_simp;refine wpAnyH_done (by kernel_rfl) ?_ _;clear hs0 hs1 hd0 hd1 he0 he1 hne hwj hj1 hjn;have RW:=hiD (rowCells RA.out HN.out);obtain ⟨k0,k1,k2,kl⟩:=RW.out.cells3;go_wp2;clear k0 k1 k2 kl RW hHeld HS hb hh
 go_loopg [4,49] (m+1) (fun gg _ s49 wr=>∃ kk:Nat,kk≤m+1∧m+1 - kk≤gg∧s49=.int .i64 kk∧Aside (Below w1.heap.size w1 wr)∧Aside (∀ j,j < kk→nodeOk t j=true))
 case atStart=>exact ⟨0,Nat.zero_le _,by omega,rfl,(by first | exact HN.out | exact below_drewN HN.out _ | exact below_on2 HN.out (by go_grown)),fun j hj=>absurd hj (Nat.not_lt_zero _)⟩
 case round=>
  obtain ⟨kk,hkk,hgg,rfl,BW,AA⟩:=hrel;clear HN;have RW:=hiD (rowCells RA.out BW.out);obtain ⟨k0,k1,k2,kl⟩:=RW.out.cells3;have HBr:=hiD (below_on2 HB.out BW.out);by_cases hlt:kk < m+1
  ·have hltz:(kk:Int) < (m:Int)+1:=by omega
   obtain ⟨ad',e',hb',g0,g1⟩:=(H.out.up HBr.out).node hlt
   cases e'
   have HNX:=(H.out.up HBr.out).next kk (by rw [HL.out];exact hlt);generalize hx:t.nodes.getD kk default=x at g0 HNX;generalize hq:sl.getD kk default=q at g1 HNX;obtain ⟨qa,ql,qc⟩:=q;dsimp only at HNX g1;obtain ⟨hnx,hql⟩:=HNX;have HNX:=hiD hnx;have HNL:Hid (x.next.length=ql):=by have:=hnx.1;simp at this;show _=_;omega
   have HX:=hiD hx;have hfalse:Hid (nodeOk t kk=false→rightT t=false):=fun he=>rightT_node kk (by rw [HL.out];exact hlt) he
   unfold maxLen at hql;clear hx hq hnx;by_cases c1:x.level < 1
   ·have HF:Hid (rightT t=false):=hfalse.out (nodeOk_len HX.out (by omega));go_wp2;go_ret;exact ⟨ret_bool HF.out.symm,below_on2 HBr.out (by go_grown)⟩
   by_cases c2:(hn:Int) < x.level
   ·have HF:Hid (rightT t=false):=hfalse.out (nodeOk_len HX.out (by rw [HLH.out];omega));go_wp2;go_ret;exact ⟨ret_bool HF.out.symm,below_on2 HBr.out (by go_grown)⟩
   cases c3:((ql:Int) != t.states)
   case true=>
    have HF:Hid (rightT t=false):=hfalse.out (nodeOk_len HX.out (by rw [HNL.out];rw [bne_iff_ne] at c3;omega));go_wp2;go_ret;exact ⟨ret_bool HF.out.symm,below_on2 HBr.out (by go_grown)⟩
   have HC:Hid (1≤x.level∧x.level≤t.hood.length∧(x.next.length:Int)=t.states):=⟨by omega,by rw [HLH.out];omega,by rw [HNL.out];simpa using c3⟩
   go_wp2;clear c3 k0 k1 k2 kl g0 g1;have RX:Hid (Row (World.alloc wr _) wr.heap.size 65 [.int .i64 x.level,.slice qa ql qc]):=Row.new wr 65 [.int .i64 x.level,.slice qa ql qc];have HW2:Hid (Below wr.heap.size wr (World.alloc wr (.cells #[.int .i64 x.level,.slice qa ql qc] 65))):=by show Below _ _ _;go_grown
   have RT:=hiD (rowCells RW.out HW2.out);revert RX HW2 RT;generalize World.alloc wr (.cells #[.int .i64 x.level,.slice qa ql qc] 65)=w2;intro RX HW2 RT;have HB2:=hiD (below_on2 HBr.out HW2.out);have HN2:=hiD (below_on2 BW.out HW2.out);have HNX2:Hid (Rd w2 w2.heap.size 1 qa ql (ints x.next)):=HNX.out.up HW2.out;clear HNX HBr RW BW HW2
   obtain ⟨wo,rfl⟩:∃ wo:World,wo=wr:=⟨_,rfl⟩
   go_loopg [7,76] ql (fun gg _ s76 wr=>∃ k2:Nat,k2≤ql∧ql - k2≤gg∧s76=.int .i64 k2∧Aside (Below w2.heap.size w2 wr)∧Aside (∀ s,s < k2→linkOk t kk x (x.next.getD s 0)=true))
   case atStart=>exact ⟨0,Nat.zero_le _,by omega,rfl,Below.refl _ _,fun j hj=>absurd hj (Nat.not_lt_zero _)⟩
   case round=>
    obtain ⟨n2,hn2,hg2,rfl,BI,AI⟩:=hrel;have RXi:=hiD (rowCells RX.out BI.out);have RTi:=hiD (rowCells RT.out BI.out);obtain ⟨k0,k1,k2,kl⟩:=RTi.out.cells3;obtain ⟨x0,x1,xl⟩:=RXi.out.cells2;have HBi:=hiD (below_on2 HB2.out BI.out);by_cases hlt2:n2 < ql
    ·have hltz2:(n2:Int) < (ql:Int):=by omega
     obtain ⟨adn,rfl,hbn,hz⟩:=(HNX2.out.up BI.out).int hlt2;generalize hzz:x.next.getD n2 0=z at hz;have HZ:=hiD hzz;have hfl:Hid (linkOk t kk x z=false→rightT t=false):=fun he=>hfalse.out (nodeOk_link HX.out n2 (by rw [HNL.out];exact hlt2) (by rw [HZ.out];exact he))
     clear hzz;have hsub:IntKind.i64.wrap (x.level - 1)=x.level - 1:=IntWalk.i64_in _ (by omega);by_cases a1:z < 0
     ·have HF:Hid (rightT t=false):=hfl.out (decide_eq_false (by omega));have d1:decide (z < 0)=true:=by simpa using a1
      go_wp2_with fail;go_quiet (fail);go_wp2;go_ret;exact ⟨ret_bool HF.out.symm,below_drewN HBi.out _⟩
     have d1:decide (z < 0)=false:=by simpa using a1
     cases d2:(x.level == 1)
     ·have hlev:1 < x.level:=by
       have:x.level≠1:=by simpa using d2
       omega
      have d3:decide (1 < x.level)=true:=by simpa using hlev
      by_cases a2:(kk:Int)≤z
      ·have HF:Hid (rightT t=false):=hfl.out (decide_eq_false (by omega));have d4:decide ((kk:Int)≤z)=true:=by simpa using a2
       go_wp2_with fail;go_quiet (fail);go_wp2;go_ret;exact ⟨ret_bool HF.out.symm,below_drewN HBi.out _⟩
      obtain ⟨zn,rfl⟩:∃ zn:Nat,z=(zn:Int):=⟨z.toNat,by omega⟩
      have d4:decide ((kk:Int)≤(zn:Int))=false:=by simpa using a2
      have d4':decide (kk≤zn)=false:=by rw [decide_eq_false_iff_not];omega
      obtain ⟨ad3,e3,hb3,n0,n1⟩:=(H.out.up HBi.out).node (k:=zn) (by omega)
      cases e3
      clear n1;generalize hlv:(t.nodes.getD zn default).level=lv at n0;have HV:=hiD hlv;clear hlv;have hz1:(zn:Int) < (m:Int)+1:=by omega
      have hz2:(0:Int)≤(zn:Int):=by omega
      cases d5:(lv != x.level - 1)
      ·have HK:Hid (linkOk t kk x (zn:Int)=true):=decide_eq_true ⟨by omega,fun h=>by omega,fun _=>⟨by omega,by rw [Int.toNat_natCast,HV.out];simpa using d5⟩⟩;go_wp2_with fail;go_quiet (fail);go_wp2;go_roundg (ql - (n2+1))
       case measure=>omega
       case rel=>
        refine ⟨n2+1,by omega,by omega,by go_num,(show Below _ _ _ from below_drewN BI.out _),(show Aside _ from fun j hj=>?_)⟩;by_cases e:j=n2
        ·subst e;rw [HZ.out];exact HK.out
        ·exact AI.out j (by omega)
      ·have HF:Hid (rightT t=false):=hfl.out (decide_eq_false (fun h=>by
        have:=(h.2.2 hlev).2;rw [Int.toNat_natCast,HV.out] at this
        rw [this] at d5;simp at d5))
       go_wp2_with fail;go_quiet (fail);go_wp2;go_ret;exact ⟨ret_bool HF.out.symm,below_drewN HBi.out _⟩
     ·have HL1:Hid (x.level=1):=by show _=_;simpa using d2
      have d3:decide (1 < x.level)=false:=by rw [decide_eq_false_iff_not];have:=HL1.out;omega
      by_cases a2:t.states≤z
      ·have HF:Hid (rightT t=false):=hfl.out (decide_eq_false (fun h=>by have:=h.2.1 HL1.out;omega));have d4:decide (t.states≤z)=true:=by simpa using a2
       go_wp2_with fail;go_quiet (fail);go_wp2;go_ret;exact ⟨ret_bool HF.out.symm,below_drewN HBi.out _⟩
      ·have d4:decide (t.states≤z)=false:=by simpa using a2
       have HK:Hid (linkOk t kk x z=true):=decide_eq_true ⟨by omega,fun _=>by omega,fun h=>by have:=HL1.out;omega⟩;go_wp2_with fail;go_quiet (fail);go_wp2;go_roundg (ql - (n2+1))
       case measure=>omega
       case rel=>
        refine ⟨n2+1,by omega,by omega,by go_num,(show Below _ _ _ from below_drewN BI.out _),(show Aside _ from fun j hj=>?_)⟩;by_cases e:j=n2
        ·subst e;rw [HZ.out];exact HK.out
        ·exact AI.out j (by omega)
    ·have hltz2:¬ (n2:Int) < (ql:Int):=by omega
     have HK:Hid (nodeOk t kk=true):=nodeOk_all HX.out HC.out (fun s hs=>AI.out s (by rw [HNL.out] at hs;omega));go_wp2;go_roundg (m+1 - (kk+1))
     case measure=>omega
     case rel=>
      refine ⟨kk+1,by omega,by omega,by go_num,(show Below _ _ _ from below_on2 HN2.out BI.out),(show Aside _ from fun j hj=>?_)⟩;by_cases e:j=kk
      ·subst e;exact HK.out
      ·exact AA.out j (by omega)
  ·have hltz:¬ (kk:Int) < (m:Int)+1:=by omega
   go_wp2;go_ret;exact ⟨ret_bool (rightT_all HH0.out HG.out (fun i hi=>AA.out i (by rw [HL.out] at hi;omega))).symm,HBr.out⟩
theorem treeRight_any (t:Tre) (HA NA:Option Addr) (hn hc nn nc:Nat) (sl:List Sl) (w:World) (h:TAt w t HA NA hn nn sl):
 Calls Tryz.prog 23 #[.agg #[.int .i64 t.states,.slice HA hn hc,.slice NA nn nc]] w fun e w'=>e=.returned (.bool (rightT t))∧Below w.heap.size w w':=by
 by_cases hb:hoodOk t.hood=true∧headOk t=true
 ·exact treeRight_ok t HA NA hn hc nn nc sl w h hb.1 hb.2
 ·exact treeRight_bad t HA NA hn hc nn nc sl w h hb
end Go.Proofs.YtbijfnbelkbofaaGreatDoor
namespace Go.Proofs.YtbijfnbelkbofaaGreatDoor
open Go.RowKit
def fewT (t:Tre):Bool:=decide (t.hood.length≤40∧t.nodes.length≤400∧∀ i,i < t.nodes.length→(t.nodes.getD i default).next.length≤20)
theorem fewT_parts {t:Tre} (h:fewT t=true):t.hood.length≤40∧t.nodes.length≤400:=by
 have:=of_decide_eq_true h;exact ⟨this.1,this.2.1⟩
theorem il_snoc (l:List Int) (k:Nat) (h:k < l.length):l.take (k+1)=l.take k ++ [l.getD k 0]:=by
 rw [List.take_succ_eq_append_getElem h,List.getD_eq_getElem?_getD,List.getElem?_eq_getElem h];rfl
theorem walk_step {t:Tre} (hr:rightT t=true) (ins:List Int) (hl:ins.length=t.hood.length) (hs:ins.all (stateIn t)=true) (j:Nat) (hj:j < ins.length):
 ∃ (kn sn:Nat),walkT t ((t.nodes.length:Int) - 1) (ins.take j)=(kn:Int)∧ins.getD j 0=(sn:Int)∧kn < t.nodes.length∧sn < (t.nodes.getD kn default).next.length ∧
  walkT t ((t.nodes.length:Int) - 1) (ins.take (j+1))=(t.nodes.getD kn default).next.getD sn 0:=by
 have h1:=(walkT_at hr ins hl (fun j hj=>stateIn_at hs hj) j (by omega)).1 hj;have h2:=stateIn_at hs hj;have e:walkT t ((t.nodes.length:Int) - 1) (ins.take (j+1))=stepT t (walkT t ((t.nodes.length:Int) - 1) (ins.take j)) (ins.getD j 0):=by rw [il_snoc _ _ hj,walkT_snoc]
 obtain ⟨kn,hk⟩:∃ kn:Nat,walkT t ((t.nodes.length:Int) - 1) (ins.take j)=(kn:Int):=⟨_,(Int.toNat_of_nonneg h1.1).symm⟩
 obtain ⟨sn,hsn⟩:∃ sn:Nat,ins.getD j 0=(sn:Int):=⟨_,(Int.toNat_of_nonneg h2.1).symm⟩
 rw [hk,hsn] at e;rw [hk] at h1;rw [hsn] at h2;obtain ⟨_,_,hn⟩:=rightT_parts hr;have hkn:kn < t.nodes.length:=by omega
 have hlen:=(nodeOk_parts (hn kn hkn)).1.2.2;refine ⟨kn,sn,hk,hsn,hkn,by omega,?_⟩;rw [e];simp [stepT]
theorem evalErr_11 {t:Tre} {ins:List Int} (h:rightT t=false):evalErr t ins=11:=by rw [evalErr,h];rfl
theorem evalErr_2 {t:Tre} {ins:List Int} (h:rightT t=true) (hl:ins.length≠t.hood.length):evalErr t ins=2:=by rw [evalErr,if_pos h,if_neg hl]
theorem evalErr_10 {t:Tre} {ins:List Int} (h:rightT t=true) (hl:ins.length=t.hood.length) (ha:ins.all (stateIn t)=false):evalErr t ins=10:=by rw [evalErr,if_pos h,if_pos hl,if_neg (by rw [ha];simp)]
theorem evalErr_0 {t:Tre} {ins:List Int} (h:rightT t=true) (hl:ins.length=t.hood.length) (ha:ins.all (stateIn t)=true):evalErr t ins=0:=by rw [evalErr,if_pos h,if_pos hl,if_pos ha]
theorem evalV_err {t:Tre} {ins:List Int} {k:Int} (h:evalErr t ins=k) (h0:k≠0):evalV t ins=0:=by rw [evalV,if_neg (by rw [h];exact h0)]
def TEvalPost (t:Tre) (ins:List Int) (w:World) (e:Ending) (w':World):Prop:=e=.returned (.tuple #[.int .i64 (evalV t ins),.int .i64 (evalErr t ins)])∧Below w.heap.size w w'
theorem tevalPost_err {t:Tre} {ins:List Int} {w w':World} {k:Int} (h:evalErr t ins=k) (h0:k≠0) (hb:Below w.heap.size w w'):TEvalPost t ins w (.returned (.tuple #[.int .i64 0,.int .i64 k])) w':=by
 refine ⟨?_,hb⟩;rw [evalV_err h h0,h]
end Go.Proofs.YtbijfnbelkbofaaGreatDoor
