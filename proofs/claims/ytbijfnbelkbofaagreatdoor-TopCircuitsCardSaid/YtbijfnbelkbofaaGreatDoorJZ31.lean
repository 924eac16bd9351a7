/-
  Lemmas for the law TopCircuits.
-/
import Derived.Test.YtbijfnbelkbofaaGreatDoorJZ27
import Derived.Test.YtbijfnbelkbofaaGreatDoorJZ30
import Derived.Test.YtbijfnbelkbofaaGreatDoorJZ29
import Derived.Laws.EntriesVeiled
import Derived.Test.YtbijfnbelkbofaaGreatDoorJZ23
import Derived.Test.YtbijfnbelkbofaaGreatDoorJZ17
import Derived.Test.YtbijfnbelkbofaaGreatDoorJZ16
import Derived.Test.YtbijfnbelkbofaaGreatDoorJZ2
import Derived.Laws.CopyOwn
import Derived.Deep.RegionLaw
import Derived.WalkSpells
import Derived.Deep.Light
set_option linter.unusedSimpArgs false
set_option linter.unusedVariables false
namespace Go.Proofs.YtbijfnbelkbofaaGreatDoor
open Go.RowKit Go.Maps
namespace TS
set_option maxRecDepth 100000 in
set_option maxHeartbeats 4000000 in
theorem buildS_any (w:World) (S:Nat) (LA:Option Addr) (ln lc:Nat) (s:Int) (ip:FuncId) (cp:Array Value) (ie:FuncId) (ce:Array Value) (hood:List Pt) (step:Int→Int→Int→Int) (fin:Int→Int) (K:Nat→Int→Prop) (M:Nat) (Us:List (Int × Int))
 (hx:VHyp w ⟨w.heap.size,S,LA,ln,lc,ip,cp,ie,ce⟩ step fin K ln M Us) (hk:K 0 s):
 Calls Tryz.prog 60 #[.int .i64 (S:Int),.slice LA ln lc,.agg #[.int .i64 (KU.hi s),.int .i64 (KU.lo s)],.func (.func ip) #[] cp,.func (.func ie) #[] ce] w (TrPost ⟨(S:Int),hood,(KU.visitT S ln step fin ln s ⟨[],[]⟩).2.ns⟩ LA ln lc w):=by
 have HX:=hiD hx;have HK:=hiD hk;have h25:=hx.hyp.H25;clear hx hk;have hmm:=@run_makeMap Tryz.prog;go_enter Tryz.func60,Tryz.ntmps60;go_upto_region 5 with fail;simp only [Nat.add_assoc,Nat.reduceAdd]
 have R0:Row ((((((((((((w.alloc (.cells #[.int .i64 (S:Int)] 3)).alloc (.cells #[.slice LA ln lc] 24)).alloc (.cells #[.int .i64 (KU.hi s),.int .i64 (KU.lo s)] 107)).alloc (.cells #[.func (.func ip) #[] cp] 108)).alloc (.cells #[.func (.func ie) #[] ce] 110)).alloc (.cells #[.int .i64 0,.slice none 0 0,.slice none 0 0] 27)).alloc (.cells #[.int .i64 (S:Int),.slice LA ln lc,.slice none 0 0] 27)).alloc (.map #[] 0)).alloc (.cells #[.map (some (w.heap.size+7))] 165)).alloc (.map #[] 0)).alloc (.cells #[.map (some (w.heap.size+9))] 120)).alloc (.cells #[.nilFunc] 166)) (w.heap.size) 3 [.int .i64 (S:Int)]:=by
  have h0:=Row.new w 3 [.int .i64 (S:Int)]
  try simp only [World.size_alloc,Nat.add_assoc,Nat.reduceAdd] at h0
  exact (((((((((((h0.alloc _).alloc _).alloc _).alloc _).alloc _).alloc _).alloc _).alloc _).alloc _).alloc _).alloc _)
 have R1:Row ((((((((((((w.alloc (.cells #[.int .i64 (S:Int)] 3)).alloc (.cells #[.slice LA ln lc] 24)).alloc (.cells #[.int .i64 (KU.hi s),.int .i64 (KU.lo s)] 107)).alloc (.cells #[.func (.func ip) #[] cp] 108)).alloc (.cells #[.func (.func ie) #[] ce] 110)).alloc (.cells #[.int .i64 0,.slice none 0 0,.slice none 0 0] 27)).alloc (.cells #[.int .i64 (S:Int),.slice LA ln lc,.slice none 0 0] 27)).alloc (.map #[] 0)).alloc (.cells #[.map (some (w.heap.size+7))] 165)).alloc (.map #[] 0)).alloc (.cells #[.map (some (w.heap.size+9))] 120)).alloc (.cells #[.nilFunc] 166)) (w.heap.size+1) 24 [.slice LA ln lc]:=by
  have h0:=Row.new (w.alloc (.cells #[.int .i64 (S:Int)] 3)) 24 [.slice LA ln lc]
  try simp only [World.size_alloc,Nat.add_assoc,Nat.reduceAdd] at h0
  exact ((((((((((h0.alloc _).alloc _).alloc _).alloc _).alloc _).alloc _).alloc _).alloc _).alloc _).alloc _)
 have R2:Row ((((((((((((w.alloc (.cells #[.int .i64 (S:Int)] 3)).alloc (.cells #[.slice LA ln lc] 24)).alloc (.cells #[.int .i64 (KU.hi s),.int .i64 (KU.lo s)] 107)).alloc (.cells #[.func (.func ip) #[] cp] 108)).alloc (.cells #[.func (.func ie) #[] ce] 110)).alloc (.cells #[.int .i64 0,.slice none 0 0,.slice none 0 0] 27)).alloc (.cells #[.int .i64 (S:Int),.slice LA ln lc,.slice none 0 0] 27)).alloc (.map #[] 0)).alloc (.cells #[.map (some (w.heap.size+7))] 165)).alloc (.map #[] 0)).alloc (.cells #[.map (some (w.heap.size+9))] 120)).alloc (.cells #[.nilFunc] 166)) (w.heap.size+2) 107 [.int .i64 (KU.hi s),.int .i64 (KU.lo s)]:=by
  have h0:=Row.new ((w.alloc (.cells #[.int .i64 (S:Int)] 3)).alloc (.cells #[.slice LA ln lc] 24)) 107 [.int .i64 (KU.hi s),.int .i64 (KU.lo s)]
  try simp only [World.size_alloc,Nat.add_assoc,Nat.reduceAdd] at h0
  exact (((((((((h0.alloc _).alloc _).alloc _).alloc _).alloc _).alloc _).alloc _).alloc _).alloc _)
 have R3:Row ((((((((((((w.alloc (.cells #[.int .i64 (S:Int)] 3)).alloc (.cells #[.slice LA ln lc] 24)).alloc (.cells #[.int .i64 (KU.hi s),.int .i64 (KU.lo s)] 107)).alloc (.cells #[.func (.func ip) #[] cp] 108)).alloc (.cells #[.func (.func ie) #[] ce] 110)).alloc (.cells #[.int .i64 0,.slice none 0 0,.slice none 0 0] 27)).alloc (.cells #[.int .i64 (S:Int),.slice LA ln lc,.slice none 0 0] 27)).alloc (.map #[] 0)).alloc (.cells #[.map (some (w.heap.size+7))] 165)).alloc (.map #[] 0)).alloc (.cells #[.map (some (w.heap.size+9))] 120)).alloc (.cells #[.nilFunc] 166)) (w.heap.size+3) 108 [.func (.func ip) #[] cp]:=by
  have h0:=Row.new (((w.alloc (.cells #[.int .i64 (S:Int)] 3)).alloc (.cells #[.slice LA ln lc] 24)).alloc (.cells #[.int .i64 (KU.hi s),.int .i64 (KU.lo s)] 107)) 108 [.func (.func ip) #[] cp]
  try simp only [World.size_alloc,Nat.add_assoc,Nat.reduceAdd] at h0
  exact ((((((((h0.alloc _).alloc _).alloc _).alloc _).alloc _).alloc _).alloc _).alloc _)
 have R4:Row ((((((((((((w.alloc (.cells #[.int .i64 (S:Int)] 3)).alloc (.cells #[.slice LA ln lc] 24)).alloc (.cells #[.int .i64 (KU.hi s),.int .i64 (KU.lo s)] 107)).alloc (.cells #[.func (.func ip) #[] cp] 108)).alloc (.cells #[.func (.func ie) #[] ce] 110)).alloc (.cells #[.int .i64 0,.slice none 0 0,.slice none 0 0] 27)).alloc (.cells #[.int .i64 (S:Int),.slice LA ln lc,.slice none 0 0] 27)).alloc (.map #[] 0)).alloc (.cells #[.map (some (w.heap.size+7))] 165)).alloc (.map #[] 0)).alloc (.cells #[.map (some (w.heap.size+9))] 120)).alloc (.cells #[.nilFunc] 166)) (w.heap.size+4) 110 [.func (.func ie) #[] ce]:=by
  have h0:=Row.new ((((w.alloc (.cells #[.int .i64 (S:Int)] 3)).alloc (.cells #[.slice LA ln lc] 24)).alloc (.cells #[.int .i64 (KU.hi s),.int .i64 (KU.lo s)] 107)).alloc (.cells #[.func (.func ip) #[] cp] 108)) 110 [.func (.func ie) #[] ce]
  try simp only [World.size_alloc,Nat.add_assoc,Nat.reduceAdd] at h0
  exact (((((((h0.alloc _).alloc _).alloc _).alloc _).alloc _).alloc _).alloc _)
 have R5:Row ((((((((((((w.alloc (.cells #[.int .i64 (S:Int)] 3)).alloc (.cells #[.slice LA ln lc] 24)).alloc (.cells #[.int .i64 (KU.hi s),.int .i64 (KU.lo s)] 107)).alloc (.cells #[.func (.func ip) #[] cp] 108)).alloc (.cells #[.func (.func ie) #[] ce] 110)).alloc (.cells #[.int .i64 0,.slice none 0 0,.slice none 0 0] 27)).alloc (.cells #[.int .i64 (S:Int),.slice LA ln lc,.slice none 0 0] 27)).alloc (.map #[] 0)).alloc (.cells #[.map (some (w.heap.size+7))] 165)).alloc (.map #[] 0)).alloc (.cells #[.map (some (w.heap.size+9))] 120)).alloc (.cells #[.nilFunc] 166)) (w.heap.size+5) 27 [.int .i64 0,.slice none 0 0,.slice none 0 0]:=by
  have h0:=Row.new (((((w.alloc (.cells #[.int .i64 (S:Int)] 3)).alloc (.cells #[.slice LA ln lc] 24)).alloc (.cells #[.int .i64 (KU.hi s),.int .i64 (KU.lo s)] 107)).alloc (.cells #[.func (.func ip) #[] cp] 108)).alloc (.cells #[.func (.func ie) #[] ce] 110)) 27 [.int .i64 0,.slice none 0 0,.slice none 0 0]
  try simp only [World.size_alloc,Nat.add_assoc,Nat.reduceAdd] at h0
  exact ((((((h0.alloc _).alloc _).alloc _).alloc _).alloc _).alloc _)
 have R6:Row ((((((((((((w.alloc (.cells #[.int .i64 (S:Int)] 3)).alloc (.cells #[.slice LA ln lc] 24)).alloc (.cells #[.int .i64 (KU.hi s),.int .i64 (KU.lo s)] 107)).alloc (.cells #[.func (.func ip) #[] cp] 108)).alloc (.cells #[.func (.func ie) #[] ce] 110)).alloc (.cells #[.int .i64 0,.slice none 0 0,.slice none 0 0] 27)).alloc (.cells #[.int .i64 (S:Int),.slice LA ln lc,.slice none 0 0] 27)).alloc (.map #[] 0)).alloc (.cells #[.map (some (w.heap.size+7))] 165)).alloc (.map #[] 0)).alloc (.cells #[.map (some (w.heap.size+9))] 120)).alloc (.cells #[.nilFunc] 166)) (w.heap.size+6) 27 [.int .i64 (S:Int),.slice LA ln lc,.slice none 0 0]:=by
  have h0:=Row.new ((((((w.alloc (.cells #[.int .i64 (S:Int)] 3)).alloc (.cells #[.slice LA ln lc] 24)).alloc (.cells #[.int .i64 (KU.hi s),.int .i64 (KU.lo s)] 107)).alloc (.cells #[.func (.func ip) #[] cp] 108)).alloc (.cells #[.func (.func ie) #[] ce] 110)).alloc (.cells #[.int .i64 0,.slice none 0 0,.slice none 0 0] 27)) 27 [.int .i64 (S:Int),.slice LA ln lc,.slice none 0 0]
  try simp only [World.size_alloc,Nat.add_assoc,Nat.reduceAdd] at h0
  exact (((((h0.alloc _).alloc _).alloc _).alloc _).alloc _)
 have R8:Row ((((((((((((w.alloc (.cells #[.int .i64 (S:Int)] 3)).alloc (.cells #[.slice LA ln lc] 24)).alloc (.cells #[.int .i64 (KU.hi s),.int .i64 (KU.lo s)] 107)).alloc (.cells #[.func (.func ip) #[] cp] 108)).alloc (.cells #[.func (.func ie) #[] ce] 110)).alloc (.cells #[.int .i64 0,.slice none 0 0,.slice none 0 0] 27)).alloc (.cells #[.int .i64 (S:Int),.slice LA ln lc,.slice none 0 0] 27)).alloc (.map #[] 0)).alloc (.cells #[.map (some (w.heap.size+7))] 165)).alloc (.map #[] 0)).alloc (.cells #[.map (some (w.heap.size+9))] 120)).alloc (.cells #[.nilFunc] 166)) (w.heap.size+8) 165 [.map (some (w.heap.size+7))]:=by
  have h0:=Row.new ((((((((w.alloc (.cells #[.int .i64 (S:Int)] 3)).alloc (.cells #[.slice LA ln lc] 24)).alloc (.cells #[.int .i64 (KU.hi s),.int .i64 (KU.lo s)] 107)).alloc (.cells #[.func (.func ip) #[] cp] 108)).alloc (.cells #[.func (.func ie) #[] ce] 110)).alloc (.cells #[.int .i64 0,.slice none 0 0,.slice none 0 0] 27)).alloc (.cells #[.int .i64 (S:Int),.slice LA ln lc,.slice none 0 0] 27)).alloc (.map #[] 0)) 165 [.map (some (w.heap.size+7))]
  try simp only [World.size_alloc,Nat.add_assoc,Nat.reduceAdd] at h0
  exact (((h0.alloc _).alloc _).alloc _)
 have R10:Row ((((((((((((w.alloc (.cells #[.int .i64 (S:Int)] 3)).alloc (.cells #[.slice LA ln lc] 24)).alloc (.cells #[.int .i64 (KU.hi s),.int .i64 (KU.lo s)] 107)).alloc (.cells #[.func (.func ip) #[] cp] 108)).alloc (.cells #[.func (.func ie) #[] ce] 110)).alloc (.cells #[.int .i64 0,.slice none 0 0,.slice none 0 0] 27)).alloc (.cells #[.int .i64 (S:Int),.slice LA ln lc,.slice none 0 0] 27)).alloc (.map #[] 0)).alloc (.cells #[.map (some (w.heap.size+7))] 165)).alloc (.map #[] 0)).alloc (.cells #[.map (some (w.heap.size+9))] 120)).alloc (.cells #[.nilFunc] 166)) (w.heap.size+10) 120 [.map (some (w.heap.size+9))]:=by
  have h0:=Row.new ((((((((((w.alloc (.cells #[.int .i64 (S:Int)] 3)).alloc (.cells #[.slice LA ln lc] 24)).alloc (.cells #[.int .i64 (KU.hi s),.int .i64 (KU.lo s)] 107)).alloc (.cells #[.func (.func ip) #[] cp] 108)).alloc (.cells #[.func (.func ie) #[] ce] 110)).alloc (.cells #[.int .i64 0,.slice none 0 0,.slice none 0 0] 27)).alloc (.cells #[.int .i64 (S:Int),.slice LA ln lc,.slice none 0 0] 27)).alloc (.map #[] 0)).alloc (.cells #[.map (some (w.heap.size+7))] 165)).alloc (.map #[] 0)) 120 [.map (some (w.heap.size+9))]
  try simp only [World.size_alloc,Nat.add_assoc,Nat.reduceAdd] at h0
  exact (h0.alloc _)
 have R11:Row ((((((((((((w.alloc (.cells #[.int .i64 (S:Int)] 3)).alloc (.cells #[.slice LA ln lc] 24)).alloc (.cells #[.int .i64 (KU.hi s),.int .i64 (KU.lo s)] 107)).alloc (.cells #[.func (.func ip) #[] cp] 108)).alloc (.cells #[.func (.func ie) #[] ce] 110)).alloc (.cells #[.int .i64 0,.slice none 0 0,.slice none 0 0] 27)).alloc (.cells #[.int .i64 (S:Int),.slice LA ln lc,.slice none 0 0] 27)).alloc (.map #[] 0)).alloc (.cells #[.map (some (w.heap.size+7))] 165)).alloc (.map #[] 0)).alloc (.cells #[.map (some (w.heap.size+9))] 120)).alloc (.cells #[.nilFunc] 166)) (w.heap.size+11) 166 [.nilFunc]:=by
  have h0:=Row.new (((((((((((w.alloc (.cells #[.int .i64 (S:Int)] 3)).alloc (.cells #[.slice LA ln lc] 24)).alloc (.cells #[.int .i64 (KU.hi s),.int .i64 (KU.lo s)] 107)).alloc (.cells #[.func (.func ip) #[] cp] 108)).alloc (.cells #[.func (.func ie) #[] ce] 110)).alloc (.cells #[.int .i64 0,.slice none 0 0,.slice none 0 0] 27)).alloc (.cells #[.int .i64 (S:Int),.slice LA ln lc,.slice none 0 0] 27)).alloc (.map #[] 0)).alloc (.cells #[.map (some (w.heap.size+7))] 165)).alloc (.map #[] 0)).alloc (.cells #[.map (some (w.heap.size+9))] 120)) 166 [.nilFunc]
  try simp only [World.size_alloc,Nat.add_assoc,Nat.reduceAdd] at h0
  exact h0
 have R7:MK ((((((((((((w.alloc (.cells #[.int .i64 (S:Int)] 3)).alloc (.cells #[.slice LA ln lc] 24)).alloc (.cells #[.int .i64 (KU.hi s),.int .i64 (KU.lo s)] 107)).alloc (.cells #[.func (.func ip) #[] cp] 108)).alloc (.cells #[.func (.func ie) #[] ce] 110)).alloc (.cells #[.int .i64 0,.slice none 0 0,.slice none 0 0] 27)).alloc (.cells #[.int .i64 (S:Int),.slice LA ln lc,.slice none 0 0] 27)).alloc (.map #[] 0)).alloc (.cells #[.map (some (w.heap.size+7))] 165)).alloc (.map #[] 0)).alloc (.cells #[.map (some (w.heap.size+9))] 120)).alloc (.cells #[.nilFunc] 166)) Tryz.prog 168 (w.heap.size+7) (fun _=>none):=by
  have h0:=MK.made (((((((w.alloc (.cells #[.int .i64 (S:Int)] 3)).alloc (.cells #[.slice LA ln lc] 24)).alloc (.cells #[.int .i64 (KU.hi s),.int .i64 (KU.lo s)] 107)).alloc (.cells #[.func (.func ip) #[] cp] 108)).alloc (.cells #[.func (.func ie) #[] ce] 110)).alloc (.cells #[.int .i64 0,.slice none 0 0,.slice none 0 0] 27)).alloc (.cells #[.int .i64 (S:Int),.slice LA ln lc,.slice none 0 0] 27)) Tryz.prog 168;simp only [World.size_alloc,Nat.add_assoc,Nat.reduceAdd] at h0;exact ((((h0.alloc _).alloc _).alloc _).alloc _)
 have R9:MK ((((((((((((w.alloc (.cells #[.int .i64 (S:Int)] 3)).alloc (.cells #[.slice LA ln lc] 24)).alloc (.cells #[.int .i64 (KU.hi s),.int .i64 (KU.lo s)] 107)).alloc (.cells #[.func (.func ip) #[] cp] 108)).alloc (.cells #[.func (.func ie) #[] ce] 110)).alloc (.cells #[.int .i64 0,.slice none 0 0,.slice none 0 0] 27)).alloc (.cells #[.int .i64 (S:Int),.slice LA ln lc,.slice none 0 0] 27)).alloc (.map #[] 0)).alloc (.cells #[.map (some (w.heap.size+7))] 165)).alloc (.map #[] 0)).alloc (.cells #[.map (some (w.heap.size+9))] 120)).alloc (.cells #[.nilFunc] 166)) Tryz.prog 9 (w.heap.size+9) (fun _=>none):=by
  have h0:=MK.made (((((((((w.alloc (.cells #[.int .i64 (S:Int)] 3)).alloc (.cells #[.slice LA ln lc] 24)).alloc (.cells #[.int .i64 (KU.hi s),.int .i64 (KU.lo s)] 107)).alloc (.cells #[.func (.func ip) #[] cp] 108)).alloc (.cells #[.func (.func ie) #[] ce] 110)).alloc (.cells #[.int .i64 0,.slice none 0 0,.slice none 0 0] 27)).alloc (.cells #[.int .i64 (S:Int),.slice LA ln lc,.slice none 0 0] 27)).alloc (.map #[] 0)).alloc (.cells #[.map (some (w.heap.size+7))] 165)) Tryz.prog 9;simp only [World.size_alloc,Nat.add_assoc,Nat.reduceAdd] at h0;exact ((h0.alloc _).alloc _)
 have hBW:Below w.heap.size w ((((((((((((w.alloc (.cells #[.int .i64 (S:Int)] 3)).alloc (.cells #[.slice LA ln lc] 24)).alloc (.cells #[.int .i64 (KU.hi s),.int .i64 (KU.lo s)] 107)).alloc (.cells #[.func (.func ip) #[] cp] 108)).alloc (.cells #[.func (.func ie) #[] ce] 110)).alloc (.cells #[.int .i64 0,.slice none 0 0,.slice none 0 0] 27)).alloc (.cells #[.int .i64 (S:Int),.slice LA ln lc,.slice none 0 0] 27)).alloc (.map #[] 0)).alloc (.cells #[.map (some (w.heap.size+7))] 165)).alloc (.map #[] 0)).alloc (.cells #[.map (some (w.heap.size+9))] 120)).alloc (.cells #[.nilFunc] 166)):=by go_grown
 have hsz:((((((((((((w.alloc (.cells #[.int .i64 (S:Int)] 3)).alloc (.cells #[.slice LA ln lc] 24)).alloc (.cells #[.int .i64 (KU.hi s),.int .i64 (KU.lo s)] 107)).alloc (.cells #[.func (.func ip) #[] cp] 108)).alloc (.cells #[.func (.func ie) #[] ce] 110)).alloc (.cells #[.int .i64 0,.slice none 0 0,.slice none 0 0] 27)).alloc (.cells #[.int .i64 (S:Int),.slice LA ln lc,.slice none 0 0] 27)).alloc (.map #[] 0)).alloc (.cells #[.map (some (w.heap.size+7))] 165)).alloc (.map #[] 0)).alloc (.cells #[.map (some (w.heap.size+9))] 120)).alloc (.cells #[.nilFunc] 166)).heap.size=w.heap.size+12:=by simp only [World.size_alloc,Nat.add_assoc,Nat.reduceAdd]
 clear hmm;revert R0 R1 R2 R3 R4 R5 R6 R8 R10 R11 R7 R9 hBW hsz;generalize ((((((((((((w.alloc (.cells #[.int .i64 (S:Int)] 3)).alloc (.cells #[.slice LA ln lc] 24)).alloc (.cells #[.int .i64 (KU.hi s),.int .i64 (KU.lo s)] 107)).alloc (.cells #[.func (.func ip) #[] cp] 108)).alloc (.cells #[.func (.func ie) #[] ce] 110)).alloc (.cells #[.int .i64 0,.slice none 0 0,.slice none 0 0] 27)).alloc (.cells #[.int .i64 (S:Int),.slice LA ln lc,.slice none 0 0] 27)).alloc (.map #[] 0)).alloc (.cells #[.map (some (w.heap.size+7))] 165)).alloc (.map #[] 0)).alloc (.cells #[.map (some (w.heap.size+9))] 120)).alloc (.cells #[.nilFunc] 166))=w1;intro R0 R1 R2 R3 R4 R5 R6 R8 R10 R11 R7 R9 hBW hsz
 have HS:Hid (USt w ⟨w.heap.size,S,LA,ln,lc,ip,cp,ie,ce⟩ ⟨none,0,[]⟩ [] (KU.idsB []) (KU.seenS []) (w1.setCell ⟨w.heap.size+11,0,none⟩ (.func (.func 108) #[] #[.pointer (some ⟨w.heap.size+1,0,none⟩),.pointer (some ⟨w.heap.size+4,0,none⟩),.pointer (some ⟨w.heap.size+8,0,none⟩),.pointer (some ⟨w.heap.size,0,none⟩),.pointer (some ⟨w.heap.size+11,0,none⟩),.pointer (some ⟨w.heap.size+3,0,none⟩),.pointer (some ⟨w.heap.size+10,0,none⟩),.pointer (some ⟨w.heap.size+6,0,none⟩)]))):=hiD
  ⟨hBW.setCell (p:=⟨w.heap.size+11,0,none⟩) (by show w.heap.size≤w.heap.size+11;omega) _,Nat.le_refl _,⟨(R0.far (p:=⟨w.heap.size+11,0,none⟩) (by show w.heap.size≠w.heap.size+11;omega) _),(R1.far (p:=⟨w.heap.size+11,0,none⟩) (by show w.heap.size+1≠w.heap.size+11;omega) _),(R3.far (p:=⟨w.heap.size+11,0,none⟩) (by show w.heap.size+3≠w.heap.size+11;omega) _),(R4.far (p:=⟨w.heap.size+11,0,none⟩) (by show w.heap.size+4≠w.heap.size+11;omega) _),(R8.far (p:=⟨w.heap.size+11,0,none⟩) (by show w.heap.size+8≠w.heap.size+11;omega) _),(R10.far (p:=⟨w.heap.size+11,0,none⟩) (by show w.heap.size+10≠w.heap.size+11;omega) _),R11.set 0 _⟩,(R6.far (p:=⟨w.heap.size+11,0,none⟩) (by show w.heap.size+6≠w.heap.size+11;omega) _),World.ownsRow_nil _ _ _ _,rfl,fun i hi=>absurd hi (Nat.not_lt_zero _),(R9.set (p:=⟨w.heap.size+11,0,none⟩) (by show w.heap.size+9≠w.heap.size+11;omega) _).congr (fun v=>KU.idsB_nil v),(R7.set (p:=⟨w.heap.size+11,0,none⟩) (by show w.heap.size+7≠w.heap.size+11;omega) _).congr (fun v=>KU.seenS_nil v)⟩
 have HR2:Hid (Row (w1.setCell ⟨w.heap.size+11,0,none⟩ (.func (.func 108) #[] #[.pointer (some ⟨w.heap.size+1,0,none⟩),.pointer (some ⟨w.heap.size+4,0,none⟩),.pointer (some ⟨w.heap.size+8,0,none⟩),.pointer (some ⟨w.heap.size,0,none⟩),.pointer (some ⟨w.heap.size+11,0,none⟩),.pointer (some ⟨w.heap.size+3,0,none⟩),.pointer (some ⟨w.heap.size+10,0,none⟩),.pointer (some ⟨w.heap.size+6,0,none⟩)])) (w.heap.size+2) 107 [.int .i64 (KU.hi s),.int .i64 (KU.lo s)]):=hiD (R2.far (p:=⟨w.heap.size+11,0,none⟩) (by show w.heap.size+2≠w.heap.size+11;omega) _);have HR4:Hid (Row (w1.setCell ⟨w.heap.size+11,0,none⟩ (.func (.func 108) #[] #[.pointer (some ⟨w.heap.size+1,0,none⟩),.pointer (some ⟨w.heap.size+4,0,none⟩),.pointer (some ⟨w.heap.size+8,0,none⟩),.pointer (some ⟨w.heap.size,0,none⟩),.pointer (some ⟨w.heap.size+11,0,none⟩),.pointer (some ⟨w.heap.size+3,0,none⟩),.pointer (some ⟨w.heap.size+10,0,none⟩),.pointer (some ⟨w.heap.size+6,0,none⟩)])) (w.heap.size+5) 27 [.int .i64 0,.slice none 0 0,.slice none 0 0]):=hiD (R5.far (p:=⟨w.heap.size+11,0,none⟩) (by show w.heap.size+5≠w.heap.size+11;omega) _);have z0:=R11.cell 0;have zf:=R11.frozen 0;have zl:=R11.lt;simp only [List.getElem?_cons_zero] at z0;clear R0 R1 R2 R3 R4 R5 R6 R8 R10 R11 R7 R9 hBW hsz;go_upto_region 6 with fail;clear z0 zf zl;revert HS HR2 HR4;generalize (w1.setCell ⟨w.heap.size+11,0,none⟩ (.func (.func 108) #[] #[.pointer (some ⟨w.heap.size+1,0,none⟩),.pointer (some ⟨w.heap.size+4,0,none⟩),.pointer (some ⟨w.heap.size+8,0,none⟩),.pointer (some ⟨w.heap.size,0,none⟩),.pointer (some ⟨w.heap.size+11,0,none⟩),.pointer (some ⟨w.heap.size+3,0,none⟩),.pointer (some ⟨w.heap.size+10,0,none⟩),.pointer (some ⟨w.heap.size+6,0,none⟩)]))=w2;intro HS HR2 HR4;have HOK:Hid (KU.UOk S M Us ⟨[],[]⟩):=hiD ⟨⟨by simp,by simp⟩,Nat.le_refl _,by simp,by simp,by simp⟩;have HC:=hiD (visit_any w ⟨w.heap.size,S,LA,ln,lc,ip,cp,ie,ce⟩ step fin K ln M Us HX.out ln 0 s ⟨[],[]⟩ ⟨none,0,[]⟩ w2 (by omega) HK.out HOK.out HS.out);have HVR:=hiD (KU.visit_res HX.out.hyp ln s ⟨[],[]⟩ (Nat.le_refl _) (by rw [Nat.sub_self];exact HK.out) HOK.out);have HM3:=HX.out.hyp.M30;have HUM:=HX.out.hyp.UM;have HS8:=HX.out.s8;dsimp only at HVR HS8;have s0:=HR2.out.cell 0;have s1:=HR2.out.cell 1;have s2:=HR2.out.lt;simp only [List.getElem?_cons_zero,List.getElem?_cons_succ] at s0 s1;have v0:=HS.out.box.q10.cell 0;have vl:=HS.out.box.q10.lt;dsimp only [UEnv.vf] at v0 vl HC;simp only [List.getElem?_cons_zero] at v0;rw [Int.natCast_zero] at HC;go_wp2_with fail;refine HC.out.mono ?_;rintro e w3 ⟨p,rfl,hb,hm⟩;have HB3:=hiD hb;have HR3:Hid (Row w3 (w.heap.size+5) 27 [.int .i64 0,.slice none 0 0,.slice none 0 0]):=hiD (hm.kept.row HR4.out (HS.out.notFix (.inl (by show w.heap.size+5 < w.heap.size+6;omega))));clear hb hm HC v0 vl HS HR2 HR4 s0 s1 s2
 obtain ⟨r,hr⟩:∃ r,KU.visitT S ln step fin ln s ⟨[],[]⟩=r:=⟨_,rfl⟩
 have HVT:=hiD hr;rw [hr];rw [hr] at HVR HB3;clear hr;obtain ⟨k,bt⟩:=r;dsimp only at HVR HB3 ⊢;obtain ⟨NA,nc,sl⟩:=p;have t0:=HB3.out.row.cell 0;have t1:=HB3.out.row.cell 1;have t2:=HB3.out.row.cell 2;have tl:=HB3.out.row.lt;dsimp only [UEnv.cells] at t0 t1 t2 tl;simp only [List.getElem?_cons_zero,List.getElem?_cons_succ] at t0 t1 t2;obtain ⟨z0,z1,z2,zl⟩:=HR3.out.cells3;obtain ⟨zf0,zf1,zf2⟩:=HR3.out.froz3;have HRZ:Hid (Row (((w3.setCell ⟨w.heap.size+5,0,none⟩ (.int .i64 (S:Int))).setCell ⟨w.heap.size+5,1,none⟩ (.slice LA ln lc)).setCell ⟨w.heap.size+5,2,none⟩ (.slice NA bt.ns.length nc)) (w.heap.size+5) 27 [.int .i64 (S:Int),.slice LA ln lc,.slice NA bt.ns.length nc]):=hiD (((HR3.out.set 0 (.int .i64 (S:Int))).set 1 (.slice LA ln lc)).set 2 (.slice NA bt.ns.length nc));have HK4:Hid (Kept (·=w.heap.size+5) w3 (((w3.setCell ⟨w.heap.size+5,0,none⟩ (.int .i64 (S:Int))).setCell ⟨w.heap.size+5,1,none⟩ (.slice LA ln lc)).setCell ⟨w.heap.size+5,2,none⟩ (.slice NA bt.ns.length nc))):=hiD (((Kept.set (S:=(·=w.heap.size+5)) (Kept.refl _ w3) (p:=⟨w.heap.size+5,0,none⟩) (.inl rfl) _).set (p:=⟨w.heap.size+5,1,none⟩) (.inl rfl) _).set (p:=⟨w.heap.size+5,2,none⟩) (.inl rfl) _)
 have HTT:Hid (TOwn w.heap.size (((w3.setCell ⟨w.heap.size+5,0,none⟩ (.int .i64 (S:Int))).setCell ⟨w.heap.size+5,1,none⟩ (.slice LA ln lc)).setCell ⟨w.heap.size+5,2,none⟩ (.slice NA bt.ns.length nc)) bt.ns NA nc sl∧Below w.heap.size w (((w3.setCell ⟨w.heap.size+5,0,none⟩ (.int .i64 (S:Int))).setCell ⟨w.heap.size+5,1,none⟩ (.slice LA ln lc)).setCell ⟨w.heap.size+5,2,none⟩ (.slice NA bt.ns.length nc))):=hiD (by
  have hbw:=HK4.out.below (B:=w.heap.size) (fun k hk=>by omega) HB3.out.bel.size;have hB:=HB3.out.bel.trans hbw;have hR:∀ k,(⟨NA,nc,sl⟩:UPos).R ⟨w.heap.size,S,LA,ln,lc,ip,cp,ie,ce⟩ k→¬ k=w.heap.size+5:=fun k hk e=>by have:=(HB3.out.lt hk).1;dsimp only at this;omega
  refine ⟨⟨own_base (HK4.out.own HB3.out.nown (fun k hk=>hR k (.inr (.inr (.inr (.inl (by rw [← own_blk];exact hk))))))) (by dsimp only;omega),HB3.out.sll,fun i hi=>own_base (HK4.out.own (HB3.out.nxt i hi) (fun k hk=>hR k (.inr (.inr (.inr (.inr ⟨i,by rw [HB3.out.sll];exact hi,by rw [← own_blk];exact hk⟩)))))) (by dsimp only;omega),fun x hx=>?_,?_⟩,hB⟩
  ·have h2:=(HVR.out.ok.ok.lev x hx).2;omega
  ·have:=HVR.out.ok.le;dsimp only at this
   omega)
 have d0:=HRZ.out.cell 0;have d1:=HRZ.out.cell 1;have d2:=HRZ.out.cell 2;simp only [List.getElem?_cons_zero,List.getElem?_cons_succ] at d0 d1 d2;go_wp2;refine bodyPost_ret (v:=.agg #[.int .i64 (S:Int),.slice LA ln lc,.slice NA bt.ns.length nc]) (by simp [results,Tryz.results60,go_sem,d0,d1,d2]) rfl ?_;rw [HVT.out];exact ⟨NA,nc,sl,rfl,HTT.out.1,HTT.out.2⟩
end TS
end Go.Proofs.YtbijfnbelkbofaaGreatDoor
namespace Go.Proofs.YtbijfnbelkbofaaGreatDoor
open Go.RowKit
def totStep (c s a j:Int):Int:=if a=c then KU.code (KU.hi s) j else if j=1 then KU.code (KU.hi s+1) (KU.lo s) else s
theorem totStep_1 {c s a j:Int} (h:a=c) (hj:0≤j∧j < 16):KU.hi (totStep c s a j)=KU.hi s∧KU.lo (totStep c s a j)=j:=by
 unfold totStep;rw [if_pos h];exact ⟨KU.hi_code hj,KU.lo_code hj⟩
theorem lo_in (s:Int):0≤KU.lo s∧KU.lo s < 16:=by unfold KU.lo;omega
theorem totStep_2 {c s a j:Int} (h:¬ a=c) (hj:j=1):KU.hi (totStep c s a j)=KU.hi s+1∧KU.lo (totStep c s a j)=KU.lo s:=by
 unfold totStep;rw [if_neg h,if_pos hj];exact ⟨KU.hi_code (lo_in s),KU.lo_code (lo_in s)⟩
theorem totStep_3 {c s a j:Int} (h:¬ a=c) (hj:¬ j=1):totStep c s a j=s:=by
 unfold totStep;rw [if_neg h,if_neg hj]
set_option maxRecDepth 100000 in
set_option maxHeartbeats 2000000 in
theorem totStep_any (cb:Nat) (c s a j:Int) (w:World) (hc:Row w cb 3 [.int .i64 c]) (hj:0≤j∧j < 16) (hh:0≤KU.hi s∧KU.hi s≤1000):
 Calls Tryz.prog 57 #[.agg #[.int .i64 (KU.hi s),.int .i64 (KU.lo s)],.int .i64 a,.int .i64 j,.pointer (some ⟨cb,0,none⟩)] w fun e w'=>e=.returned (.agg #[.int .i64 (KU.hi (totStep c s a j)),.int .i64 (KU.lo (totStep c s a j))])∧Below w.heap.size w w':=by
 have HC:=hiD hc;have hcl:=hc.lt;clear hc;go_enter Tryz.func57,Tryz.ntmps57;go_upto_region 1 with fail;obtain ⟨w1,hW9,RS,RZ,hgr9⟩:=laid2 w [.int .i64 (KU.hi s),.int .i64 (KU.lo s)] 107 [.int .i64 0,.int .i64 0] 107;rewrite [hW9];clear hW9;have B_w:=hiD hgr9;clear hgr9;have c0:=(rowCells HC.out B_w.out).cell 0;have c1:=(rowCells HC.out B_w.out).lt;have s0:=RS.out.cell 0;have s1:=RS.out.cell 1;have sl:=RS.out.lt;simp only [List.getElem?_cons_zero,List.getElem?_cons_succ] at c0 s0 s1;obtain ⟨sf0,sf1⟩:=RS.out.froz2;by_cases h1:a=c
 ·have HE:=hiD (totStep_1 (s:=s) h1 hj);have d1:(a == c)=true:=by simp [h1]
  clear h1;have RS2:Hid (Row (w1.setCell ⟨w.heap.size,1,none⟩ (.int .i64 j)) w.heap.size 107 [.int .i64 (KU.hi s),.int .i64 j]):=hiD (RS.out.set 1 (.int .i64 j));have RZ2:Hid (Row (w1.setCell ⟨w.heap.size,1,none⟩ (.int .i64 j)) (w.heap.size+1) 107 [.int .i64 0,.int .i64 0]):=hiD (RZ.out.far (p:=⟨w.heap.size,1,none⟩) (by show w.heap.size+1≠w.heap.size;omega) _);have HB2:Hid (Below w.heap.size w (w1.setCell ⟨w.heap.size,1,none⟩ (.int .i64 j))):=hiD (B_w.out.setCell (p:=⟨w.heap.size,1,none⟩) (Nat.le_refl _) _);go_upto_region 5 with fail;clear s0 s1 sf0 sf1 sl c0 c1;revert RS2 RZ2 HB2;generalize (w1.setCell ⟨w.heap.size,1,none⟩ (.int .i64 j))=w2;intro RS2 RZ2 HB2;obtain ⟨s0,s1,sl⟩:=RS2.out.cells2;have z0:=RZ2.out.cell 0;have z1:=RZ2.out.cell 1;obtain ⟨zf0,zf1⟩:=RZ2.out.froz2;have zl:=RZ2.out.lt;have HRF:Hid (Row ((w2.setCell ⟨w.heap.size+1,0,none⟩ (.int .i64 (KU.hi s))).setCell ⟨w.heap.size+1,1,none⟩ (.int .i64 (j))) (w.heap.size+1) 107 [.int .i64 (KU.hi s),.int .i64 (j)]):=hiD ((RZ2.out.set 0 (.int .i64 (KU.hi s))).set 1 (.int .i64 (j)));have HBF:Hid (Below w.heap.size w ((w2.setCell ⟨w.heap.size+1,0,none⟩ (.int .i64 (KU.hi s))).setCell ⟨w.heap.size+1,1,none⟩ (.int .i64 (j)))):=hiD ((HB2.out.setCell (p:=⟨w.heap.size+1,0,none⟩) (by show _≤w.heap.size+1;omega) (.int .i64 (KU.hi s))).setCell (p:=⟨w.heap.size+1,1,none⟩) (by show _≤w.heap.size+1;omega) (.int .i64 (j)));have q0:=HRF.out.cell 0;have q1:=HRF.out.cell 1;simp only [List.getElem?_cons_zero,List.getElem?_cons_succ] at z0 z1 q0 q1;go_wp2;refine bodyPost_ret (v:=.agg #[.int .i64 (KU.hi s),.int .i64 (j)]) (by simp [results,Tryz.results57,go_sem,q0,q1]) rfl ?_;refine ⟨?_,HBF.out⟩;rw [HE.out.1,HE.out.2]
 ·have d1:(a == c)=false:=by simp [h1]
  by_cases h2:j=1
  ·have HE:=hiD (totStep_2 (s:=s) h1 h2);have d2:(j == 1)=true:=by simp [h2]
   clear h1 h2;have hw:IntKind.i64.wrap (KU.hi s+1)=KU.hi s+1:=IntWalk.i64_in _ (by omega);have RS2:Hid (Row (w1.setCell ⟨w.heap.size,0,none⟩ (.int .i64 (KU.hi s+1))) w.heap.size 107 [.int .i64 (KU.hi s+1),.int .i64 (KU.lo s)]):=hiD (RS.out.set 0 (.int .i64 (KU.hi s+1)));have RZ2:Hid (Row (w1.setCell ⟨w.heap.size,0,none⟩ (.int .i64 (KU.hi s+1))) (w.heap.size+1) 107 [.int .i64 0,.int .i64 0]):=hiD (RZ.out.far (p:=⟨w.heap.size,0,none⟩) (by show w.heap.size+1≠w.heap.size;omega) _);have HB2:Hid (Below w.heap.size w (w1.setCell ⟨w.heap.size,0,none⟩ (.int .i64 (KU.hi s+1)))):=hiD (B_w.out.setCell (p:=⟨w.heap.size,0,none⟩) (Nat.le_refl _) _);go_upto_region 5 with fail;clear s0 s1 sf0 sf1 sl c0 c1;revert RS2 RZ2 HB2;generalize (w1.setCell ⟨w.heap.size,0,none⟩ (.int .i64 (KU.hi s+1)))=w2;intro RS2 RZ2 HB2;obtain ⟨s0,s1,sl⟩:=RS2.out.cells2;have z0:=RZ2.out.cell 0;have z1:=RZ2.out.cell 1;obtain ⟨zf0,zf1⟩:=RZ2.out.froz2;have zl:=RZ2.out.lt;have HRF:Hid (Row ((w2.setCell ⟨w.heap.size+1,0,none⟩ (.int .i64 (KU.hi s+1))).setCell ⟨w.heap.size+1,1,none⟩ (.int .i64 (KU.lo s))) (w.heap.size+1) 107 [.int .i64 (KU.hi s+1),.int .i64 (KU.lo s)]):=hiD ((RZ2.out.set 0 (.int .i64 (KU.hi s+1))).set 1 (.int .i64 (KU.lo s)));have HBF:Hid (Below w.heap.size w ((w2.setCell ⟨w.heap.size+1,0,none⟩ (.int .i64 (KU.hi s+1))).setCell ⟨w.heap.size+1,1,none⟩ (.int .i64 (KU.lo s)))):=hiD ((HB2.out.setCell (p:=⟨w.heap.size+1,0,none⟩) (by show _≤w.heap.size+1;omega) (.int .i64 (KU.hi s+1))).setCell (p:=⟨w.heap.size+1,1,none⟩) (by show _≤w.heap.size+1;omega) (.int .i64 (KU.lo s)));have q0:=HRF.out.cell 0;have q1:=HRF.out.cell 1;simp only [List.getElem?_cons_zero,List.getElem?_cons_succ] at z0 z1 q0 q1;go_wp2;refine bodyPost_ret (v:=.agg #[.int .i64 (KU.hi s+1),.int .i64 (KU.lo s)]) (by simp [results,Tryz.results57,go_sem,q0,q1]) rfl ?_;refine ⟨?_,HBF.out⟩;rw [HE.out.1,HE.out.2]
  ·have d2:(j == 1)=false:=by simp [h2]
   have HE:=hiD (totStep_3 (s:=s) h1 h2);clear h1 h2;clear sf0 sf1;have z0:=RZ.out.cell 0;have z1:=RZ.out.cell 1;obtain ⟨zf0,zf1⟩:=RZ.out.froz2;have zl:=RZ.out.lt;have HRF:Hid (Row ((w1.setCell ⟨w.heap.size+1,0,none⟩ (.int .i64 (KU.hi s))).setCell ⟨w.heap.size+1,1,none⟩ (.int .i64 (KU.lo s))) (w.heap.size+1) 107 [.int .i64 (KU.hi s),.int .i64 (KU.lo s)]):=hiD ((RZ.out.set 0 (.int .i64 (KU.hi s))).set 1 (.int .i64 (KU.lo s)));have HBF:Hid (Below w.heap.size w ((w1.setCell ⟨w.heap.size+1,0,none⟩ (.int .i64 (KU.hi s))).setCell ⟨w.heap.size+1,1,none⟩ (.int .i64 (KU.lo s)))):=hiD ((B_w.out.setCell (p:=⟨w.heap.size+1,0,none⟩) (by show _≤w.heap.size+1;omega) (.int .i64 (KU.hi s))).setCell (p:=⟨w.heap.size+1,1,none⟩) (by show _≤w.heap.size+1;omega) (.int .i64 (KU.lo s)));have q0:=HRF.out.cell 0;have q1:=HRF.out.cell 1;simp only [List.getElem?_cons_zero,List.getElem?_cons_succ] at z0 z1 q0 q1;go_wp2;refine bodyPost_ret (v:=.agg #[.int .i64 (KU.hi s),.int .i64 (KU.lo s)]) (by simp [results,Tryz.results57,go_sem,q0,q1]) rfl ?_;refine ⟨?_,HBF.out⟩;rw [HE.out]
end Go.Proofs.YtbijfnbelkbofaaGreatDoor
namespace Go.Proofs.YtbijfnbelkbofaaGreatDoor
open Go.RowKit
def totFin (x:Tot) (s:Int):Int:=if KU.lo s=0 then (if x.birth.contains (KU.hi s) then 1 else 0) else if KU.lo s=1∧x.survive.contains (KU.hi s)=true then 1 else (KU.lo s+1) % x.states
theorem totFin_in {x:Tot} {s:Int} (h:2≤x.states):0≤totFin x s∧totFin x s < x.states:=by
 unfold totFin;split
 ·split <;> omega
 ·split
  ·omega
  ·exact ⟨Int.emod_nonneg _ (by omega),Int.emod_lt_of_pos _ (by omega)⟩
set_option maxRecDepth 100000 in
set_option maxHeartbeats 2000000 in
theorem totFin_any (x:Tot) (HA BA SA:Option Addr) (hn hc bn bc sn sc xb:Nat) (s:Int) (w:World) (hT:TotAt w x HA BA SA hn bn sn) (hx:Row w xb 51 [.slice HA hn hc,.int .i64 x.states,.slice BA bn bc,.slice SA sn sc]) (h2:2≤x.states) (h8:x.states≤8):
 Calls Tryz.prog 58 #[.agg #[.int .i64 (KU.hi s),.int .i64 (KU.lo s)],.pointer (some ⟨xb,0,none⟩)] w fun e w'=>e=.returned (.int .i64 (totFin x s))∧Below w.heap.size w w':=by
 have HX:=hiD hx;have HT:=hiD hT;have HL:=hiD (lo_in s);clear hx hT;go_enter Tryz.func58,Tryz.ntmps58;go_upto_region 1 with fail;obtain ⟨w1,hW9,RS,hgr9⟩:=laid1 w [.int .i64 (KU.hi s),.int .i64 (KU.lo s)] 107;rewrite [hW9];clear hW9;have B_w:=hiD hgr9;clear hgr9;have HT1:=hiD (HT.out.up B_w.out);have HC:=hiD (contains_ints BA bn bc x.birth (KU.hi s) w1 HT1.out.b (by have:=HT1.out.bm;omega));have HD:=hiD (contains_ints SA sn sc x.survive (KU.hi s) w1 HT1.out.s (by have:=HT1.out.sm;omega));have HE:Hid (totFin x s=if KU.lo s=0 then (if x.birth.contains (KU.hi s) then 1 else 0) else if KU.lo s=1∧x.survive.contains (KU.hi s)=true then 1 else (KU.lo s+1) % x.states):=hiD rfl;revert HC HD HE;generalize x.birth.contains (KU.hi s)=q1;generalize x.survive.contains (KU.hi s)=q2;intro HC HD HE;have hl:=HL.out;clear HL;have HXr:=hiD (rowCells HX.out B_w.out);revert HC HD HE RS hl;generalize KU.hi s=a;generalize KU.lo s=b;intro RS HC HD HE hl;obtain ⟨s0,s1,sl⟩:=RS.out.cells2;obtain ⟨x0,x1,x2,x3,xl⟩:=HXr.out.cells4;have hx2:x.states≠0:=by omega
 have hw:IntKind.i64.wrap (b+1)=b+1:=IntWalk.i64_in _ (by omega);have hm:(b+1) % x.states=Int.tmod (b+1) x.states:=(Int.tmod_eq_emod_of_nonneg (by omega)).symm;by_cases h0:b=0
 ·have d0:(b == 0)=true:=by simp [h0]
  have HF:Hid (totFin x s=if q1 then 1 else 0):=hiD (by rw [HE.out,if_pos h0]);clear h0 hm;go_wp2_with fail;refine HC.out.mono ?_;rintro e w2 ⟨rfl,he⟩;subst he;clear HC
  cases q1 with
  | true=>
   go_wp2_with fail;go_ret;exact ⟨by rw [HF.out];rfl,B_w.out⟩
  | false=>
   go_wp2_with fail;go_ret;refine ⟨?_,B_w.out⟩;rw [HF.out];have:b=0:=by simpa using d0
   rw [this];rfl
 ·have d0:(b == 0)=false:=by simp [h0]
  by_cases h1:b=1
  ·have d1:(b == 1)=true:=by simp [h1]
   have HF:Hid (totFin x s=if q2=true then 1 else (b+1) % x.states):=hiD (by
    rw [HE.out,if_neg h0];by_cases hq:q2=true
    ·rw [if_pos ⟨h1,hq⟩,if_pos hq]
    ·rw [if_neg (fun h=>hq h.2),if_neg hq])
   clear h0 h1;have HM:=hiD hm;go_wp2_with fail;refine HD.out.mono ?_;rintro e w2 ⟨rfl,he⟩;subst he;clear HD
   cases q2 with
   | true=>
    clear hm;go_wp2_with fail;go_ret;exact ⟨by rw [HF.out];rfl,B_w.out⟩
   | false=>
    go_wp2_with fail;go_ret;refine ⟨?_,B_w.out⟩;rw [HF.out];rfl
  ·have d1:(b == 1)=false:=by simp [h1]
   have HF:Hid (totFin x s=(b+1) % x.states):=hiD (by rw [HE.out,if_neg h0,if_neg (fun h=>h1 h.1)]);clear h0 h1;go_wp2_with fail;go_ret;refine ⟨?_,B_w.out⟩;rw [HF.out];rfl
def totK (a:Nat) (s:Int):Prop:=0≤KU.hi s∧KU.hi s≤a∧KU.lo s < 8
def totUs:List (Int × Int):=(List.range 9).flatMap (fun (a:Nat)=>(List.range 160).map (fun (s:Nat)=>((a:Int),(s:Int))))
theorem totUs_len:totUs.length≤1440:=of_decide_eq_true (by kernel_rfl)
theorem tot_hyp (x:Tot) (S H:Nat) (c:Int) (hS:x.states=(S:Int)) (h2:2≤S) (h8:S≤8) (hH:H≤9):KU.UHyp S H 1440 totUs (totStep c) (totFin x) totK where
 step a s j ha hk hj:=by
  obtain ⟨k0,k1,k2⟩:=hk;unfold totK;by_cases h1:(a:Int)=c
  ·obtain ⟨e1,e2⟩:=totStep_1 (s:=s) h1 (j:=(j:Int)) (by omega);rw [e1,e2];omega
  ·by_cases h3:(j:Int)=1
   ·obtain ⟨e1,e2⟩:=totStep_2 (s:=s) h1 h3;rw [e1,e2];omega
   ·rw [totStep_3 h1 h3];omega
 us a s ha hk:=by
  obtain ⟨k0,k1,k2⟩:=hk
  have hs:0≤s∧s < 160:=by
   have:=KU.code_hi s;have hl:=lo_in s;unfold KU.code at this;omega
  unfold totUs;rw [List.mem_flatMap];refine ⟨a,List.mem_range.2 (by omega),List.mem_map.2 ⟨s.toNat,List.mem_range.2 (by omega),?_⟩⟩;rw [Int.toNat_of_nonneg hs.1]
 fin s hk:=by
  have:=totFin_in (x:=x) (s:=s) (by omega);omega
 H25:=by omega
 UM:=totUs_len
 M30:=by omega
end Go.Proofs.YtbijfnbelkbofaaGreatDoor
namespace Go.Proofs.YtbijfnbelkbofaaGreatDoor
open Go.RowKit
theorem pt_info:(Tryz.prog.info? 114).map (fun i=>(i.zero,i.size,i.bytes))=some (some (.agg #[.int .i64 0,.int .i64 0]),2,16):=by kernel_rfl
theorem hoodCells_one (l:List Pt):∀ u ∈ hoodCells l,u.oneCell'=true:=by
 intro u hu;simp only [hoodCells,ptCells,List.mem_flatMap,List.mem_cons,List.not_mem_nil,or_false] at hu;obtain ⟨p,_,rfl | rfl⟩:=hu <;> rfl
set_option maxHeartbeats 400000 in
theorem clone_pts (A:Option Addr) (n c:Nat) (l:List Pt) (w:World) (hr:Rd w w.heap.size 2 A n (hoodCells l)) (hn:n≤20000):
 Calls Tryz.prog 61 #[.slice A n c] w fun e w'=>∃ A' c',e=.returned (.slice A' n c')∧w'.ownsRow w.heap.size 114 2 (.slice A' n c') n (hoodCells l)∧Below w.heap.size w w':=by
 have HR:=hiD hr;clear hr
 cases A with
 | none=>
  have h0:n=0:=by
   rcases Nat.eq_zero_or_pos n with h | h
   ·exact h
   ·obtain ⟨ad,e,_⟩:=HR.out.ex h;cases e
  subst h0;have hc:hoodCells l=[]:=List.eq_nil_of_length_eq_zero (by have:=HR.out.1;simpa using this);have HC:=hiD hc;clear hc;have e1:=fun W=>Lib.run_eql_slice_nil (P:=Tryz.prog) W 24 114 none 0 c 0 0 Tryz.underlying24
  go_enter Tryz.func61,Tryz.ntmps61;go_wp2;go_ret;refine ⟨none,0,rfl,?_,Below.refl _ _⟩;rw [HC.out];exact World.ownsRow_nil _ _ _ _
 | some ad=>
  have e1:=fun W=>Lib.run_eql_slice_nil (P:=Tryz.prog) W 24 114 (some ad) n c 0 0 Tryz.underlying24
  go_enter Tryz.func61,Tryz.ntmps61
  go_wp2_with (at_builtin;refine wpList_app rfl (.tmp 5) (.tmp 6) 24 rfl w.heap.size 114 (.agg #[.int .i64 0,.int .i64 0]) 2 16 Tryz.underlying24 pt_info rfl (by decide) (by decide) (.slice (some ⟨w.heap.size,0,none⟩) 0 0) 0 [] rfl ?own w.heap.size (some ad) n c (hoodCells l) rfl ?rd (hoodCells_one l) ?hb ?hbase ?_)
  case own=>exact Row.own (xs:=[]) (Row.new _ _ _) (Nat.le_refl _) rfl (by unfold maxLen;omega)
  case rd=>exact HR.out.below (show Below w.heap.size w _ by go_grown) (Nat.le_refl _)
  case hb=>omega
  case hbase=>simp
  intro v' w' hown' hgrow' hat';have HB:Aside (Below w.heap.size w w'):=(show Below w.heap.size w (w.alloc (.cells #[] 114)) by go_grown).grown hgrow' (by simp) (fun k hk=>by simp [Value.ownBlock] at hk;omega)
  have HO:Aside (w'.ownsRow w.heap.size 114 2 v' n (hoodCells l)):=by
   show w'.ownsRow _ _ _ _ _ _
   simpa using hown'
  clear hown' hgrow' hat';obtain ⟨A',c',rfl,_⟩:=Rd.own HO.out;go_wp2;go_ret;exact ⟨A',c',rfl,HO.out,HB.out⟩
end Go.Proofs.YtbijfnbelkbofaaGreatDoor
