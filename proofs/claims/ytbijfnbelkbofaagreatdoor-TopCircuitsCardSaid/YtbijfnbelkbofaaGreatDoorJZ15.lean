/-
  Lemmas for the law TopCircuits.
-/
import Derived.Test.YtbijfnbelkbofaaGreatDoorProg
import Derived.Test.YtbijfnbelkbofaaGreatDoorJZ2
import Derived.Deep.QuietTactic
import Derived.BigQuiet
import Derived.Deep.Light
import Derived.Deep.RegionHeld3
import Derived.Test.YtbijfnbelkbofaaGreatDoorJZ7
import Derived.Lib.Hide
import Derived.Test.YtbijfnbelkbofaaGreatDoorJZ1
set_option linter.unusedSimpArgs false
set_option linter.unusedVariables false
namespace Go.Proofs.YtbijfnbelkbofaaGreatDoor
open Go.RowKit
def cmpI (a b:Int):Int:=if a < b then -1 else if b < a then 1 else 0
theorem cmpI_cases (a b:Int):cmpI a b=-1∧a < b∨cmpI a b=1∧b < a∨cmpI a b=0∧a=b:=by unfold cmpI;split <;> (try split) <;> omega
set_option maxHeartbeats 400000 in
theorem isNaN_any (x:Int) (w:World):Calls Tryz.prog 181 #[.int .i64 x] w fun e w'=>e=.returned (.bool false)∧w=w':=by
 go_enter Tryz.func181,Tryz.ntmps181;go_wp2;go_ret;exact ⟨ret_bool (by simp),rfl⟩
set_option maxHeartbeats 400000 in
theorem cmpCompare_any (a b:Int) (w:World):Calls Tryz.prog 155 #[.int .i64 a,.int .i64 b] w fun e w'=>e=.returned (.int .i64 (cmpI a b))∧w=w':=by
 go_enter Tryz.func155,Tryz.ntmps155;go_wp2_with fail;refine (isNaN_any a _).mono ?_;rintro e w1 ⟨rfl,rfl⟩;go_wp2_with fail;refine (isNaN_any b _).mono ?_;rintro e w1 ⟨rfl,rfl⟩;go_wp2
 all_goals go_ret
 all_goals refine ⟨ret_i64 ?_,rfl⟩
 all_goals (unfold cmpI;split <;> (try split) <;> omega)
set_option maxHeartbeats 400000 in
theorem cmpOr_any (A:Option Addr) (c:Nat) (a b:Int) (w:World) (h:Rd w w.heap.size 1 A 2 (ints [a,b])):Calls Tryz.prog 154 #[.slice A 2 c] w fun e w'=>e=.returned (.int .i64 (if a≠0 then a else b))∧w=w':=by
 obtain ⟨ad,rfl,hb,h0⟩:=h.int (k:=0) (by omega);obtain ⟨ad',e',hb',h1⟩:=h.int (k:=1) (by omega)
 cases e'
 simp only [List.getD_cons_zero,List.getD_cons_succ] at h0 h1;have H0:=hiD h0;have H1:=hiD h1;clear h0 h1 h;go_enter Tryz.func154,Tryz.ntmps154;go_wp2
 go_loopg [5,8] 2 (fun gg _ s8 wr=>∃ kk:Nat,kk≤2∧2 - kk≤gg∧s8=.int .i64 kk∧wr=w∧Aside (0 < kk→a=0)∧Aside (1 < kk→b=0))
 case atStart=>exact ⟨0,by omega,by omega,rfl,rfl,fun h=>absurd h (by omega),fun h=>absurd h (by omega)⟩
 case round=>
  obtain ⟨kk,hkk,hg,rfl,rfl,A0,A1⟩:=hrel;have hc:kk=0∨kk=1∨kk=2:=by omega
  rcases hc with rfl | rfl | rfl
  ·have h0:wr.cell? ad=some (.int .i64 a):=H0.out;by_cases hz:a=0
   ·subst hz;go_wp2;go_roundg 1
    case measure=>omega
    case rel=>exact ⟨1,by omega,by omega,by go_num,rfl,(by first | exact trivial | exact fun _=>trivial | exact fun _=>rfl),(show Aside _ from fun h=>absurd h (by omega))⟩
   ·have hz':(a != 0)=true:=by simpa using hz
    go_wp2;go_ret;exact ⟨ret_i64 (by simp [hz]),rfl⟩
  ·have h1:wr.cell? ⟨ad.block,ad.off+1,none⟩=some (.int .i64 b):=H1.out;have ha:=A0.out (by omega);by_cases hz:b=0
   ·subst hz;go_wp2;go_roundg 0
    case measure=>omega
    case rel=>exact ⟨2,by omega,by omega,by go_num,rfl,(show Aside _ from fun _=>ha),(by first | exact trivial | exact fun _=>trivial | exact fun _=>rfl)⟩
   ·have hz':(b != 0)=true:=by simpa using hz
    have HA:=hiD ha;clear ha;go_wp2;go_ret;exact ⟨ret_i64 (by have h1:=HA.out;simp [h1]),rfl⟩
  ·have HA:Hid (a=0):=A0.out (by omega);have HB:Hid (b=0):=A1.out (by omega);go_wp2;go_ret;exact ⟨ret_i64 (by have h1:=HA.out;have h2:=HB.out;simp [h1,h2]),rfl⟩
set_option maxRecDepth 100000 in
set_option maxHeartbeats 1000000 in
theorem pointCompare_any (a b c d:Int) (w:World):Calls Tryz.prog 125 #[.agg #[.int .i64 a,.int .i64 b],.agg #[.int .i64 c,.int .i64 d]] w fun e w'=>e=.returned (.int .i64 (if cmpI b d≠0 then cmpI b d else cmpI a c))∧Below w.heap.size w w':=by
 generalize hp:cmpI b d=p;generalize hq:cmpI a c=q;have HP:=hiD hp;have HQ:=hiD hq;clear hp hq;generalize hr:(if p≠0 then p else q)=r;have HR:=hiD hr;clear hr;go_enter Tryz.func125,Tryz.ntmps125;go_wp2_with fail;have RA:Hid (Row (World.alloc (World.alloc w _) _) w.heap.size 114 [.int .i64 a,.int .i64 b]):=(Row.new w 114 [.int .i64 a,.int .i64 b]).alloc (.cells #[.int .i64 c,.int .i64 d] 114);have RB:Hid (Row (World.alloc (World.alloc w (.cells #[.int .i64 a,.int .i64 b] 114)) _) (w.heap.size+1) 114 [.int .i64 c,.int .i64 d]):=rowNew1 w _ 114 [.int .i64 c,.int .i64 d];have HB:Hid (Below w.heap.size w (World.alloc (World.alloc w (.cells #[.int .i64 a,.int .i64 b] 114)) (.cells #[.int .i64 c,.int .i64 d] 114))):=by show Below _ _ _;go_grown
 revert RA RB HB;generalize World.alloc (World.alloc w (.cells #[.int .i64 a,.int .i64 b] 114)) (.cells #[.int .i64 c,.int .i64 d] 114)=w1;intro RA RB HB
 have HS:∀ w',Below w1.heap.size w1 w'→w'.cell? ⟨w.heap.size,0,none⟩=some (.int .i64 a)∧w'.cell? ⟨w.heap.size,1,none⟩=some (.int .i64 b)∧w'.cell? ⟨w.heap.size+1,0,none⟩=some (.int .i64 c)∧w'.cell? ⟨w.heap.size+1,1,none⟩=some (.int .i64 d):=fun w' hw=>⟨(rowCells RA.out hw).cell 0,(rowCells RA.out hw).cell 1,(rowCells RB.out hw).cell 0,(rowCells RB.out hw).cell 1⟩
 have HN:Hid (Below w1.heap.size w1 w1):=Below.refl _ _;clear RA RB
 go_region_held3 (fun w'=>w'.cell? ⟨w.heap.size,0,none⟩=some (.int .i64 a)∧w'.cell? ⟨w.heap.size,1,none⟩=some (.int .i64 b)∧w'.cell? ⟨w.heap.size+1,0,none⟩=some (.int .i64 c)∧w'.cell? ⟨w.heap.size+1,1,none⟩=some (.int .i64 d)) (exact HS _ (by first | exact below_on2 HN.out (by go_grown) | go_grown)) (first
  | (go_at_call_of 155 (Value.int .i64 b)
     refine (cmpCompare_any b d _).mono ?_;rw [HP.out]
     rintro e w7 ⟨rfl,rfl⟩)
  | (go_at_call 155
     refine (cmpCompare_any a c _).mono ?_;rw [HQ.out]
     rintro e w7 ⟨rfl,rfl⟩)
  | (go_at_call 154
     refine (cmpOr_any _ _ p q _ (by first | exact ((Row.new w1 3 (ints [p,q])).drew).rd rfl | exact (Row.new w1 3 (ints [p,q])).rd rfl | exact ((Row.new w1 3 (ints [p,q])).drewN _).rd rfl)).mono ?_;rw [HR.out]
     rintro e w7 ⟨rfl,rfl⟩))
 all_goals
  go_wp2;go_ret;exact ⟨rfl,below_on2 HB.out (by go_grown)⟩
end Go.Proofs.YtbijfnbelkbofaaGreatDoor
namespace Go.Proofs.YtbijfnbelkbofaaGreatDoor
namespace KT
structure Rw where
 ins:List Int
 out:Int
instance:Inhabited Rw:=⟨⟨[],0⟩⟩
structure Tab where
 states:Int
 sym:Int
 hood:List Pt
 vars:List (List Int)
 rows:List Rw
def matL:List (List Int):=[[1,0,0,1],[0,-1,1,0],[-1,0,0,-1],[0,1,-1,0],[-1,0,0,1],[0,-1,-1,0],[1,0,0,-1],[0,1,1,0]]
def mat (k i:Nat):Int:=(matL.getD k []).getD i 0
def applyS (k:Nat) (p:Pt):Pt:=⟨mat k 0 * p.x+mat k 1 * p.y,mat k 2 * p.x+mat k 3 * p.y⟩
def samePt (a b:Pt):Bool:=a.x == b.x && a.y == b.y
theorem samePt_eq {a b:Pt}:samePt a b=true ↔ a=b:=by
 cases a;cases b;simp [samePt]
def hasPt (l:List Pt) (p:Pt):Bool:=l.any (samePt p)
theorem hasPt_mem {l:List Pt} {p:Pt}:hasPt l p=true ↔ p ∈ l:=by
 unfold hasPt;rw [List.any_eq_true];exact ⟨fun ⟨q,hq,e⟩=>by rw [samePt_eq.1 e];exact hq,fun h=>⟨p,h,samePt_eq.2 rfl⟩⟩
def idxPt (l:List Pt) (p:Pt):Option Nat:=l.findIdx? (samePt p)
def mapsTo (l:List Pt) (k:Nat):Bool:=l.all (fun p=>hasPt l (applyS k p))
def symsL (l:List Pt):List Nat:=if hoodOk l=true then (List.range 8).filter (mapsTo l) else []
def permitsK (l:List Pt) (sym:Int):Bool:=
 if sym=0 then true else if sym=1 then (symsL l).contains 1 else if sym=2 then decide ((symsL l).length=8) else if sym=3 then decide (l.length≤9) else false
def varOk (t:Tab) (l:List Int):Bool:=decide (l.length≠0∧∀ i,i < l.length→(0≤l.getD i 0∧l.getD i 0 < t.states)∧(i=0∨l.getD (i - 1) 0 < l.getD i 0))
def elemOk (t:Tab) (n:Int):Bool:=decide (n < t.states∧-(t.vars.length:Int)≤n)
def rowOk (t:Tab) (r:Rw):Bool:=decide (r.ins.length=t.hood.length) && (elemOk t r.out && ((decide (0≤r.out) || r.ins.contains r.out) && r.ins.all (elemOk t)))
def headK (t:Tab):Bool:=decide (2≤t.states∧t.states≤8) && (hoodOk t.hood && (permitsK t.hood t.sym && decide (t.vars.length≤40∧t.rows.length≤400)))
def rightK (t:Tab):Bool:=headK t && (t.vars.all (varOk t) && t.rows.all (rowOk t))
def noneB:List Int:=List.replicate 40 (-1)
def vix (e:Int):Nat:=(-1 - e).toNat
def acceptK (t:Tab) (b:List Int) (e s:Int):List Int × Bool × Bool:=
 if 0≤e then (b,e == s,false)
 else if 0≤b.getD (vix e) 0 then (b,b.getD (vix e) 0 == s,false)
 else if (t.vars.getD (vix e) []).contains s=true then (b.set (vix e) s,true,true) else (b,false,false)
def outK (b:List Int) (r:Rw):Int:=if 0≤r.out then r.out else b.getD (vix r.out) 0
def plainGo (t:Tab) (ins:List Int):List Int→Nat→List Int→Option (List Int)
 | [],_,b=>some b
 | e :: es,i,b=>if (acceptK t b e (ins.getD i 0)).2.1=true then plainGo t ins es (i+1) (acceptK t b e (ins.getD i 0)).1 else none
def plainK (t:Tab) (r:Rw) (ins:List Int):Option Int:=(plainGo t ins r.ins 0 noneB).map (fun b=>outK b r)
def turnK (t:Tab) (k:Nat) (ins:List Int):List Int:=t.hood.map (fun q=>ins.getD ((idxPt t.hood (applyS k q)).getD 0) 0)
def least (acc:Option Int) (n:Int):Option Int:=match acc with
 | none=>some n
 | some m=>some (if n < m then n else m)
def hasBit (m s:Int):Bool:=decide (m / 2 ^ s.toNat % 2=1)
def putBit (m s:Int):Int:=if hasBit m s=true then m else m+2 ^ s.toNat
def centreK (l:List Pt):Int:=if hoodOk l=true then (match idxPt l ⟨0,0⟩ with | some i=>(i:Int) | none=>-1) else -1
def placeK (t:Tab) (r:Rw) (ins:List Int) (c:Int):Nat→Nat→List Int→List Bool→Option Int→Option Int
 | 0,_,_,_,acc=>acc
 | f+1,i,b,used,acc=>
  if i=ins.length then least acc (outK b r)
  else if (i:Int)=c then placeK t r ins c f (i+1) b used acc
  else ((List.range ins.length).foldl (fun (q:Int × Option Int) (k:Nat)=>
   if (k:Int)=c∨used.getD k false=true∨hasBit q.1 (ins.getD k 0)=true then q
   else (putBit q.1 (ins.getD k 0),if (acceptK t b (r.ins.getD i 0) (ins.getD k 0)).2.1=true then placeK t r ins c f (i+1) (acceptK t b (r.ins.getD i 0) (ins.getD k 0)).1 (used.set k true) q.2 else q.2)) (0,acc)).2
def permK (t:Tab) (r:Rw) (ins:List Int):Option Int:=
 if 0≤centreK t.hood then
  if (acceptK t noneB (r.ins.getD (centreK t.hood).toNat 0) (ins.getD (centreK t.hood).toNat 0)).2.1=true then
   placeK t r ins (centreK t.hood) (ins.length+1) 0 (acceptK t noneB (r.ins.getD (centreK t.hood).toNat 0) (ins.getD (centreK t.hood).toNat 0)).1 (List.replicate ins.length false) none
  else none
 else placeK t r ins (centreK t.hood) (ins.length+1) 0 noneB (List.replicate ins.length false) none
def turnsN (sym:Int):Nat:=if sym=1 then 4 else if sym=2 then 8 else 1
def decideK (t:Tab) (r:Rw) (ins:List Int):Option Int:=
 if t.sym=3 then permK t r ins
 else (List.range (turnsN t.sym)).foldl (fun (acc:Option Int) (k:Nat)=>match plainK t r (turnK t k ins) with | some s=>least acc s | none=>acc) none
def stOk (t:Tab) (s:Int):Bool:=decide (0≤s∧s < t.states)
def rowsK (t:Tab) (ins:List Int):List Rw→Option Int
 | []=>none
 | r :: rs=>match decideK t r ins with | some s=>some s | none=>rowsK t ins rs
def valueK (t:Tab) (ins:List Int):Int:=match rowsK t ins t.rows with
 | some s=>s
 | none=>if 0≤centreK t.hood then ins.getD (centreK t.hood).toNat 0 else 0
def nextErr (t:Tab) (ins:List Int):Int:=if rightK t=true∧ins.length=t.hood.length then (if ins.all (stOk t)=true then 0 else 10) else 2
def nextK (t:Tab) (ins:List Int):Int:=if nextErr t ins=0 then valueK t ins else 0
def findNd (ns:List Nd) (lev:Int) (next:List Int):Option Nat:=ns.findIdx? (fun x=>x.level == lev && x.next == next)
def loopB (rec:Int→List Nd→Int × List Nd):Nat→Nat→List Int→List Nd→List Int × List Nd
 | 0,_,next,ns=>(next,ns)
 | m+1,s,next,ns=>loopB rec m (s+1) (next ++ [(rec (s:Int) ns).1]) (rec (s:Int) ns).2
def endB (lev:Int) (q:List Int × List Nd):Int × List Nd:=match findNd q.2 lev q.1 with
 | some i=>((i:Int),q.2)
 | none=>((q.2.length:Int),q.2 ++ [⟨lev,q.1⟩])
def buildK (S:Nat) (val:List Int→Int):Nat→List Int→List Nd→Int × List Nd
 | 0,ins,ns=>(val ins,ns)
 | L+1,ins,ns=>endB ((L:Int)+1) (loopB (fun s ns=>buildK S val L (ins ++ [s]) ns) S 0 [] ns)
def Leads (S:Nat) (val:List Int→Int) (ns:List Nd) (L:Nat) (ins:List Int) (k:Int):Prop:=
 ∀ ext,∀ hood suf,suf.length=L→(∀ s ∈ suf,0≤s∧s < (S:Int))→walkT ⟨S,hood,ns ++ ext⟩ k suf=val (ins ++ suf)
end KT
end Go.Proofs.YtbijfnbelkbofaaGreatDoor
namespace Go.Proofs.YtbijfnbelkbofaaGreatDoor
open Go.RowKit
theorem hood_rowK {w:World} {B n:Nat} {A:Option Addr} {l:List Pt} (h:Rd w B 2 A n (hoodCells l)) {k:Nat} (hk:k < n):
 ∃ ad,A=some ad∧ad.block < B∧w.cell? (ad.add (k * 2))=some (.int .i64 (l.getD k default).x)∧w.cell? ⟨(ad.add (k * 2)).block,(ad.add (k * 2)).off+1,none⟩=some (.int .i64 (l.getD k default).y):=by
 have hl:l.length=n:=by have:=h.1;rw [hoodCells,flat2_length _ (fun _=>rfl)] at this;omega
 obtain ⟨h0,h1⟩:=flat2_get ptCells (fun _=>rfl) l k (by omega);exact h.row2 hk h0 h1
theorem pt_eql (a b:Pt) (W:World):(binOp .eql 114 (.agg #[.int .i64 a.x,.int .i64 a.y]) (.agg #[.int .i64 b.x,.int .i64 b.y])).run Tryz.prog W=.ok (.bool (KT.samePt a b)) W:=by
 unfold KT.samePt
 cases h1:(a.x == b.x) <;> cases h2:(a.y == b.y) <;> (simp only [beq_eq_false_iff_ne,beq_iff_eq] at h1 h2;go_simp)
def idxI (l:List Pt) (q:Pt):Int:=match KT.idxPt l q with | some i=>(i:Int) | none=>-1
def MatAt (w:World):Prop:=(∀ i,i < 32→w.cell? ⟨4,i,none⟩=some (.int .i64 (KT.matL.flatten.getD i 0)))∧4 < w.heap.size
theorem MatAt.up {w w':World} (h:MatAt w) (hb:Below w.heap.size w w'):MatAt w':=
 ⟨fun i hi=>(hb.cell (p:=⟨4,i,none⟩) h.2).trans (h.1 i hi),Nat.lt_of_lt_of_le h.2 hb.size⟩
set_option maxHeartbeats 1000000 in
theorem apply_0 (p:Pt) (w:World) (hm:MatAt w) (hp:ptOk p=true):
 Calls Tryz.prog 176 #[.int .i64 0,.agg #[.int .i64 p.x,.int .i64 p.y]] w fun e w'=>e=.returned (.agg #[.int .i64 (KT.applyS 0 p).x,.int .i64 (KT.applyS 0 p).y])∧Below w.heap.size w w':=by
 have m0:w.cell? ⟨4,0,none⟩=some (.int .i64 1):=hm.1 0 (by omega);have m1:w.cell? ⟨4,1,none⟩=some (.int .i64 0):=hm.1 1 (by omega);have m2:w.cell? ⟨4,2,none⟩=some (.int .i64 0):=hm.1 2 (by omega);have m3:w.cell? ⟨4,3,none⟩=some (.int .i64 1):=hm.1 3 (by omega);have hb0:=hm.2;have hbit:bits .and .i64 0 7=0:=by kernel_rfl
 have hpp:=of_decide_eq_true hp;unfold radius at hpp;obtain ⟨⟨x1,x2⟩,y1,y2⟩:=hpp;clear hm hp;obtain ⟨x,y⟩:=p;dsimp only at x1 x2 y1 y2;go_enter Tryz.func176,Tryz.ntmps176;go_wp2;refine bodyPost_ret (v:=.agg #[.int .i64 (x),.int .i64 (y)]) (by simp [results,Tryz.results176,go_sem]) rfl ?_;refine ⟨?_,by go_grown⟩
 simp [KT.applyS,KT.mat,KT.matL]
set_option maxHeartbeats 1000000 in
theorem apply_1 (p:Pt) (w:World) (hm:MatAt w) (hp:ptOk p=true):
 Calls Tryz.prog 176 #[.int .i64 1,.agg #[.int .i64 p.x,.int .i64 p.y]] w fun e w'=>e=.returned (.agg #[.int .i64 (KT.applyS 1 p).x,.int .i64 (KT.applyS 1 p).y])∧Below w.heap.size w w':=by
 have m0:w.cell? ⟨4,4,none⟩=some (.int .i64 0):=hm.1 4 (by omega);have m1:w.cell? ⟨4,5,none⟩=some (.int .i64 (-1)):=hm.1 5 (by omega);have m2:w.cell? ⟨4,6,none⟩=some (.int .i64 1):=hm.1 6 (by omega);have m3:w.cell? ⟨4,7,none⟩=some (.int .i64 0):=hm.1 7 (by omega);have hb0:=hm.2;have hbit:bits .and .i64 1 7=1:=by kernel_rfl
 have hpp:=of_decide_eq_true hp;unfold radius at hpp;obtain ⟨⟨x1,x2⟩,y1,y2⟩:=hpp;clear hm hp;obtain ⟨x,y⟩:=p;dsimp only at x1 x2 y1 y2;go_enter Tryz.func176,Tryz.ntmps176;go_wp2;refine bodyPost_ret (v:=.agg #[.int .i64 (-y),.int .i64 (x)]) (by simp [results,Tryz.results176,go_sem]) rfl ?_;refine ⟨?_,by go_grown⟩
 simp [KT.applyS,KT.mat,KT.matL]
set_option maxHeartbeats 1000000 in
theorem apply_2 (p:Pt) (w:World) (hm:MatAt w) (hp:ptOk p=true):
 Calls Tryz.prog 176 #[.int .i64 2,.agg #[.int .i64 p.x,.int .i64 p.y]] w fun e w'=>e=.returned (.agg #[.int .i64 (KT.applyS 2 p).x,.int .i64 (KT.applyS 2 p).y])∧Below w.heap.size w w':=by
 have m0:w.cell? ⟨4,8,none⟩=some (.int .i64 (-1)):=hm.1 8 (by omega);have m1:w.cell? ⟨4,9,none⟩=some (.int .i64 0):=hm.1 9 (by omega);have m2:w.cell? ⟨4,10,none⟩=some (.int .i64 0):=hm.1 10 (by omega);have m3:w.cell? ⟨4,11,none⟩=some (.int .i64 (-1)):=hm.1 11 (by omega);have hb0:=hm.2;have hbit:bits .and .i64 2 7=2:=by kernel_rfl
 have hpp:=of_decide_eq_true hp;unfold radius at hpp;obtain ⟨⟨x1,x2⟩,y1,y2⟩:=hpp;clear hm hp;obtain ⟨x,y⟩:=p;dsimp only at x1 x2 y1 y2;go_enter Tryz.func176,Tryz.ntmps176;go_wp2;refine bodyPost_ret (v:=.agg #[.int .i64 (-x),.int .i64 (-y)]) (by simp [results,Tryz.results176,go_sem]) rfl ?_;refine ⟨?_,by go_grown⟩
 simp [KT.applyS,KT.mat,KT.matL]
set_option maxHeartbeats 1000000 in
theorem apply_3 (p:Pt) (w:World) (hm:MatAt w) (hp:ptOk p=true):
 Calls Tryz.prog 176 #[.int .i64 3,.agg #[.int .i64 p.x,.int .i64 p.y]] w fun e w'=>e=.returned (.agg #[.int .i64 (KT.applyS 3 p).x,.int .i64 (KT.applyS 3 p).y])∧Below w.heap.size w w':=by
 have m0:w.cell? ⟨4,12,none⟩=some (.int .i64 0):=hm.1 12 (by omega);have m1:w.cell? ⟨4,13,none⟩=some (.int .i64 1):=hm.1 13 (by omega);have m2:w.cell? ⟨4,14,none⟩=some (.int .i64 (-1)):=hm.1 14 (by omega);have m3:w.cell? ⟨4,15,none⟩=some (.int .i64 0):=hm.1 15 (by omega);have hb0:=hm.2;have hbit:bits .and .i64 3 7=3:=by kernel_rfl
 have hpp:=of_decide_eq_true hp;unfold radius at hpp;obtain ⟨⟨x1,x2⟩,y1,y2⟩:=hpp;clear hm hp;obtain ⟨x,y⟩:=p;dsimp only at x1 x2 y1 y2;go_enter Tryz.func176,Tryz.ntmps176;go_wp2;refine bodyPost_ret (v:=.agg #[.int .i64 (y),.int .i64 (-x)]) (by simp [results,Tryz.results176,go_sem]) rfl ?_;refine ⟨?_,by go_grown⟩
 simp [KT.applyS,KT.mat,KT.matL]
set_option maxHeartbeats 1000000 in
theorem apply_4 (p:Pt) (w:World) (hm:MatAt w) (hp:ptOk p=true):
 Calls Tryz.prog 176 #[.int .i64 4,.agg #[.int .i64 p.x,.int .i64 p.y]] w fun e w'=>e=.returned (.agg #[.int .i64 (KT.applyS 4 p).x,.int .i64 (KT.applyS 4 p).y])∧Below w.heap.size w w':=by
 have m0:w.cell? ⟨4,16,none⟩=some (.int .i64 (-1)):=hm.1 16 (by omega);have m1:w.cell? ⟨4,17,none⟩=some (.int .i64 0):=hm.1 17 (by omega);have m2:w.cell? ⟨4,18,none⟩=some (.int .i64 0):=hm.1 18 (by omega);have m3:w.cell? ⟨4,19,none⟩=some (.int .i64 1):=hm.1 19 (by omega);have hb0:=hm.2;have hbit:bits .and .i64 4 7=4:=by kernel_rfl
 have hpp:=of_decide_eq_true hp;unfold radius at hpp;obtain ⟨⟨x1,x2⟩,y1,y2⟩:=hpp;clear hm hp;obtain ⟨x,y⟩:=p;dsimp only at x1 x2 y1 y2;go_enter Tryz.func176,Tryz.ntmps176;go_wp2;refine bodyPost_ret (v:=.agg #[.int .i64 (-x),.int .i64 (y)]) (by simp [results,Tryz.results176,go_sem]) rfl ?_;refine ⟨?_,by go_grown⟩
 simp [KT.applyS,KT.mat,KT.matL]
set_option maxHeartbeats 1000000 in
theorem apply_5 (p:Pt) (w:World) (hm:MatAt w) (hp:ptOk p=true):
 Calls Tryz.prog 176 #[.int .i64 5,.agg #[.int .i64 p.x,.int .i64 p.y]] w fun e w'=>e=.returned (.agg #[.int .i64 (KT.applyS 5 p).x,.int .i64 (KT.applyS 5 p).y])∧Below w.heap.size w w':=by
 have m0:w.cell? ⟨4,20,none⟩=some (.int .i64 0):=hm.1 20 (by omega);have m1:w.cell? ⟨4,21,none⟩=some (.int .i64 (-1)):=hm.1 21 (by omega);have m2:w.cell? ⟨4,22,none⟩=some (.int .i64 (-1)):=hm.1 22 (by omega);have m3:w.cell? ⟨4,23,none⟩=some (.int .i64 0):=hm.1 23 (by omega);have hb0:=hm.2;have hbit:bits .and .i64 5 7=5:=by kernel_rfl
 have hpp:=of_decide_eq_true hp;unfold radius at hpp;obtain ⟨⟨x1,x2⟩,y1,y2⟩:=hpp;clear hm hp;obtain ⟨x,y⟩:=p;dsimp only at x1 x2 y1 y2;go_enter Tryz.func176,Tryz.ntmps176;go_wp2;refine bodyPost_ret (v:=.agg #[.int .i64 (-y),.int .i64 (-x)]) (by simp [results,Tryz.results176,go_sem]) rfl ?_;refine ⟨?_,by go_grown⟩
 simp [KT.applyS,KT.mat,KT.matL]
set_option maxHeartbeats 1000000 in
theorem apply_6 (p:Pt) (w:World) (hm:MatAt w) (hp:ptOk p=true):
 Calls Tryz.prog 176 #[.int .i64 6,.agg #[.int .i64 p.x,.int .i64 p.y]] w fun e w'=>e=.returned (.agg #[.int .i64 (KT.applyS 6 p).x,.int .i64 (KT.applyS 6 p).y])∧Below w.heap.size w w':=by
 have m0:w.cell? ⟨4,24,none⟩=some (.int .i64 1):=hm.1 24 (by omega);have m1:w.cell? ⟨4,25,none⟩=some (.int .i64 0):=hm.1 25 (by omega);have m2:w.cell? ⟨4,26,none⟩=some (.int .i64 0):=hm.1 26 (by omega);have m3:w.cell? ⟨4,27,none⟩=some (.int .i64 (-1)):=hm.1 27 (by omega);have hb0:=hm.2;have hbit:bits .and .i64 6 7=6:=by kernel_rfl
 have hpp:=of_decide_eq_true hp;unfold radius at hpp;obtain ⟨⟨x1,x2⟩,y1,y2⟩:=hpp;clear hm hp;obtain ⟨x,y⟩:=p;dsimp only at x1 x2 y1 y2;go_enter Tryz.func176,Tryz.ntmps176;go_wp2;refine bodyPost_ret (v:=.agg #[.int .i64 (x),.int .i64 (-y)]) (by simp [results,Tryz.results176,go_sem]) rfl ?_;refine ⟨?_,by go_grown⟩
 simp [KT.applyS,KT.mat,KT.matL]
set_option maxHeartbeats 1000000 in
theorem apply_7 (p:Pt) (w:World) (hm:MatAt w) (hp:ptOk p=true):
 Calls Tryz.prog 176 #[.int .i64 7,.agg #[.int .i64 p.x,.int .i64 p.y]] w fun e w'=>e=.returned (.agg #[.int .i64 (KT.applyS 7 p).x,.int .i64 (KT.applyS 7 p).y])∧Below w.heap.size w w':=by
 have m0:w.cell? ⟨4,28,none⟩=some (.int .i64 0):=hm.1 28 (by omega);have m1:w.cell? ⟨4,29,none⟩=some (.int .i64 1):=hm.1 29 (by omega);have m2:w.cell? ⟨4,30,none⟩=some (.int .i64 1):=hm.1 30 (by omega);have m3:w.cell? ⟨4,31,none⟩=some (.int .i64 0):=hm.1 31 (by omega);have hb0:=hm.2;have hbit:bits .and .i64 7 7=7:=by kernel_rfl
 have hpp:=of_decide_eq_true hp;unfold radius at hpp;obtain ⟨⟨x1,x2⟩,y1,y2⟩:=hpp;clear hm hp;obtain ⟨x,y⟩:=p;dsimp only at x1 x2 y1 y2;go_enter Tryz.func176,Tryz.ntmps176;go_wp2;refine bodyPost_ret (v:=.agg #[.int .i64 (y),.int .i64 (x)]) (by simp [results,Tryz.results176,go_sem]) rfl ?_;refine ⟨?_,by go_grown⟩
 simp [KT.applyS,KT.mat,KT.matL]
theorem apply_any (k:Nat) (hk:k < 8) (p:Pt) (w:World) (hm:MatAt w) (hp:ptOk p=true):
 Calls Tryz.prog 176 #[.int .i64 (k:Int),.agg #[.int .i64 p.x,.int .i64 p.y]] w fun e w'=>e=.returned (.agg #[.int .i64 (KT.applyS k p).x,.int .i64 (KT.applyS k p).y])∧Below w.heap.size w w':=by
 match k,hk with
 | 0,_=>exact apply_0 p w hm hp
 | 1,_=>exact apply_1 p w hm hp
 | 2,_=>exact apply_2 p w hm hp
 | 3,_=>exact apply_3 p w hm hp
 | 4,_=>exact apply_4 p w hm hp
 | 5,_=>exact apply_5 p w hm hp
 | 6,_=>exact apply_6 p w hm hp
 | 7,_=>exact apply_7 p w hm hp
set_option maxHeartbeats 400000 in
theorem index_pts (A:Option Addr) (n c:Nat) (l:List Pt) (q:Pt) (w:World) (hr:Rd w w.heap.size 2 A n (hoodCells l)) (hbig:n≤9223372036854775807):
 Calls Tryz.prog 106 #[.slice A n c,.agg #[.int .i64 q.x,.int .i64 q.y]] w fun e w'=>e=.returned (.int .i64 (idxI l q))∧Below w.heap.size w w':=by
 have hl:l.length=n:=by have:=hr.1;rw [hoodCells,flat2_length _ (fun _=>rfl)] at this;omega
 have HL:=hiD hl;have HR:=hiD hr;clear hl hr;go_enter Tryz.func106,Tryz.ntmps106;go_upto_region 1 with fail
 have HB0:Hid (Below w.heap.size w (World.alloc w (.cells #[.int .i64 q.x,.int .i64 q.y] 114))):=(show Below _ _ _ by go_grown)
 have RP0:Hid (Row (World.alloc w (.cells #[.int .i64 q.x,.int .i64 q.y] 114)) w.heap.size 114 [.int .i64 q.x,.int .i64 q.y]):=Row.new w _ [.int .i64 q.x,.int .i64 q.y];revert HB0 RP0;generalize World.alloc w (.cells #[.int .i64 q.x,.int .i64 q.y] 114)=w1;intro HB0 RP0;go_wp2
 go_loopg [5,8] n (fun gg _ s8 wr=>∃ kk:Nat,kk≤n∧n - kk≤gg∧s8=.int .i64 kk∧Aside (Below w.heap.size w wr)∧Aside (Row wr w.heap.size 114 [.int .i64 q.x,.int .i64 q.y])∧Aside (∀ j,j < kk→KT.samePt q (l.getD j default)=false))
 case atStart=>exact ⟨0,Nat.zero_le _,by omega,rfl,HB0.out,RP0.out,fun j hj=>absurd hj (Nat.not_lt_zero _)⟩
 case round=>
  obtain ⟨kk,hkk,hg,rfl,BW,RP,AA⟩:=hrel;have HBW:=hiD BW.out;have RPr:=hiD RP.out;clear BW RP;by_cases hlt:kk < n
  ·have hltz:(kk:Int) < (n:Int):=by omega
   obtain ⟨ad,rfl,hb,hcell,hcell1⟩:=hood_rowK (HR.out.below HBW.out (Nat.le_refl _)) hlt;generalize hy:l.getD kk default=y at hcell hcell1;have HY:Aside (l.getD kk default=y):=hy;clear hy;obtain ⟨k0,k1,kl⟩:=RPr.out.cells2
   cases hq:KT.samePt q y with
   | true=>
    have HQ:=hiU hq;have hqq:=fun W=>pt_eql q y W
    simp only [hq] at hqq;clear hq;go_wp2_with fail;go_quiet (fail);go_wp2;go_ret;refine ⟨?_,below_drewN HBW.out _⟩
    have:KT.idxPt l q=some kk:=List.findIdx?_eq_some_iff_getElem.2 ⟨by rw [HL.out];exact hlt,by
     have h1:=HQ.out ();rw [← HY.out,List.getD_eq_getElem?_getD,List.getElem?_eq_getElem (by rw [HL.out];exact hlt)] at h1
     exact h1,fun j hj=>by
     have h1:=AA.out j hj;rw [List.getD_eq_getElem?_getD,List.getElem?_eq_getElem (by rw [HL.out];omega)] at h1
     simpa using h1⟩
    unfold idxI;rw [this];rfl
   | false=>
    have HQ:=hiU hq;have hqq:=fun W=>pt_eql q y W
    simp only [hq] at hqq;clear hq;go_wp2_with fail;go_quiet (fail);go_wp2;go_roundg (n - (kk+1))
    case measure=>omega
    case rel=>
     refine ⟨kk+1,by omega,by omega,by go_num,below_drewN HBW.out _,RPr.out.drewN _,(show Aside _ from fun j hj=>?_)⟩;by_cases e:j=kk
     ·subst e;rw [HY.out];exact HQ.out ()
     ·exact AA.out j (by omega)
  ·have hltz:¬ (kk:Int) < (n:Int):=by omega
   have:kk=n:=by omega
   subst this;go_wp2;go_ret;refine ⟨?_,HBW.out⟩
   have:KT.idxPt l q=none:=List.findIdx?_eq_none_iff.2 fun x hx=>by
    obtain ⟨j,hj,rfl⟩:=List.getElem_of_mem hx;have h1:=AA.out j (by rw [← HL.out];exact hj);rw [List.getD_eq_getElem?_getD,List.getElem?_eq_getElem hj] at h1
    simpa using h1
   unfold idxI;rw [this];rfl
set_option maxHeartbeats 400000 in
theorem contains_pts (A:Option Addr) (n c:Nat) (l:List Pt) (q:Pt) (w:World) (hr:Rd w w.heap.size 2 A n (hoodCells l)) (hbig:n≤9223372036854775807):
 Calls Tryz.prog 175 #[.slice A n c,.agg #[.int .i64 q.x,.int .i64 q.y]] w fun e w'=>e=.returned (.bool (KT.hasPt l q))∧Below w.heap.size w w':=by
 have HR:=hiD hr
 have HE:Hid (decide (0≤(idxI l q))=KT.hasPt l q):=by
  show _=_;unfold KT.hasPt idxI
  cases h:KT.idxPt l q with
  | none=>
   have h1:=List.findIdx?_eq_none_iff.1 h;have:l.any (KT.samePt q)=false:=by rw [List.any_eq_false];intro x hx;rw [h1 x hx];decide
   rw [this];rfl
  | some i=>
   obtain ⟨hi,hp,_⟩:=List.findIdx?_eq_some_iff_getElem.1 h;have:l.any (KT.samePt q)=true:=List.any_eq_true.2 ⟨_,List.getElem_mem hi,hp⟩;rw [this];simp
 clear hr;go_enter Tryz.func175,Tryz.ntmps175;go_upto_region 1 with fail
 have HB0:Hid (Below w.heap.size w (World.alloc w (.cells #[.int .i64 q.x,.int .i64 q.y] 114))):=(show Below _ _ _ by go_grown)
 have RP0:Hid (Row (World.alloc w (.cells #[.int .i64 q.x,.int .i64 q.y] 114)) w.heap.size 114 [.int .i64 q.x,.int .i64 q.y]):=Row.new w _ [.int .i64 q.x,.int .i64 q.y];revert HB0 RP0;generalize World.alloc w (.cells #[.int .i64 q.x,.int .i64 q.y] 114)=w1;intro HB0 RP0;have HC:=index_pts A n c l q w1 (HR.out.up HB0.out) hbig;revert HC HE;generalize (idxI l q)=v;intro HE HC;have HC:=hiD HC;obtain ⟨k0,k1,kl⟩:=RP0.out.cells2;go_wp2_with fail;refine HC.out.mono ?_;rintro e w' ⟨rfl,hb⟩;have HB2:=hiD (HB0.out.trans (hb.mono HB0.out.size));clear hb;go_wp2;go_ret;rw [← HE.out];exact ⟨rfl,HB2.out⟩
def PredPts (P:Program) (g:Nat) (lb:Array Value) (p:Pt→Bool) (l:List Pt) (w:World):Prop:=
 ∀ (W:World) (x:Pt),x ∈ l→Below w.heap.size w W→Calls P g (#[.agg #[.int .i64 x.x,.int .i64 x.y]] ++ lb) W fun e w'=>e=.returned (.bool (p x))∧Below w.heap.size w w'
def findP (p:Pt→Bool) (l:List Pt):Int:=match l.findIdx? p with | some i=>i | none=>-1
theorem findP_nonneg (p:Pt→Bool) (l:List Pt):decide (0≤findP p l)=l.any p:=by
 unfold findP
 cases h:l.findIdx? p with
 | none=>
  have h1:=List.findIdx?_eq_none_iff.1 h;have:l.any p=false:=by rw [List.any_eq_false];intro x hx;rw [h1 x hx];decide
  rw [this];rfl
 | some i=>
  obtain ⟨hi,hp,_⟩:=List.findIdx?_eq_some_iff_getElem.1 h;have:l.any p=true:=List.any_eq_true.2 ⟨_,List.getElem_mem hi,hp⟩;rw [this];simp
set_option maxHeartbeats 400000 in
theorem indexFunc_pts (A:Option Addr) (n c:Nat) (l:List Pt) (g:Nat) (lb:Array Value) (p:Pt→Bool) (w:World)
 (eg:∀ args w,(callFunc g args).run Tryz.prog w=.ok (.enter g args) w)
 (hr:Rd w w.heap.size 2 A n (hoodCells l)) (hbig:n≤9223372036854775807) (hp:PredPts Tryz.prog g lb p l w):
 Calls Tryz.prog 194 #[.slice A n c,.func (.func g) #[] lb] w fun e w'=>e=.returned (.int .i64 (findP p l))∧Below w.heap.size w w':=by
 have hl:l.length=n:=by have:=hr.1;rw [hoodCells,flat2_length _ (fun _=>rfl)] at this;omega
 have HL:=hiD hl;have HR:=hiD hr;have HP:=hiD hp;clear hl hr hp;go_enter Tryz.func194,Tryz.ntmps194;go_wp2
 go_loopg [5,8] n (fun gg _ s8 wr=>∃ kk:Nat,kk≤n∧n - kk≤gg∧s8=.int .i64 kk∧Aside (Below w.heap.size w wr)∧Aside (∀ j,j < kk→p (l.getD j default)=false))
 case atStart=>exact ⟨0,Nat.zero_le _,by omega,rfl,Below.refl _ w,fun j hj=>absurd hj (Nat.not_lt_zero _)⟩
 case round=>
  obtain ⟨kk,hkk,hg,rfl,BW,AA⟩:=hrel;by_cases hlt:kk < n
  ·have hltz:(kk:Int) < (n:Int):=by omega
   obtain ⟨ad,rfl,hb,hcell,hcell1⟩:=hood_rowK (HR.out.below BW.out (Nat.le_refl _)) hlt;have hcall:=HP.out wr (l.getD kk default) (by rw [List.getD_eq_getElem?_getD,List.getElem?_eq_getElem (by rw [HL.out];exact hlt)];exact List.getElem_mem _) BW.out;generalize hy:l.getD kk default=y at hcell hcell1 hcall;have HY:Aside (l.getD kk default=y):=hy;clear hy
   cases hq:p y with
   | true=>
    rw [hq] at hcall;go_wp2_with fail;refine hcall.mono ?_;rintro e w' ⟨rfl,hb'⟩;go_wp2;go_ret;refine ⟨?_,hb'⟩
    have:l.findIdx? p=some kk:=List.findIdx?_eq_some_iff_getElem.2 ⟨by rw [HL.out];exact hlt,by
     have h1:=hq;rw [← HY.out,List.getD_eq_getElem?_getD,List.getElem?_eq_getElem (by rw [HL.out];exact hlt)] at h1
     exact h1,fun j hj=>by
     have h1:=AA.out j hj;rw [List.getD_eq_getElem?_getD,List.getElem?_eq_getElem (by rw [HL.out];omega)] at h1
     simpa using h1⟩
    unfold findP;rw [this];rfl
   | false=>
    rw [hq] at hcall;have HQ:=hiU hq;go_wp2_with fail;refine hcall.mono ?_;rintro e w' ⟨rfl,hb'⟩;go_wp2;go_roundg (n - (kk+1))
    case measure=>omega
    case rel=>
     refine ⟨kk+1,by omega,by omega,by go_num,hb',(show Aside _ from fun j hj=>?_)⟩;by_cases e:j=kk
     ·subst e;rw [HY.out];exact HQ.out ()
     ·exact AA.out j (by omega)
  ·have hltz:¬ (kk:Int) < (n:Int):=by omega
   have:kk=n:=by omega
   subst this;go_wp2;go_ret;refine ⟨?_,BW.out⟩
   have:l.findIdx? p=none:=List.findIdx?_eq_none_iff.2 fun x hx=>by
    obtain ⟨j,hj,rfl⟩:=List.getElem_of_mem hx;have h1:=AA.out j (by rw [← HL.out];exact hj);rw [List.getD_eq_getElem?_getD,List.getElem?_eq_getElem hj] at h1
    simpa using h1
   unfold findP;rw [this];rfl
theorem containsFunc_pts (A:Option Addr) (n c:Nat) (l:List Pt) (g:Nat) (lb:Array Value) (p:Pt→Bool) (w:World)
 (eg:∀ args w,(callFunc g args).run Tryz.prog w=.ok (.enter g args) w)
 (hr:Rd w w.heap.size 2 A n (hoodCells l)) (hbig:n≤9223372036854775807) (hp:PredPts Tryz.prog g lb p l w):
 Calls Tryz.prog 173 #[.slice A n c,.func (.func g) #[] lb] w fun e w'=>e=.returned (.bool (l.any p))∧Below w.heap.size w w':=by
 rw [← findP_nonneg];go_enter Tryz.func173,Tryz.ntmps173
 go_wp2_with (go_at_call 194;refine (indexFunc_pts A n c l g lb p _ eg hr hbig hp).mono ?_;rintro e w' ⟨rfl,hb'⟩)
 go_ret;exact ⟨rfl,hb'⟩
end Go.Proofs.YtbijfnbelkbofaaGreatDoor
namespace Go.Proofs.YtbijfnbelkbofaaGreatDoor
open Go.RowKit
structure Fml where
 vars:Int
 cls:List (List Int)
def varOk (v x:Int):Bool:=decide (1≤x∧x≤v)
end Go.Proofs.YtbijfnbelkbofaaGreatDoor
namespace Go.Proofs.YtbijfnbelkbofaaGreatDoor
open Go.RowKit
def slCells (sl:List Sl):List Value:=sl.map (fun s=>Value.slice s.at_ s.len s.cap)
theorem slCells_length (sl:List Sl):(slCells sl).length=sl.length:=by simp [slCells]
theorem slCells_get (sl:List Sl) (k:Nat) (h:k < sl.length):(slCells sl)[k]?=some (.slice (sl.getD k default).at_ (sl.getD k default).len (sl.getD k default).cap):=by
 simp [slCells,List.getElem?_map,List.getElem?_eq_getElem h,List.getD_eq_getElem?_getD]
theorem slCells_append (a b:List Sl):slCells (a ++ b)=slCells a ++ slCells b:=by simp [slCells]
structure FAt (w:World) (f:Fml) (A:Option Addr) (n:Nat) (sl:List Sl):Prop where
 rows:Rd w w.heap.size 1 A n (slCells sl)
 sll:sl.length=f.cls.length
 next:∀ i,i < f.cls.length→Rd w w.heap.size 1 (sl.getD i default).at_ (sl.getD i default).len (ints (f.cls.getD i []))∧(sl.getD i default).len≤maxLen
 n63:n≤maxLen
theorem FAt.up {w w':World} {f:Fml} {A:Option Addr} {n:Nat} {sl:List Sl} (h:FAt w f A n sl) (hb:Below w.heap.size w w'):FAt w' f A n sl:=
 ⟨h.rows.up hb,h.sll,fun i hi=>⟨(h.next i hi).1.up hb,(h.next i hi).2⟩,h.n63⟩
theorem FAt.wl {w:World} {f:Fml} {A:Option Addr} {n:Nat} {sl:List Sl} (h:FAt w f A n sl):f.cls.length=n:=by
 have h1:=h.rows.1;have h2:=h.sll;rw [slCells_length] at h1;omega
theorem FAt.row {w:World} {f:Fml} {A:Option Addr} {n:Nat} {sl:List Sl} (h:FAt w f A n sl) {k:Nat} (hk:k < n):
 ∃ ad,A=some ad∧ad.block < w.heap.size∧w.cell? (ad.add k)=some (.slice (sl.getD k default).at_ (sl.getD k default).len (sl.getD k default).cap) ∧
  Rd w w.heap.size 1 (sl.getD k default).at_ (sl.getD k default).len (ints (f.cls.getD k []))∧(sl.getD k default).len≤maxLen∧(f.cls.getD k []).length=(sl.getD k default).len:=by
 have hl:=h.wl;have hs:=h.sll;obtain ⟨ad,u,e,hb,hu,hc⟩:=h.rows.get1 hk;rw [slCells_get sl k (by omega)] at hu;injection hu with hu;obtain ⟨h1,h2⟩:=h.next k (by omega);refine ⟨ad,e,hb,by rw [hc,hu],h1,h2,?_⟩;have:=h1.1;rw [ints_length,Nat.mul_one] at this;exact this
def InAt (w:World) (base lo:Nat) (s:Sl) (l:List Int):Prop:=
 (Rd w base 1 s.at_ s.len (ints l)∨∃ g,lo≤g∧s.at_=some ⟨g,0,none⟩∧s.len=l.length∧Row w g 3 (ints l))∧s.len≤maxLen
section
variable {w w':World} {base lo:Nat} {s:Sl} {l:List Int}
theorem InAt.rd (h:InAt w base lo s l) (hB:base≤w.heap.size):Rd w w.heap.size 1 s.at_ s.len (ints l):=by
 rcases h.1 with h1 | ⟨g,e0,e1,e2,h1⟩
 ·exact h1.more hB
 ·rw [e1,e2];exact h1.rd (by rw [ints_length,Nat.mul_one])
theorem InAt.up (h:InAt w base lo s l) (hB:base≤w.heap.size) (hb:Below w.heap.size w w'):InAt w' base lo s l:=by
 refine ⟨h.1.imp (fun h1=>h1.below hb hB) (fun ⟨g,e0,e1,e2,h1⟩=>⟨g,e0,e1,e2,rowCells h1 hb⟩),h.2⟩
theorem InAt.grown {row:Option Nat} (h:InAt w base lo s l) (hB:base≤w.heap.size) (hg:w.grownBy w' row) (hr:∀ k,row=some k→base≤k∧∀ xs,¬ Row w k 3 xs):InAt w' base lo s l:=by
 refine ⟨h.1.imp (fun h1=>h1.keep fun p hp=>?_) (fun ⟨g,e0,e1,e2,h1⟩=>⟨g,e0,e1,e2,h1.grown hg (fun e=>(hr g e.symm).2 _ h1)⟩),h.2⟩;have hne:some p.block≠row:=fun e=>by have:=(hr _ e.symm).1;omega
 unfold World.cell?;rw [hg.block p.block (by omega) hne]
theorem InAt.base' {base':Nat} (h:InAt w base lo s l) (hb:base≤base'):InAt w base' lo s l:=⟨h.1.imp (fun h1=>h1.more hb) id,h.2⟩
theorem InAt.lo' {lo':Nat} (h:InAt w base lo s l) (hl:lo'≤lo):InAt w base lo' s l:=⟨h.1.imp id (fun ⟨g,e0,r⟩=>⟨g,Nat.le_trans hl e0,r⟩),h.2⟩
theorem InAt.far {p:Addr} {T:TypeId} {cs:List Value} (h:InAt w base lo s l) (hr:Row w p.block T cs) (hT:T≠3) (hp:base≤p.block) (u:Value):InAt (w.setCell p u) base lo s l:=by
 refine ⟨h.1.imp (fun h1=>h1.setCell hp u) (fun ⟨g,e0,e1,e2,h1⟩=>⟨g,e0,e1,e2,h1.far (fun e=>?_) u⟩),h.2⟩;subst e;unfold Row at h1 hr;rw [hr] at h1;injection h1 with h1;injection h1 with _ ht;exact hT ht
end
structure EOwn (w:World) (base lo:Nat) (v:Value) (sl:List Sl) (cls:List (List Int)):Prop where
 len:sl.length=cls.length
 own:w.ownsRow base 22 1 v cls.length (slCells sl)
 row:∀ i,i < cls.length→InAt w base lo (sl.getD i default) (cls.getD i [])
section
variable {w w':World} {base lo:Nat} {v:Value} {sl:List Sl} {cls:List (List Int)}
theorem EOwn.nil (w:World) (base lo:Nat):EOwn w base lo (.slice none 0 0) [] []:=⟨rfl,World.ownsRow_nil _ _ _ _,fun i hi=>absurd hi (Nat.not_lt_zero _)⟩
theorem EOwn.up (h:EOwn w base lo v sl cls) (hB:base≤w.heap.size) (hb:Below w.heap.size w w'):EOwn w' base lo v sl cls:=
 ⟨h.len,own_below h.own hb (Nat.le_refl _),fun i hi=>(h.row i hi).up hB hb⟩
theorem EOwn.far {p:Addr} {T:TypeId} {cs:List Value} (h:EOwn w base lo v sl cls) (hr:Row w p.block T cs) (hT:T≠3) (hT2:22≠T) (hp:base≤p.block) (u:Value):EOwn (w.setCell p u) base lo v sl cls:=
 ⟨h.len,own_set h.own hr hT2 u,fun i hi=>(h.row i hi).far hr hT hp u⟩
theorem EOwn.at_ {A:Option Addr} {n c:Nat} {V:Int} (h:EOwn w base lo (.slice A n c) sl cls) (hB:base≤w.heap.size) (hn:cls.length=n) (hm:n≤maxLen):FAt w ⟨V,cls⟩ A n sl:=by
 refine ⟨?_,h.len,fun i hi=>⟨(h.row i hi).rd hB,(h.row i hi).2⟩,hm⟩;have:=h.own;rw [hn] at this;exact Rd.of_own this
theorem EOwn.lo' {lo':Nat} (h:EOwn w base lo v sl cls) (hl:lo'≤lo):EOwn w base lo' v sl cls:=
 ⟨h.len,h.own,fun i hi=>⟨(h.row i hi).1.imp id (fun ⟨g,e0,r⟩=>⟨g,Nat.le_trans hl e0,r⟩),(h.row i hi).2⟩⟩
theorem EOwn.form (h:EOwn w base lo v sl cls):∃ A c,v=.slice A cls.length c:=by
 obtain ⟨A,c,e,_⟩:=Rd.own h.own;exact ⟨A,c,e⟩
end
theorem int_infoE:(Tryz.prog.info? 3).map (fun i=>(i.zero,i.size,i.bytes))=some (some (.int .i64 0),1,8):=by kernel_rfl
end Go.Proofs.YtbijfnbelkbofaaGreatDoor
