/-
  Lemmas for the law TopCircuits.
-/
import Derived.Test.YtbijfnbelkbofaaGreatDoorJZ44
import Derived.Test.YtbijfnbelkbofaaGreatDoorJZ16
import Derived.Test.YtbijfnbelkbofaaGreatDoorJZ43
import Derived.Test.YtbijfnbelkbofaaGreatDoorJZ17
import Derived.StillTailTactics
set_option linter.unusedSimpArgs false
set_option linter.unusedVariables false
namespace Go.Proofs.YtbijfnbelkbofaaGreatDoor
open Go.RowKit
structure TyRd (T:TypeId) (sz B:Nat) (w:World) (A:Option Addr) (n:Nat) (xs:List Value):Prop where
 rd:Rd w w.heap.size sz A n xs
 ty:∀ k,blk A=some k→B≤k∧∃ cur fz,w.heap[k]?=some (.cells cur T fz)
def NT (w:World) (T:TypeId) (row:Option Nat):Prop:=∀ k,row=some k→∀ cur fz,w.heap[k]?≠some (.cells cur T fz)
section
variable {B B' sz n c:Nat} {T U:TypeId} {w w':World} {A:Option Addr} {xs ys:List Value} {row:Option Nat}
theorem nt_row {g:Nat} (h:Row w g U ys) (hu:U≠T):NT w T (some g):=fun k hk cur fz e=>by
 injection hk with hk;subst hk;unfold Row at h;rw [h] at e;injection e with e;injection e with _ e;exact hu e
theorem nt_own {v:Value} (h:w.ownsRow B U sz v n ys) (hu:U≠T):NT w T v.ownBlock:=fun k hk cur fz e=>by
 obtain ⟨cur2,h2,_⟩:=own_block_type h hk;rw [h2] at e;injection e with e;injection e with _ e;exact hu e
theorem nt_map {P:Program} {k:TypeId} {b:Nat} {f:Value→Option Value} (h:MK w P k b f):NT w T (some b):=fun k hk cur fz e=>by
 injection hk with hk;subst hk;obtain ⟨es,clock,hb,_⟩:=h;rw [hb] at e;cases e
theorem TyRd.own (h:w.ownsRow B T sz (.slice A n c) n xs):TyRd T sz B w A n xs:=
 ⟨Rd.of_own h,fun k hk=>by
  obtain ⟨cur,h1,h2⟩:=own_block_type h (k:=k) (by rw [own_blk];exact hk)
  exact ⟨h2,cur,(0,0),h1⟩⟩
theorem TyRd.nil (T:TypeId) (sz B:Nat) (w:World):TyRd T sz B w none 0 []:=⟨Rd.empty _,nofun⟩
theorem TyRd.lt (h:TyRd T sz B w A n xs) {k:Nat} (hk:blk A=some k):k < w.heap.size:=by
 obtain ⟨_,cur,fz,h1⟩:=h.ty k hk;exact heap_lt h1
theorem TyRd.mono (h:TyRd T sz B w A n xs) (hb:B'≤B):TyRd T sz B' w A n xs:=⟨h.rd,fun k hk=>⟨Nat.le_trans hb (h.ty k hk).1,(h.ty k hk).2⟩⟩
theorem TyRd.keep (h:TyRd T sz B w A n xs) (hs:w.heap.size≤w'.heap.size) (hk:∀ k,blk A=some k→w'.heap[k]?=w.heap[k]?):TyRd T sz B w' A n xs:=by
 refine ⟨⟨h.rd.1,fun hn=>?_⟩,fun k e=>by rw [hk k e];exact h.ty k e⟩;obtain ⟨ad,e,hlt,hc⟩:=h.rd.2 hn;refine ⟨ad,e,Nat.lt_of_lt_of_le hlt hs,fun j u hu=>?_⟩;rw [← hc j u hu];unfold World.cell?;rw [hk (ad.add j).block (by rw [e,add_block];rfl)]
theorem TyRd.below (h:TyRd T sz B w A n xs) (hb:Below w.heap.size w w'):TyRd T sz B w' A n xs:=h.keep hb.size (fun k hk=>hb.block k (h.lt hk))
theorem TyRd.grown (h:TyRd T sz B w A n xs) (hg:w.grownBy w' row) (hn:NT w T row):TyRd T sz B w' A n xs:=
 h.keep hg.size (fun k hk=>hg.block k (h.lt hk) (fun e=>by
  obtain ⟨_,cur,fz,h1⟩:=h.ty k hk
  exact hn k e.symm cur fz h1))
theorem TyRd.take (h:TyRd T 1 B w A n xs) {m:Nat} (hm:m≤n):TyRd T 1 B w A m (xs.take m):=by
 refine ⟨⟨by rw [List.length_take];have:=h.rd.1;omega,fun h0=>?_⟩,h.ty⟩;obtain ⟨ad,e,hlt,hc⟩:=h.rd.2 (by omega);refine ⟨ad,e,hlt,fun j u hu=>hc j u ?_⟩;rw [List.getElem?_take] at hu;split at hu
 ·exact hu
 ·cases hu
theorem own_nt {v:Value} (h:w.ownsRow B T sz v n xs) (hg:w.grownBy w' row) (hn:NT w T row):w'.ownsRow B T sz v n xs:=
 own_grown h hg (fun k hk e=>by
  obtain ⟨cur,h1,_⟩:=own_block_type h hk
  exact hn k e cur (0,0) h1)
theorem row_nt {g:Nat} (h:Row w g T xs) (hg:w.grownBy w' row) (hn:NT w T row):Row w' g T xs:=h.grown hg (fun e=>hn g e.symm xs.toArray (0,0) h)
theorem set_grown (w:World) (p:Addr) (u:Value):w.grownBy (w.setCell p u) (some p.block):=⟨rfl,rfl,rfl,by simp,fun i hi hne=>Below.heap_setCell w p u i (fun e=>hne (by rw [e]))⟩
end
def prCells (t:KT.Tab) (P:TP) (mb:Nat) (hd:Int):List Value:=[.int .i64 t.states,.int .i64 t.sym,.slice P.HA P.hn P.hc,.slice P.VA P.vn P.vc,.slice P.RA P.rn P.rc,.map (some mb),.int .i64 hd]
structure PrS (B pb mb:Nat) (t:KT.Tab) (P:TP) (F:Value→Option Value) (hd:Int) (w:World):Prop where
 pB:B≤pb
 mB:B≤mb
 row:Row w pb 122 (prCells t P mb hd)
 hood:TyRd 114 2 B w P.HA P.hn (hoodCells t.hood)
 h9:P.hn≤9
 vown:w.ownsRow B 22 1 (.slice P.VA P.vn P.vc) P.vn (slCells P.vs)
 vl:t.vars.length=P.vn
 var:∀ i,i < P.vn→TyRd 3 1 B w (P.vs.getD i default).at_ (P.vs.getD i default).len (ints (t.vars.getD i []))∧(P.vs.getD i default).len≤maxLen
 rown:w.ownsRow B 179 2 (.slice P.RA P.rn P.rc) P.rn (rwsCells t.rows P.rs)
 rl:t.rows.length=P.rn
 rsl:P.rs.length=P.rn
 rw:∀ i,i < P.rn→TyRd 3 1 B w (P.rs.getD i default).at_ (P.rs.getD i default).len (ints (t.rows.getD i default).ins)∧(P.rs.getD i default).len≤maxLen
 mp:MK w Tryz.prog 9 mb F
 nm:NmOk F
 v9:P.vn≤1000
 r9:P.rn≤1000000
def prR (pb mb:Nat) (P:TP) (k:Nat):Prop:=k=pb∨k=mb∨blk P.VA=some k∨blk P.RA=some k
structure PrMv (pb mb:Nat) (P:TP) (w:World) (P':TP) (w':World):Prop where
 kept:Kept (prR pb mb P) w w'
 old:∀ k,k < w.heap.size→prR pb mb P' k→prR pb mb P k
section
variable {B pb mb:Nat} {t:KT.Tab} {P P' P1:TP} {F F':Value→Option Value} {hd:Int} {w w' w1:World}
theorem PrMv.refl (pb mb:Nat) (P:TP) (w:World):PrMv pb mb P w P w:=⟨Kept.refl _ _,fun _ _ h=>h⟩
theorem PrMv.trans (h:PrMv pb mb P w P1 w1) (k:PrMv pb mb P1 w1 P' w'):PrMv pb mb P w P' w':=
 ⟨h.kept.trans k.kept h.old,fun i hi hr=>h.old i hi (k.old i (Nat.lt_of_lt_of_le hi h.kept.size) hr)⟩
theorem PrMv.ofBelow (h:Below w.heap.size w w'):PrMv pb mb P w P w':=⟨Kept.ofBelow h,fun _ _ h=>h⟩
theorem PrS.lt (h:PrS B pb mb t P F hd w) {k:Nat} (hk:prR pb mb P k):B≤k∧k < w.heap.size:=by
 rcases hk with rfl | rfl | hk | hk
 ·exact ⟨h.pB,h.row.lt⟩
 ·exact ⟨h.mB,h.mp.lt⟩
 ·exact h.vown.lt k (by rw [own_blk];exact hk)
 ·exact h.rown.lt k (by rw [own_blk];exact hk)
theorem PrS.noS (h:PrS B pb mb t P F hd w) {k:Nat} (hk:prR pb mb P k) (c:Array Value) (fz:Nat × Nat):w.heap[k]?≠some (.cells c 9 fz):=by
 rcases hk with rfl | rfl | hk | hk
 ·exact nt_row h.row (by decide) _ rfl c fz
 ·exact nt_map h.mp _ rfl c fz
 ·exact nt_own h.vown (by decide) k (by rw [own_blk];exact hk) c fz
 ·exact nt_own h.rown (by decide) k (by rw [own_blk];exact hk) c fz
theorem PrS.vsl (h:PrS B pb mb t P F hd w):P.vs.length=P.vn:=by have:=h.vown.1;rw [slCells_length] at this;omega
theorem PrS.tab (h:PrS B pb mb t P F hd w):TabAt w t P:=
 ⟨h.hood.rd,Rd.of_own h.vown,by rw [h.vsl,h.vl],fun i hi=>let ⟨a,b⟩:=h.var i (by rw [← h.vl];exact hi);⟨a.rd,b⟩,Rd.of_own h.rown,by rw [h.rsl,h.rl],fun i hi=>let ⟨a,b⟩:=h.rw i (by rw [← h.rl];exact hi);⟨a.rd,b⟩,
  by have:=h.h9;unfold maxLen;omega,by have:=h.v9;unfold maxLen;omega,by have:=h.r9;unfold maxLen;omega⟩
theorem PrS.below (h:PrS B pb mb t P F hd w) (hb:Below w.heap.size w w'):PrS B pb mb t P F hd w':=
 ⟨h.pB,h.mB,rowCells h.row hb,h.hood.below hb,h.h9,own_below h.vown hb (Nat.le_refl _),h.vl,fun i hi=>⟨(h.var i hi).1.below hb,(h.var i hi).2⟩,own_below h.rown hb (Nat.le_refl _),h.rl,h.rsl,fun i hi=>⟨(h.rw i hi).1.below hb,(h.rw i hi).2⟩,h.mp.below hb h.mp.lt,h.nm,h.v9,h.r9⟩
theorem PrS.setC {st' sy' hd':Int} {hood':List Pt} {HA':Option Addr} {hn' hc':Nat} (h:PrS B pb mb t P F hd w) (i:Nat) (u:Value)
 (hc:(prCells t P mb hd).set i u=prCells { t with states:=st',sym:=sy',hood:=hood' } { P with HA:=HA',hn:=hn',hc:=hc' } mb hd') (hh:TyRd 114 2 B w HA' hn' (hoodCells hood')) (h9:hn'≤9):
 PrS B pb mb { t with states:=st',sym:=sy',hood:=hood' } { P with HA:=HA',hn:=hn',hc:=hc' } F hd' (w.setCell ⟨pb,i,none⟩ u)∧PrMv pb mb P w { P with HA:=HA',hn:=hn',hc:=hc' } (w.setCell ⟨pb,i,none⟩ u):=by
 have hg:=set_grown w ⟨pb,i,none⟩ u;have n1:∀ {T:TypeId},122≠T→NT w T (some pb):=fun q=>nt_row h.row q
 refine ⟨⟨h.pB,h.mB,hc ▸ h.row.set i u,hh.grown hg (n1 (by decide)),h9,own_nt h.vown hg (n1 (by decide)),h.vl,fun j hj=>⟨(h.var j hj).1.grown hg (n1 (by decide)),(h.var j hj).2⟩,own_nt h.rown hg (n1 (by decide)),h.rl,h.rsl,
  fun j hj=>⟨(h.rw j hj).1.grown hg (n1 (by decide)),(h.rw j hj).2⟩,h.mp.set (p:=⟨pb,i,none⟩) (h.mp.row_ne h.row) u,h.nm,h.v9,h.r9⟩,Kept.set (Kept.refl _ _) (p:=⟨pb,i,none⟩) (.inl (.inl rfl)) u,fun k _ hk=>hk⟩
theorem PrS.mapUp (h:PrS B pb mb t P F hd w) (hg:w.grownBy w' (some mb)) (hm:MK w' Tryz.prog 9 mb F') (hf:NmOk F'):PrS B pb mb t P F' hd w'∧PrMv pb mb P w P w':=by
 have n1:∀ {T:TypeId},NT w T (some mb):=nt_map h.mp
 refine ⟨⟨h.pB,h.mB,row_nt h.row hg n1,h.hood.grown hg n1,h.h9,own_nt h.vown hg n1,h.vl,fun j hj=>⟨(h.var j hj).1.grown hg n1,(h.var j hj).2⟩,own_nt h.rown hg n1,h.rl,h.rsl,fun j hj=>⟨(h.rw j hj).1.grown hg n1,(h.rw j hj).2⟩,hm,hf,h.v9,h.r9⟩,
  Kept.grown (Kept.refl _ _) hg (fun k hk=>.inl (.inr (.inl (by injection hk with hk;exact hk.symm)))),fun k _ hk=>hk⟩
theorem PrS.pushV {VA:Option Addr} {vc:Nat} {l:List Int} {s:Sl} (h:PrS B pb mb t P F hd w) (hn:∀ k,blk VA=some k→blk P.VA=some k∨w.heap.size≤k) (hg:w.grownBy w' (blk P.VA)) (ho:w'.ownsRow B 22 1 (.slice VA (P.vn+1) vc) (P.vn+1) (slCells P.vs ++ [.slice s.at_ s.len s.cap]))
 (hs:TyRd 3 1 B w s.at_ s.len (ints l)) (hm:s.len≤maxLen) (h9:P.vn+1≤1000):
 PrS B pb mb { t with vars:=t.vars ++ [l] } { P with VA:=VA,vn:=P.vn+1,vc:=vc,vs:=P.vs ++ [s] } F hd (w'.setCell ⟨pb,3,none⟩ (.slice VA (P.vn+1) vc)) ∧
  PrMv pb mb P w { P with VA:=VA,vn:=P.vn+1,vc:=vc,vs:=P.vs ++ [s] } (w'.setCell ⟨pb,3,none⟩ (.slice VA (P.vn+1) vc))∧Row w' pb 122 (prCells t P mb hd):=by
 have n1:∀ {T:TypeId},22≠T→NT w T (blk P.VA):=fun q=>by have:=nt_own h.vown q;rwa [own_blk] at this
 have hrow:=row_nt h.row hg (n1 (by decide));have hg2:=set_grown w' ⟨pb,3,none⟩ (.slice VA (P.vn+1) vc);have n2:∀ {T:TypeId},122≠T→NT w' T (some pb):=fun q=>nt_row hrow q
 have hmb:blk P.VA≠some mb:=by rw [← own_blk _ P.vn P.vc];exact h.mp.own_ne h.vown
 have hvl:=h.vl;have hvs:=h.vsl;have hti:∀ {A:Option Addr} {n:Nat} {xs:List Value},TyRd 3 1 B w A n xs→TyRd 3 1 B (w'.setCell ⟨pb,3,none⟩ (.slice VA (P.vn+1) vc)) A n xs:=fun q=>(q.grown hg (n1 (by decide))).grown hg2 (n2 (by decide))
 refine ⟨⟨h.pB,h.mB,hrow.set 3 _,(h.hood.grown hg (n1 (by decide))).grown hg2 (n2 (by decide)),h.h9,?_,by simp [hvl],fun j hj=>?_,own_nt (own_nt h.rown hg (n1 (by decide))) hg2 (n2 (by decide)),h.rl,h.rsl,
  fun j hj=>⟨hti (h.rw j hj).1,(h.rw j hj).2⟩,(h.mp.kept hg hmb).set (p:=⟨pb,3,none⟩) (h.mp.row_ne h.row) _,h.nm,h9,h.r9⟩,⟨Kept.set (Kept.grown (Kept.refl _ _) hg (fun k hk=>.inl (.inr (.inr (.inl hk))))) (p:=⟨pb,3,none⟩) (.inl (.inl rfl)) _,fun k hk hr=>?_⟩,hrow⟩
 ·rw [slCells_append];exact own_nt ho hg2 (n2 (by decide))
 ·change j < P.vn+1 at hj;show TyRd _ _ _ _ ((P.vs ++ [s]).getD j default).at_ ((P.vs ++ [s]).getD j default).len (ints ((t.vars ++ [l]).getD j []))∧((P.vs ++ [s]).getD j default).len≤maxLen;rcases Nat.lt_or_ge j P.vn with hl | hl
  ·have e1:(P.vs ++ [s]).getD j default=P.vs.getD j default:=gsl_old P.vs s j (by omega);have e2:(t.vars ++ [l]).getD j []=t.vars.getD j []:=by simp only [List.getD_eq_getElem?_getD];rw [List.getElem?_append_left (by omega)]
   rw [e1,e2];exact ⟨hti (h.var j hl).1,(h.var j hl).2⟩
  ·obtain rfl:j=P.vn:=by omega
   have e1:(P.vs ++ [s]).getD P.vn default=s:=by rw [← hvs];exact gsl_snoc P.vs s
   have e2:(t.vars ++ [l]).getD P.vn []=l:=by rw [← hvl];simp [List.getD_eq_getElem?_getD]
   rw [e1,e2];exact ⟨hti hs,hm⟩
 ·rcases hr with rfl | rfl | q | q
  ·exact .inl rfl
  ·exact .inr (.inl rfl)
  ·rcases hn k q with q2 | q2
   ·exact .inr (.inr (.inl q2))
   ·omega
  ·exact .inr (.inr (.inr q))
theorem rwsCells_snoc (rs:List KT.Rw) (sl:List Sl) (r:KT.Rw) (s:Sl) (h:sl.length=rs.length):rwsCells (rs ++ [r]) (sl ++ [s])=rwsCells rs sl ++ [.slice s.at_ s.len s.cap,.int .i64 r.out]:=by
 unfold rwsCells;rw [List.zip_append h.symm,List.flatMap_append]
 simp [rwCells]
theorem PrS.pushR {RA:Option Addr} {rc:Nat} {r:KT.Rw} {s:Sl} (h:PrS B pb mb t P F hd w) (hn:∀ k,blk RA=some k→blk P.RA=some k∨w.heap.size≤k) (hg:w.grownBy w' (blk P.RA)) (ho:w'.ownsRow B 179 2 (.slice RA (P.rn+1) rc) (P.rn+1) (rwsCells t.rows P.rs ++ [.slice s.at_ s.len s.cap,.int .i64 r.out]))
 (hs:TyRd 3 1 B w s.at_ s.len (ints r.ins)) (hm:s.len≤maxLen) (h9:P.rn+1≤1000000):
 PrS B pb mb { t with rows:=t.rows ++ [r] } { P with RA:=RA,rn:=P.rn+1,rc:=rc,rs:=P.rs ++ [s] } F hd (w'.setCell ⟨pb,4,none⟩ (.slice RA (P.rn+1) rc)) ∧
  PrMv pb mb P w { P with RA:=RA,rn:=P.rn+1,rc:=rc,rs:=P.rs ++ [s] } (w'.setCell ⟨pb,4,none⟩ (.slice RA (P.rn+1) rc))∧Row w' pb 122 (prCells t P mb hd):=by
 have n1:∀ {T:TypeId},179≠T→NT w T (blk P.RA):=fun q=>by have:=nt_own h.rown q;rwa [own_blk] at this
 have hrow:=row_nt h.row hg (n1 (by decide));have hg2:=set_grown w' ⟨pb,4,none⟩ (.slice RA (P.rn+1) rc);have n2:∀ {T:TypeId},122≠T→NT w' T (some pb):=fun q=>nt_row hrow q
 have hmb:blk P.RA≠some mb:=by rw [← own_blk _ P.rn P.rc];exact h.mp.own_ne h.rown
 have hrl:=h.rl;have hrs:=h.rsl;have hti:∀ {A:Option Addr} {n:Nat} {xs:List Value},TyRd 3 1 B w A n xs→TyRd 3 1 B (w'.setCell ⟨pb,4,none⟩ (.slice RA (P.rn+1) rc)) A n xs:=fun q=>(q.grown hg (n1 (by decide))).grown hg2 (n2 (by decide))
 refine ⟨⟨h.pB,h.mB,hrow.set 4 _,(h.hood.grown hg (n1 (by decide))).grown hg2 (n2 (by decide)),h.h9,own_nt (own_nt h.vown hg (n1 (by decide))) hg2 (n2 (by decide)),h.vl,fun j hj=>⟨hti (h.var j hj).1,(h.var j hj).2⟩,?_,by simp [hrl],by simp [hrs],
  fun j hj=>?_,(h.mp.kept hg hmb).set (p:=⟨pb,4,none⟩) (h.mp.row_ne h.row) _,h.nm,h.v9,h9⟩,⟨Kept.set (Kept.grown (Kept.refl _ _) hg (fun k hk=>.inl (.inr (.inr (.inr hk))))) (p:=⟨pb,4,none⟩) (.inl (.inl rfl)) _,fun k hk hr=>?_⟩,hrow⟩
 ·show World.ownsRow _ _ _ _ _ _ (rwsCells (t.rows ++ [r]) (P.rs ++ [s]));rw [rwsCells_snoc _ _ _ _ (by omega)];exact own_nt ho hg2 (n2 (by decide))
 ·change j < P.rn+1 at hj;show TyRd _ _ _ _ ((P.rs ++ [s]).getD j default).at_ ((P.rs ++ [s]).getD j default).len (ints ((t.rows ++ [r]).getD j default).ins)∧((P.rs ++ [s]).getD j default).len≤maxLen;rcases Nat.lt_or_ge j P.rn with hl | hl
  ·have e1:(P.rs ++ [s]).getD j default=P.rs.getD j default:=gsl_old P.rs s j (by omega);have e2:(t.rows ++ [r]).getD j default=t.rows.getD j default:=by simp only [List.getD_eq_getElem?_getD];rw [List.getElem?_append_left (by omega)]
   rw [e1,e2];exact ⟨hti (h.rw j hl).1,(h.rw j hl).2⟩
  ·obtain rfl:j=P.rn:=by omega
   have e1:(P.rs ++ [s]).getD P.rn default=s:=by rw [← hrs];exact gsl_snoc P.rs s
   have e2:(t.rows ++ [r]).getD P.rn default=r:=by rw [← hrl];simp [List.getD_eq_getElem?_getD]
   rw [e1,e2];exact ⟨hti hs,hm⟩
 ·rcases hr with rfl | rfl | q | q
  ·exact .inl rfl
  ·exact .inr (.inl rfl)
  ·exact .inr (.inr (.inl q))
  ·rcases hn k q with q2 | q2
   ·exact .inr (.inr (.inr q2))
   ·omega
end
structure PrRes (B pb mb:Nat) (P:TP) (w w':World):Prop where
 out:∃ (t':KT.Tab) (P':TP) (F':Value→Option Value) (hd':Int),PrS B pb mb t' P' F' hd' w'∧PrMv pb mb P w P' w'
def PrPost (B pb mb:Nat) (P:TP) (w:World) (e:Ending) (w':World):Prop:=∃ k:Int,e=.returned (.int .i64 k)∧PrRes B pb mb P w w'
theorem prRes_below {B pb mb:Nat} {t:KT.Tab} {P:TP} {F:Value→Option Value} {hd:Int} {w w':World} (h:PrS B pb mb t P F hd w) (hb:Below w.heap.size w w'):PrRes B pb mb P w w':=⟨t,P,F,hd,h.below hb,.ofBelow hb⟩
theorem prRes_trans {B pb mb:Nat} {P P1:TP} {w w1 w':World} (m:PrMv pb mb P w P1 w1) (h:PrRes B pb mb P1 w1 w'):PrRes B pb mb P w w':=by
 obtain ⟨t',P',F',hd',h1,h2⟩:=h.out;exact ⟨t',P',F',hd',h1,m.trans h2⟩
theorem nmOk_upd {F:Value→Option Value} (h:NmOk F) (x:Value) {k:Nat} (hk:k≤1000):NmOk (updK F x (.int .i64 (k:Int))):=fun v y e=>by
 by_cases q:v=x
 ·subst q;rw [updK_same] at e;injection e with e;exact ⟨k,e.symm,hk⟩
 ·rw [updK_other q] at e;exact h v y e
end Go.Proofs.YtbijfnbelkbofaaGreatDoor
namespace Go.Proofs.YtbijfnbelkbofaaGreatDoor
open Go.RowKit Go.Lib
def blank (x:Nat):Bool:=(x:Int) == 32 || (x:Int) == 9
theorem blank_any (x:Nat) (w:World):Calls Tryz.prog 113 #[.int .i32 (x:Int)] w fun e w'=>e=.returned (.bool (blank x))∧w=w':=by
 obtain ⟨q1,h1⟩:∃ q,((x:Int) == 32)=q:=⟨_,rfl⟩
 obtain ⟨q2,h2⟩:∃ q,((x:Int) == 9)=q:=⟨_,rfl⟩
 have HE:Hid (blank x=(q1 || q2)):=hiD (by unfold blank;rw [h1,h2]);have h1b:decide ((x:Int)=32)=q1:=by rw [← h1];rfl
 have h2b:decide ((x:Int)=9)=q2:=by rw [← h2];rfl
 go_enter Tryz.func113,Tryz.ntmps113
 cases q1 <;> cases q2 <;> (
  go_wp2;go_ret
  exact ⟨by rw [HE.out];rfl,rfl⟩)
theorem spansP_len (p:Nat→Bool) (s:ByteArray):∀ (f pos:Nat) (st:Option Nat) (acc:List (Nat × Nat)),(Lib.spansFromP p s f pos st acc).1.length≤acc.length+f
 | 0,_,_,_=>by simp [Lib.spansFromP]
 | f+1,pos,st,acc=>by
  unfold Lib.spansFromP;split
  ·split
   ·cases st with
    | some a=>
     have:=spansP_len p s f (pos+(Utf8.decode s pos).2) none (acc ++ [(a,pos)]);simp only [List.length_append,List.length_singleton] at this;show (Lib.spansFromP p s f (pos+(Utf8.decode s pos).2) none (acc ++ [(a,pos)])).1.length≤_;omega
    | none=>
     have:=spansP_len p s f (pos+(Utf8.decode s pos).2) none acc;show (Lib.spansFromP p s f (pos+(Utf8.decode s pos).2) none acc).1.length≤_;omega
   ·cases st with
    | some a=>
     have:=spansP_len p s f (pos+(Utf8.decode s pos).2) (some a) acc;show (Lib.spansFromP p s f (pos+(Utf8.decode s pos).2) (some a) acc).1.length≤_;omega
    | none=>
     have:=spansP_len p s f (pos+(Utf8.decode s pos).2) (some pos) acc;show (Lib.spansFromP p s f (pos+(Utf8.decode s pos).2) (some pos) acc).1.length≤_;omega
  ·show acc.length≤_;omega
theorem fieldsP_len (p:Nat→Bool) (s:ByteArray):(Lib.goFieldsP p s).length≤s.size+1:=by
 have h:=spansP_len p s s.size 0 none [];unfold Lib.goFieldsP Lib.spansOfP;rw [List.length_map];revert h;generalize Lib.spansFromP p s s.size 0 none []=q;obtain ⟨l,o⟩:=q;intro h;unfold Lib.closeSpans
 cases o <;> simp at h ⊢ <;> omega
theorem words_any (s:ByteArray) (hs:s.size≤100000) (w:World):
 Calls Tryz.prog 112 #[.string s,.func (.func 113) #[] #[]] w fun e w'=>∃ (ws:List ByteArray) (a:Nat),ws.length≤s.size+1∧(∀ x ∈ ws,x.size≤s.size)∧e=.returned (.slice (some ⟨a,0,none⟩) ws.length ws.length)∧w'.ownsRow w.heap.size 9 1 (.slice (some ⟨a,0,none⟩) ws.length ws.length) ws.length (ws.map Value.string)∧Below w.heap.size w w':=by
 refine (strings_FieldsFunc_runes 113 #[] (enters Tryz.func113 (by kernel_rfl) rfl) blank s w (by omega) (fun W x _ _=>?_)).mono ?_
 ·refine (blank_any x W).mono ?_;rintro e w' ⟨rfl,rfl⟩;exact ⟨rfl,0,by first | rfl | simp⟩
 ·rintro e w' ⟨a,rfl,ha,ho,hb⟩;refine ⟨_,a,fieldsP_len _ _,fun x hx=>?_,rfl,ho,hb⟩;unfold Lib.goFieldsP at hx;obtain ⟨y,_,rfl⟩:=List.mem_map.1 hx;exact extract_le _ _ _
theorem lines_any (s:ByteArray) (w:World):Calls Tryz.prog 66 #[.string s] w fun e w'=>e=.returned (.func (.func 111) #[] #[.pointer (some ⟨w.heap.size,0,none⟩)])∧Row w' w.heap.size 9 [.string s]∧Below w.heap.size w w':=by
 go_enter Tryz.func66,Tryz.ntmps66;go_wp2;go_ret;exact ⟨rfl,Row.new w 9 [.string s],by go_grown⟩
end Go.Proofs.YtbijfnbelkbofaaGreatDoor
namespace Go.Proofs.YtbijfnbelkbofaaGreatDoor
open Go.RowKit Go.Maps
structure Wd (w:World) (a:Nat) (ws:List ByteArray):Prop where
 len:ws.length≤100001
 sz:∀ x ∈ ws,x.size≤100000
 ty:∃ cur fz,w.heap[a]?=some (.cells cur 9 fz)
 rd:∀ k,k < ws.length→w.cell? ⟨a,k,none⟩=some (.string (ws.getD k ByteArray.empty))
theorem Wd.lt {w:World} {a:Nat} {ws:List ByteArray} (h:Wd w a ws):a < w.heap.size:=by
 obtain ⟨cur,fz,h1⟩:=h.ty;exact heap_lt h1
theorem Wd.same {w w':World} {a:Nat} {ws:List ByteArray} (h:Wd w a ws) (hb:w'.heap[a]?=w.heap[a]?):Wd w' a ws:=
 ⟨h.len,h.sz,by rw [hb];exact h.ty,fun k hk=>(World.cell?_of_block (w:=w) hb).trans (h.rd k hk)⟩
theorem Wd.below {w w':World} {a:Nat} {ws:List ByteArray} (h:Wd w a ws) (hb:Below w.heap.size w w'):Wd w' a ws:=h.same (hb.block a h.lt)
theorem Wd.word {w:World} {a:Nat} {ws:List ByteArray} (h:Wd w a ws) {k:Nat} (hk:k < ws.length):∃ x:ByteArray,w.cell? ⟨a,k,none⟩=some (.string x)∧x.size≤100000:=
 ⟨_,h.rd k hk,h.sz _ (by rw [List.getD_eq_getElem?_getD,List.getElem?_eq_getElem hk];exact List.getElem_mem hk)⟩
theorem run_slice_from2 {P:Program} (W:World) (t e:TypeId) (ht:P.underlying t=some (.slice e)) (hz:∀ w,(Go.sizeOf e).run P w=.ok 1 w) (b n m:Nat) (h:n=m+2) (hm:1≤m):
 (Instr.slice t (.slice (some ⟨b,0,none⟩) n n) (some (.int .i64 2)) none none).run P W=.ok (.slice (some ⟨b,2,none⟩) m m) W:=by
 have ht':P.underlying t=some (.slice (P.elem t)):=by simp [Program.elem,ht]
 have he:P.elem t=e:=by simp [Program.elem,ht]
 rw [run_slice_l W t _ _ _ ht' .i64 2 (by omega) (by omega),he,hz];subst h;have h1:¬ (m+2=(2:Int).toNat):=by show ¬ (m+2=2);omega
 unfold Result.andThen sliced;dsimp only;rw [if_neg h1];rfl
theorem size_str (w:World):(Go.sizeOf 9).run Tryz.prog w=.ok 1 w:=by kernel_rfl
theorem ints_infoJ:(Tryz.prog.info? 22).map (fun i=>(i.zero,i.size,i.bytes))=some (some (.slice none 0 0),1,24):=by kernel_rfl
set_option maxRecDepth 100000 in
set_option maxHeartbeats 4000000 in
theorem variable_any (B pb mb:Nat) (t:KT.Tab) (P:TP) (F:Value→Option Value) (hd:Int) (a n:Nat) (ws:List ByteArray) (w:World) (hp:PrS B pb mb t P F hd w) (hw:Wd w a ws) (hn:ws.length=n):
 Calls Tryz.prog 118 #[.pointer (some ⟨pb,0,none⟩),.slice (some ⟨a,0,none⟩) n n] w (PrPost B pb mb P w):=by
 have HP:=hiD hp;have HW:=hiD hw;have HN:=hiD hn;have hn1:n≤100001:=hn ▸ hw.len
 have hal:=hw.lt;have HST:=hiD (fun (A:Option Addr) (m c:Nat) (l:List Int) (W:World) h1 h2=>states_any t P A m c l W h1 h2);clear hp hw hn;obtain ⟨HA,hn,hc,VA,vn,vc,RA,rn,rc,vs,rs⟩:=P;dsimp only at HST;have pR:=HP.out.row;dsimp only [prCells] at pR;obtain ⟨p0,p1,p2,p3,p4,p5,p6,pl⟩:=pR.cells7;clear pR;go_enter Tryz.func118,Tryz.ntmps118;by_cases hr:0 < rn
 ·have d1:decide (0 < rn)=true:=decide_eq_true hr;have d2:decide ((0:Int) < (rn:Int))=true:=decide_eq_true (by omega);go_wp2;go_ret;exact ⟨9,rfl,prRes_below HP.out (Below.refl _ _)⟩
 have d1:decide (0 < rn)=false:=decide_eq_false hr;have d2:decide ((0:Int) < (rn:Int))=false:=decide_eq_false (by omega);by_cases h3:n < 3
 ·have d3:decide ((n:Int) < 3)=true:=decide_eq_true (by omega);have d4:decide (n < 3)=true:=decide_eq_true h3;go_wp2;go_ret;exact ⟨15,rfl,prRes_below HP.out (Below.refl _ _)⟩
 have d3:decide ((n:Int) < 3)=false:=decide_eq_false (by omega);have d4:decide (n < 3)=false:=decide_eq_false h3;have h1n:(1:Int) < (n:Int):=by omega
 have h1m:1 < n:=by omega
 obtain ⟨x1,c1,hx1⟩:=HW.out.word (k:=1) (by rw [HN.out];omega);go_wp2_with fail;refine (rName_any x1 hx1 w).mono ?_;rintro e w1 ⟨b,rfl,rfl⟩
 cases b with
 | false=>
  go_wp2;go_ret;exact ⟨15,rfl,prRes_below HP.out (Below.refl _ _)⟩
 | true=>
 obtain ⟨m,hnm⟩:∃ m,n=m+2:=⟨n - 2,by omega⟩
 have HNM:=hiD hnm;have hm1:1≤m:=by omega
 have hm2:m≤100001:=by omega
 have hsl:=fun W=>run_slice_from2 (P:=Tryz.prog) W 98 9 Tryz.underlying98 size_str a n m hnm hm1
 clear hnm;go_upto_region 7 with fail;clear hsl d1 d2 d3 d4 h1n h1m hr h3 hx1 c1;clear p0 p1 p2 p3 p4 p5 p6 pl;have HX1:Hid (∀ W,Below w.heap.size w W→∃ x:ByteArray,W.cell? ⟨a,1,none⟩=some (.string x)∧x.size≤100000):=hiD (fun W hb=>(HW.out.below hb).word (by rw [HN.out,HNM.out];omega))
 go_loopg [5,7,8,9,33] m (fun gg s5 _ _ _ s33 wr=>∃ (i:Nat) (l:List Int) (A:Option Addr) (c:Nat),i≤m∧m - i≤gg∧s33=.int .i64 (i:Int)∧s5=.slice A i c∧Aside (wr.ownsRow w.heap.size 3 1 (.slice A i c) i (ints l))∧Aside (Below w.heap.size w wr))
 case atStart=>exact ⟨0,[],none,0,Nat.zero_le _,by omega,rfl,rfl,World.ownsRow_nil _ _ _ _,Below.refl _ _⟩
 case round=>
  obtain ⟨i,l,A,c,hi,hgg,rfl,rfl,ho,hb⟩:=hrel;have hsz:w.heap.size≤wr.heap.size:=hb.out.size;have halr:a < wr.heap.size:=by omega
  by_cases hlt:i < m
  ·have hltz:(i:Int) < (m:Int):=by omega
   obtain ⟨x,hx,hxs⟩:=(HW.out.below hb.out).word (k:=i+2) (by rw [HN.out,HNM.out];omega);have hx':wr.cell? ⟨a,2+i,none⟩=some (.string x):=by rw [Nat.add_comm];exact hx
   clear hx;go_wp2_with fail;refine (rNumber_any x hxs wr).mono ?_;rintro e w1 ⟨z,ok,rfl,hz,rfl⟩
   cases ok with
   | false=>
    go_wp2;go_ret;exact ⟨15,rfl,prRes_below HP.out hb.out⟩
   | true=>
   clear hz
   go_wp2_with (at_builtin;refine wpList_app rfl (.tmp 44) (.tmp 46) 22 rfl w.heap.size 3 (.int .i64 0) 1 8 Tryz.underlying22 int_infoJ rfl (by decide) (by decide) (.slice A i c) (i) (ints l) rfl ?own (wr.heap.size+1) (some ⟨wr.heap.size,0,none⟩) 1 1 [.int .i64 z] rfl ?rd ?one ?hb ?hbase ?_)
   case own=>exact (ho.out).alloc _
   case rd=>exact Rd.lit wr #[.int .i64 z] 3 (sz:=1) (m:=1) rfl
   case one=>first | (intro u hu;simp at hu;subst hu;rfl) | rfl
   case hb=>omega
   case hbase=>first | (simp;omega) | omega
   intro v' w' hown' hgrow' hat';obtain ⟨A2,c2,rfl,_⟩:=Rd.own hown';have hcat:ints l ++ [Value.int .i64 z]=ints (l ++ [z]):=by simp [ints]
   rw [hcat] at hown'
   have hb2:=((hb.out.alloc hsz (.cells #[.int .i64 z] 3)).grown hgrow' (Nat.le_trans hsz (by simp)) (fun k hk=>(ho.out.lt k hk).1))
   have HO2:=hiD hown';have HB2:=hiD hb2;clear hown' hgrow' hat' hcat hb2;go_wp2;go_roundg (m - (i+1))
   case measure=>omega
   case rel=>exact ⟨i+1,l ++ [z],A2,c2,by omega,by omega,by go_num,rfl,HO2.out,HB2.out⟩
  ·obtain rfl:i=m:=by omega
   have HPr:=hiD (HP.out.below hb.out);obtain ⟨y,c1,hy1⟩:=HX1.out wr hb.out;have hkey:keyOf Tryz.prog 9 (.string y)=some (.string y.data.toList):=Go.WideMaps.keyOf_string_mk Tryz.underlying9 (by unfold maxLen;omega);have hlk:=fun nq=>(HPr.out.mp.drewN nq).lookup string_keyedK Tryz.underlying120 (Tryz.zeroValue3 (wr.drewN nq)) hkey
   clear hlt hgg hi hkey;have pR:=HPr.out.row;dsimp only [prCells] at pR;obtain ⟨p0,p1,p2,p3,p4,p5,p6,pl⟩:=pR.cells7;clear pR;have h1m:(1:Int) < (n:Int):=by have:=HNM.out;omega
   cases hf:F (.string y) with
   | some x=>
    obtain ⟨k,rfl,hk⟩:=HPr.out.nm _ _ hf;rw [hf] at hlk;simp only [Option.getD_some,Option.isSome_some] at hlk;clear hf;go_upto_region 15 with fail;go_quiet (fail);go_wp2;go_ret;exact ⟨8,rfl,prRes_below HP.out (below_drewN hb.out nq)⟩
   | none=>
    rw [hf] at hlk;simp only [Option.getD_none,Option.isSome_none] at hlk;clear hf;go_upto_region 15 with fail;go_quiet (fail);have HB2:=hiD (below_drewN hb.out nq);have HO2:=hiD (own_below ho.out (below_drewJ wr nq) (Nat.le_refl _));clear p0 p1 p2 p3 p4 p5 p6 pl;clear hlk ho hb c1 hy1 hsz halr HPr;revert HB2 HO2;generalize wr.drewN nq=w2;intro HB2 HO2;have HP2:=hiD (HP.out.below HB2.out);have pR:=HP2.out.row;dsimp only [prCells] at pR;obtain ⟨p0,p1,p2,p3,p4,p5,p6,pl⟩:=pR.cells7;clear pR;have HC:=HST.out A i c l w2 (Rd.of_own HO2.out) (by unfold maxLen;omega)
    obtain ⟨b,hbq⟩:∃ b,l.all (KT.stOk t)=b:=⟨_,rfl⟩
    rw [hbq] at HC;clear hbq;have HCC:=hiD HC;clear HC;go_wp2_with fail;refine HCC.out.mono ?_;clear HCC;rintro e w3 ⟨rfl,hb3⟩;have HB3:=hiD (below_next hb3 HB2.out);have HO3:=hiD (own_below HO2.out hb3 (Nat.le_refl _));clear p0 p1 p2 p3 p4 p5 p6 pl;clear HP2 HB2 HO2 hb3
    cases b with
    | false=>
     go_wp2;go_ret;exact ⟨5,rfl,prRes_below HP.out HB3.out⟩
    | true=>
    obtain ⟨g,cap,hv,_,hgl⟩:=HO3.out.form (by omega);injection hv with hv1 hv2 hv3;subst hv1 hv3;go_upto_region 20 with fail
    go_loopg [12] i (fun gg s12 wr=>∃ j:Nat,j+1≤i∧i - (j+1)≤gg∧s12=.int .i64 ((j:Int)+1)∧Aside (Below w3.heap.size w3 wr))
    case atStart=>exact ⟨0,by omega,by omega,by first | rfl | go_num,Below.refl _ _⟩
    case round=>
     obtain ⟨j,hj,hgg,rfl,hb⟩:=hrel;have HO4:=hiD (own_below HO3.out hb.out (Nat.le_refl _));have hgr:g < wr.heap.size:=Nat.lt_of_lt_of_le hgl hb.out.size;by_cases hlt:j+1 < i
     ·have hltz:(j:Int)+1 < (i:Int):=by omega
      obtain ⟨ad,e1,_,q1⟩:=Rd.int (Rd.of_own HO4.out) (k:=j) (by omega)
      cases e1
      obtain ⟨ad,e1,_,q2⟩:=Rd.int (Rd.of_own HO4.out) (k:=j+1) (by omega)
      cases e1
      rw [add_zero_off] at q1 q2;generalize l.getD j 0=z1 at q1;generalize l.getD (j+1) 0=z2 at q2;have hw1:IntKind.i64.wrap ((j:Int)+1 - 1)=(j:Int):=by rw [IntWalk.i64_in _ (by omega)];omega
      have hw2:IntKind.i64.wrap (j:Int)=(j:Int):=IntWalk.i64_in _ (by omega);have hw3:IntKind.i64.wrap ((j:Int)+1)=(j:Int)+1:=IntWalk.i64_in _ (by omega);have hjt:((j:Int)+1).toNat=j+1:=by omega
      have hji:(j:Int) < (i:Int):=by omega
      have hj0:(0:Int)≤(j:Int):=by omega
      have hj1:(0:Int)≤(j:Int)+1:=by omega
      by_cases h4:z2≤z1
      ·have d4:decide (z2≤z1)=true:=decide_eq_true h4;go_wp2_with fail;go_quiet (fail);go_wp2;go_ret;exact ⟨9,rfl,prRes_below HP.out (below_drewN (below_on2 HB3.out hb.out) nq)⟩
      ·have d4:decide (z2≤z1)=false:=decide_eq_false h4;go_wp2_with fail;go_quiet (fail);clear hw1 hw2 hw3 hjt;go_wp2;go_roundg (i - (j+1+1))
       case measure=>omega
       case rel=>exact ⟨j+1,by omega,by omega,by go_num,(show Below _ _ _ from below_drewN hb.out _)⟩
     ·have hltz:¬ (j:Int)+1 < (i:Int):=by omega
      have HB4:=hiD (below_on2 HB3.out hb.out);have HP4:=hiD (HP.out.below HB4.out);clear hlt hgg;have pR:=HP4.out.row;dsimp only [prCells] at pR;obtain ⟨p0,p1,p2,p3,p4,p5,p6,pl⟩:=pR.cells7;clear pR;by_cases h40:40≤vn
      ·have d1:decide ((40:Int)≤(vn:Int))=true:=decide_eq_true (by omega);have d2:decide (40≤vn)=true:=decide_eq_true h40;go_wp2;go_ret;exact ⟨6,rfl,prRes_below HP.out HB4.out⟩
      have d1:decide ((40:Int)≤(vn:Int))=false:=decide_eq_false (by omega);have d2:decide (40≤vn)=false:=decide_eq_false h40;obtain ⟨y2,c2,hy2⟩:=HX1.out wr HB4.out;have hkey:keyOf Tryz.prog 9 (.string y2)=some (.string y2.data.toList):=Go.WideMaps.keyOf_string_mk Tryz.underlying9 (by unfold maxLen;omega);have halr:a < wr.heap.size:=Nat.lt_of_lt_of_le hal HB4.out.size;go_upto_region 26 with fail;clear d1 d2
      go_still_tail 13,(by kernel_rfl)
      change wpList _ _ _ _ _ (World.drew wr);have HD:=hiD ((Below.refl wr.heap.size wr).drew);have HBd:=hiD (below_on2 HB4.out HD.out);have HPd:=hiD (HP4.out.below HD.out);have HOd:=hiD (own_below HO4.out HD.out (Nat.le_refl _));clear p0 p1 p2 p3 p4 p5 p6 pl;clear HP4 HB4 HO4 HD c2 hb hgr halr;revert HBd HPd HOd;generalize World.drew wr=wd;intro HBd HPd HOd;have hBw:B≤w.heap.size:=Nat.le_trans HP.out.pB (Nat.le_of_lt HP.out.row.lt);have hvn:vn < 40:=by omega
      go_wp2_with (first | (at_mapUpdate;refine wpList_upd rfl (.tmp 94) (.tmp 97) (.tmp 103) rfl HPd.out.mp string_keyedK Tryz.underlying120 rfl hkey rfl (.int .i64 (vn:Int)) rfl ?_;intro w7 hm7 hg7;obtain ⟨hp8,hm8⟩:=HPd.out.mapUp hg7 hm7 (nmOk_upd HPd.out.nm _ (by omega));have HP8:=hiD hp8;have HM8:=hiD ((PrMv.ofBelow HBd.out).trans hm8);have HO8:=hiD (own_nt HOd.out hg7 (nt_map HPd.out.mp));clear hp8 hm8 hg7 hm7 HPd HBd HOd hkey;have pR:=HP8.out.row;dsimp only [prCells] at pR;have p0:=pR.cell 0;have p1:=pR.cell 1;have p2:=pR.cell 2;have p3:=pR.cell 3;have p4:=pR.cell 4;have p5:=pR.cell 5;have p6:=pR.cell 6;have pl:=pR.lt;simp only [List.getElem?_cons_zero,List.getElem?_cons_succ] at p0 p1 p2 p3 p4 p5 p6;clear pR;have hBs:B≤w7.heap.size:=Nat.le_trans HP8.out.pB (Nat.le_of_lt HP8.out.row.lt)) | (at_builtin;refine wpList_app rfl (.tmp 109) (.tmp 111) 57 rfl B 22 (.slice none 0 0) 1 24 Tryz.underlying57 ints_infoJ rfl (by decide) (by decide) (.slice VA vn vc) (vn) (slCells vs) rfl ?own (w7.heap.size+1) (some ⟨w7.heap.size,0,none⟩) 1 1 [.slice (some ⟨g,0,none⟩) i c] rfl ?rd ?one ?hb ?hbase ?_))
      case own=>exact (HP8.out.vown).alloc _
      case rd=>exact Rd.lit w7 #[.slice (some ⟨g,0,none⟩) i c] 22 (sz:=1) (m:=1) rfl
      case one=>first | (intro u hu;simp at hu;subst hu;rfl) | rfl
      case hb=>omega
      case hbase=>first | (simp;omega) | omega
      intro v' w' hown' hgrow' hat';obtain ⟨VA2,vc2,rfl,_⟩:=Rd.own hown';rw [own_blk] at hgrow';have HDa:=hiD ((Below.refl w7.heap.size w7).alloc (Nat.le_refl _) (.cells #[.slice (some ⟨g,0,none⟩) i c] 22));have HPa:=hiD (HP8.out.below HDa.out);have HOa:=hiD (own_base (own_below HO8.out HDa.out (Nat.le_refl _)) hBw);obtain ⟨hp9,hm9,hrow9⟩:=HPa.out.pushV (l:=l) (s:=⟨some ⟨g,0,none⟩,i,c⟩) (fun k hk=>by have:=blk_or hat' k hk;simpa using this) hgrow' hown' (TyRd.own HOa.out) (by show i≤maxLen;unfold maxLen;omega) (by show vn+1≤1000;omega);have HP9:=hiD hp9;have HM9:=hiD ((HM8.out.trans (PrMv.ofBelow HDa.out)).trans hm9);have z3:=hrow9.cell 3;have zf:=hrow9.frozen 3;have zl:=hrow9.lt;dsimp only [prCells] at z3;simp only [List.getElem?_cons_zero,List.getElem?_cons_succ] at z3;clear p0 p1 p2 p3 p4 p5 p6 pl;clear hp9 hm9 hrow9 hown' hgrow' hat' HDa HPa HOa HP8 HO8 HM8;go_wp2;go_ret;exact ⟨0,rfl,⟨_,_,_,_,HP9.out,HM9.out⟩⟩
end Go.Proofs.YtbijfnbelkbofaaGreatDoor
