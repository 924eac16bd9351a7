/-
  Lemmas for the law TopCircuits.
-/
import Derived.Test.YtbijfnbelkbofaaGreatDoorJZ15
import Derived.Test.YtbijfnbelkbofaaGreatDoorJZ14
import Derived.Lib.LaidTab
import Derived.LaidSub
import Derived.LaidMore
import Derived.OpenShut
import Derived.Lay
import Derived.Stop.Joined
import Derived.Lib.AppendIntMem
import Derived.MakeChecks
import Derived.Test.YtbijfnbelkbofaaGreatDoorJZ7
import Derived.Test.YtbijfnbelkbofaaGreatDoorJZ2
import Derived.Deep.QuietTactic
import Derived.BigQuiet
import Derived.Lib.ItoaMem
import Derived.Test.YtbijfnbelkbofaaGreatDoorJZ1
import Derived.Maps.OwnSet
set_option linter.unusedSimpArgs false
set_option linter.unusedVariables false
namespace Go.Proofs.YtbijfnbelkbofaaGreatDoor
open Go.RowKit
def rwCells (p:KT.Rw × Sl):List Value:=[.slice p.2.at_ p.2.len p.2.cap,.int .i64 p.1.out]
def rwsCells (rs:List KT.Rw) (sl:List Sl):List Value:=(rs.zip sl).flatMap rwCells
structure TP where
 HA:Option Addr
 hn:Nat
 hc:Nat
 VA:Option Addr
 vn:Nat
 vc:Nat
 RA:Option Addr
 rn:Nat
 rc:Nat
 vs:List Sl
 rs:List Sl
def TP.cells (P:TP) (t:KT.Tab):List Value:=[.int .i64 t.states,.int .i64 t.sym,.slice P.HA P.hn P.hc,.slice P.VA P.vn P.vc,.slice P.RA P.rn P.rc]
structure TabAt (w:World) (t:KT.Tab) (P:TP):Prop where
 hood:Rd w w.heap.size 2 P.HA P.hn (hoodCells t.hood)
 vars:Rd w w.heap.size 1 P.VA P.vn (slCells P.vs)
 vsl:P.vs.length=t.vars.length
 var:∀ i,i < t.vars.length→Rd w w.heap.size 1 (P.vs.getD i default).at_ (P.vs.getD i default).len (ints (t.vars.getD i []))∧(P.vs.getD i default).len≤maxLen
 rows:Rd w w.heap.size 2 P.RA P.rn (rwsCells t.rows P.rs)
 rsl:P.rs.length=t.rows.length
 row:∀ i,i < t.rows.length→Rd w w.heap.size 1 (P.rs.getD i default).at_ (P.rs.getD i default).len (ints (t.rows.getD i default).ins)∧(P.rs.getD i default).len≤maxLen
 h63:P.hn≤maxLen
 v63:P.vn≤maxLen
 r63:P.rn≤maxLen
section
variable {w w':World} {t:KT.Tab} {P:TP}
theorem TabAt.up (h:TabAt w t P) (hb:Below w.heap.size w w'):TabAt w' t P:=
 ⟨h.hood.up hb,h.vars.up hb,h.vsl,fun i hi=>⟨(h.var i hi).1.up hb,(h.var i hi).2⟩,h.rows.up hb,h.rsl,fun i hi=>⟨(h.row i hi).1.up hb,(h.row i hi).2⟩,h.h63,h.v63,h.r63⟩
theorem TabAt.hl (h:TabAt w t P):t.hood.length=P.hn:=by
 have:=h.hood.1;rw [hoodCells,flat2_length _ (fun _=>rfl)] at this;omega
theorem TabAt.vl (h:TabAt w t P):t.vars.length=P.vn:=by
 have:=h.vars.1;rw [slCells_length] at this;have:=h.vsl;omega
theorem TabAt.rl (h:TabAt w t P):t.rows.length=P.rn:=by
 have h1:=h.rows.1;have h2:=h.rsl;rw [rwsCells,flat2_length _ (fun _=>rfl),List.length_zip] at h1;omega
theorem TabAt.varAt (h:TabAt w t P) {k:Nat} (hk:k < P.vn):
 ∃ ad,P.VA=some ad∧ad.block < w.heap.size∧w.cell? (ad.add k)=some (.slice (P.vs.getD k default).at_ (P.vs.getD k default).len (P.vs.getD k default).cap) ∧
  Rd w w.heap.size 1 (P.vs.getD k default).at_ (P.vs.getD k default).len (ints (t.vars.getD k []))∧(P.vs.getD k default).len≤maxLen∧(t.vars.getD k []).length=(P.vs.getD k default).len:=by
 have hl:=h.vl;have hs:=h.vsl;obtain ⟨ad,u,e,hb,hu,hc⟩:=h.vars.get1 hk;rw [slCells_get P.vs k (by omega)] at hu;injection hu with hu;obtain ⟨q1,q2⟩:=h.var k (by omega);exact ⟨ad,e,hb,hc.trans (congrArg some hu.symm),q1,q2,by have:=q1.1;simpa using this⟩
theorem TabAt.rowAt (h:TabAt w t P) {k:Nat} (hk:k < P.rn):
 ∃ ad,P.RA=some ad∧ad.block < w.heap.size∧w.cell? (ad.add (k * 2))=some (.slice (P.rs.getD k default).at_ (P.rs.getD k default).len (P.rs.getD k default).cap)∧w.cell? ⟨(ad.add (k * 2)).block,(ad.add (k * 2)).off+1,none⟩=some (.int .i64 (t.rows.getD k default).out) ∧
  Rd w w.heap.size 1 (P.rs.getD k default).at_ (P.rs.getD k default).len (ints (t.rows.getD k default).ins)∧(P.rs.getD k default).len≤maxLen∧(t.rows.getD k default).ins.length=(P.rs.getD k default).len:=by
 have hl:=h.rl;have hs:=h.rsl;have hz:k < (t.rows.zip P.rs).length:=by rw [List.length_zip];omega
 have hg:(t.rows.zip P.rs).getD k default=(t.rows.getD k default,P.rs.getD k default):=by
  simp only [List.getD_eq_getElem?_getD,List.getElem?_eq_getElem hz,List.getElem?_eq_getElem (show k < t.rows.length by omega),List.getElem?_eq_getElem (show k < P.rs.length by omega),Option.getD_some,List.getElem_zip]
 obtain ⟨h0,h1⟩:=flat2_get rwCells (fun _=>rfl) (t.rows.zip P.rs) k hz;rw [hg] at h0 h1;obtain ⟨ad,e,hb,c0,c1⟩:=h.rows.row2 hk h0 h1;obtain ⟨q1,q2⟩:=h.row k (by omega);exact ⟨ad,e,hb,c0,c1,q1,q2,by have:=q1.1;simpa using this⟩
end
end Go.Proofs.YtbijfnbelkbofaaGreatDoor
namespace Go.Proofs.YtbijfnbelkbofaaGreatDoor
open Go.RowKit Go.ChangeShapes Go.WideShapes Go.Deep Go.Joins
section
variable {H:Type} {enc:TypeId × Value→H} {P:Program} {w:World} {base:Nat} {spare:Nat→Bool} {held:Bool}
theorem cells_of_tab2 {fuel:Nat} {t e e2:TypeId} {n m:Nat} {k:IntKind} {cs:List Value} {zss:List (List Int)} {p:List MemPlace} (ht:P.underlying t=some (.array n e)) (he:P.underlying e=some (.array m e2)) (he2:P.underlying e2=some (.int k))
 (hc2:P.cellsOf e2=1) (hce:P.cellsOf e=m) (hct:P.cellsOf t=n * m) (hm0:0 < m) (h:DataW.trod enc P w base spare held fuel t cs=some (.agg (zss.map (Lib.tabData k)),p)):
 ∀ i,i < n * m→cs[i]?=((zss.getD (i / m) [])[i % m]?).map (Value.int k):=by
 obtain ⟨xs,mm,_,hx,hl,hn,hat⟩:=DataW.trod_array ht h;simp only [Prod.mk.injEq,DataW.agg.injEq] at hx;intro i hi;have hq:i / m < n:=by rw [Nat.div_lt_iff_lt_mul hm0];exact hi
 have h1:=hat (i / m) hq;rw [List.getElem?_eq_getElem (by omega)] at h1;have h2:(xs.map (·.1))[i / m]?=some (xs[i / m]'(by omega)).1:=by rw [List.getElem?_map,List.getElem?_eq_getElem (by omega)];rfl
 rw [← hx.1,List.getElem?_map] at h2
 cases hz:zss[i / m]? with
 | none=>rw [hz] at h2;cases h2
 | some zs=>
  rw [hz] at h2;simp only [Option.map_some,Option.some.injEq] at h2;rw [hce] at h1;have h3:=Lib.cells_of_tab (zs:=zs) (p:=(xs[i / m]'(by omega)).2) he he2 hc2 hce (by rw [h1];exact congrArg some (Prod.ext h2.symm rfl));rw [List.getD_eq_getElem?_getD,hz,Option.getD_some];have h4:=congrArg (·[i % m]?) h3;simp only [List.getElem?_take,List.getElem?_drop,List.getElem?_map] at h4;rw [if_pos (Nat.mod_lt _ hm0)] at h4;rw [← h4];congr 1;rw [Nat.mul_comm];exact (Nat.div_add_mod i m).symm
end
section
variable {H:Type} {enc:TypeId × Value→H} {w:World} {base b0:Nat} {spare:Nat→Bool} {held:Bool} {r:Reach} {v:Value} {d:DataW H} {p:List MemPlace}
end
end Go.Proofs.YtbijfnbelkbofaaGreatDoor
namespace Go.Proofs.YtbijfnbelkbofaaGreatDoor
open Go.RowKit
def noTre:Tre:=⟨0,[],[]⟩
def prefOf (ns ms:List Nd):Prop:=∃ more,ms=ns ++ more
theorem prefOf.refl (ns:List Nd):prefOf ns ns:=⟨[],by simp⟩
theorem prefOf.trans {a b c:List Nd} (h1:prefOf a b) (h2:prefOf b c):prefOf a c:=by
 obtain ⟨x,rfl⟩:=h1;obtain ⟨y,rfl⟩:=h2;exact ⟨x ++ y,by simp⟩
theorem prefOf.snoc (a:List Nd) (x:Nd):prefOf a (a ++ [x]):=⟨[x],rfl⟩
theorem prefOf.get {a b:List Nd} (h:prefOf a b) (i:Nat) (hi:i < a.length):b.getD i default=a.getD i default:=by
 obtain ⟨x,rfl⟩:=h;rw [List.getD_eq_getElem?_getD,List.getElem?_append_left hi,← List.getD_eq_getElem?_getD]
theorem prefOf.len {a b:List Nd} (h:prefOf a b):a.length≤b.length:=by
 obtain ⟨x,rfl⟩:=h
 simp
theorem gnd_snoc (ns:List Nd) (x:Nd):(ns ++ [x]).getD ns.length default=x:=by
 rw [List.getD_eq_getElem?_getD,List.getElem?_append_right (Nat.le_refl _)];simp
def fits (S n:Nat) (ns:List Nd) (x:Nd):Prop:=
 (1≤x.level∧x.level≤n∧x.next.length=S)∧∀ k ∈ x.next,0≤k∧(x.level=1→k < S)∧(1 < x.level→k < ns.length∧(ns.getD k.toNat default).level=x.level - 1)
def Comp (S:Nat) (ns:List Nd) (i:Int) (l:Nat) (f:List Int→Int):Prop:=
 ∀ t:Tre,prefOf ns t.nodes→∀ ins:List Int,ins.length=l→(∀ x ∈ ins,0≤x∧x < (S:Int))→walkT t i ins=f ins
theorem Comp.ext {S:Nat} {ns ms:List Nd} {i:Int} {l:Nat} {f:List Int→Int} (h:Comp S ns i l f) (hp:prefOf ns ms):Comp S ms i l f:=
 fun t ht ins hl hs=>h t (hp.trans ht) ins hl hs
theorem Comp.state (S:Nat) (ns:List Nd) (s:Int):Comp S ns s 0 (fun _=>s):=fun t _ ins hl _=>by
 rw [List.eq_nil_of_length_eq_zero hl];rfl
def Wire (S:Nat) (ns:List Nd) (i:Int) (l:Nat):Prop:=0≤i∧(l=0→i < (S:Int))∧(0 < l→i < ns.length∧(ns.getD i.toNat default).level=(l:Int))
theorem Wire.ext {S:Nat} {ns ms:List Nd} {i:Int} {l:Nat} (h:Wire S ns i l) (hp:prefOf ns ms):Wire S ms i l:=by
 obtain ⟨h1,h2,h3⟩:=h;refine ⟨h1,h2,fun hl=>?_⟩;obtain ⟨a,b⟩:=h3 hl;have:=hp.len;exact ⟨by omega,by rw [hp.get _ (by omega)];exact b⟩
end Go.Proofs.YtbijfnbelkbofaaGreatDoor
namespace Go.Proofs.YtbijfnbelkbofaaGreatDoor
open Go.RowKit
instance:DecidableEq Pt:=fun a b=>if h:a.x=b.x∧a.y=b.y then isTrue (by cases a;cases b;simp only at h;rw [h.1,h.2]) else isFalse (fun e=>h (by rw [e];exact ⟨rfl,rfl⟩))
instance:DecidableEq Nd:=fun a b=>if h:a.level=b.level∧a.next=b.next then isTrue (by cases a;cases b;simp only at h;rw [h.1,h.2]) else isFalse (fun e=>h (by rw [e];exact ⟨rfl,rfl⟩))
end Go.Proofs.YtbijfnbelkbofaaGreatDoor
namespace Go.Proofs.YtbijfnbelkbofaaGreatDoor
open Go.RowKit
def ptEq (x y:Pt):Bool:=(x.x == y.x) && (x.y == y.y)
theorem ptEq_iff (x y:Pt):ptEq x y=true ↔ x=y:=by
 cases x;cases y
 simp [ptEq]
theorem pt_neq (x y:Pt) (W:World):(binOp .neq 114 (.agg #[.int .i64 x.x,.int .i64 x.y]) (.agg #[.int .i64 y.x,.int .i64 y.y])).run Tryz.prog W=.ok (.bool (!ptEq x y)) W:=by
 unfold ptEq
 cases h1:(x.x == y.x) <;> cases h2:(x.y == y.y) <;> (simp only [beq_eq_false_iff_ne,beq_iff_eq] at h1 h2;go_simp)
theorem Rd.pt {w:World} {B n:Nat} {A:Option Addr} {l:List Pt} (h:Rd w B 2 A n (hoodCells l)) {k:Nat} (hk:k < n):
 ∃ ad,A=some ad∧ad.block < B∧w.cell? (ad.add (k * 2))=some (.int .i64 (l.getD k default).x)∧w.cell? ⟨(ad.add (k * 2)).block,(ad.add (k * 2)).off+1,none⟩=some (.int .i64 (l.getD k default).y):=by
 have hl:l.length=n:=by have:=h.1;rw [hoodCells,flat2_length _ (fun _=>rfl)] at this;omega
 obtain ⟨h0,h1⟩:=flat2_get ptCells (fun _=>rfl) l k (by omega);exact h.row2 hk h0 h1
set_option maxHeartbeats 400000 in
theorem equal_pts (A A':Option Addr) (n m c c':Nat) (xs ys:List Pt) (w:World)
 (hx:Rd w w.heap.size 2 A n (hoodCells xs)) (hy:Rd w w.heap.size 2 A' m (hoodCells ys)) (hn:n≤maxLen) (hm:m≤maxLen):
 Calls Tryz.prog 162 #[.slice A n c,.slice A' m c'] w fun e w'=>e=.returned (.bool (decide (xs=ys)))∧Below w.heap.size w w':=by
 unfold maxLen at hn hm;have HX:=hiD hx;have HY:=hiD hy;have LX:Hid (xs.length=n):=by have:=hx.1;rw [hoodCells,flat2_length _ (fun _=>rfl)] at this;show _=_;omega
 have LY:Hid (ys.length=m):=by have:=hy.1;rw [hoodCells,flat2_length _ (fun _=>rfl)] at this;show _=_;omega
 clear hx hy;by_cases hnm:n=m
 ·subst hnm;go_enter Tryz.func162,Tryz.ntmps162;go_wp2
  go_loopg [5,13] n (fun gg _ s13 wr=>∃ kk:Nat,kk≤n∧n - kk≤gg∧s13=.int .i64 kk∧Aside (Below w.heap.size w wr)∧Aside (∀ j,j < kk→xs.getD j default=ys.getD j default))
  case atStart=>exact ⟨0,Nat.zero_le _,by omega,rfl,Below.refl _ _,fun j hj=>absurd hj (Nat.not_lt_zero _)⟩
  case round=>
   obtain ⟨kk,hkk,hg,rfl,BW,AA⟩:=hrel;by_cases hlt:kk < n
   ·have hltz:(kk:Int) < (n:Int):=by omega
    obtain ⟨ad,rfl,hb,h0,h1⟩:=(HX.out.below BW.out (Nat.le_refl _)).pt hlt;obtain ⟨ad',rfl,hb',g0,g1⟩:=(HY.out.below BW.out (Nat.le_refl _)).pt hlt;generalize hz1:xs.getD kk default=x at h0 h1;generalize hz2:ys.getD kk default=y at g0 g1
    have HE:Aside (xs.getD kk default=x∧ys.getD kk default=y):=⟨hz1,hz2⟩
    clear hz1 hz2;have hq:=pt_neq x y
    cases hxy:!ptEq x y
    all_goals rw [hxy] at hq
    ·go_wp2_with fail;go_quiet (fail);go_wp2;go_roundg (n - (kk+1))
     case measure=>omega
     case rel=>
      refine ⟨kk+1,by omega,by omega,by go_num,(show Below _ _ _ from below_drewN BW.out _),(show Aside _ from fun j hj=>?_)⟩;by_cases e:j=kk
      ·subst e;rw [HE.out.1,HE.out.2];exact (ptEq_iff x y).1 (by simpa using hxy)
      ·exact AA.out j (by omega)
    ·go_wp2_with fail;go_quiet (fail);go_wp2;go_ret;refine ⟨ret_bool ?_,below_drewN BW.out _⟩
     symm
     rw [decide_eq_false_iff_not];rintro rfl;have:=HE.out.1.symm.trans HE.out.2;rw [(ptEq_iff x y).2 this] at hxy
     cases hxy
   ·have hltz:¬ (kk:Int) < (n:Int):=by omega
    obtain rfl:kk=n:=by omega
    go_wp2;go_ret;refine ⟨ret_bool ?_,BW.out⟩
    symm
    rw [decide_eq_true_iff];exact list_eq_of_getD (LX.out.trans LY.out.symm) default (fun k hk=>AA.out k (by rw [LX.out] at hk;exact hk))
 ·have hnm':((n:Int) != (m:Int))=true:=by rw [bne_iff_ne];omega
  go_enter Tryz.func162,Tryz.ntmps162;go_wp2;go_ret;refine ⟨ret_bool ?_,Below.refl _ _⟩
  symm
  rw [decide_eq_false_iff_not];rintro rfl;exact hnm (LX.out.symm.trans LY.out)
theorem hoodSame_any (A A':Option Addr) (n m c c':Nat) (xs ys:List Pt) (w:World)
 (hx:Rd w w.heap.size 2 A n (hoodCells xs)) (hy:Rd w w.heap.size 2 A' m (hoodCells ys)) (hn:n≤maxLen) (hm:m≤maxLen):
 Calls Tryz.prog 131 #[.slice A n c,.slice A' m c'] w fun e w'=>e=.returned (.bool (decide (xs=ys)))∧Below w.heap.size w w':=by
 have HX:=hiD hx;have HY:=hiD hy;have h1:=hiD hn;have h2:=hiD hm;clear hx hy hn hm;go_enter Tryz.func131,Tryz.ntmps131;go_wp2_with fail;refine (equal_pts A A' n m c c' xs ys _ HX.out HY.out h1.out h2.out).mono ?_;rintro e w1 ⟨rfl,hb⟩;go_wp2;go_ret;exact ⟨rfl,hb⟩
end Go.Proofs.YtbijfnbelkbofaaGreatDoor
namespace Go.Proofs.YtbijfnbelkbofaaGreatDoor
namespace KT
section
variable {S H L:Nat} {val:List Int→Int} {ins:List Int} {ns:List Nd}
theorem getD_left {α:Type} [Inhabited α] {l:List α} (m:List α) {i:Nat} (h:i < l.length):(l ++ m).getD i default=l.getD i default:=by
 simp only [List.getD_eq_getElem?_getD];rw [List.getElem?_append_left h]
theorem Leads.more {k:Int} (h:Leads S val ns L ins k) (e:List Nd):Leads S val (ns ++ e) L ins k:=fun ext hood suf h1 h2=>by
 rw [List.append_assoc];exact h (e ++ ext) hood suf h1 h2
def Kid (S:Nat) (val:List Int→Int) (ns:List Nd) (L:Nat) (ins:List Int) (j:Nat) (k:Int):Prop:=
 0≤k∧(L=0→k < S)∧(0 < L→k.toNat < ns.length∧(ns.getD k.toNat default).level=L)∧Leads S val ns L (ins ++ [(j:Int)]) k
theorem Kid.more {j:Nat} {k:Int} (h:Kid S val ns L ins j k) (e:List Nd):Kid S val (ns ++ e) L ins j k:=
 ⟨h.1,h.2.1,fun hl=>⟨by have:=(h.2.2.1 hl).1;simp;omega,by rw [getD_left _ (h.2.2.1 hl).1];exact (h.2.2.1 hl).2⟩,h.2.2.2.more e⟩
end
end KT
end Go.Proofs.YtbijfnbelkbofaaGreatDoor
namespace Go.Proofs.YtbijfnbelkbofaaGreatDoor
open Go.Lib
namespace KT
def readD (l:List UInt8):Nat:=l.foldl (fun a c=>a * 10+(c.toNat - 48)) 0
theorem dig_toNat {d:Nat} (h:d < 10):(UInt8.ofNat (48+d)).toNat=48+d:=by
 rw [UInt8.toNat_ofNat_of_lt'];show _ < 256;omega
theorem readD_dec (u:Nat):readD (decDigits u)=u:=by
 induction u using Nat.strongRecOn with
 | ind u ih=>
  rw [decDigits];split
  ·rename_i h
   show 0 * 10+((UInt8.ofNat (48+u)).toNat - 48)=u;rw [dig_toNat h];omega
  ·rename_i h
   have:=ih (u / 10) (by omega);unfold readD at this ⊢;rw [List.foldl_append,this];show u / 10 * 10+((UInt8.ofNat (48+u % 10)).toNat - 48)=u;rw [dig_toNat (by omega)];omega
theorem dec_inj {u v:Nat} (h:decDigits u=decDigits v):u=v:=by rw [← readD_dec u,h,readD_dec]
theorem dec_blank (u:Nat):∀ c ∈ decDigits u,c≠32:=by
 induction u using Nat.strongRecOn with
 | ind u ih=>
  intro c hc e;subst e;rw [decDigits] at hc;split at hc
  ·rename_i h
   have:=List.mem_singleton.1 hc;have h2:=congrArg UInt8.toNat this;rw [dig_toNat h] at h2;have:(32:UInt8).toNat=32:=rfl;omega
  ·rename_i h
   rcases List.mem_append.1 hc with h1 | h1
   ·exact ih (u / 10) (by omega) 32 h1 rfl
   ·have:=List.mem_singleton.1 h1;have h2:=congrArg UInt8.toNat this;rw [dig_toNat (by omega)] at h2;have:(32:UInt8).toNat=32:=rfl;omega
theorem itoa_at {a:Int} (h:0≤a):itoa a=decDigits a.toNat:=by unfold itoa;rw [if_neg (by omega)]
theorem itoa_inj {a b:Int} (ha:0≤a) (hb:0≤b) (h:itoa a=itoa b):a=b:=by
 rw [itoa_at ha,itoa_at hb] at h;have:=dec_inj h;omega
theorem itoa_blank {a:Int} (ha:0≤a):∀ c ∈ itoa a,c≠32:=by rw [itoa_at ha];exact dec_blank _
def keyR (l:List Int):List UInt8:=l.flatMap (fun k=>32 :: itoa k)
def keyS (lev:Int) (l:List Int):List UInt8:=itoa lev ++ keyR l
theorem part_eq:∀ (p q r s:List UInt8),(∀ c ∈ p,c≠32)→(∀ c ∈ q,c≠32)→(r=[]∨∃ t,r=32 :: t)→(s=[]∨∃ t,s=32 :: t)→p ++ r=q ++ s→p=q∧r=s
 | [],[],r,s,_,_,_,_,h=>⟨rfl,h⟩
 | [],d :: q,r,s,_,hq,hr,_,h=>by
  rcases hr with rfl | ⟨t,rfl⟩
  ·cases h
  ·injection h with h1 h2;exact absurd h1.symm (hq d (by simp))
 | c :: p,[],r,s,hp,_,_,hs,h=>by
  rcases hs with rfl | ⟨t,rfl⟩
  ·cases h
  ·injection h with h1 h2;exact absurd h1 (hp c (by simp))
 | c :: p,d :: q,r,s,hp,hq,hr,hs,h=>by
  injection h with h1 h2;obtain ⟨e1,e2⟩:=part_eq p q r s (fun x hx=>hp x (by simp [hx])) (fun x hx=>hq x (by simp [hx])) hr hs h2;exact ⟨by rw [h1,e1],e2⟩
theorem keyR_form:∀ l:List Int,keyR l=[]∨∃ t,keyR l=32 :: t
 | []=>.inl rfl
 | k :: l=>.inr ⟨itoa k ++ keyR l,by simp [keyR]⟩
theorem keyR_inj:∀ (l m:List Int),(∀ k ∈ l,0≤k)→(∀ k ∈ m,0≤k)→keyR l=keyR m→l=m
 | [],[],_,_,_=>rfl
 | [],k :: m,_,_,h=>by simp [keyR] at h
 | k :: l,[],_,_,h=>by simp [keyR] at h
 | a :: l,b :: m,hl,hm,h=>by
  have h':itoa a ++ keyR l=itoa b ++ keyR m:=by
   have:(32:UInt8) :: (itoa a ++ keyR l)=32 :: (itoa b ++ keyR m):=by simpa [keyR] using h
   injection this
  obtain ⟨e1,e2⟩:=part_eq _ _ _ _ (itoa_blank (hl a (by simp))) (itoa_blank (hm b (by simp))) (keyR_form l) (keyR_form m) h';rw [itoa_inj (hl a (by simp)) (hm b (by simp)) e1,keyR_inj l m (fun k hk=>hl k (by simp [hk])) (fun k hk=>hm k (by simp [hk])) e2]
theorem keyS_inj {a b:Int} {l m:List Int} (ha:0≤a) (hb:0≤b) (hl:∀ k ∈ l,0≤k) (hm:∀ k ∈ m,0≤k) (h:keyS a l=keyS b m):a=b∧l=m:=by
 obtain ⟨e1,e2⟩:=part_eq _ _ _ _ (itoa_blank ha) (itoa_blank hb) (keyR_form l) (keyR_form m) h;exact ⟨itoa_inj ha hb e1,keyR_inj l m hl hm e2⟩
end KT
end Go.Proofs.YtbijfnbelkbofaaGreatDoor
namespace Go.Proofs.YtbijfnbelkbofaaGreatDoor
open Go.RowKit Go.Maps Go.ChangeMaps Go.MapKept
def MK (w:World) (P:Program) (k:TypeId) (b:Nat) (f:Value→Option Value):Prop:=
 ∃ (es:Array MapEntry) (clock:Nat),w.heap[b]?=some (.map es clock)∧(∀ e ∈ es.toList,(∃ l,keyOf P k e.key=some l)∧f e.key=some e.val) ∧
  (es.toList.Pairwise fun e e'=>e.key≠e'.key)∧∀ x,(∀ e ∈ es.toList,e.key≠x)→f x=none
open Classical in
noncomputable def updK (f:Value→Option Value) (x v:Value):Value→Option Value:=fun y=>if y=x then some v else f y
theorem updK_same (f:Value→Option Value) (x v:Value):updK f x v x=some v:=by unfold updK;rw [if_pos rfl]
theorem updK_other {f:Value→Option Value} {x v y:Value} (h:y≠x):updK f x v y=f y:=by unfold updK;rw [if_neg h]
section
variable {P:Program} {k e t:TypeId} {w:World} {b:Nat} {f:Value→Option Value}
theorem MK.lt (h:MK w P k b f):b < w.heap.size:=by
 obtain ⟨es,clock,hb,_⟩:=h;exact (Array.getElem?_eq_some_iff.1 hb).1
theorem MK.block {w':World} (h:MK w P k b f) (hb:w'.heap[b]?=w.heap[b]?):MK w' P k b f:=by
 obtain ⟨es,clock,hx,r⟩:=h;exact ⟨es,clock,hb.trans hx,r⟩
theorem MK.kept {w':World} {row:Option Nat} (h:MK w P k b f) (hg:w.grownBy w' row) (hne:row≠some b):MK w' P k b f:=h.block (hg.block b h.lt (fun e=>hne e.symm))
theorem MK.below {w':World} {B:Nat} (h:MK w P k b f) (hb:Below B w w') (hB:b < B):MK w' P k b f:=h.block (hb.block b hB)
theorem MK.alloc (h:MK w P k b f) (o:Obj):MK (w.alloc o) P k b f:=h.kept (World.grownBy_alloc w o none) (by simp)
theorem MK.drew (h:MK w P k b f):MK w.drew P k b f:=h
theorem MK.drewN (h:MK w P k b f) (n:Nat):MK (w.drewN n) P k b f:=h
theorem MK.set (h:MK w P k b f) {p:Addr} (hp:b≠p.block) (u:Value):MK (w.setCell p u) P k b f:=h.block (Below.heap_setCell w p u b hp)
theorem MK.made (w:World) (P:Program) (k:TypeId):MK (w.alloc (.map #[] 0)) P k w.heap.size (fun _=>none):=
 ⟨#[],0,(MapKept.heap_alloc w _).1,by simp,by simp,fun _ _=>rfl⟩
theorem MK.row_ne {g:Nat} {T:TypeId} {xs:List Value} (h:MK w P k b f) (hr:Row w g T xs):b≠g:=by
 obtain ⟨es,clock,hb,_⟩:=h;intro e;subst e;unfold Row at hr;rw [hb] at hr;cases hr
theorem MK.own_ne {base sz n:Nat} {T:TypeId} {v:Value} {xs:List Value} (h:MK w P k b f) (ho:w.ownsRow base T sz v n xs):v.ownBlock≠some b:=by
 obtain ⟨es,clock,hb,_⟩:=h;rcases ho.2 with ⟨rfl,_⟩ | ⟨g,cap,cur,rfl,_,hg,_⟩
 ·simp [Value.ownBlock]
 ·intro he;obtain rfl:g=b:=by simpa [Value.ownBlock] using he
  rw [hb] at hg;cases hg
theorem MK.congr {f':Value→Option Value} (h:MK w P k b f) (hf:∀ x,f' x=f x):MK w P k b f':=by
 obtain rfl:f'=f:=funext hf;exact h
theorem MK.lookup (h:MK w P k b f) (K:Keyed P k) (ht:P.underlying t=some (.map k e)) {z:Value} (hz:(zeroValue e).run P w=.ok z w) {x:Value} {l:Lit} (hkey:keyOf P k x=some l):
 (Instr.lookup t (.map (some b)) x true).run P w=.ok (.tuple #[(f x).getD z,.bool (f x).isSome]) w:=by
 obtain ⟨es,clock,hb,hes,_,hno⟩:=h;rcases K.find w hkey es.toList (fun e he=>(hes e he).1) with ⟨h1,h2⟩ | ⟨j,e0,h1,h2,h3⟩
 ·rw [hno x h2]
  simp [Instr.lookup,run_underlying ht,MapKept.run_getObj_map hb,K.check w _ hkey,h1,hz,Result.andThen]
 ·have hm0:e0 ∈ es.toList:=List.mem_of_getElem? h2;have q3:=(hes e0 hm0).2;rw [h3] at q3;rw [q3]
  simp [Instr.lookup,run_underlying ht,MapKept.run_getObj_map hb,K.check w _ hkey,h1,Result.andThen]
theorem MK.update (h:MK w P k b f) (K:Keyed P k) (ht:P.underlying t=some (.map k e)) {x:Value} {l:Lit} (hkey:keyOf P k x=some l) (v:Value):
 ∃ w',(Instr.mapUpdate t (.map (some b)) x v).run P w=.ok () w'∧MK w' P k b (updK f x v)∧w.grownBy w' (some b):=by
 obtain ⟨es,clock,hb,hes,hpw,hno⟩:=h
 have hgr:∀ o,w.grownBy (setBlock w b o) (some b):=fun o=>⟨rfl,rfl,rfl,by simp [setBlock],fun i _ hi=>heap_setBlock_other hb _ (fun e=>hi (by rw [e]))⟩
 rcases K.find w hkey es.toList (fun e he=>(hes e he).1) with ⟨h1,h2⟩ | ⟨j,e0,h1,h2,h3⟩
 ·refine ⟨setBlock w b (.map (es.push ⟨x,v,clock⟩) (clock+1)),?_,⟨es.push ⟨x,v,clock⟩,clock+1,heap_setBlock_same hb _,?_,?_,?_⟩,hgr _⟩
  ·simp [Instr.mapUpdate,run_underlying ht,MapKept.run_getObj_map hb,K.check w false hkey,h1,MapKept.run_setObj_map _ hb,Result.andThen,setBlock]
  ·intro e he;simp only [Array.toList_push,List.mem_append,List.mem_singleton] at he;rcases he with he | rfl
   ·exact ⟨(hes e he).1,by rw [updK_other (h2 e he)];exact (hes e he).2⟩
   ·exact ⟨⟨l,hkey⟩,updK_same _ _ _⟩
  ·rw [Array.toList_push,List.pairwise_append];exact ⟨hpw,by simp,fun p hp q hq=>by simp at hq;subst hq;exact h2 p hp⟩
  ·intro y hy;have hyx:y≠x:=fun q=>hy ⟨x,v,clock⟩ (by simp) (by rw [q])
   rw [updK_other hyx];exact hno y (fun e he=>hy e (by simp [Array.mem_toList_iff] at he ⊢;exact .inl he))
 ·obtain ⟨hj,hje⟩:=List.getElem?_eq_some_iff.1 h2;have hj':j < es.size:=by simpa using hj
  have hje':es[j]=e0:=by simpa using hje
  refine ⟨setBlock w b (.map (es.modify j fun e=>{ e with key:=x,val:=v }) clock),?_,⟨es.modify j fun e=>{ e with key:=x,val:=v },clock,heap_setBlock_same hb _,?_,?_,?_⟩,hgr _⟩
  ·have hst:=K.stays w hkey;have he:(es[j]?).map (·.key)=some x:=by simp [Array.getElem?_eq_getElem hj',hje',h3]
   simp [Instr.mapUpdate,run_underlying ht,MapKept.run_getObj_map hb,K.check w false hkey,h1,MapKept.run_setObj_map _ hb,Result.andThen,setBlock,Array.getElem?_eq_getElem hj',hje',h3,hst]
  ·intro e he;rw [Array.mem_toList_iff,Array.mem_iff_getElem] at he;obtain ⟨i,hi,rfl⟩:=he
   simp at hi
   rw [Array.getElem_modify];by_cases hij:j=i
   ·rw [if_pos hij];exact ⟨⟨l,hkey⟩,updK_same _ _ _⟩
   ·rw [if_neg hij];have hm:es[i] ∈ es.toList:=by simp
    refine ⟨(hes _ hm).1,?_⟩
    have hne:(es[i]).key≠e0.key:=by
     have hp:=List.pairwise_iff_getElem.1 hpw;rcases Nat.lt_or_gt_of_ne hij with hlt | hgt
     ·have:=hp j i (by simpa using hj') (by simpa using hi) hlt
      simp at this;rw [hje'] at this;exact fun q=>this q.symm
     ·have:=hp i j (by simpa using hi) (by simpa using hj') hgt
      simp at this;rw [hje'] at this;exact this
    rw [updK_other (fun q=>hne (by rw [q,h3]))];exact (hes _ hm).2
  ·rw [List.pairwise_iff_getElem];intro i1 i2 hi1 hi2 hlt;have hi1':i1 < es.size:=by simpa using hi1
   have hi2':i2 < es.size:=by simpa using hi2
   have hkey':∀ (i:Nat) (hi:i < es.size),((es.modify j fun e=>{ e with key:=x,val:=v })[i]'(by simpa using hi)).key=(es[i]).key:=by
    intro i hi;rw [Array.getElem_modify];split
    ·next q=>subst q;simp [hje',h3]
    ·rfl
   have:=List.pairwise_iff_getElem.1 hpw i1 i2 (by simpa using hi1') (by simpa using hi2') hlt;rw [Array.getElem_toList,Array.getElem_toList] at this ⊢;rw [hkey' i1 hi1',hkey' i2 hi2'];exact this
  ·intro y hy
   have hyx:y≠x:=fun q=>by
    refine hy ((es.modify j fun e=>{ e with key:=x,val:=v })[j]'(by simpa using hj')) (Array.mem_toList_iff.2 (Array.getElem_mem _)) ?_;rw [Array.getElem_modify];simp [q]
   rw [updK_other hyx];refine hno y (fun e he=>?_);rw [Array.mem_toList_iff,Array.mem_iff_getElem] at he;obtain ⟨i,hi,rfl⟩:=he;have:=hy ((es.modify j fun e=>{ e with key:=x,val:=v })[i]'(by simpa using hi)) (Array.mem_toList_iff.2 (Array.getElem_mem _));rw [Array.getElem_modify] at this;split at this
   ·next q=>subst q;rw [hje',h3];simpa using this
   ·exact this
variable {ops:Array Oper} {o:Oper} {a:Act} {Q:Exit→Act→World→Prop} {KK:Act→World→Prop} {E:Prop} {rest:List Oper}
theorem wp_upd (m x v:Operand) (hop:o.op=Op.mapUpdate t m x v) (h:MK w P k b f) (K:Keyed P k) (ht:P.underlying t=some (.map k e)) (hm:a.eval m=.map (some b)) {y:Value} {l:Lit} (hkey:keyOf P k y=some l) (hx:a.eval x=y) (u:Value) (hv:a.eval v=u)
 (hK:∀ w',MK w' P k b (updK f y u)→w.grownBy w' (some b)→KK (a.put o.dst undef) w'):o.wp P a w KK Q:=by
 obtain ⟨w',hrun,r1,r2⟩:=h.update K ht hkey u;unfold Oper.wp
 simp [execOp,hop,hm,hx,hv,hrun,Result.andThen]
 exact hK w' r1 r2
theorem wpList_upd (hgd:o.guard=none) (m x v:Operand) (hop:o.op=Op.mapUpdate t m x v) (h:MK w P k b f) (K:Keyed P k) (ht:P.underlying t=some (.map k e)) (hm:a.eval m=.map (some b)) {y:Value} {l:Lit} (hkey:keyOf P k y=some l) (hx:a.eval x=y) (u:Value) (hv:a.eval v=u)
 (hK:∀ w',MK w' P k b (updK f y u)→w.grownBy w' (some b)→wpList P ops Q rest (a.put o.dst undef) w'):wpList P ops Q (o :: rest) a w:=
 wpList_plain hgd fun _ hKK=>wp_upd m x v hop h K ht hm hkey hx u hv (fun w' r1 r2=>hKK _ _ (hK w' r1 r2))
end
end Go.Proofs.YtbijfnbelkbofaaGreatDoor
namespace Go.Proofs.YtbijfnbelkbofaaGreatDoor
open Go.Lib
namespace KT
theorem loopB_succ (rec:Int→List Nd→Int × List Nd):∀ (m s:Nat) (next:List Int) (ns:List Nd),
 loopB rec (m+1) s next ns=((loopB rec m s next ns).1 ++ [(rec ((s+m:Nat):Int) (loopB rec m s next ns).2).1],(rec ((s+m:Nat):Int) (loopB rec m s next ns).2).2)
 | 0,s,next,ns=>by simp [loopB]
 | m+1,s,next,ns=>by
  rw [loopB,loopB_succ rec m (s+1),show s+1+m=s+(m+1) by omega];rfl
structure WOk (S:Nat) (ns:List Nd):Prop where
 lev:∀ x ∈ ns,0≤x.level∧x.next.length=S
 nn:∀ x ∈ ns,∀ k ∈ x.next,0≤k
structure BRes (S:Nat) (ns:List Nd) (r:Int × List Nd) (c:Nat):Prop where
 ok:WOk S r.2
 ge:0≤r.1
 lt:r.1 < S∨r.1 < r.2.length
 len:r.2.length+1≤ns.length+c
 ext:∃ e,r.2=ns ++ e
structure LRes (S:Nat) (ns:List Nd) (s:Nat) (q:List Int × List Nd) (c:Nat):Prop where
 ok:WOk S q.2
 nl:q.1.length=s
 nn:∀ k ∈ q.1,0≤k
 len:q.2.length+s≤ns.length+s * c
 ext:∃ e,q.2=ns ++ e
theorem inS {S:Nat} {ins:List Int} (hi:∀ s ∈ ins,0≤s∧s < (S:Int)) {s:Nat} (hs:s < S):∀ z ∈ ins ++ [(s:Int)],0≤z∧z < (S:Int):=fun z hz=>by
 rcases List.mem_append.1 hz with hz | hz
 ·exact hi z hz
 ·simp at hz;subst hz;omega
section
variable {S H L:Nat} {val:List Int→Int}
theorem loop_res {ins:List Int} {ns:List Nd} (hrec:∀ (s:Nat) (ns:List Nd),s < S→WOk S ns→BRes S ns (buildK S val L (ins ++ [(s:Int)]) ns) (S ^ L)) (hn:WOk S ns):
 ∀ s:Nat,s≤S→LRes S ns s (loopB (fun s ns=>buildK S val L (ins ++ [s]) ns) s 0 [] ns) (S ^ L)
 | 0,_=>⟨hn,rfl,by simp [loopB],by simp [loopB],⟨[],by simp [loopB]⟩⟩
 | s+1,hs=>by
  have h:=loop_res hrec hn s (by omega);rw [loopB_succ,Nat.zero_add];have hr:=hrec s (loopB (fun s ns=>buildK S val L (ins ++ [s]) ns) s 0 [] ns).2 (by omega) h.ok;obtain ⟨e,he⟩:=hr.ext;obtain ⟨e0,he0⟩:=h.ext;refine ⟨hr.ok,by simp [h.nl],fun k hk=>?_,?_,⟨e0 ++ e,by rw [he,he0,List.append_assoc]⟩⟩
  ·rcases List.mem_append.1 hk with hk | hk
   ·exact h.nn k hk
   ·simp at hk;subst hk;exact hr.ge
  ·have h1:=h.len;have h2:=hr.len;have h3:(s+1) * S ^ L=s * S ^ L+S ^ L:=by rw [Nat.add_mul,Nat.one_mul]
   rw [h3];dsimp only at *;generalize s * S ^ L=u at *;generalize S ^ L=v at *;omega
theorem buildK_res (hS:2≤S) (hval:∀ ins:List Int,ins.length=H→(∀ s ∈ ins,0≤s∧s < (S:Int))→0≤val ins∧val ins < S):∀ (L:Nat) (ins:List Int) (ns:List Nd),L+ins.length=H→(∀ s ∈ ins,0≤s∧s < (S:Int))→WOk S ns→BRes S ns (buildK S val L ins ns) (S ^ L)
 | 0,ins,ns,hl,hi,hn=>by
  have hv:=hval ins (by omega) hi;exact ⟨hn,hv.1,.inl hv.2,by simp [buildK],⟨[],by simp [buildK]⟩⟩
 | L+1,ins,ns,hl,hi,hn=>by
  have h:=loop_res (S:=S) (L:=L) (val:=val) (ins:=ins) (ns:=ns) (fun s ns' hs hn'=>buildK_res hS hval L (ins ++ [(s:Int)]) ns' (by simp;omega) (inS hi hs) hn') hn S (Nat.le_refl _);unfold buildK endB;generalize loopB (fun s ns=>buildK S val L (ins ++ [s]) ns) S 0 [] ns=q at h;have h1:=h.len;have h3:S ^ (L+1)=S * S ^ L:=by rw [Nat.pow_succ,Nat.mul_comm]
  obtain ⟨e0,he0⟩:=h.ext
  cases hf:findNd q.2 ((L:Int)+1) q.1 with
  | some i=>
   have hi:i < q.2.length:=(List.findIdx?_eq_some_iff_getElem.1 hf).1;simp only [hf];exact ⟨h.ok,by simp,.inr (by simpa using hi),by rw [h3];dsimp only;generalize S * S ^ L=v at *;omega,h.ext⟩
  | none=>
   simp only [hf];refine ⟨⟨fun x hx=>?_,fun x hx k hk=>?_⟩,by simp,.inr (by dsimp only;rw [List.length_append];simp;omega),by rw [h3];dsimp only;rw [List.length_append,List.length_singleton];generalize S * S ^ L=v at *;omega,⟨e0 ++ [⟨(L:Int)+1,q.1⟩],by rw [he0,List.append_assoc]⟩⟩
   ·rcases List.mem_append.1 hx with hx | hx
    ·exact h.ok.lev x hx
    ·simp at hx;subst hx;exact ⟨by dsimp only;omega,h.nl⟩
   ·rcases List.mem_append.1 hx with hx | hx
    ·exact h.ok.nn x hx k hk
    ·simp at hx;subst hx;exact h.nn k hk
end
def mkS (l:List UInt8):ByteArray:=⟨l.toArray⟩
theorem mkS_inj {a b:List UInt8} (h:mkS a=mkS b):a=b:=by
 have:=congrArg (fun s:ByteArray=>s.data.toList) h
 simpa [mkS] using this
def keyV (lev:Int) (next:List Int):Value:=.string (mkS (keyS lev next))
open Classical in
noncomputable def idsF (ns:List Nd) (v:Value):Option Value:=(ns.findIdx? (fun x=>decide (v=keyV x.level x.next))).map (fun (i:Nat)=>Value.int .i64 (i:Int))
theorem idsF_nil (v:Value):idsF [] v=none:=rfl
theorem keyV_inj {a b:Int} {l m:List Int} (ha:0≤a) (hb:0≤b) (hl:∀ k ∈ l,0≤k) (hm:∀ k ∈ m,0≤k) (h:keyV a l=keyV b m):a=b∧l=m:=by
 unfold keyV at h;injection h with h;exact keyS_inj ha hb hl hm (mkS_inj h)
theorem findIdx_congr {α:Type} {p q:α→Bool}:∀ (l:List α),(∀ x ∈ l,p x=q x)→l.findIdx? p=l.findIdx? q
 | [],_=>rfl
 | a :: l,h=>by
  rw [List.findIdx?_cons,List.findIdx?_cons,h a (by simp),findIdx_congr l (fun x hx=>h x (by simp [hx]))]
open Classical in
theorem idsF_key {S:Nat} {ns:List Nd} (h:WOk S ns) {lev:Int} {next:List Int} (hl:0≤lev) (hn:∀ k ∈ next,0≤k):idsF ns (keyV lev next)=(findNd ns lev next).map (fun (i:Nat)=>Value.int .i64 (i:Int)):=by
 unfold idsF findNd;congr 1;refine findIdx_congr ns fun x hx=>?_
 by_cases e:x.level=lev∧x.next=next
 ·obtain ⟨e1,e2⟩:=e;rw [e1,e2]
  simp
 ·have hne:¬ keyV lev next=keyV x.level x.next:=fun e2=>by
   obtain ⟨q1,q2⟩:=keyV_inj hl (h.lev x hx).1 hn (h.nn x hx) e2;exact e ⟨q1.symm,q2.symm⟩
  have h2:(x.level == lev && x.next == next)=false:=by
   cases h3:(x.level == lev && x.next == next) with
   | false=>rfl
   | true=>simp at h3;exact absurd h3 e
  rw [h2];exact decide_eq_false hne
open Classical in
theorem idsF_push {ns:List Nd} {lev:Int} {next:List Int} (h:idsF ns (keyV lev next)=none) (v:Value):idsF (ns ++ [⟨lev,next⟩]) v=updK (idsF ns) (keyV lev next) (.int .i64 (ns.length:Int)) v:=by
 unfold idsF at h ⊢;rw [Option.map_eq_none_iff] at h;rw [List.findIdx?_append];by_cases e:v=keyV lev next
 ·subst e;rw [h,updK_same]
  simp
 ·rw [updK_other e]
  have:List.findIdx? (fun x:Nd=>decide (v=keyV x.level x.next)) [⟨lev,next⟩]=none:=by
   rw [List.findIdx?_cons]
   simp [e]
  rw [this]
  simp [idsF]
end KT
end Go.Proofs.YtbijfnbelkbofaaGreatDoor
