/-
 A part.
-/
import Derived.Test.YtiemhbogbaamlaaYF30
import Derived.Test.YtiemhbogbaamlaaYF2
import Derived.Test.YtiemhbogbaamlaaYF7
import Derived.ProofKit
import Derived.Deep.Slices
import Derived.Deep.Strs
import Derived.Lib.SmallJoins
import Derived.Test.YtiemhbogbaamlaaRows
import Derived.Test.YtiemhbogbaamlaaYF22
set_option linter.unusedSimpArgs false
set_option linter.unusedVariables false
namespace Go.Proofs.Ytiemhbogbaamlaa
open Go.RowKit
def parT:Tre:=⟨2,[⟨-1,0⟩,⟨1,0⟩],[⟨1,[0,1]⟩,⟨1,[1,0]⟩,⟨2,[0,1]⟩]⟩
def exP:Pln:=⟨5,1,1,[[4#64]]⟩
def ex1:Pln:=⟨5,1,1,[[10#64]]⟩
def ex2:Pln:=⟨5,1,1,[[17#64]]⟩
theorem par_right:rightT parT=true:=by kernel_rfl
theorem par_outs:(circT parT).outs.length=1:=by kernel_rfl
theorem par_1:runErr parT exP 1=0∧runPl parT exP 1=ex1:=⟨by kernel_rfl,by kernel_rfl⟩
theorem par_2:runErr parT exP 2=0∧runPl parT exP 2=ex2:=⟨by kernel_rfl,by kernel_rfl⟩
theorem par_3:runErr parT exP (-1)=2∧runPl parT exP (-1)=noPln:=⟨by kernel_rfl,by kernel_rfl⟩
theorem par_4:runErr parT noPln 1=2∧runPl parT noPln 1=noPln:=⟨by kernel_rfl,by kernel_rfl⟩
theorem par_5:rightT ⟨0,[],[]⟩=false:=by kernel_rfl
theorem tatY_zero (w:World):TAt w ⟨0,[],[]⟩ none none 0 0 []:=
 ⟨Rd.empty none,Rd.empty none,rfl,fun i hi=>absurd hi (Nat.not_lt_zero _),by unfold maxLen;omega,by unfold maxLen;omega⟩
theorem par_at {w:World} {bl b0 b1 b2 bn:Nat} (hl:Row w bl 73 [.int .i64 (-1),.int .i64 0,.int .i64 1,.int .i64 0]) (h0:Row w b0 3 [.int .i64 0,.int .i64 1]) (h1:Row w b1 3 [.int .i64 1,.int .i64 0]) (h2:Row w b2 3 [.int .i64 0,.int .i64 1])
 (hn:Row w bn 64 [.int .i64 1,.slice (some ⟨b0,0,none⟩) 2 2,.int .i64 1,.slice (some ⟨b1,0,none⟩) 2 2,.int .i64 2,.slice (some ⟨b2,0,none⟩) 2 2]):
 TAt w parT (some ⟨bl,0,none⟩) (some ⟨bn,0,none⟩) 2 3 [⟨some ⟨b0,0,none⟩,2,2⟩,⟨some ⟨b1,0,none⟩,2,2⟩,⟨some ⟨b2,0,none⟩,2,2⟩]:=by
 refine ⟨hl.rd rfl,hn.rd rfl,rfl,fun i hi=>?_,by unfold maxLen;omega,by unfold maxLen;omega⟩
 have hi:i < 3:=hi
 have hc:i=0∨i=1∨i=2:=by omega
 rcases hc with rfl | rfl | rfl
 ·exact ⟨h0.rd rfl,by show 2≤maxLen;unfold maxLen;omega⟩
 ·exact ⟨h1.rd rfl,by show 2≤maxLen;unfold maxLen;omega⟩
 ·exact ⟨h2.rd rfl,by show 2≤maxLen;unfold maxLen;omega⟩
theorem pAt_one {w:World} {b1 b2:Nat} {p:Pln} (x:BitVec 64) (h1:Row w b1 66 [.int .u64 (x.toNat:Int)]) (h2:Row w b2 67 [.slice (some ⟨b1,0,none⟩) 1 1]) (hp:p.words=[[x]]):PAt w p (some ⟨b2,0,none⟩) 1 [⟨some ⟨b1,0,none⟩,1,1⟩]:=by
 refine ⟨h2.rd rfl,by rw [hp];rfl,fun i hi=>?_,by unfold maxLen;omega,fun i hi=>?_⟩
 all_goals
  rw [hp] at hi
  have hi:i < 1:=hi
  obtain rfl:i=0:=by omega
 ·rw [hp]
  exact ⟨h1.rd rfl,by show 1≤maxLen;unfold maxLen;omega⟩
 ·exact ⟨Nat.le_refl _,by show 1≤maxLen;unfold maxLen;omega⟩
theorem addY_nil (a:Addr):a.add 0=a:=by unfold Addr.add;simp
theorem pAt_word {w:World} {p:Pln} {A:Option Addr} {n:Nat} {sl:List Sl} {x:BitVec 64} (h:PAt w p A n sl) (hp:p.words=[[x]]):
 n=1∧∃ ad ad2 c,A=some ad∧ad.block < w.heap.size∧w.cell? ad=some (.slice (some ad2) 1 c)∧ad2.block < w.heap.size∧w.cell? ad2=some (.int .u64 (x.toNat:Int)):=by
 have h1:=h.wl
 rw [hp] at h1
 have h1:1=n:=h1
 subst h1
 obtain ⟨ad,e,hb,hc,hr,_,hl⟩:=h.row (k:=0) (by omega)
 rw [hp] at hr hl
 have hl:1=(sl.getD 0 default).len:=hl
 rw [← hl] at hr hc
 obtain ⟨ad2,u,e2,hb2,hu,hc2⟩:=hr.get1 (k:=0) (by omega)
 rw [e2] at hc
 rw [addY_nil] at hc hc2
 have hu:some (w64 x)=some u:=hu
 cases hu
 exact ⟨rfl,ad,ad2,_,e,hb,hc,hb2,hc2⟩
set_option maxRecDepth 100000 in
set_option maxHeartbeats 2000000 in
theorem parity_any (w:World):Calls Try.prog 29 #[] w fun e w'=>∃ (HA NA:Option Addr) (sl:List Sl),e=.returned (.agg #[.int .i64 2,.slice HA 2 2,.slice NA 3 3])∧TAt w' parT HA NA 2 3 sl∧Below w.heap.size w w':=by
 go_enter Try.func29,Try.ntmps29
 go_upto_region 1 with fail
 obtain ⟨wa,hW9,RB,hgr9⟩:=laid1 w [.int .i64 0,.slice none 0 0,.slice none 0 0] 25
 rewrite [hW9]
 clear hW9
 have B_w:=hiD hgr9
 clear hgr9
 have RB5:Hid (Row (World.alloc (World.alloc (World.alloc (World.alloc (World.alloc wa (.cells #[.int .i64 (-1),.int .i64 0,.int .i64 1,.int .i64 0] 73)) (.cells #[.int .i64 0,.int .i64 1] 3)) (.cells #[.int .i64 1,.int .i64 0] 3)) (.cells #[.int .i64 0,.int .i64 1] 3)) (.cells #[.int .i64 1,.slice (some ⟨wa.heap.size+1,0,none⟩) 2 2,.int .i64 1,.slice (some ⟨wa.heap.size+1+1,0,none⟩) 2 2,.int .i64 2,.slice (some ⟨wa.heap.size+1+1+1,0,none⟩) 2 2] 64)) w.heap.size 25 [.int .i64 0,.slice none 0 0,.slice none 0 0]):=((((RB.out.alloc _).alloc _).alloc _).alloc _).alloc _
 have R0:Hid (Row (World.alloc (World.alloc (World.alloc (World.alloc (World.alloc wa (.cells #[.int .i64 (-1),.int .i64 0,.int .i64 1,.int .i64 0] 73)) (.cells #[.int .i64 0,.int .i64 1] 3)) (.cells #[.int .i64 1,.int .i64 0] 3)) (.cells #[.int .i64 0,.int .i64 1] 3)) (.cells #[.int .i64 1,.slice (some ⟨wa.heap.size+1,0,none⟩) 2 2,.int .i64 1,.slice (some ⟨wa.heap.size+1+1,0,none⟩) 2 2,.int .i64 2,.slice (some ⟨wa.heap.size+1+1+1,0,none⟩) 2 2] 64)) (wa.heap.size) 73 [.int .i64 (-1),.int .i64 0,.int .i64 1,.int .i64 0]):=(by have h0:=Row.new wa 73 [.int .i64 (-1),.int .i64 0,.int .i64 1,.int .i64 0];(try simp only [World.size_alloc] at h0);exact ((((h0.alloc _).alloc _).alloc _).alloc _))
 have R1:Hid (Row (World.alloc (World.alloc (World.alloc (World.alloc (World.alloc wa (.cells #[.int .i64 (-1),.int .i64 0,.int .i64 1,.int .i64 0] 73)) (.cells #[.int .i64 0,.int .i64 1] 3)) (.cells #[.int .i64 1,.int .i64 0] 3)) (.cells #[.int .i64 0,.int .i64 1] 3)) (.cells #[.int .i64 1,.slice (some ⟨wa.heap.size+1,0,none⟩) 2 2,.int .i64 1,.slice (some ⟨wa.heap.size+1+1,0,none⟩) 2 2,.int .i64 2,.slice (some ⟨wa.heap.size+1+1+1,0,none⟩) 2 2] 64)) (wa.heap.size+1) 3 [.int .i64 0,.int .i64 1]):=(by have h0:=Row.new (World.alloc wa (.cells #[.int .i64 (-1),.int .i64 0,.int .i64 1,.int .i64 0] 73)) 3 [.int .i64 0,.int .i64 1];(try simp only [World.size_alloc] at h0);exact (((h0.alloc _).alloc _).alloc _))
 have R2:Hid (Row (World.alloc (World.alloc (World.alloc (World.alloc (World.alloc wa (.cells #[.int .i64 (-1),.int .i64 0,.int .i64 1,.int .i64 0] 73)) (.cells #[.int .i64 0,.int .i64 1] 3)) (.cells #[.int .i64 1,.int .i64 0] 3)) (.cells #[.int .i64 0,.int .i64 1] 3)) (.cells #[.int .i64 1,.slice (some ⟨wa.heap.size+1,0,none⟩) 2 2,.int .i64 1,.slice (some ⟨wa.heap.size+1+1,0,none⟩) 2 2,.int .i64 2,.slice (some ⟨wa.heap.size+1+1+1,0,none⟩) 2 2] 64)) (wa.heap.size+1+1) 3 [.int .i64 1,.int .i64 0]):=(by have h0:=Row.new (World.alloc (World.alloc wa (.cells #[.int .i64 (-1),.int .i64 0,.int .i64 1,.int .i64 0] 73)) (.cells #[.int .i64 0,.int .i64 1] 3)) 3 [.int .i64 1,.int .i64 0];(try simp only [World.size_alloc] at h0);exact ((h0.alloc _).alloc _))
 have R3:Hid (Row (World.alloc (World.alloc (World.alloc (World.alloc (World.alloc wa (.cells #[.int .i64 (-1),.int .i64 0,.int .i64 1,.int .i64 0] 73)) (.cells #[.int .i64 0,.int .i64 1] 3)) (.cells #[.int .i64 1,.int .i64 0] 3)) (.cells #[.int .i64 0,.int .i64 1] 3)) (.cells #[.int .i64 1,.slice (some ⟨wa.heap.size+1,0,none⟩) 2 2,.int .i64 1,.slice (some ⟨wa.heap.size+1+1,0,none⟩) 2 2,.int .i64 2,.slice (some ⟨wa.heap.size+1+1+1,0,none⟩) 2 2] 64)) (wa.heap.size+1+1+1) 3 [.int .i64 0,.int .i64 1]):=(by have h0:=Row.new (World.alloc (World.alloc (World.alloc wa (.cells #[.int .i64 (-1),.int .i64 0,.int .i64 1,.int .i64 0] 73)) (.cells #[.int .i64 0,.int .i64 1] 3)) (.cells #[.int .i64 1,.int .i64 0] 3)) 3 [.int .i64 0,.int .i64 1];(try simp only [World.size_alloc] at h0);exact (h0.alloc _))
 have R4:Hid (Row (World.alloc (World.alloc (World.alloc (World.alloc (World.alloc wa (.cells #[.int .i64 (-1),.int .i64 0,.int .i64 1,.int .i64 0] 73)) (.cells #[.int .i64 0,.int .i64 1] 3)) (.cells #[.int .i64 1,.int .i64 0] 3)) (.cells #[.int .i64 0,.int .i64 1] 3)) (.cells #[.int .i64 1,.slice (some ⟨wa.heap.size+1,0,none⟩) 2 2,.int .i64 1,.slice (some ⟨wa.heap.size+1+1,0,none⟩) 2 2,.int .i64 2,.slice (some ⟨wa.heap.size+1+1+1,0,none⟩) 2 2] 64)) (wa.heap.size+1+1+1+1) 64 [.int .i64 1,.slice (some ⟨wa.heap.size+1,0,none⟩) 2 2,.int .i64 1,.slice (some ⟨wa.heap.size+1+1,0,none⟩) 2 2,.int .i64 2,.slice (some ⟨wa.heap.size+1+1+1,0,none⟩) 2 2]):=(by have h0:=Row.new (World.alloc (World.alloc (World.alloc (World.alloc wa (.cells #[.int .i64 (-1),.int .i64 0,.int .i64 1,.int .i64 0] 73)) (.cells #[.int .i64 0,.int .i64 1] 3)) (.cells #[.int .i64 1,.int .i64 0] 3)) (.cells #[.int .i64 0,.int .i64 1] 3)) 64 [.int .i64 1,.slice (some ⟨wa.heap.size+1,0,none⟩) 2 2,.int .i64 1,.slice (some ⟨wa.heap.size+1+1,0,none⟩) 2 2,.int .i64 2,.slice (some ⟨wa.heap.size+1+1+1,0,none⟩) 2 2];(try simp only [World.size_alloc] at h0);exact h0)
 have BC5:Hid (Below w.heap.size w (World.alloc (World.alloc (World.alloc (World.alloc (World.alloc wa (.cells #[.int .i64 (-1),.int .i64 0,.int .i64 1,.int .i64 0] 73)) (.cells #[.int .i64 0,.int .i64 1] 3)) (.cells #[.int .i64 1,.int .i64 0] 3)) (.cells #[.int .i64 0,.int .i64 1] 3)) (.cells #[.int .i64 1,.slice (some ⟨wa.heap.size+1,0,none⟩) 2 2,.int .i64 1,.slice (some ⟨wa.heap.size+1+1,0,none⟩) 2 2,.int .i64 2,.slice (some ⟨wa.heap.size+1+1+1,0,none⟩) 2 2] 64))):=below_on2 B_w.out (by go_grown)
 have hsz:w.heap.size < wa.heap.size:=RB.out.lt
 obtain ⟨z0,z1,z2,zl⟩:=RB5.out.cells3
 obtain ⟨zf0,zf1,zf2⟩:=RB5.out.froz3
 go_wp2_with fail
 have Z9:=RB5.out.set3 (.int .i64 2) (.slice (some ⟨wa.heap.size,0,none⟩) 2 2) (.slice (some ⟨wa.heap.size+1+1+1+1,0,none⟩) 3 3)
 have B9:=bSet3 BC5.out w.heap.size (Nat.le_refl _) (.int .i64 2) (.slice (some ⟨wa.heap.size,0,none⟩) 2 2) (.slice (some ⟨wa.heap.size+1+1+1+1,0,none⟩) 3 3)
 have T9:TAt (World.setCell (World.setCell (World.setCell (World.alloc (World.alloc (World.alloc (World.alloc (World.alloc wa (.cells #[.int .i64 (-1),.int .i64 0,.int .i64 1,.int .i64 0] 73)) (.cells #[.int .i64 0,.int .i64 1] 3)) (.cells #[.int .i64 1,.int .i64 0] 3)) (.cells #[.int .i64 0,.int .i64 1] 3)) (.cells #[.int .i64 1,.slice (some ⟨wa.heap.size+1,0,none⟩) 2 2,.int .i64 1,.slice (some ⟨wa.heap.size+1+1,0,none⟩) 2 2,.int .i64 2,.slice (some ⟨wa.heap.size+1+1+1,0,none⟩) 2 2] 64)) ⟨w.heap.size,0,none⟩ (.int .i64 2)) ⟨w.heap.size,1,none⟩ (.slice (some ⟨wa.heap.size,0,none⟩) 2 2)) ⟨w.heap.size,2,none⟩ (.slice (some ⟨wa.heap.size+1+1+1+1,0,none⟩) 3 3)) parT (some ⟨wa.heap.size,0,none⟩) (some ⟨wa.heap.size+1+1+1+1,0,none⟩) 2 3 _:=par_at (Row.far (Row.far (Row.far R0.out (p:=⟨w.heap.size,0,none⟩) (by show wa.heap.size≠w.heap.size;omega) (.int .i64 2)) (p:=⟨w.heap.size,1,none⟩) (by show wa.heap.size≠w.heap.size;omega) (.slice (some ⟨wa.heap.size,0,none⟩) 2 2)) (p:=⟨w.heap.size,2,none⟩) (by show wa.heap.size≠w.heap.size;omega) (.slice (some ⟨wa.heap.size+1+1+1+1,0,none⟩) 3 3)) (Row.far (Row.far (Row.far R1.out (p:=⟨w.heap.size,0,none⟩) (by show wa.heap.size+1≠w.heap.size;omega) (.int .i64 2)) (p:=⟨w.heap.size,1,none⟩) (by show wa.heap.size+1≠w.heap.size;omega) (.slice (some ⟨wa.heap.size,0,none⟩) 2 2)) (p:=⟨w.heap.size,2,none⟩) (by show wa.heap.size+1≠w.heap.size;omega) (.slice (some ⟨wa.heap.size+1+1+1+1,0,none⟩) 3 3)) (Row.far (Row.far (Row.far R2.out (p:=⟨w.heap.size,0,none⟩) (by show wa.heap.size+1+1≠w.heap.size;omega) (.int .i64 2)) (p:=⟨w.heap.size,1,none⟩) (by show wa.heap.size+1+1≠w.heap.size;omega) (.slice (some ⟨wa.heap.size,0,none⟩) 2 2)) (p:=⟨w.heap.size,2,none⟩) (by show wa.heap.size+1+1≠w.heap.size;omega) (.slice (some ⟨wa.heap.size+1+1+1+1,0,none⟩) 3 3)) (Row.far (Row.far (Row.far R3.out (p:=⟨w.heap.size,0,none⟩) (by show wa.heap.size+1+1+1≠w.heap.size;omega) (.int .i64 2)) (p:=⟨w.heap.size,1,none⟩) (by show wa.heap.size+1+1+1≠w.heap.size;omega) (.slice (some ⟨wa.heap.size,0,none⟩) 2 2)) (p:=⟨w.heap.size,2,none⟩) (by show wa.heap.size+1+1+1≠w.heap.size;omega) (.slice (some ⟨wa.heap.size+1+1+1+1,0,none⟩) 3 3)) (Row.far (Row.far (Row.far R4.out (p:=⟨w.heap.size,0,none⟩) (by show wa.heap.size+1+1+1+1≠w.heap.size;omega) (.int .i64 2)) (p:=⟨w.heap.size,1,none⟩) (by show wa.heap.size+1+1+1+1≠w.heap.size;omega) (.slice (some ⟨wa.heap.size,0,none⟩) 2 2)) (p:=⟨w.heap.size,2,none⟩) (by show wa.heap.size+1+1+1+1≠w.heap.size;omega) (.slice (some ⟨wa.heap.size+1+1+1+1,0,none⟩) 3 3))
 obtain ⟨d0,d1,d2,-⟩:=Z9.cells3
 clear Z9
 refine bodyPost_ret (v:=.agg #[.int .i64 2,.slice (some ⟨wa.heap.size,0,none⟩) 2 2,.slice (some ⟨wa.heap.size+1+1+1+1,0,none⟩) 3 3]) (by simp [results,Try.results29,go_sem,d0,d1,d2]) rfl ?_
 exact ⟨_,_,_,rfl,T9,B9⟩
set_option maxRecDepth 100000 in
set_option maxHeartbeats 8000000 in
theorem alive_any (w:World):Calls Try.prog 9 #[] w fun e w'=>e=.returned (.bool true)∧Below w.heap.size w w':=by
 obtain ⟨t,ht⟩:∃ t,t=parT:=⟨_,rfl⟩
 have HPT:=hiU ht
 have HRT:Hid (rightT t=true):=by rw [ht];exact par_right
 have HPO:Hid ((circT t).outs.length=1):=by rw [ht];exact par_outs
 have HP1:Hid (runErr t exP 1=0∧runPl t exP 1=ex1):=by rw [ht];exact par_1
 have HP2:Hid (runErr t exP 2=0∧runPl t exP 2=ex2):=by rw [ht];exact par_2
 have HP3:Hid (runErr t exP (-1)=2∧runPl t exP (-1)=noPln):=by rw [ht];exact par_3
 have HP4:Hid (runErr t noPln 1=2∧runPl t noPln 1=noPln):=by rw [ht];exact par_4
 have HST:Hid (t.states=2):=by rw [ht];rfl
 clear ht
 go_enter Try.func9,Try.ntmps9
 go_wp2_with fail
 refine (parity_any w).mono ?_
 rintro e w1 ⟨TA,TN,sl,rfl,hat,hb⟩
 rw [← HPT.out ()] at hat
 have HT:=hiD hat
 clear hat
 have B_w:=hiD hb
 clear hb
 go_wp2_with fail
 have HC:=new_any t TA TN 2 2 3 3 sl w1 HT.out (by omega)
 rw [HST.out] at HC
 unfold EngPost at HC
 refine HC.mono ?_
 clear HC
 rintro e w2 (⟨_,b,GA,OA,PA,gn,gc,on,oc,pn,pc,rfl,heng,hb⟩ | ⟨hr,_,_⟩)
 rotate_left 1
 ·exact absurd hr (by rw [HRT.out];decide)
 have HE:=hiD heng
 obtain rfl:1=on:=by rw [← heng.circ.ol];exact HPO.out.symm
 clear heng
 have B_w:=hiD (below_on2 B_w.out hb)
 have B_w1:=hiD hb
 clear hb
 go_upto_region 5 with fail
 obtain ⟨wc,hW9,RX0,RX1,RP,hgr9⟩:=laid3 w2 [.int .u64 4] 66 [.slice (some ⟨w2.heap.size,0,none⟩) 1 1] 67 [.int .i64 5,.int .i64 1,.int .i64 1,.slice (some ⟨w2.heap.size+1,0,none⟩) 1 1] 42
 rewrite [hW9]
 clear hW9
 have B_w:=hiD (below_on2 B_w.out hgr9)
 have B_w1:=hiD (below_on2 B_w1.out hgr9)
 have B_w2:=hiD hgr9
 clear hgr9
 have HPX:Hid (PAt wc exP (some ⟨w2.heap.size+1,0,none⟩) 1 [⟨some ⟨w2.heap.size,0,none⟩,1,1⟩]):=pAt_one 4#64 RX0.out RX1.out rfl
 obtain ⟨k0,k1,k2,k3,kl⟩:=RP.out.cells4
 go_wp2_with fail
 have HC:=step_any b t GA OA PA gn gc 1 oc pn pc exP (some ⟨w2.heap.size+1,0,none⟩) 1 1 [⟨some ⟨w2.heap.size,0,none⟩,1,1⟩] wc (HE.out.up B_w2.out) HPX.out
 rw [HP1.out.1,HP1.out.2] at HC
 unfold PlPostA at HC
 refine HC.mono ?_
 clear HC
 rintro e w3 ⟨QA,Qn,Qc,Qs,he,-,hat,hb⟩
 have he2:e=.returned (.tuple #[.agg #[.int .i64 5,.int .i64 1,.int .i64 1,.slice QA Qn Qc],.int .i64 0]):=he
 subst he2
 have HQ:=hiD hat
 clear he hat
 have B_w:=hiD (below_on2 B_w.out hb)
 have B_w1:=hiD (below_on2 B_w1.out hb)
 have B_w2:=hiD (below_on2 B_w2.out hb)
 have B_wc:=hiD hb
 clear k0 k1 k2 k3 kl
 clear hb
 obtain rfl:1=Qn:=HQ.out.wl
 go_upto_region 6 with fail
 obtain ⟨w4,hW9,RQ,hgr9⟩:=laid1 w3 [.int .i64 5,.int .i64 1,.int .i64 1,.slice QA 1 Qc] 42
 rewrite [hW9]
 clear hW9
 have B_w:=hiD (below_on2 B_w.out hgr9)
 have B_w1:=hiD (below_on2 B_w1.out hgr9)
 have B_w2:=hiD (below_on2 B_w2.out hgr9)
 have B_wc:=hiD (below_on2 B_wc.out hgr9)
 have B_w3:=hiD hgr9
 clear hgr9
 obtain ⟨k0,k1,k2,k3,kl⟩:=(rowCells RP.out B_wc.out).cells4
 go_wp2_with fail
 have HC:=run_any b t GA OA PA gn gc 1 oc pn pc exP (some ⟨w2.heap.size+1,0,none⟩) 1 1 [⟨some ⟨w2.heap.size,0,none⟩,1,1⟩] 2 w4 (HE.out.up B_w2.out) (HPX.out.up B_wc.out)
 rw [HP2.out.1,HP2.out.2] at HC
 unfold PlPostA at HC
 refine HC.mono ?_
 clear HC
 rintro e w5 ⟨RA,Rn,Rc,Rs,he,-,hat,hb⟩
 have he2:e=.returned (.tuple #[.agg #[.int .i64 5,.int .i64 1,.int .i64 1,.slice RA Rn Rc],.int .i64 0]):=he
 subst he2
 have HR:=hiD hat
 clear he hat
 have B_w:=hiD (below_on2 B_w.out hb)
 have B_w1:=hiD (below_on2 B_w1.out hb)
 have B_w2:=hiD (below_on2 B_w2.out hb)
 have B_wc:=hiD (below_on2 B_wc.out hb)
 have B_w3:=hiD (below_on2 B_w3.out hb)
 have B_w4:=hiD hb
 clear k0 k1 k2 k3 kl
 clear hb
 obtain rfl:1=Rn:=HR.out.wl
 go_upto_region 7 with fail
 obtain ⟨w6,hW9,RR,hgr9⟩:=laid1 w5 [.int .i64 5,.int .i64 1,.int .i64 1,.slice RA 1 Rc] 42
 rewrite [hW9]
 clear hW9
 have B_w:=hiD (below_on2 B_w.out hgr9)
 have B_w1:=hiD (below_on2 B_w1.out hgr9)
 have B_w2:=hiD (below_on2 B_w2.out hgr9)
 have B_wc:=hiD (below_on2 B_wc.out hgr9)
 have B_w3:=hiD (below_on2 B_w3.out hgr9)
 have B_w4:=hiD (below_on2 B_w4.out hgr9)
 have B_w5:=hiD hgr9
 clear hgr9
 obtain ⟨k0,k1,k2,k3,kl⟩:=(rowCells RP.out B_wc.out).cells4
 go_wp2_with fail
 have HC:=run_any b t GA OA PA gn gc 1 oc pn pc exP (some ⟨w2.heap.size+1,0,none⟩) 1 1 [⟨some ⟨w2.heap.size,0,none⟩,1,1⟩] (-1) w6 (HE.out.up B_w2.out) (HPX.out.up B_wc.out)
 rw [HP3.out.1,HP3.out.2] at HC
 unfold PlPostA at HC
 refine HC.mono ?_
 clear HC
 rintro e w7 ⟨SA,Sn,Sc,Ss,he,-,hat,hb⟩
 have he2:e=.returned (.tuple #[.agg #[.int .i64 0,.int .i64 0,.int .i64 0,.slice SA Sn Sc],.int .i64 2]):=he
 subst he2
 have HS:=hiD hat
 clear he hat
 have B_w:=hiD (below_on2 B_w.out hb)
 have B_w1:=hiD (below_on2 B_w1.out hb)
 have B_w2:=hiD (below_on2 B_w2.out hb)
 have B_wc:=hiD (below_on2 B_wc.out hb)
 have B_w3:=hiD (below_on2 B_w3.out hb)
 have B_w4:=hiD (below_on2 B_w4.out hb)
 have B_w5:=hiD (below_on2 B_w5.out hb)
 have B_w6:=hiD hb
 clear k0 k1 k2 k3 kl
 clear hb
 go_upto_region 8 with fail
 have hgr9:Below w7.heap.size w7 (World.alloc w7 (.cells #[.int .i64 0,.int .i64 0,.int .i64 0,.slice SA Sn Sc] 42)):=by go_grown
 have B_w:=hiD (below_on2 B_w.out hgr9)
 have B_w1:=hiD (below_on2 B_w1.out hgr9)
 have B_w2:=hiD (below_on2 B_w2.out hgr9)
 have B_wc:=hiD (below_on2 B_wc.out hgr9)
 have B_w3:=hiD (below_on2 B_w3.out hgr9)
 have B_w4:=hiD (below_on2 B_w4.out hgr9)
 have B_w5:=hiD (below_on2 B_w5.out hgr9)
 have B_w6:=hiD (below_on2 B_w6.out hgr9)
 have B_w7:=hiD hgr9
 clear hgr9
 revert B_w B_w1 B_w2 B_wc B_w3 B_w4 B_w5 B_w6 B_w7
 generalize (World.alloc w7 (.cells #[.int .i64 0,.int .i64 0,.int .i64 0,.slice SA Sn Sc] 42))=w8
 intro B_w B_w1 B_w2 B_wc B_w3 B_w4 B_w5 B_w6 B_w7
 go_wp2_with fail
 have HC:=step_any b t GA OA PA gn gc 1 oc pn pc noPln none 0 0 [] w8 (HE.out.up B_w2.out) (noPln_at _)
 rw [HP4.out.1,HP4.out.2] at HC
 unfold PlPostA at HC
 refine HC.mono ?_
 clear HC
 rintro e w9 ⟨UA,Un,Uc,Us,he,-,hat,hb⟩
 have he2:e=.returned (.tuple #[.agg #[.int .i64 0,.int .i64 0,.int .i64 0,.slice UA Un Uc],.int .i64 2]):=he
 subst he2
 have HU:=hiD hat
 clear he hat
 have B_w:=hiD (below_on2 B_w.out hb)
 have B_w1:=hiD (below_on2 B_w1.out hb)
 have B_w2:=hiD (below_on2 B_w2.out hb)
 have B_wc:=hiD (below_on2 B_wc.out hb)
 have B_w3:=hiD (below_on2 B_w3.out hb)
 have B_w4:=hiD (below_on2 B_w4.out hb)
 have B_w5:=hiD (below_on2 B_w5.out hb)
 have B_w6:=hiD (below_on2 B_w6.out hb)
 have B_w7:=hiD (below_on2 B_w7.out hb)
 have B_w8:=hiD hb
 clear hb
 go_upto_region 9 with fail
 have hgr9:Below w9.heap.size w9 (World.alloc w9 (.cells #[.int .i64 0,.int .i64 0,.int .i64 0,.slice UA Un Uc] 42)):=by go_grown
 have B_w:=hiD (below_on2 B_w.out hgr9)
 have B_w1:=hiD (below_on2 B_w1.out hgr9)
 have B_w2:=hiD (below_on2 B_w2.out hgr9)
 have B_wc:=hiD (below_on2 B_wc.out hgr9)
 have B_w3:=hiD (below_on2 B_w3.out hgr9)
 have B_w4:=hiD (below_on2 B_w4.out hgr9)
 have B_w5:=hiD (below_on2 B_w5.out hgr9)
 have B_w6:=hiD (below_on2 B_w6.out hgr9)
 have B_w7:=hiD (below_on2 B_w7.out hgr9)
 have B_w8:=hiD (below_on2 B_w8.out hgr9)
 have B_w9:=hiD hgr9
 clear hgr9
 revert B_w B_w1 B_w2 B_wc B_w3 B_w4 B_w5 B_w6 B_w7 B_w8 B_w9
 generalize (World.alloc w9 (.cells #[.int .i64 0,.int .i64 0,.int .i64 0,.slice UA Un Uc] 42))=w10
 intro B_w B_w1 B_w2 B_wc B_w3 B_w4 B_w5 B_w6 B_w7 B_w8 B_w9
 go_wp2_with fail
 have HC:=new_any ⟨0,[],[]⟩ none none 0 0 0 0 [] w10 (tatY_zero _) (by omega)
 unfold EngPost at HC
 refine HC.mono ?_
 clear HC
 rintro e w11 (⟨hr,_⟩ | ⟨_,rfl,hb⟩)
 ·exact absurd hr (by rw [par_5];decide)
 have B_w:=hiD (below_on2 B_w.out hb)
 have B_w1:=hiD (below_on2 B_w1.out hb)
 have B_w2:=hiD (below_on2 B_w2.out hb)
 have B_wc:=hiD (below_on2 B_wc.out hb)
 have B_w3:=hiD (below_on2 B_w3.out hb)
 have B_w4:=hiD (below_on2 B_w4.out hb)
 have B_w5:=hiD (below_on2 B_w5.out hb)
 have B_w6:=hiD (below_on2 B_w6.out hb)
 have B_w7:=hiD (below_on2 B_w7.out hb)
 have B_w8:=hiD (below_on2 B_w8.out hb)
 have B_w9:=hiD (below_on2 B_w9.out hb)
 have B_w10:=hiD hb
 clear hb
 obtain ⟨k0,k1,k2,k3,kl⟩:=(rowCells RP.out B_wc.out).cells4
 go_wp2_with fail
 have HC:=step_nil exP (some ⟨w2.heap.size+1,0,none⟩) 1 1 w11
 unfold PlPostA at HC
 refine HC.mono ?_
 clear HC
 rintro e w12 ⟨XA,Xn,Xc,Xs,he,-,hat,hb⟩
 have he2:e=.returned (.tuple #[.agg #[.int .i64 0,.int .i64 0,.int .i64 0,.slice XA Xn Xc],.int .i64 1]):=he
 subst he2
 have HX:=hiD hat
 clear he hat
 have B_w:=hiD (below_on2 B_w.out hb)
 have B_w1:=hiD (below_on2 B_w1.out hb)
 have B_w2:=hiD (below_on2 B_w2.out hb)
 have B_wc:=hiD (below_on2 B_wc.out hb)
 have B_w3:=hiD (below_on2 B_w3.out hb)
 have B_w4:=hiD (below_on2 B_w4.out hb)
 have B_w5:=hiD (below_on2 B_w5.out hb)
 have B_w6:=hiD (below_on2 B_w6.out hb)
 have B_w7:=hiD (below_on2 B_w7.out hb)
 have B_w8:=hiD (below_on2 B_w8.out hb)
 have B_w9:=hiD (below_on2 B_w9.out hb)
 have B_w10:=hiD (below_on2 B_w10.out hb)
 have B_w11:=hiD hb
 clear k0 k1 k2 k3 kl
 clear hb
 have G12:Hid (Below w12.heap.size w12 (World.alloc w12 (.cells #[.int .i64 0,.int .i64 0,.int .i64 0,.slice XA Xn Xc] 42))):=(Below.refl _ _).alloc (Nat.le_refl _) _
 have K12:Hid (w12.heap.size < (World.alloc w12 (.cells #[.int .i64 0,.int .i64 0,.int .i64 0,.slice XA Xn Xc] 42)).heap.size):=by show _ < _;rw [World.size_alloc];omega
 have Q12:Hid (Row (World.alloc w12 (.cells #[.int .i64 0,.int .i64 0,.int .i64 0,.slice XA Xn Xc] 42)) (w3.heap.size) 42 [.int .i64 5,.int .i64 1,.int .i64 1,.slice QA 1 Qc]):=((rowCells RQ.out B_w4.out)).alloc _
 have S12:Hid (Row (World.alloc w12 (.cells #[.int .i64 0,.int .i64 0,.int .i64 0,.slice XA Xn Xc] 42)) (w5.heap.size) 42 [.int .i64 5,.int .i64 1,.int .i64 1,.slice RA 1 Rc]):=((rowCells RR.out B_w6.out)).alloc _
 obtain ⟨_,q1,q2,cq,e1,e2,e3,e4,e5⟩:=pAt_word ((HQ.out.up B_w3.out).up G12.out) (x:=10#64) rfl
 subst e1
 obtain ⟨_,r1,r2,cr,f1,f2,f3,f4,f5⟩:=pAt_word ((HR.out.up B_w5.out).up G12.out) (x:=17#64) rfl
 subst f1
 have e5:(World.alloc w12 (.cells #[.int .i64 0,.int .i64 0,.int .i64 0,.slice XA Xn Xc] 42)).cell? q2=some (.int .u64 10):=e5
 have f5:(World.alloc w12 (.cells #[.int .i64 0,.int .i64 0,.int .i64 0,.slice XA Xn Xc] 42)).cell? r2=some (.int .u64 17):=f5
 obtain ⟨p0,p1,p2,p3,pl⟩:=Q12.out.cells4
 obtain ⟨s0,s1,s2,s3,sl⟩:=S12.out.cells4
 go_wp2_with fail
 have HEA:Hid (EngAt (World.alloc w12 (.cells #[.int .i64 0,.int .i64 0,.int .i64 0,.slice XA Xn Xc] 42)) b t GA OA PA gn gc 1 oc pn pc):=(HE.out.up B_w2.out).up G12.out
 clear e2 e3 e4 e5 f2 f3 f4 f5 p0 p1 p2 p3 pl s0 s1 s2 s3 sl
 have HC:=circuit_any b t GA OA PA gn gc 1 oc pn pc _ HEA.out
 refine HC.mono ?_
 clear HC
 rintro e w13 ⟨rfl,hb⟩
 have hfd:∀ W:World,(Instr.field 37 (.agg #[.int .i64 (circT t).inputs,.slice GA gn gc,.slice OA 1 oc]) 2).run Try.prog W=.ok (.slice OA 1 oc) W:=fun _=>by kernel_rfl
 go_wp2
 go_ret
 have BW:=below_on2 B_w.out G12.out
 exact ⟨rfl,below_on2 BW hb⟩
end Go.Proofs.Ytiemhbogbaamlaa
/-
 A part.
-/
namespace Go.Proofs.Ytiemhbogbaamlaa
open Go.RowKit Go.ChangeShapes Go.WideShapes Go.Deep Go.Joins
section
variable {H:Type} {enc:TypeId × Value→H} {P:Program} {w:World} {base:Nat} {spare:Nat→Bool} {held:Bool}
theorem rd_of_cells {sz n:Nat} {ad:Addr} {xs:List Value} (hl:xs.length=n * sz) (h:∀ j u,xs[j]?=some u→w.cell? (ad.add j)=some u) (h0:0 < sz):Rd w w.heap.size sz (some ad) n xs:=
 ⟨hl,fun hn=>⟨ad,rfl,by
  have hp:0 < xs.length:=by rw [hl];exact Nat.mul_pos hn h0
  have:=World.block_lt_of_cell? w _ (h 0 xs[0] (List.getElem?_eq_getElem hp))
  rwa [add_block] at this,h⟩⟩
theorem read_ints {t e:TypeId} {fuel:Nat} {v:Value} {x:DataW H × List MemPlace} (ht:P.underlying t=some (.slice e)) (he:P.underlying e=some (.int .i64)) (hc:P.cellsOf e=1)
 (h:DataW.trod enc P w base spare held fuel t [v]=some x):∃ A n c zs,v=.slice A n c∧Rd w w.heap.size 1 A n (ints zs)∧n≤maxLen∧(∀ z ∈ zs,-9223372036854775808≤z∧z≤9223372036854775807):=by
 rcases open_ints ht he hc h with ⟨hcs,_⟩ | ⟨a,len,cap,zs,hcs,_,hl,hm,hz,_,hcell,hwf⟩
 ·injection hcs with hcs
  exact ⟨none,0,0,[],hcs,Rd.empty none,by unfold maxLen;omega,by simp⟩
 ·injection hcs with hcs
  have hln:len≤zs.length:=by rw [hz];split <;> omega
  refine ⟨some a,len,cap,zs.take len,hcs,rd_of_cells (by simp;omega) (fun j u hu=>?_) (by omega),by omega,fun z hz=>?_⟩
  ·have hj:j < len:=by
    have:=(List.getElem?_eq_some_iff.1 hu).1
    simp at this;omega
   rw [ints_get _ j (by simp;omega)] at hu
   injection hu with hu
   rw [hcell j (by omega),← hu]
   simp [List.getD_eq_getElem?_getD,List.getElem?_take,hj]
  ·have:=hwf z (List.mem_of_mem_take hz)
   simpa [Lit.wf,IntKind.min,IntKind.max,IntKind.signed,IntKind.bits] using this
end
theorem law_post {H:Type} {enc:TypeId × Value→H} {P:Program} {f:Func} {s:ChangeSpec} {apart fresh handsOn:Bool} {W W':World} {args:Array Value} {v:Value} {ds gs:List (DataW H)} {before pa pv:List MemPlace}
 (hW:DataW.Whole enc P f.params.toList s.vars apart W args.toList ds gs before)
 (hres:∀ (b:Nat) (sp:Nat→Bool) (hd:Bool),DataW.TrodAll enc P W' b sp hd f.resultTypes.toList (v.resultList f.resultTypes.size) (s.fn H (ds ++ gs)).results [])
 (hargs:DataW.TrodAll enc P W' 0 (fun b=>decide (b < W.heap.size)) true f.params.toList args.toList (s.fn H (ds ++ gs)).args pa)
 (hvars:DataW.TrodVars enc P W' (fun b=>decide (b < W.heap.size)) s.vars (s.fn H (ds ++ gs)).vars pv) (hb:Below W.heap.size W W'):
 s.post enc P f apart fresh handsOn false W args v W':=
 ⟨ds,gs,before,[],pa,pv,hW,hres _ _ _,hargs,hvars,hb.frame _,fun h=>by cases h⟩
end Go.Proofs.Ytiemhbogbaamlaa
/-
 A part.
-/
namespace Go.Proofs.Ytiemhbogbaamlaa
open Go.RowKit Go.ChangeShapes Go.WideShapes Go.Deep Go.Joins
theorem Try.own':ownKnob Try.prog.godebug=none:=by kernel_rfl
theorem Try.laidOut':laidOutB Try.prog=true:=by kernel_rfl
section
variable {H:Type} {enc:TypeId × Value→H} {P:Program} {w:World} {base:Nat} {spare:Nat→Bool} {held:Bool}
theorem read_pts {t e e1:TypeId} {f0 f1:Field} {fuel:Nat} {v:Value} {x:DataW H × List MemPlace} (ht:P.underlying t=some (.slice e)) (he:P.underlying e=some (.struct #[f0,f1])) (hC:P.cellsOf e=2)
 (h0:f0.type=e1∧f0.offset=0) (h1:f1.type=e1∧f1.offset=1) (hi:P.underlying e1=some (.int .i64)) (hc:P.cellsOf e1=1)
 (h:DataW.trod enc P w base spare held fuel t [v]=some x):∃ A n c l,v=.slice A n c∧Rd w w.heap.size 2 A n (hoodCells l)∧n≤maxLen:=by
 rcases open_slice ht h with ⟨hcs,_⟩ | ⟨a,len,cap,m,n,D,Pl,hcs,_,hl,hm,hmm,_,hx⟩
 ·injection hcs with hcs
  exact ⟨none,0,0,[],hcs,Rd.empty none,by unfold maxLen;omega⟩
 ·injection hcs with hcs
  have hln:len≤m:=by rw [hmm];split <;> omega
  have hV:∀ i,i < m→∃ g:Pt,w.cell? (a.add (i * 2))=some (.int .i64 g.x)∧w.cell? (a.add (i * 2+1))=some (.int .i64 g.y):=fun i hi'=>by
   obtain ⟨cs',hcells,ht'⟩:=hx i hi'
   rw [hC] at hcells
   obtain ⟨_,hlen,hat⟩:=World.cells?_some hcells
   obtain ⟨y0,y1,n',_,_,t0,t1⟩:=trod_struct2 he ht'
   match cs',hlen with
   | [c0,c1],_=>
    rw [h0.1,h0.2,hc] at t0
    rw [h1.1,h1.2,hc] at t1
    simp only [List.drop_zero,List.drop_succ_cons,List.take_succ_cons,List.take_zero] at t0 t1
    obtain ⟨z0,e0,_⟩:=DataW.trod_int hi t0
    obtain ⟨z1,e1,_⟩:=DataW.trod_int hi t1
    injection e0 with e0
    injection e1 with e1
    have q0:=hat 0 (by omega)
    have q1:=hat 1 (by omega)
    rw [add_add'] at q0 q1
    refine ⟨⟨z0,z1⟩,?_,?_⟩
    ·simpa [e0] using q0
    ·simpa [e1] using q1
  obtain ⟨G,hG⟩:=choose_lt (α:=Pt) (p:=fun i g=>w.cell? (a.add (i * 2))=some (.int .i64 g.x)∧w.cell? (a.add (i * 2+1))=some (.int .i64 g.y)) hV
  refine ⟨some a,len,cap,(List.range len).map G,hcs,rd_of_cells (by rw [hoodCells,flat2_length _ (fun _=>rfl)];simp) (fun j u hu=>?_) (by omega),by omega⟩
  have hj:j < len * 2:=by
   have:=(List.getElem?_eq_some_iff.1 hu).1
   rw [hoodCells,flat2_length _ (fun _=>rfl)] at this;simpa using this
  have hk:j / 2 < len:=by omega
  obtain ⟨p0,p1⟩:=flat2_get ptCells (fun _=>rfl) ((List.range len).map G) (j / 2) (by simpa using hk)
  have hg:((List.range len).map G).getD (j / 2) default=G (j / 2):=by
   simp [List.getD_eq_getElem?_getD,List.getElem?_map,List.getElem?_range hk]
  rw [hg] at p0 p1
  obtain ⟨r0,r1⟩:=hG (j / 2) (by omega)
  have hj2:j=j / 2 * 2∨j=j / 2 * 2+1:=by omega
  rcases hj2 with e | e
  ·rw [← e] at p0 r0;rw [r0,← hu];exact p0.symm
  ·rw [← e] at p1 r1;rw [r1,← hu];exact p1.symm
theorem read_nodes {t e e1 e2:TypeId} {f0 f1:Field} {fuel:Nat} {v:Value} {x:DataW H × List MemPlace} (ht:P.underlying t=some (.slice e)) (he:P.underlying e=some (.struct #[f0,f1])) (hC:P.cellsOf e=2)
 (h0:f0.type=e1∧f0.offset=0) (h1:f1.type=e2∧f1.offset=1) (hi:P.underlying e1=some (.int .i64)) (hc:P.cellsOf e1=1) (hs:P.underlying e2=some (.slice e1)) (hcs:P.cellsOf e2=1)
 (h:DataW.trod enc P w base spare held fuel t [v]=some x):∃ A n c ns sl,v=.slice A n c∧Rd w w.heap.size 2 A n (nodesCells ns sl)∧n≤maxLen∧sl.length=ns.length ∧
  ∀ i,i < ns.length→Rd w w.heap.size 1 (sl.getD i default).at_ (sl.getD i default).len (ints (ns.getD i default).next)∧(sl.getD i default).len≤maxLen:=by
 rcases open_slice ht h with ⟨hcs',_⟩ | ⟨a,len,cap,m,n,D,Pl,hcs',_,hl,hm,hmm,_,hx⟩
 ·injection hcs' with hcs'
  exact ⟨none,0,0,[],[],hcs',Rd.empty none,by unfold maxLen;omega,rfl,fun i hi=>absurd hi (Nat.not_lt_zero _)⟩
 ·injection hcs' with hcs'
  have hln:len≤m:=by rw [hmm];split <;> omega
  have hV:∀ i,i < m→∃ g:Nd × Sl,(w.cell? (a.add (i * 2))=some (.int .i64 g.1.level)∧w.cell? (a.add (i * 2+1))=some (.slice g.2.at_ g.2.len g.2.cap))∧Rd w w.heap.size 1 g.2.at_ g.2.len (ints g.1.next)∧g.2.len≤maxLen:=fun i hi'=>by
   obtain ⟨cs',hcells,ht'⟩:=hx i hi'
   rw [hC] at hcells
   obtain ⟨_,hlen,hat⟩:=World.cells?_some hcells
   obtain ⟨y0,y1,n',_,_,t0,t1⟩:=trod_struct2 he ht'
   match cs',hlen with
   | [c0,c1],_=>
    rw [h0.1,h0.2,hc] at t0
    rw [h1.1,h1.2,hcs] at t1
    simp only [List.drop_zero,List.drop_succ_cons,List.take_succ_cons,List.take_zero] at t0 t1
    obtain ⟨z0,e0,_⟩:=DataW.trod_int hi t0
    obtain ⟨NA,nn,nc,zs,hv,hR,hn,_⟩:=read_ints hs hi hc t1
    injection e0 with e0
    have q0:=hat 0 (by omega)
    have q1:=hat 1 (by omega)
    rw [add_add'] at q0 q1
    refine ⟨⟨⟨z0,zs⟩,⟨NA,nn,nc⟩⟩,⟨?_,?_⟩,hR,hn⟩
    ·simpa [e0] using q0
    ·simpa [hv] using q1
  obtain ⟨G,hG⟩:=choose_lt (α:=Nd × Sl) (p:=fun i g=>(w.cell? (a.add (i * 2))=some (.int .i64 g.1.level)∧w.cell? (a.add (i * 2+1))=some (.slice g.2.at_ g.2.len g.2.cap))∧Rd w w.heap.size 1 g.2.at_ g.2.len (ints g.1.next)∧g.2.len≤maxLen) hV
  have hz:((List.range len).map fun i=>(G i).1).zip ((List.range len).map fun i=>(G i).2)=(List.range len).map G:=by
   rw [List.zip_map',]
  refine ⟨some a,len,cap,(List.range len).map fun i=>(G i).1,(List.range len).map fun i=>(G i).2,hcs',rd_of_cells (by rw [nodesCells,flat2_length _ (fun _=>rfl),hz];simp) (fun j u hu=>?_) (by omega),by omega,by simp,fun i hi=>?_⟩
  ·rw [nodesCells,hz] at hu
   have hj:j < len * 2:=by
    have:=(List.getElem?_eq_some_iff.1 hu).1
    rw [flat2_length _ (fun _=>rfl)] at this;simpa using this
   have hk:j / 2 < len:=by omega
   obtain ⟨p0,p1⟩:=flat2_get ndCells (fun _=>rfl) ((List.range len).map G) (j / 2) (by simpa using hk)
   have hg:((List.range len).map G).getD (j / 2) default=G (j / 2):=by
    simp [List.getD_eq_getElem?_getD,List.getElem?_map,List.getElem?_range hk]
   rw [hg] at p0 p1
   obtain ⟨⟨r0,r1⟩,_⟩:=hG (j / 2) (by omega)
   have hj2:j=j / 2 * 2∨j=j / 2 * 2+1:=by omega
   rcases hj2 with e | e
   ·rw [← e] at p0 r0;rw [r0,← hu];exact p0.symm
   ·rw [← e] at p1 r1;rw [r1,← hu];exact p1.symm
  ·have hi':i < len:=by simpa using hi
   have e1:((List.range len).map fun i=>(G i).1).getD i default=(G i).1:=by simp [List.getD_eq_getElem?_getD,List.getElem?_map,List.getElem?_range hi']
   have e2:((List.range len).map fun i=>(G i).2).getD i default=(G i).2:=by simp [List.getD_eq_getElem?_getD,List.getElem?_map,List.getElem?_range hi']
   rw [e1,e2]
   exact (hG i (by omega)).2
end
section
variable {H:Type} {enc:TypeId × Value→H} {w:World} {base b0:Nat} {spare:Nat→Bool} {held:Bool} {r:Reach} {v:Value} {d:DataW H} {p:List MemPlace}
set_option maxRecDepth 100000 in
theorem open_tree (hv:Value.okWide Try.prog w r b0 25 v) (h:DataW.Trod enc Try.prog w base spare held 25 v d p):
 ∃ t HA hn hc NA nn nc sl,v=.agg #[.int .i64 (Tre.states t),.slice HA hn hc,.slice NA nn nc]∧TAt w t HA NA hn nn sl:=by
 obtain ⟨v0,v1,v2,y0,y1,y2,n,rfl,_,_,h0,h1,h2⟩:=open_agg3 Try.underlying25 (by kernel_rfl) (by kernel_rfl) hv h
 obtain ⟨z,e0,_⟩:=DataW.trod_int Try.underlying3 h0
 injection e0 with e0
 obtain ⟨HA,hn,hc,hs,rfl,hH,hh⟩:=read_pts Try.underlying22 Try.underlying73 (by kernel_rfl) ⟨rfl,rfl⟩ ⟨rfl,rfl⟩ Try.underlying3 (by kernel_rfl) h1
 obtain ⟨NA,nn,nc,ns,sl,rfl,hN,hm,hsl,hnx⟩:=read_nodes Try.underlying23 Try.underlying64 (by kernel_rfl) ⟨rfl,rfl⟩ ⟨rfl,rfl⟩ Try.underlying3 (by kernel_rfl) Try.underlying35 (by kernel_rfl) h2
 subst e0
 exact ⟨⟨z,hs,ns⟩,HA,hn,hc,NA,nn,nc,sl,rfl,⟨hH,hN,hsl,hnx,hh,hm⟩⟩
end
section
variable {H:Type} {enc:TypeId × Value→H} {P:Program} {w:World} {base:Nat} {spare:Nat→Bool} {held:Bool}
end
section
variable {H:Type} {enc:TypeId × Value→H} {w:World} {base b0:Nat} {spare:Nat→Bool} {held:Bool} {r:Reach} {v:Value} {d:DataW H} {p:List MemPlace}
end
end Go.Proofs.Ytiemhbogbaamlaa
