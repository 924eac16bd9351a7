/-
  Lemmas for the law TopCircuits.
-/
import Derived.Test.YtbijfnbelkbofaaGreatDoorJZ18
import Derived.Test.YtbijfnbelkbofaaGreatDoorJZ19
import Derived.Test.YtbijfnbelkbofaaGreatDoorJZ1
import Derived.Test.YtbijfnbelkbofaaGreatDoorJZ15
import Derived.Test.YtbijfnbelkbofaaGreatDoorJZ7
set_option linter.unusedSimpArgs false
set_option linter.unusedVariables false
namespace Go.Proofs.YtbijfnbelkbofaaGreatDoor
open Go.RowKit
theorem neum_any (w:World):Calls Tryz.prog 48 #[.int .i64 1] w (ColPost neumL w):=by
 have HR:Hid (Row (w.alloc (.cells #[.int .i64 1] 3)) w.heap.size 3 [.int .i64 1]):=Row.new w _ [.int .i64 1];have HD:=hiD ((Below.refl w.heap.size w).alloc (Nat.le_refl _) (.cells #[.int .i64 1] 3));have hsz:(w.alloc (.cells #[.int .i64 1] 3)).heap.size=w.heap.size+1:=by simp
 go_enter Tryz.func48,Tryz.ntmps48;go_upto_region 1 with fail;revert HR HD hsz;generalize w.alloc (.cells #[.int .i64 1] 3)=w1;intro HR HD hsz
 have HC:=hiD (collect_any (fun x y=>decide (max x (-x)+max y (-y)≤1)) 99 #[.pointer (some ⟨w.heap.size,0,none⟩)] w1 (enters Tryz.func99 (by kernel_rfl) rfl) (fun x y W hx hy hb=>by
  have c0:=(rowCells HR.out hb).cell 0;have cl:=(rowCells HR.out hb).lt;simp only [List.getElem?_cons_zero] at c0;clear hb;have hx3:x=-1∨x=0∨x=1:=by omega
  have hy3:y=-1∨y=0∨y=1:=by omega
  clear hx hy
  rcases hx3 with rfl | rfl | rfl <;> rcases hy3 with rfl | rfl | rfl <;> (
   go_enter Tryz.func99,Tryz.ntmps99;go_wp2;go_ret
   exact ⟨rfl,Below.refl _ _⟩)))
 have r0:=HR.out.cell 0;have rl:=HR.out.lt;simp only [List.getElem?_cons_zero] at r0;go_wp2_with fail;refine HC.out.mono ?_;rintro e w2 ⟨A,c,rfl,h1,h2⟩;have H1:=hiD (own_base h1 (show w.heap.size≤w1.heap.size by omega));have H2:=hiD (HD.out.trans (h2.mono HD.out.size));clear h1 h2 HC r0 rl;go_wp2_with fail;go_ret;exact ⟨A,c,rfl,H1.out,H2.out⟩
theorem int_infoJ:(Tryz.prog.info? 3).map (fun i=>(i.zero,i.size,i.bytes))=some (some (.int .i64 0),1,8):=by kernel_rfl
def LstPost (n:Nat) (w:World) (e:Ending) (w':World):Prop:=∃ (l:List Int) (A:Option Addr) (c:Nat) (ok:Bool),e=.returned (.tuple #[.slice A l.length c,.bool ok])∧w'.ownsRow w.heap.size 3 1 (.slice A l.length c) l.length (ints l)∧Below w.heap.size w w'∧l.length≤n
theorem byte_lt (b:UInt8):(b.toNat:Int) < 256:=by have:=b.toNat_lt;omega
set_option maxRecDepth 100000 in
set_option maxHeartbeats 4000000 in
theorem lDigits_any (s:ByteArray) (hs:s.size≤1000000) (w:World):Calls Tryz.prog 50 #[.string s] w (LstPost s.size w):=by
 go_enter Tryz.func50,Tryz.ntmps50;have hcv:=fun W=>Lib.run_convert_string_bytes (P:=Tryz.prog) W 9 156 5 s (u:=.string) Tryz.underlying9 Tryz.underlying156 Tryz.underlying5
 go_upto_region 3 with fail;clear hcv;have HB0:=hiD (Lib.bytesWorld_below w 5 s);have HC0:=hiD (Lib.bytesWorld_cell w 5 s);have HZ0:=hiD (Lib.bytesWorld_size w 5 s);revert HB0 HC0 HZ0;generalize Lib.bytesWorld w 5 s=wb;generalize grownCap w s.size 0 5=kcap;intro HB0 HC0 HZ0
 go_loopg [4,6,10] s.size (fun gg s4 _ s10 wr=>∃ (i:Nat) (l:List Int) (A:Option Addr) (c:Nat),i≤s.size∧s.size - i≤gg∧s10=.int .i64 (i:Int)∧s4=.slice A l.length c∧Aside (wr.ownsRow (w.heap.size+1) 3 1 (.slice A l.length c) l.length (ints l)∧Below wb.heap.size wb wr∧l.length≤i))
 case atStart=>exact ⟨0,[],none,0,Nat.zero_le _,by omega,rfl,rfl,World.ownsRow_nil _ _ _ _,Below.refl _ _,Nat.le_refl _⟩
 case round=>
  obtain ⟨i,l,A,c,hi,hgg,rfl,rfl,hv⟩:=hrel;have HO:=hiD hv.out.1;have HB:=hiD hv.out.2.1;have hli:=hv.out.2.2;clear hv;have hz0:wb.heap.size=w.heap.size+1:=HZ0.out;have hz1:wb.heap.size≤wr.heap.size:=HB.out.size;by_cases hlt:i < s.size
  ·have hltz:(i:Int) < (s.size:Int):=by omega
   have c0:wr.cell? ⟨w.heap.size,i,none⟩=_:=(HB.out.cell (p:=⟨w.heap.size,i,none⟩) (by show w.heap.size < _;omega)).trans (HC0.out i hlt);have hb1:=byte_lt (s.data.toList.getD i 0);have hb0:(0:Int)≤((s.data.toList.getD i 0).toNat:Int):=by omega
   revert c0 hb1 hb0;generalize ((s.data.toList.getD i 0).toNat:Int)=z;intro c0 hb1 hb0;have hwl:w.heap.size < wr.heap.size:=by omega
   by_cases h1:z < 48
   ·have d1:decide (z < 48)=true:=decide_eq_true h1;go_wp2;go_ret2;exact ⟨[],none,0,false,rfl,World.ownsRow_nil _ _ _ _,HB0.out.trans (HB.out.mono (by omega)),by simp⟩
   ·have d1:decide (z < 48)=false:=decide_eq_false h1;by_cases h2:57 < z
    ·have d2:decide (57 < z)=true:=decide_eq_true h2;go_wp2;go_ret2;exact ⟨[],none,0,false,rfl,World.ownsRow_nil _ _ _ _,HB0.out.trans (HB.out.mono (by omega)),by simp⟩
    ·have d2:decide (57 < z)=false:=decide_eq_false h2
     have hw8:IntKind.u8.wrap (z - 48)=z - 48:=by
      have h8:IntKind.u8.wrap (z - 48)=(z - 48) % 256:=by simp [IntKind.wrap,IntKind.bits,IntKind.signed]
      rw [h8];omega
     have hw64:IntKind.i64.wrap (z - 48)=z - 48:=IntWalk.i64_in _ (by omega)
     go_wp2_with (at_builtin;refine wpList_app rfl (.tmp 20) (.tmp 24) 22 rfl (w.heap.size+1) 3 (.int .i64 0) 1 8 Tryz.underlying22 int_infoJ rfl (by decide) (by decide) (.slice A l.length c) (l.length) (ints l) rfl ?own (wr.heap.size+1) (some ⟨wr.heap.size,0,none⟩) 1 1 [.int .i64 (z - 48)] rfl ?rd ?one ?hb ?hbase ?_)
     case own=>exact (HO.out).alloc _
     case rd=>exact Rd.lit wr #[.int .i64 (z - 48)] 3 (sz:=1) (m:=1) rfl
     case one=>first | (intro u hu;simp at hu;subst hu;rfl) | rfl
     case hb=>omega
     case hbase=>first | (simp;omega) | omega
     intro v' w' hown' hgrow' hat';obtain ⟨A2,c2,rfl,_⟩:=Rd.own hown';have hl2:(l ++ [z - 48]).length=l.length+1:=by simp
     have hcat:ints l ++ [Value.int .i64 (z - 48)]=ints (l ++ [z - 48]):=by simp [ints]
     rw [hcat] at hown';have HO2:=hiD hown';have HB2:Hid (Below wb.heap.size wb w'):=hiD ((HB.out.alloc hz1 _).grown hgrow' (by rw [World.size_alloc];omega) (fun k hk=>by have:=(World.ownsRow.lt HO.out k hk).1;omega));clear hown' hgrow' hat' hcat HO HB;go_wp2_with fail;go_roundg (s.size - (i+1))
     case measure=>omega
     case rel=>exact ⟨i+1,l ++ [z - 48],A2,c2,by omega,by omega,by go_num,by rw [hl2],by rw [hl2];exact ⟨HO2.out,HB2.out,by omega⟩⟩
  ·obtain rfl:i=s.size:=by omega
   have HRd:=hiD (Rd.of_own HO.out);have HC:=hiD (ascends_any l A l.length c 9 wr HRd.out (by unfold maxLen;omega));go_wp2_with fail;refine HC.out.mono ?_;rintro e w2 ⟨rfl,rfl⟩;clear HC;go_wp2_with fail;go_ret2;exact ⟨l,A,c,_,rfl,own_base HO.out (by omega),HB0.out.trans (HB.out.mono (by omega)),hli⟩
set_option maxRecDepth 100000 in
set_option maxHeartbeats 4000000 in
theorem gDigits_any (s:ByteArray) (hs:s.size≤1000000) (w:World):Calls Tryz.prog 53 #[.string s] w (LstPost s.size w):=by
 go_enter Tryz.func53,Tryz.ntmps53;have hcv:=fun W=>Lib.run_convert_string_bytes (P:=Tryz.prog) W 9 156 5 s (u:=.string) Tryz.underlying9 Tryz.underlying156 Tryz.underlying5
 go_upto_region 3 with fail;clear hcv;have HB0:=hiD (Lib.bytesWorld_below w 5 s);have HC0:=hiD (Lib.bytesWorld_cell w 5 s);have HZ0:=hiD (Lib.bytesWorld_size w 5 s);revert HB0 HC0 HZ0;generalize Lib.bytesWorld w 5 s=wb;generalize grownCap w s.size 0 5=kcap;intro HB0 HC0 HZ0
 go_loopg [4,6,7,11] s.size (fun gg s4 _ _ s11 wr=>∃ (i:Nat) (l:List Int) (m:Nat) (A:Option Addr) (c:Nat),i≤s.size∧s.size - i≤gg∧s11=.int .i64 (i:Int)∧s4=.slice A m c∧Aside (l.length=m∧wr.ownsRow (w.heap.size+1) 3 1 (.slice A m c) m (ints l)∧Below wb.heap.size wb wr∧m≤i))
 case atStart=>exact ⟨0,[],0,none,0,Nat.zero_le _,by omega,rfl,rfl,rfl,World.ownsRow_nil _ _ _ _,Below.refl _ _,Nat.le_refl _⟩
 case round=>
  obtain ⟨i,l,m,A,c,hi,hgg,rfl,rfl,hv⟩:=hrel;have HO:=hiD hv.out.2.1;have HB:=hiD hv.out.2.2.1;have hlm:=hv.out.1;have hli:=hv.out.2.2.2;clear hv;have hz0:wb.heap.size=w.heap.size+1:=HZ0.out;have hz1:wb.heap.size≤wr.heap.size:=HB.out.size;by_cases hlt:i < s.size
  ·have hltz:(i:Int) < (s.size:Int):=by omega
   have c0:wr.cell? ⟨w.heap.size,i,none⟩=_:=(HB.out.cell (p:=⟨w.heap.size,i,none⟩) (by show w.heap.size < _;omega)).trans (HC0.out i hlt);have hb1:=byte_lt (s.data.toList.getD i 0);have hb0:(0:Int)≤((s.data.toList.getD i 0).toNat:Int):=by omega
   revert c0 hb1 hb0;generalize ((s.data.toList.getD i 0).toNat:Int)=z;intro c0 hb1 hb0;have hwl:w.heap.size < wr.heap.size:=by omega
   have hwz:IntKind.i64.wrap z=z:=IntWalk.i64_in _ (by omega);have hw64:IntKind.i64.wrap (z - 48)=z - 48:=IntWalk.i64_in _ (by omega);by_cases h1:z - 48 < 0
   ·have d1:decide (z - 48 < 0)=true:=decide_eq_true h1;go_wp2;go_ret2;exact ⟨[],none,0,false,rfl,World.ownsRow_nil _ _ _ _,HB0.out.trans (HB.out.mono (by omega)),by simp⟩
   ·have d1:decide (z - 48 < 0)=false:=decide_eq_false h1;by_cases h2:9 < z - 48
    ·have d2:decide (9 < z - 48)=true:=decide_eq_true h2;go_wp2;go_ret2;exact ⟨[],none,0,false,rfl,World.ownsRow_nil _ _ _ _,HB0.out.trans (HB.out.mono (by omega)),by simp⟩
    ·have d2:decide (9 < z - 48)=false:=decide_eq_false h2
     cases m with
     | zero=>
      go_wp2_with (at_builtin;refine wpList_app rfl (.tmp 39) (.tmp 41) 22 rfl (w.heap.size+1) 3 (.int .i64 0) 1 8 Tryz.underlying22 int_infoJ rfl (by decide) (by decide) (.slice A (0) c) (0) (ints l) rfl ?ownZ (wr.heap.size+1) (some ⟨wr.heap.size,0,none⟩) 1 1 [.int .i64 (z - 48)] rfl ?rdZ ?oneZ ?hbZ ?hbaseZ ?_)
      case ownZ=>exact (HO.out).alloc _
      case rdZ=>exact Rd.lit wr #[.int .i64 (z - 48)] 3 (sz:=1) (m:=1) rfl
      case oneZ=>first | (intro u hu;simp at hu;subst hu;rfl) | rfl
      case hbaseZ=>first | (simp;omega) | omega
      intro v' w' hown' hgrow' hat';obtain ⟨A2,c2,rfl,_⟩:=Rd.own hown';have hl2:(l ++ [z - 48]).length=0+1:=by rw [List.length_append,List.length_singleton];omega
      have hcat:ints l ++ [Value.int .i64 (z - 48)]=ints (l ++ [z - 48]):=by simp [ints]
      rw [hcat] at hown';have HO2:=hiD hown';have HB2:Hid (Below wb.heap.size wb w'):=hiD ((HB.out.alloc hz1 _).grown hgrow' (by rw [World.size_alloc];omega) (fun k hk=>by have:=(World.ownsRow.lt HO.out k hk).1;omega));clear hown' hgrow' hat' hcat HO HB;go_wp2_with fail;go_roundg (s.size - (i+1))
      case measure=>omega
      case rel=>exact ⟨i+1,l ++ [z - 48],0+1,A2,c2,by omega,by omega,by go_num,rfl,hl2,HO2.out,HB2.out,by omega⟩
     | succ n=>
      obtain ⟨ad,rfl,hlad,c1⟩:=(Rd.of_own HO.out).int (Nat.lt_succ_self n);revert c1;generalize l.getD n 0=k;intro c1;have hn0:(0:Int) < (n:Int)+1:=by omega
      have hn1:IntKind.i64.wrap (n:Int)=(n:Int):=IntWalk.i64_in _ (by omega);have hn2:IntKind.i64.wrap ((n:Int)+1 - 1)=(n:Int):=by rw [Int.add_sub_cancel];exact hn1
      have hn3:(n:Int) < (n:Int)+1:=by omega
      by_cases h3:z - 48≤k
      ·have d3:decide (z - 48≤k)=true:=decide_eq_true h3;go_wp2;go_ret2;exact ⟨[],none,0,false,rfl,World.ownsRow_nil _ _ _ _,HB0.out.trans (HB.out.mono (by omega)),by simp⟩
      ·have d3:decide (z - 48≤k)=false:=decide_eq_false h3
       go_wp2_with (at_builtin;refine wpList_app rfl (.tmp 39) (.tmp 41) 22 rfl (w.heap.size+1) 3 (.int .i64 0) 1 8 Tryz.underlying22 int_infoJ rfl (by decide) (by decide) (.slice (some ad) (n+1) c) ((n+1)) (ints l) rfl ?own (wr.heap.size+1) (some ⟨wr.heap.size,0,none⟩) 1 1 [.int .i64 (z - 48)] rfl ?rd ?one ?hb ?hbase ?_)
       case own=>exact (HO.out).alloc _
       case rd=>exact Rd.lit wr #[.int .i64 (z - 48)] 3 (sz:=1) (m:=1) rfl
       case one=>first | (intro u hu;simp at hu;subst hu;rfl) | rfl
       case hb=>omega
       case hbase=>first | (simp;omega) | omega
       intro v' w' hown' hgrow' hat';obtain ⟨A2,c2,rfl,_⟩:=Rd.own hown';have hl2:(l ++ [z - 48]).length=(n+1)+1:=by rw [List.length_append,List.length_singleton];omega
       have hcat:ints l ++ [Value.int .i64 (z - 48)]=ints (l ++ [z - 48]):=by simp [ints]
       rw [hcat] at hown';have HO2:=hiD hown';have HB2:Hid (Below wb.heap.size wb w'):=hiD ((HB.out.alloc hz1 _).grown hgrow' (by rw [World.size_alloc];omega) (fun k hk=>by have:=(World.ownsRow.lt HO.out k hk).1;omega));clear hown' hgrow' hat' hcat HO HB;go_wp2_with fail;go_roundg (s.size - (i+1))
       case measure=>omega
       case rel=>exact ⟨i+1,l ++ [z - 48],(n+1)+1,A2,c2,by omega,by omega,by go_num,rfl,hl2,HO2.out,HB2.out,by omega⟩
  ·obtain rfl:i=s.size:=by omega
   go_wp2_with fail;go_ret2;subst hlm;exact ⟨l,A,c,_,rfl,own_base HO.out (by omega),HB0.out.trans (HB.out.mono (by omega)),hli⟩
def BoolPost (w:World) (e:Ending) (w':World):Prop:=∃ b:Bool,e=.returned (.bool b)∧Below w.heap.size w w'
end Go.Proofs.YtbijfnbelkbofaaGreatDoor
namespace Go.Proofs.YtbijfnbelkbofaaGreatDoor
open Go.RowKit
theorem sums_any (K s:Int) (hs:2≤s∧s≤8) (hk:3 * s - 2=K) (w:World):Calls Tryz.prog 110 #[.int .i64 s] w fun e w'=>e=.returned (.int .i64 K)∧w'=w:=by
 have h1:IntKind.i64.wrap (3 * s)=3 * s:=IntWalk.i64_in _ (by omega);have h2:IntKind.i64.wrap (3 * s - 2)=3 * s - 2:=IntWalk.i64_in _ (by omega);have HK:=hiD hk;clear hk;go_enter Tryz.func110,Tryz.ntmps110;go_wp2;go_ret;rw [← HK.out];exact ⟨rfl,rfl⟩
def DigPost (s:Int) (w:World) (e:Ending) (w':World):Prop:=∃ (l:List Int) (A:Option Addr) (c:Nat) (k:Int),e=.returned (.tuple #[.slice A l.length c,.int .i64 k])∧w'.ownsRow w.heap.size 3 1 (.slice A l.length c) l.length (ints l)∧Below w.heap.size w w'∧(k=0→2≤s∧s≤8∧(l.length:Int)=3 * s - 2∧∀ d ∈ l,0≤d∧d < s)
theorem digPost_err {s:Int} {w w':World} {k:Int} (hk:k≠0) (hb:Below w.heap.size w w'):DigPost s w (.returned (.tuple #[.slice none 0 0,.int .i64 k])) w':=⟨[],none,0,k,rfl,World.ownsRow_nil _ _ _ _,hb,fun h=>absurd h hk⟩
set_option maxRecDepth 100000 in
set_option maxHeartbeats 4000000 in
theorem wDigits_any (s n:Int) (w:World) (hn:-9223372036854775808≤n∧n≤9223372036854775807):Calls Tryz.prog 63 #[.int .i64 s,.int .i64 n] w (DigPost s w):=by
 go_enter Tryz.func63,Tryz.ntmps63;by_cases h1:s < 2
 ·have d1:decide (s < 2)=true:=decide_eq_true h1;go_wp2_with fail;go_ret2;exact digPost_err (by decide) (by first | exact Below.refl _ _ | go_grown)
 have d1:decide (s < 2)=false:=decide_eq_false h1;by_cases h2:8 < s
 ·have d2:decide (8 < s)=true:=decide_eq_true h2;go_wp2_with fail;go_ret2;exact digPost_err (by decide) (by first | exact Below.refl _ _ | go_grown)
 have d2:decide (8 < s)=false:=decide_eq_false h2;by_cases h3:n < 0
 ·have d3:decide (n < 0)=true:=decide_eq_true h3;go_wp2_with fail;go_ret2;exact digPost_err (by decide) (by first | exact Below.refl _ _ | go_grown)
 have d3:decide (n < 0)=false:=decide_eq_false h3
 obtain ⟨K,hK⟩:∃ K:Nat,3 * s - 2=(K:Int):=⟨(3 * s - 2).toNat,by omega⟩
 have HC:=hiD (sums_any (K:Int) s ⟨by omega,by omega⟩ hK w);go_wp2_with fail;refine HC.out.mono ?_;rintro e w1 ⟨rfl,rfl⟩;clear HC d3;go_wp2_with fail
 go_loopg [1,6,17] K (fun gg s1 s6 s17 wr=>∃ (i:Nat) (z:Int) (l:List Int) (A:Option Addr) (c:Nat),i≤K∧K - i≤gg∧0≤z∧z≤9223372036854775807∧s17=.int .i64 (i:Int)∧s1=.int .i64 z∧s6=.slice A i c∧Aside (l.length=i∧wr.ownsRow w1.heap.size 3 1 (.slice A i c) i (ints l)∧Below w1.heap.size w1 wr∧∀ d ∈ l,0≤d∧d < s))
 case atStart=>exact ⟨0,n,[],none,0,Nat.zero_le _,by omega,by omega,hn.2,rfl,rfl,rfl,rfl,World.ownsRow_nil _ _ _ _,Below.refl _ _,by simp⟩
 case round=>
  obtain ⟨i,z,l,A,c,hi,hgg,hz0,hz1,rfl,rfl,rfl,hv⟩:=hrel;have HO:=hiD hv.out.2.1;have HB:=hiD hv.out.2.2.1;have HD:=hiD hv.out.2.2.2;have hlm:=hiD hv.out.1;clear hv;have hsz:w1.heap.size≤wr.heap.size:=HB.out.size;by_cases hlt:i < K
  ·have hltz:(i:Int) < (K:Int):=by omega
   have hs0:s≠0:=by omega
   obtain ⟨r,hr⟩:∃ r,Int.tmod z s=r:=⟨_,rfl⟩
   have hr2:z % s=r:=by rw [← hr,Int.tmod_eq_emod_of_nonneg hz0]
   obtain ⟨q,hq⟩:∃ q,Int.tdiv z s=q:=⟨_,rfl⟩
   have hq2:z / s=q:=by rw [← hq,Int.tdiv_eq_ediv_of_nonneg hz0]
   have hr0:0≤r:=by rw [← hr2];exact Int.emod_nonneg _ hs0
   have hr1:r < s:=by rw [← hr2];exact Int.emod_lt_of_pos _ (by omega)
   have hq0:0≤q:=by rw [← hq2];exact Int.ediv_nonneg hz0 (by omega)
   have hq1:q≤z:=by rw [← hq2];exact Int.ediv_le_self _ hz0
   have hwq:IntKind.i64.wrap q=q:=IntWalk.i64_in _ (by omega);have hwr:IntKind.i64.wrap r=r:=IntWalk.i64_in _ (by omega)
   go_wp2_with (at_builtin;refine wpList_app rfl (.tmp 19) (.tmp 23) 22 rfl w1.heap.size 3 (.int .i64 0) 1 8 Tryz.underlying22 int_infoJ rfl (by decide) (by decide) (.slice A i c) (i) (ints l) rfl ?own (wr.heap.size+1) (some ⟨wr.heap.size,0,none⟩) 1 1 [.int .i64 r] rfl ?rd ?one ?hb ?hbase ?_)
   case own=>exact (HO.out).alloc _
   case rd=>exact Rd.lit wr #[.int .i64 r] 3 (sz:=1) (m:=1) rfl
   case one=>first | (intro u hu;simp at hu;subst hu;rfl) | rfl
   case hb=>omega
   case hbase=>first | (simp;omega) | omega
   intro v' w' hown' hgrow' hat';obtain ⟨A2,c2,rfl,_⟩:=Rd.own hown';have hl2:(l ++ [r]).length=i+1:=by rw [List.length_append,List.length_singleton];have:=hlm.out;omega
   have hcat:ints l ++ [Value.int .i64 r]=ints (l ++ [r]):=by simp [ints]
   rw [hcat] at hown';have HO2:=hiD hown';have HB2:Hid (Below w1.heap.size w1 w'):=hiD ((HB.out.alloc hsz _).grown hgrow' (by rw [World.size_alloc];omega) (fun k hk=>(World.ownsRow.lt HO.out k hk).1))
   have HD2:Hid (∀ d ∈ l ++ [r],0≤d∧d < s):=hiD (fun d hd=>by
    rcases List.mem_append.1 hd with h | h
    ·exact HD.out d h
    ·simp at h;subst h;exact ⟨hr0,hr1⟩)
   clear hown' hgrow' hat' hcat HO HB HD;go_wp2_with fail;go_roundg (K - (i+1))
   case measure=>omega
   case rel=>exact ⟨i+1,q,l ++ [r],A2,c2,by omega,by omega,hq0,by omega,by go_num,rfl,rfl,hl2,HO2.out,HB2.out,HD2.out⟩
  ·obtain rfl:i=K:=by omega
   have HF:Hid (∀ _:Unit,2≤s∧s≤8∧(l.length:Int)=3 * s - 2∧∀ d ∈ l,0≤d∧d < s):=hiD (fun _=>⟨by omega,by omega,by have:=hlm.out;omega,HD.out⟩);by_cases h4:0 < z
   ·have d4:decide (0 < z)=true:=decide_eq_true h4;go_wp2_with fail;go_ret2;exact digPost_err (by decide) HB.out
   ·have d4:decide (0 < z)=false:=decide_eq_false h4;go_wp2_with fail;go_ret2;have hl0:=hlm.out;subst hl0;exact ⟨l,A,c,0,rfl,HO.out,HB.out,fun _=>HF.out ()⟩
end Go.Proofs.YtbijfnbelkbofaaGreatDoor
namespace Go.Proofs.YtbijfnbelkbofaaGreatDoor
open Go.RowKit
def orderP (a b:Pt):Int:=if cmpI a.y b.y≠0 then cmpI a.y b.y else cmpI a.x b.x
theorem orderP_lt (a b:Pt):decide (0≤orderP a b)=!beforeP a b:=by
 have h1:=cmpI_cases a.y b.y;have h2:=cmpI_cases a.x b.x;rw [Bool.eq_iff_iff]
 simp [orderP,beforeP]
 split <;> omega
theorem hood_false_at (l:List Pt) (k:Nat) (hk:k < l.length) (h:ptOk (l.getD k default)=false∨(k≠0∧beforeP (l.getD (k - 1) default) (l.getD k default)=false)):hoodOk l=false:=by
 have:hoodPts l=false:=decide_eq_false (fun hh=>by
  have:=hh k hk;rcases h with h | ⟨h1,h2⟩
  ·rw [h] at this;exact absurd this.1 (by simp)
  ·rw [h2] at this;rcases this.2 with h | h
   ·exact h1 h
   ·exact absurd h (by simp))
 simp [hoodOk,this]
theorem hood_true_all (l:List Pt) (hl:1≤l.length∧l.length≤25) (h:∀ k,k < l.length→ptOk (l.getD k default)=true∧(k=0∨beforeP (l.getD (k - 1) default) (l.getD k default)=true)):hoodOk l=true:=by
 have:hoodPts l=true:=decide_eq_true h
 simp [hoodOk,this,hl]
theorem hood_row {w:World} {B n:Nat} {A:Option Addr} {l:List Pt} (h:Rd w B 2 A n (hoodCells l)) {k:Nat} (hk:k < n):
 ∃ ad,A=some ad∧ad.block < B∧w.cell? (ad.add (k * 2))=some (.int .i64 (l.getD k default).x)∧w.cell? ⟨(ad.add (k * 2)).block,(ad.add (k * 2)).off+1,none⟩=some (.int .i64 (l.getD k default).y):=by
 have hl:l.length=n:=by have:=h.1;rw [hoodCells,flat2_length _ (fun _=>rfl)] at this;omega
 obtain ⟨h0,h1⟩:=flat2_get ptCells (fun _=>rfl) l k (by omega);exact h.row2 hk h0 h1
set_option maxRecDepth 100000 in
set_option maxHeartbeats 2000000 in
theorem hoodRight_any (l:List Pt) (A:Option Addr) (n c:Nat) (w:World) (h:Rd w w.heap.size 2 A n (hoodCells l)) (hm:n≤maxLen):
 Calls Tryz.prog 72 #[.slice A n c] w fun e w'=>e=.returned (.bool (hoodOk l))∧Below w.heap.size w w':=by
 unfold maxLen at hm;have H:=hiD h;have HL:Hid (l.length=n):=by have:=h.1;rw [hoodCells,flat2_length _ (fun _=>rfl)] at this;show _=_;omega
 clear h;by_cases hbig:n < 1∨25 < n
 ·have hr:hoodOk l=false:=by unfold hoodOk;rw [decide_eq_false (by rw [HL.out];omega)];rfl
  rw [hr];rcases hbig with hbig | hbig
  ·obtain rfl:n=0:=by omega
   go_enter Tryz.func72,Tryz.ntmps72;go_wp2;go_ret;exact ⟨rfl,Below.refl _ _⟩
  ·have hbig':¬ n < 1:=by omega
   go_enter Tryz.func72,Tryz.ntmps72;go_wp2;go_ret;exact ⟨rfl,Below.refl _ _⟩
 have hn1:¬ n < 1:=by omega
 have hn2:¬ 25 < n:=by omega
 have HN25:Hid (1≤n∧n≤25):=⟨by omega,by omega⟩
 clear hbig;go_enter Tryz.func72,Tryz.ntmps72;go_wp2;clear hn1 hn2
 go_loopg [3,15] n (fun gg _ s15 wr=>∃ kk:Nat,kk≤n∧n - kk≤gg∧s15=.int .i64 kk∧Aside (Below w.heap.size w wr)∧Aside (∀ j,j < kk→ptOk (l.getD j default)=true∧(j=0∨beforeP (l.getD (j - 1) default) (l.getD j default)=true)))
 case atStart=>exact ⟨0,Nat.zero_le _,by omega,rfl,Below.refl _ _,fun j hj=>absurd hj (Nat.not_lt_zero _)⟩
 case round=>
  obtain ⟨kk,hkk,hg,rfl,BW,AA⟩:=hrel;have hn25:=HN25.out.2;by_cases hlt:kk < n
  ·have hltz:(kk:Int) < (n:Int):=by omega
   obtain ⟨ad,rfl,hb,g0,g1⟩:=hood_row (H.out.up BW.out) hlt;generalize hy:l.getD kk default=y at g0 g1;have HY:=hiD hy;clear hy;go_wp2_with fail;have RA:Hid (Row (World.alloc wr _) wr.heap.size 114 [.int .i64 y.x,.int .i64 y.y]):=Row.new wr 114 [.int .i64 y.x,.int .i64 y.y];have HB:Hid (Below w.heap.size w (World.alloc wr (.cells #[.int .i64 y.x,.int .i64 y.y] 114))):=below_on2 BW.out (by go_grown);have HW:Hid (Below wr.heap.size wr (World.alloc wr (.cells #[.int .i64 y.x,.int .i64 y.y] 114))):=by show Below _ _ _;go_grown
   revert RA HB HW;generalize World.alloc wr (.cells #[.int .i64 y.x,.int .i64 y.y] 114)=w1;intro RA HB HW;have hu:undef=Value.tuple #[]:=rfl
   have HS:∀ w',Below w1.heap.size w1 w'→w'.cell? ⟨wr.heap.size,0,none⟩=some (.int .i64 y.x)∧w'.cell? ⟨wr.heap.size,1,none⟩=some (.int .i64 y.y):=fun w' hw=>⟨(rowCells RA.out hw).cell 0,(rowCells RA.out hw).cell 1⟩
   have HN:Hid (Below w1.heap.size w1 w1):=Below.refl _ _;have hfalse:Hid (ptOk y=false→hoodOk l=false):=fun he=>hood_false_at l kk (by rw [HL.out];exact hlt) (.inl (by rw [HY.out];exact he))
   have hbox:wr.heap.size < w1.heap.size:=RA.out.lt;by_cases hs0:y.x < -2
   ·have HF:Hid (hoodOk l=false):=hfalse.out (decide_eq_false (by unfold radius;omega));have hd0:decide (y.x < -2)=true:=by simpa using hs0
    clear RA;refine wp_region_held_drew (S:=fun w'=>w'.cell? ⟨wr.heap.size,0,none⟩=some (.int .i64 y.x)∧w'.cell? ⟨wr.heap.size,1,none⟩=some (.int .i64 y.y)) (by kernel_rfl) (by (try dsimp only);exact HS _ (by first | exact below_on2 HN.out (by go_grown) | go_grown)) (fun hHeld=>?_);refine tW 0 ?_;go_simp;refine tW 1 ?_;go_simp;refine tW 2 ?_;go_simp;refine tW 3 ?_;go_simp;refine tU 4 ?_;go_simp;refine tU 5 ?_;go_simp;refine tU 6 ?_;go_simp;refine tW 7 ?_;go_simp;refine tW 8 ?_;go_simp;refine tU 9 ?_;go_simp;refine tU 10 ?_;go_simp;refine tU 11 ?_;go_simp;refine tW 12 ?_;go_simp;refine tW 13 ?_;go_simp;refine tU 14 ?_;go_simp;refine tU 15 ?_;go_simp;refine tU 16 ?_;go_simp;refine tW 17 ?_;go_simp;refine tW 18 ?_;go_simp;refine tU 19 ?_;go_simp;refine tU 20 ?_;go_simp;refine tU 21 ?_;go_simp;refine tU 22 ?_;go_simp;refine tU 23 ?_;go_simp;refine tU 24 ?_;go_simp;refine tU 25 ?_;go_simp;refine tU 26 ?_;go_simp;refine tU 27 ?_;go_simp;refine tU 28 ?_;go_simp;refine tU 29 ?_;go_simp;refine tU 30 ?_;go_simp;refine tW 31 ?_;go_simp;refine wpAnyH_done (by kernel_rfl) ?_ _;go_wp2;go_ret;exact ⟨ret_bool HF.out.symm,below_on HB.out HN.out (by go_grown)⟩
   have hd0:decide (y.x < -2)=false:=by simpa using hs0
   by_cases hs1:2 < y.x
   ·have HF:Hid (hoodOk l=false):=hfalse.out (decide_eq_false (by unfold radius;omega));have hd1:decide (2 < y.x)=true:=by simpa using hs1
    clear RA;refine wp_region_held_drew (S:=fun w'=>w'.cell? ⟨wr.heap.size,0,none⟩=some (.int .i64 y.x)∧w'.cell? ⟨wr.heap.size,1,none⟩=some (.int .i64 y.y)) (by kernel_rfl) (by (try dsimp only);exact HS _ (by first | exact below_on2 HN.out (by go_grown) | go_grown)) (fun hHeld=>?_);refine tW 0 ?_;go_simp;refine tW 1 ?_;go_simp;refine tW 2 ?_;go_simp;refine tW 3 ?_;go_simp;refine tW 4 ?_;go_simp;refine tW 5 ?_;go_simp;refine tW 6 ?_;go_simp;refine tW 7 ?_;go_simp;refine tW 8 ?_;go_simp;refine tU 9 ?_;go_simp;refine tU 10 ?_;go_simp;refine tU 11 ?_;go_simp;refine tW 12 ?_;go_simp;refine tW 13 ?_;go_simp;refine tU 14 ?_;go_simp;refine tU 15 ?_;go_simp;refine tU 16 ?_;go_simp;refine tW 17 ?_;go_simp;refine tW 18 ?_;go_simp;refine tU 19 ?_;go_simp;refine tU 20 ?_;go_simp;refine tU 21 ?_;go_simp;refine tU 22 ?_;go_simp;refine tU 23 ?_;go_simp;refine tU 24 ?_;go_simp;refine tU 25 ?_;go_simp;refine tU 26 ?_;go_simp;refine tU 27 ?_;go_simp;refine tU 28 ?_;go_simp;refine tU 29 ?_;go_simp;refine tU 30 ?_;go_simp;refine tW 31 ?_;go_simp;refine wpAnyH_done (by kernel_rfl) ?_ _;go_wp2;go_ret;exact ⟨ret_bool HF.out.symm,below_on HB.out HN.out (by go_grown)⟩
   have hd1:decide (2 < y.x)=false:=by simpa using hs1
   by_cases hs2:y.y < -2
   ·have HF:Hid (hoodOk l=false):=hfalse.out (decide_eq_false (by unfold radius;omega));have hd2:decide (y.y < -2)=true:=by simpa using hs2
    clear RA;refine wp_region_held_drew (S:=fun w'=>w'.cell? ⟨wr.heap.size,0,none⟩=some (.int .i64 y.x)∧w'.cell? ⟨wr.heap.size,1,none⟩=some (.int .i64 y.y)) (by kernel_rfl) (by (try dsimp only);exact HS _ (by first | exact below_on2 HN.out (by go_grown) | go_grown)) (fun hHeld=>?_);refine tW 0 ?_;go_simp;refine tW 1 ?_;go_simp;refine tW 2 ?_;go_simp;refine tW 3 ?_;go_simp;refine tW 4 ?_;go_simp;refine tW 5 ?_;go_simp;refine tW 6 ?_;go_simp;refine tW 7 ?_;go_simp;refine tW 8 ?_;go_simp;refine tW 9 ?_;go_simp;refine tW 10 ?_;go_simp;refine tW 11 ?_;go_simp;refine tW 12 ?_;go_simp;refine tW 13 ?_;go_simp;refine tU 14 ?_;go_simp;refine tU 15 ?_;go_simp;refine tU 16 ?_;go_simp;refine tW 17 ?_;go_simp;refine tW 18 ?_;go_simp;refine tU 19 ?_;go_simp;refine tU 20 ?_;go_simp;refine tU 21 ?_;go_simp;refine tU 22 ?_;go_simp;refine tU 23 ?_;go_simp;refine tU 24 ?_;go_simp;refine tU 25 ?_;go_simp;refine tU 26 ?_;go_simp;refine tU 27 ?_;go_simp;refine tU 28 ?_;go_simp;refine tU 29 ?_;go_simp;refine tU 30 ?_;go_simp;refine tW 31 ?_;go_simp;refine wpAnyH_done (by kernel_rfl) ?_ _;go_wp2;go_ret;exact ⟨ret_bool HF.out.symm,below_on HB.out HN.out (by go_grown)⟩
   have hd2:decide (y.y < -2)=false:=by simpa using hs2
   by_cases hs3:2 < y.y
   ·have HF:Hid (hoodOk l=false):=hfalse.out (decide_eq_false (by unfold radius;omega));have hd3:decide (2 < y.y)=true:=by simpa using hs3
    clear RA;refine wp_region_held_drew (S:=fun w'=>w'.cell? ⟨wr.heap.size,0,none⟩=some (.int .i64 y.x)∧w'.cell? ⟨wr.heap.size,1,none⟩=some (.int .i64 y.y)) (by kernel_rfl) (by (try dsimp only);exact HS _ (by first | exact below_on2 HN.out (by go_grown) | go_grown)) (fun hHeld=>?_);refine tW 0 ?_;go_simp;refine tW 1 ?_;go_simp;refine tW 2 ?_;go_simp;refine tW 3 ?_;go_simp;refine tW 4 ?_;go_simp;refine tW 5 ?_;go_simp;refine tW 6 ?_;go_simp;refine tW 7 ?_;go_simp;refine tW 8 ?_;go_simp;refine tW 9 ?_;go_simp;refine tW 10 ?_;go_simp;refine tW 11 ?_;go_simp;refine tW 12 ?_;go_simp;refine tW 13 ?_;go_simp;refine tW 14 ?_;go_simp;refine tW 15 ?_;go_simp;refine tW 16 ?_;go_simp;refine tW 17 ?_;go_simp;refine tW 18 ?_;go_simp;refine tU 19 ?_;go_simp;refine tU 20 ?_;go_simp;refine tU 21 ?_;go_simp;refine tU 22 ?_;go_simp;refine tU 23 ?_;go_simp;refine tU 24 ?_;go_simp;refine tU 25 ?_;go_simp;refine tU 26 ?_;go_simp;refine tU 27 ?_;go_simp;refine tU 28 ?_;go_simp;refine tU 29 ?_;go_simp;refine tU 30 ?_;go_simp;refine tW 31 ?_;go_simp;refine wpAnyH_done (by kernel_rfl) ?_ _;go_wp2;go_ret;exact ⟨ret_bool HF.out.symm,below_on HB.out HN.out (by go_grown)⟩
   have hd3:decide (2 < y.y)=false:=by simpa using hs3
   have HC:Hid (ptOk y=true):=decide_eq_true (by unfold radius;omega);by_cases hk0:kk=0
   ·subst hk0
    have HG:Hid (ptOk y=true∧(0=0∨beforeP (l.getD (0 - 1) default) y=true)):=⟨HC.out,.inl rfl⟩
    clear RA;refine wp_region_held_drew (S:=fun w'=>w'.cell? ⟨wr.heap.size,0,none⟩=some (.int .i64 y.x)∧w'.cell? ⟨wr.heap.size,1,none⟩=some (.int .i64 y.y)) (by kernel_rfl) (by (try dsimp only);exact HS _ (by first | exact below_on2 HN.out (by go_grown) | go_grown)) (fun hHeld=>?_);refine tW 0 ?_;go_simp;refine tW 1 ?_;go_simp;refine tW 2 ?_;go_simp;refine tW 3 ?_;go_simp;refine tW 4 ?_;go_simp;refine tW 5 ?_;go_simp;refine tW 6 ?_;go_simp;refine tW 7 ?_;go_simp;refine tW 8 ?_;go_simp;refine tW 9 ?_;go_simp;refine tW 10 ?_;go_simp;refine tW 11 ?_;go_simp;refine tW 12 ?_;go_simp;refine tW 13 ?_;go_simp;refine tW 14 ?_;go_simp;refine tW 15 ?_;go_simp;refine tW 16 ?_;go_simp;refine tW 17 ?_;go_simp;refine tW 18 ?_;go_simp;refine tW 19 ?_;go_simp;refine tW 20 ?_;go_simp;refine tW 21 ?_;go_simp;refine tU 22 ?_;go_simp;refine tU 23 ?_;go_simp;refine tU 24 ?_;go_simp;refine tU 25 ?_;go_simp;refine tU 26 ?_;go_simp;refine tU 27 ?_;go_simp;refine tU 28 ?_;go_simp;refine tU 29 ?_;go_simp;refine tW 30 ?_;go_simp;refine tW 31 ?_;go_simp;refine wpAnyH_done (by kernel_rfl) ?_ _;go_wp2;go_roundg (n - (0+1))
    case measure=>omega
    case rel=>
     refine ⟨0+1,by omega,by omega,by go_num,(show Below _ _ _ from below_on HB.out HN.out (by go_grown)),(show Aside _ from fun i hi=>?_)⟩;by_cases e:i=0
     ·subst e;exact ⟨by rw [HY.out];exact HC.out,.inl rfl⟩
     ·exact AA.out i (by omega)
   ·obtain ⟨j,rfl⟩:∃ j,kk=j+1:=⟨kk - 1,by omega⟩
    obtain ⟨ad',e',hb2,g0,g1⟩:=hood_row (H.out.up BW.out) (show j < n by omega)
    cases e'
    generalize hq:l.getD j default=q at g0 g1;have HQ:=hiD hq;clear hq;have hbw:Below wr.heap.size wr w1:=HW.out
    have HS:∀ w',Below w1.heap.size w1 w'→w'.cell? ⟨wr.heap.size,0,none⟩=some (.int .i64 y.x)∧w'.cell? ⟨wr.heap.size,1,none⟩=some (.int .i64 y.y)∧w'.cell? (ad.add (j * 2))=some (.int .i64 q.x)∧w'.cell? ⟨(ad.add (j * 2)).block,(ad.add (j * 2)).off+1,none⟩=some (.int .i64 q.y):=fun w' hw=>⟨(rowCells RA.out hw).cell 0,(rowCells RA.out hw).cell 1,((hbw.trans (hw.mono hbw.size)).cell (by rw [add_block];exact hb)).trans g0,((hbw.trans (hw.mono hbw.size)).cell (p:=⟨(ad.add (j * 2)).block,(ad.add (j * 2)).off+1,none⟩) (by show (ad.add (j * 2)).block < _;rw [add_block];exact hb)).trans g1⟩
    have hj0:(0:Int) < (j:Int)+1:=by omega
    have hjn:(j:Int) < (n:Int):=by omega
    have hj1:(0:Int)≤(j:Int):=by omega
    have hwj:IntKind.i64.wrap (j:Int)=(j:Int):=IntWalk.i64_in _ (by omega)
    cases hbe:beforeP q y
    ·have HF:Hid (hoodOk l=false):=hood_false_at l (j+1) (by rw [HL.out];exact hlt) (.inr ⟨by omega,by rw [HY.out,Nat.add_sub_cancel,HQ.out];exact hbe⟩);have hd3:decide (0≤orderP q y)=true:=by rw [orderP_lt,hbe];rfl
     generalize ho:orderP q y=o at hd3;have HO:=hiD ho;clear ho RA g0 g1;refine wp_region_held_drew (S:=fun w'=>w'.cell? ⟨wr.heap.size,0,none⟩=some (.int .i64 y.x)∧w'.cell? ⟨wr.heap.size,1,none⟩=some (.int .i64 y.y)∧w'.cell? (ad.add (j * 2))=some (.int .i64 q.x)∧w'.cell? ⟨(ad.add (j * 2)).block,(ad.add (j * 2)).off+1,none⟩=some (.int .i64 q.y)) (by kernel_rfl) (by (try dsimp only);exact HS _ (by first | exact below_on2 HN.out (by go_grown) | go_grown)) (fun hHeld=>?_);refine tW 0 ?_;go_simp;refine tW 1 ?_;go_simp;refine tW 2 ?_;go_simp;refine tW 3 ?_;go_simp;refine tW 4 ?_;go_simp;refine tW 5 ?_;go_simp;refine tW 6 ?_;go_simp;refine tW 7 ?_;go_simp;refine tW 8 ?_;go_simp;refine tW 9 ?_;go_simp;refine tW 10 ?_;go_simp;refine tW 11 ?_;go_simp;refine tW 12 ?_;go_simp;refine tW 13 ?_;go_simp;refine tW 14 ?_;go_simp;refine tW 15 ?_;go_simp;refine tW 16 ?_;go_simp;refine tW 17 ?_;go_simp;refine tW 18 ?_;go_simp;refine tW 19 ?_;go_simp;refine tW 20 ?_;go_simp;refine tW 21 ?_;go_simp;refine tW 22 ?_;go_simp;refine tW 23 ?_;go_simp;refine tW 24 ?_;go_simp;refine tW 25 ?_;go_simp;refine tW 26 ?_;go_simp;refine tW 27 ?_;go_simp;refine wpAnyH_ready (rs:=[28]) (by kernel_rfl) (by simp) ?_;refine AllReadyH.cons rfl (fun K hK=>?_) AllReadyH.nil;go_simp
     go_at_call 125
     refine (pointCompare_any q.x q.y y.x y.y _).mono ?_;rw [show (if cmpI q.y y.y≠0 then cmpI q.y y.y else cmpI q.x y.x)=o from HO.out];rintro e w7 ⟨rfl,hb⟩
     have HN:=(show Hid (Below w1.heap.size w1 w7) from below_on HN.out (by go_grown) hb)
     clear hb;refine hK.out _ _ ?_ (fun hHeld=>?_)
     ·(try dsimp only);exact HS _ (by first | exact below_on2 HN.out (by go_grown) | go_grown)
     clear hK K
     try go_simp
     refine tW 29 ?_;go_simp;refine tW 30 ?_;go_simp;refine tW 31 ?_;go_simp;refine wpAnyH_done (by kernel_rfl) ?_ _;go_wp2;go_ret;exact ⟨ret_bool HF.out.symm,below_on HB.out HN.out (by go_grown)⟩
    ·have HG:Hid (ptOk y=true∧(j+1=0∨beforeP (l.getD (j+1 - 1) default) y=true)):=⟨HC.out,.inr (by rw [Nat.add_sub_cancel,HQ.out];exact hbe)⟩
     have hd3:decide (0≤orderP q y)=false:=by rw [orderP_lt,hbe];rfl
     generalize ho:orderP q y=o at hd3;have HO:=hiD ho;clear ho RA g0 g1;refine wp_region_held_drew (S:=fun w'=>w'.cell? ⟨wr.heap.size,0,none⟩=some (.int .i64 y.x)∧w'.cell? ⟨wr.heap.size,1,none⟩=some (.int .i64 y.y)∧w'.cell? (ad.add (j * 2))=some (.int .i64 q.x)∧w'.cell? ⟨(ad.add (j * 2)).block,(ad.add (j * 2)).off+1,none⟩=some (.int .i64 q.y)) (by kernel_rfl) (by (try dsimp only);exact HS _ (by first | exact below_on2 HN.out (by go_grown) | go_grown)) (fun hHeld=>?_);refine tW 0 ?_;go_simp;refine tW 1 ?_;go_simp;refine tW 2 ?_;go_simp;refine tW 3 ?_;go_simp;refine tW 4 ?_;go_simp;refine tW 5 ?_;go_simp;refine tW 6 ?_;go_simp;refine tW 7 ?_;go_simp;refine tW 8 ?_;go_simp;refine tW 9 ?_;go_simp;refine tW 10 ?_;go_simp;refine tW 11 ?_;go_simp;refine tW 12 ?_;go_simp;refine tW 13 ?_;go_simp;refine tW 14 ?_;go_simp;refine tW 15 ?_;go_simp;refine tW 16 ?_;go_simp;refine tW 17 ?_;go_simp;refine tW 18 ?_;go_simp;refine tW 19 ?_;go_simp;refine tW 20 ?_;go_simp;refine tW 21 ?_;go_simp;refine tW 22 ?_;go_simp;refine tW 23 ?_;go_simp;refine tW 24 ?_;go_simp;refine tW 25 ?_;go_simp;refine tW 26 ?_;go_simp;refine tW 27 ?_;go_simp;refine wpAnyH_ready (rs:=[28]) (by kernel_rfl) (by simp) ?_;refine AllReadyH.cons rfl (fun K hK=>?_) AllReadyH.nil;go_simp
     go_at_call 125
     refine (pointCompare_any q.x q.y y.x y.y _).mono ?_;rw [show (if cmpI q.y y.y≠0 then cmpI q.y y.y else cmpI q.x y.x)=o from HO.out];rintro e w7 ⟨rfl,hb⟩
     have HN:=(show Hid (Below w1.heap.size w1 w7) from below_on HN.out (by go_grown) hb)
     clear hb;refine hK.out _ _ ?_ (fun hHeld=>?_)
     ·(try dsimp only);exact HS _ (by first | exact below_on2 HN.out (by go_grown) | go_grown)
     clear hK K
     try go_simp
     refine tW 29 ?_;go_simp;refine tW 30 ?_;go_simp;refine tW 31 ?_;go_simp;refine wpAnyH_done (by kernel_rfl) ?_ _;go_wp2;go_roundg (n - (j+1+1))
     case measure=>omega
     case rel=>
      refine ⟨j+1+1,by omega,by omega,by go_num,(show Below _ _ _ from below_on HB.out HN.out (by go_grown)),(show Aside _ from fun i hi=>?_)⟩;by_cases e:i=j+1
      ·subst e;rw [HY.out];exact HG.out
      ·exact AA.out i (by omega)
  ·have hltz:¬ (kk:Int) < (n:Int):=by omega
   obtain rfl:kk=n:=by omega
   go_wp2;go_ret;refine ⟨ret_bool ?_,BW.out⟩;rw [hood_true_all l (by rw [HL.out];exact HN25.out) (fun k hk=>AA.out k (by rw [HL.out] at hk;exact hk))]
end Go.Proofs.YtbijfnbelkbofaaGreatDoor
namespace Go.Proofs.YtbijfnbelkbofaaGreatDoor
open Go.RowKit
section
variable {P:Program} {ops:Array Oper} {Q:Exit→Act→World→Prop} {md:Region.Mode} {S:World→Prop} {W:List Nat}
end
end Go.Proofs.YtbijfnbelkbofaaGreatDoor
