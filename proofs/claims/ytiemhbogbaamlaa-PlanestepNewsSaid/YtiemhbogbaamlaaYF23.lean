/-
 A part.
-/
import Derived.Test.YtiemhbogbaamlaaYF22
import Derived.StillTailTactics
import Derived.BigRegion
import Derived.Test.YtiemhbogbaamlaaYF1
import Derived.Test.YtiemhbogbaamlaaYF7
set_option linter.unusedSimpArgs false
set_option linter.unusedVariables false
namespace Go.Proofs.Ytiemhbogbaamlaa
open Go.RowKit
def UPost (r:Grd) (k:Int) (w:World) (e:Ending) (w':World):Prop:=
 ∃ (A:Option Addr) (n c:Nat),e=.returned (.tuple #[.agg #[.int .i64 r.w,.int .i64 r.h,.int .i64 r.edge,.slice A n c],.int .i64 k])∧GAt w' r A n∧Below w.heap.size w w'
theorem upost_err {r:Grd} {k k':Int} {w w':World} (hr:r=noGrd) (hk:k'=k) (hb:Below w.heap.size w w'):UPost r k' w (.returned (.tuple #[.agg #[.int .i64 0,.int .i64 0,.int .i64 0,.slice none 0 0],.int .i64 k])) w':=by
 subst hr hk
 exact ⟨none,0,0,rfl,noGrd_at _,hb⟩
def upTo (W:Nat) (ws:List (List (BitVec 64))) (cnt i b:Nat):List Int:=
 (List.range cnt).map (fun j=>if j < i then stateTo (wpr W) ws (j % W) (j / W) ws.length else if j=i then stateTo (wpr W) ws (j % W) (j / W) b else 0)
theorem upTo_length (W:Nat) (ws:List (List (BitVec 64))) (cnt i b:Nat):(upTo W ws cnt i b).length=cnt:=by simp [upTo]
theorem upTo_zero (W:Nat) (ws:List (List (BitVec 64))) (cnt:Nat):upTo W ws cnt 0 0=zeros cnt:=by
 unfold upTo zeros
 apply List.ext_getElem (by simp)
 intro j h1 h2
 simp [stateTo]
theorem upTo_next (W:Nat) (ws:List (List (BitVec 64))) (cnt i:Nat):upTo W ws cnt i ws.length=upTo W ws cnt (i+1) 0:=by
 unfold upTo
 apply List.map_congr_left
 intro j _
 by_cases h1:j < i
 ·rw [if_pos h1,if_pos (by omega)]
 ·by_cases h2:j=i
  ·rw [if_neg h1,if_pos h2,if_pos (by omega)]
  ·rw [if_neg h1,if_neg h2,if_neg (by omega)]
   split <;> rfl
theorem upTo_at (W:Nat) (ws:List (List (BitVec 64))) (cnt i b:Nat) (hi:i < cnt):(upTo W ws cnt i b).getD i 0=stateTo (wpr W) ws (i % W) (i / W) b:=by
 unfold upTo
 rw [List.getD_eq_getElem?_getD,List.getElem?_map,List.getElem?_range hi]
 simp
theorem upTo_get (W:Nat) (ws:List (List (BitVec 64))) (cnt i b j:Nat) (h:j < (upTo W ws cnt i b).length):(upTo W ws cnt i b)[j]=if j < i then stateTo (wpr W) ws (j % W) (j / W) ws.length else if j=i then stateTo (wpr W) ws (j % W) (j / W) b else 0:=by
 simp [upTo]
theorem upTo_set (W:Nat) (ws:List (List (BitVec 64))) (cnt i b b':Nat) (hi:i < cnt):(upTo W ws cnt i b).set i (stateTo (wpr W) ws (i % W) (i / W) b')=upTo W ws cnt i b':=by
 apply List.ext_getElem (by rw [List.length_set,upTo_length,upTo_length])
 intro j h1 h2
 rw [List.getElem_set,upTo_get,upTo_get]
 by_cases h:i=j
 ·subst h;simp
 ·have h':¬ j=i:=fun e=>h e.symm
  simp [h,h']
theorem ints_setv (zs:List Int) (k:Nat) (z:Int):(ints zs).set k (.int .i64 z)=ints (zs.set k z):=by simp [ints,List.map_set]
theorem upTo_all (W:Nat) (ws:List (List (BitVec 64))) (cnt b:Nat):upTo W ws cnt cnt b=(List.range cnt).map (fun j=>stateTo (wpr W) ws (j % W) (j / W) ws.length):=by
 unfold upTo
 apply List.map_congr_left
 intro j hj
 rw [if_pos (List.mem_range.1 hj)]
theorem or_state (b:Nat) (z:Int) (t:Int) (hb:b < 3) (h0:0≤z) (h1:z < 2 ^ b) (ht:t=0∨t=1):bits .or .i64 z (t * 2 ^ b)=z+t * 2 ^ b:=by
 have hc:b=0∨b=1∨b=2:=by omega
 rcases hc with rfl | rfl | rfl
 ·obtain rfl:z=0:=by omega
  rcases ht with rfl | rfl <;> decide
 ·have hz:z=0∨z=1:=by omega
  rcases hz with rfl | rfl <;> rcases ht with rfl | rfl <;> decide
 ·have hz:z=0∨z=1∨z=2∨z=3:=by omega
  rcases hz with rfl | rfl | rfl | rfl <;> rcases ht with rfl | rfl <;> decide
theorem shl_state (b:Nat) (t:Int) (hb:b < 3) (ht:t=0∨t=1):wrap64 (wrap64 t * 2 ^ b)=t * 2 ^ b:=by
 have hc:b=0∨b=1∨b=2:=by omega
 rcases hc with rfl | rfl | rfl <;> rcases ht with rfl | rfl <;> first | decide | (simp [wrap64];done) | (unfold wrap64;omega)
theorem put_state (X b r:Nat) (v:Int) (z t u:Int) (hb:b < 3) (hr:r=X % 64) (hbit:bits .and .u64 (v / 2 ^ r) 1=t) (ht:t=0∨t=1) (h0:0≤z) (h1:z < 2 ^ b) (hu:u=z+t * 2 ^ b):
 bits .or .i64 z (wrap64 (wrap64 (bits .and .u64 (v / 2 ^ min (X % 64) 64) 1) * 2 ^ min b 64))=u:=by
 rw [show min (X % 64) 64=r by omega,show min b 64=b by omega,hbit,shl_state b t hb ht,hu]
 exact or_state b z t hb h0 h1 ht
theorem put4 {w wr:World} {b B:Nat} {T:TypeId} {u0 u1 u2 u3:Value} (v0 v1 v2 v3:Value) (h:Row wr b T [u0,u1,u2,u3]) (hB:B≤b) (hb:Below B w wr):
 Below B w ((((wr.setCell ⟨b,0,none⟩ v0).setCell ⟨b,1,none⟩ v1).setCell ⟨b,2,none⟩ v2).setCell ⟨b,3,none⟩ v3) ∧
 Row ((((wr.setCell ⟨b,0,none⟩ v0).setCell ⟨b,1,none⟩ v1).setCell ⟨b,2,none⟩ v2).setCell ⟨b,3,none⟩ v3) b T [v0,v1,v2,v3] ∧
 ∀ (g:Nat) (S:TypeId) (xs:List Value),g≠b→Row wr g S xs→Row ((((wr.setCell ⟨b,0,none⟩ v0).setCell ⟨b,1,none⟩ v1).setCell ⟨b,2,none⟩ v2).setCell ⟨b,3,none⟩ v3) g S xs:=by
 refine ⟨?_,?_,?_⟩
 ·exact (((hb.setCell (p:=⟨b,0,none⟩) hB v0).setCell (p:=⟨b,1,none⟩) hB v1).setCell (p:=⟨b,2,none⟩) hB v2).setCell (p:=⟨b,3,none⟩) hB v3
 ·exact (((h.set 0 v0).set 1 v1).set 2 v2).set 3 v3
 ·intro g S xs hg hr
  exact (((hr.far (p:=⟨b,0,none⟩) hg v0).far (p:=⟨b,1,none⟩) hg v1).far (p:=⟨b,2,none⟩) hg v2).far (p:=⟨b,3,none⟩) hg v3
set_option maxRecDepth 100000 in
set_option maxHeartbeats 4000000 in
theorem plUnpack_any (p:Pln) (A:Option Addr) (n c:Nat) (sl:List Sl) (w:World) (h:PAt w p A n sl):
 Calls Try.prog 26 #[.agg #[.int .i64 p.w,.int .i64 p.h,.int .i64 p.edge,.slice A n c]] w (UPost (unpackR p) (unpackErr p) w):=by
 have H:=hiD h
 have HWL:Hid (p.words.length=n):=h.wl
 have hm:=h.n63
 unfold maxLen at hm
 clear h
 cases hr:rightPl p
 ·have HR:=hiD hr
  have HCE:Hid (unpackR p=noGrd∧unpackErr p=2):=⟨by unfold unpackR;rw [hr];rfl,by unfold unpackErr;rw [hr];rfl⟩
  clear hr
  go_enter Try.func26,Try.ntmps26
  go_wp2_with fail
  refine (plRight_any p A n c sl _ (H.out.up (by go_grown))).mono ?_
  rw [HR.out]
  rintro e w1 ⟨rfl,hb⟩
  have HB:Hid (Below w.heap.size w w1):=below_next hb (by go_grown)
  have RZ:Hid (Row w1 (w.heap.size+1) 54 [.int .i64 0,.int .i64 0,.int .i64 0,.slice none 0 0]):=rowCells (rowNew1 w _ 54 [.int .i64 0,.int .i64 0,.int .i64 0,.slice none 0 0]) hb
  clear hb
  obtain ⟨d0,d1,d2,d3,dl⟩:=RZ.out.cells4
  obtain ⟨f0,f1,f2,f3⟩:=RZ.out.froz4
  have BB:=HB.out
  go_wp2
  exact bodyPost_ret (v:=.tuple #[.agg #[.int .i64 0,.int .i64 0,.int .i64 0,.slice none 0 0],.int .i64 2]) (by simp [results,Try.results26,go_sem,d0,d1,d2,d3]) rfl (upost_err HCE.out.1 HCE.out.2 (by go_grown))
 have HR:=hiD hr
 have HCE:Hid (unpackR p=unpackG p∧unpackErr p=0):=⟨by unfold unpackR;rw [hr];rfl,by unfold unpackErr;rw [hr];rfl⟩
 obtain ⟨hs,⟨hn1,hn3⟩,hpl0⟩:=rightPl_parts hr
 have HSZ:=hiD hs
 obtain ⟨⟨s1,s2⟩,⟨s3,s4⟩,s5,_⟩:=sizedF_parts hs
 obtain ⟨W,hW⟩:∃ W:Nat,p.w=(W:Int):=⟨p.w.toNat,by omega⟩
 obtain ⟨Hh,hH⟩:∃ Hh:Nat,p.h=(Hh:Int):=⟨p.h.toNat,by omega⟩
 have HW:=hiD hW
 have HH:=hiD hH
 rw [hW,hH,Int.toNat_natCast,Int.toNat_natCast] at hpl0
 have hW1:1≤W∧W≤256:=by omega
 have hH1:1≤Hh∧Hh≤256:=by omega
 obtain ⟨w1',w2',w3'⟩:=wpr_bd hW1.1
 have HPL:Hid (∀ b,b < p.words.length→(p.words.getD b []).length=Hh * wpr W):=fun b hb=>(planeOk_parts (hpl0 b hb)).1
 obtain ⟨nn,hnn⟩:∃ nn,nn=wpr W:=⟨_,rfl⟩
 have HNN:Hid (wpr W=nn):=hnn.symm
 rw [← hnn] at w1' w2' w3'
 have hn4:nn≤4:=by omega
 rw [HWL.out] at hn1 hn3
 obtain ⟨cnt,hcnt⟩:∃ cnt,cnt=Hh * W:=⟨_,rfl⟩
 have hcz:(p.w * p.h).toNat=cnt:=by rw [hW,hH,hcnt,← Int.natCast_mul,Int.toNat_natCast,Nat.mul_comm]
 have hcb:cnt≤4096:=by
  have h9:((W * Hh:Nat):Int)≤4096:=by rw [Int.natCast_mul,← hW,← hH];exact s5
  rw [hcnt,Nat.mul_comm];omega
 have HCNT:=hiD hcnt
 clear hr hs s1 s2 s3 s4 s5 hW hH hnn hpl0 hcnt
 go_enter Try.func26,Try.ntmps26
 go_wp2_with fail
 refine (plRight_any p A n c sl _ (H.out.up (by go_grown))).mono ?_
 rw [HR.out]
 rintro e w1 ⟨rfl,hb⟩
 have HB:Hid (Below w.heap.size w w1):=below_next hb (by go_grown)
 have RA:Hid (Row w1 w.heap.size 42 [.int .i64 p.w,.int .i64 p.h,.int .i64 p.edge,.slice A n c]):=rowCells ((Row.new w 42 [.int .i64 p.w,.int .i64 p.h,.int .i64 p.edge,.slice A n c]).alloc _) hb
 have RZ:Hid (Row w1 (w.heap.size+1) 54 [.int .i64 0,.int .i64 0,.int .i64 0,.slice none 0 0]):=rowCells (rowNew1 w _ 54 [.int .i64 0,.int .i64 0,.int .i64 0,.slice none 0 0]) hb
 clear hb
 obtain ⟨k0,k1,k2,k3,kl⟩:=RA.out.cells4
 go_wp2_with fail
 refine (gNew_any p.w p.h p.edge _).mono ?_
 rintro e w2 h1
 rcases h1 with ⟨h2,_⟩ | ⟨_,g,rfl,hrow,hg,hb⟩
 ·rw [HSZ.out] at h2;cases h2
 rw [hcz] at hrow ⊢
 have HG:=hiD hg
 have HB2:=hiD hb
 have RG:Hid (Row w2 g 3 (ints (upTo W p.words cnt 0 0))):=(by show Row _ _ _ _;rw [upTo_zero];exact hrow)
 have RA:=(show Hid (Row w2 _ _ _) from rowCells RA.out hb)
 clear hb hrow hg hcz k0 k1 k2 k3 kl
 rw [HW.out,HH.out] at RA
 rw [HW.out,HH.out]
 obtain ⟨k0,k1,k2,k3,kl⟩:=RA.out.cells4
 go_wp2_with fail
 refine (words_any W _ (by omega)).mono ?_
 rw [HNN.out]
 rintro e w3 ⟨rfl,rfl⟩
 go_wp2
 have RX:Hid (Row (World.alloc w2 _) w2.heap.size 54 [.int .i64 W,.int .i64 Hh,.int .i64 p.edge,.slice (some ⟨g,0,none⟩) cnt cnt]):=Row.new w2 54 [.int .i64 W,.int .i64 Hh,.int .i64 p.edge,.slice (some ⟨g,0,none⟩) cnt cnt]
 have RG1:Hid (Row (World.alloc w2 (.cells #[.int .i64 W,.int .i64 Hh,.int .i64 p.edge,.slice (some ⟨g,0,none⟩) cnt cnt] 54)) g 3 (ints (upTo W p.words cnt 0 0))):=RG.out.alloc _
 have HB3:Hid (Below w1.heap.size w1 (World.alloc w2 (.cells #[.int .i64 W,.int .i64 Hh,.int .i64 p.edge,.slice (some ⟨g,0,none⟩) cnt cnt] 54))):=below_on2 HB2.out (by go_grown)
 have hgb:w1.heap.size≤w2.heap.size:=HB2.out.size
 have HGB:Hid (g < w2.heap.size):=RG.out.lt
 clear k0 k1 k2 k3 kl RG RA HB2
 revert RX RG1 HB3 hgb HGB
 generalize World.alloc w2 (.cells #[.int .i64 W,.int .i64 Hh,.int .i64 p.edge,.slice (some ⟨g,0,none⟩) cnt cnt] 54)=w3
 generalize w2.heap.size=gb
 intro RX RG1 HB3 hgb HGB
 go_loopg [7,8,9,10,11,32] cnt (fun gg _ _ _ _ _ s32 wr=>∃ i:Nat,i≤cnt∧cnt - i≤gg∧s32=.int .i64 i∧Aside (Below w1.heap.size w1 wr)∧Aside (Row wr gb 54 [.int .i64 W,.int .i64 Hh,.int .i64 p.edge,.slice (some ⟨g,0,none⟩) cnt cnt])∧Aside (Row wr g 3 (ints (upTo W p.words cnt i 0))))
 case atStart=>exact ⟨0,Nat.zero_le _,by omega,rfl,HB3.out,RX.out,RG1.out⟩
 case round=>
  clear HB3 RX RG1
  obtain ⟨i,hi,hgg,rfl,BW,RX,RG⟩:=hrel
  have RAr:=hiD (rowCells RA.out BW.out)
  rw [HW.out,HH.out] at RAr
  have HBr:=hiD (below_on2 HB.out BW.out)
  obtain ⟨k0,k1,k2,k3,kl⟩:=RAr.out.cells4
  by_cases hlt:i < cnt
  ·have hltz:(i:Int) < (cnt:Int):=by omega
   obtain ⟨X,hX⟩:∃ X,X=i % W:=⟨_,rfl⟩
   obtain ⟨Y,hY⟩:∃ Y,Y=i / W:=⟨_,rfl⟩
   have hXz:(i:Int) % (W:Int)=(X:Int):=by rw [hX];simp
   have hYz:(i:Int) / (W:Int)=(Y:Int):=by rw [hY];simp
   have hXW:X < W:=by rw [hX];exact Nat.mod_lt _ (by omega)
   have hYH:Y < Hh:=by rw [hY];exact Nat.div_lt_of_lt_mul (by have:=HCNT.out;rw [Nat.mul_comm];omega)
   have HXY:Hid (i % W=X∧i / W=Y):=⟨hX.symm,hY.symm⟩
   have hWne:(W:Int)≠0:=by omega
   clear hX hY
   go_wp2_with fail
   go_quiet (fail)
   go_wp2
   rw [hXz]
   have BWo:=hiD (below_drewN BW.out nq)
   have RXo:Hid (Row (wr.drewN nq) gb 54 [.int .i64 W,.int .i64 Hh,.int .i64 p.edge,.slice (some ⟨g,0,none⟩) cnt cnt]):=RX.out
   have RGo:Hid (Row (wr.drewN nq) g 3 (ints (upTo W p.words cnt i 0))):=RG.out
   clear hXz hYz hWne k0 k1 k2 k3 kl BW RX RG RAr HBr
   revert BWo RXo RGo
   generalize wr.drewN nq=wo
   intro BWo RXo RGo
   go_loopg [10,11,46] n (fun gg _ _ s46 wi=>∃ b:Nat,b≤n∧n - b≤gg∧s46=.int .i64 b∧Aside (Below w1.heap.size w1 wi)∧Aside (Row wi gb 54 [.int .i64 W,.int .i64 Hh,.int .i64 p.edge,.slice (some ⟨g,0,none⟩) cnt cnt])∧Aside (Row wi g 3 (ints (upTo W p.words cnt i b))))
   case atStart=>exact ⟨0,Nat.zero_le _,by omega,rfl,BWo.out,RXo.out,RGo.out⟩
   case round=>
    clear BWo RXo RGo
    obtain ⟨b,hb,hgb2,rfl,BW,RX,RG⟩:=hrel
    by_cases hlb:b < n
    ·have hlbz:(b:Int) < (n:Int):=by omega
     have HBi:=hiD (below_on2 HB.out BW.out)
     obtain ⟨ad,rfl,hbl,hc,hrd,hlm,hle⟩:=(H.out.up HBi.out).row hlb
     have HLB:=HPL.out b (by rw [HWL.out];exact hlb)
     rw [HNN.out] at HLB
     generalize hll:p.words.getD b []=l at hrd hle HLB
     have HLL:=hiD hll
     generalize sl.getD b default=s at hc hrd hlm hle
     obtain ⟨sa,sn,sc⟩:=s
     dsimp only at hc hrd hlm hle
     unfold maxLen at hlm
     obtain ⟨q,hq⟩:∃ q,q=X / 64:=⟨_,rfl⟩
     obtain ⟨r,hr⟩:∃ r,r=X % 64:=⟨_,rfl⟩
     obtain ⟨m,hmm⟩:∃ m,m=Y * nn:=⟨_,rfl⟩
     have hqz:(X:Int) / 64=(q:Int):=by omega
     have hrz:(X:Int) % 64=(r:Int):=by omega
     have hr64:r < 64:=by omega
     have hmz:(Y:Int) * (nn:Int)=(m:Int):=by rw [hmm,Int.natCast_mul]
     have hqn:q < nn:=by omega
     have hmq:m+q < sn:=by rw [← hle,HLB,hmm];exact row_ltP hqn hYH
     have hmb:m≤1024:=by rw [hmm];exact Nat.mul_le_mul (show Y≤256 by omega) hn4
     have hw1:IntKind.i64.wrap (m:Int)=(m:Int):=IntWalk.i64_in _ (by omega)
     have hw2:IntKind.i64.wrap ((m:Int)+(q:Int))=(m:Int)+(q:Int):=IntWalk.i64_in _ (by omega)
     have hn2:((m:Int)+(q:Int)).toNat=m+q:=by omega
     have hw0:(0:Int)≤(m:Int)+(q:Int):=by omega
     have hw3:(m:Int)+(q:Int) < (sn:Int):=by omega
     obtain ⟨rd,rfl,hrb,hrc⟩:=hrd.word hmq
     unfold w64 at hrc
     have HBT:Hid (bitW (wpr W) (p.words.getD b []) X Y=(l.getD (m+q) 0#64).getLsbD r):=by show _=_;rw [HLL.out,HNN.out,bitW,hq,hr,hmm]
     have hbit:=w64_bit (l.getD (m+q) 0#64) r
     have HST:Hid (stateTo (wpr W) p.words X Y (b+1)=stateTo (wpr W) p.words X Y b+(if (l.getD (m+q) 0#64).getLsbD r=true then 1 else 0) * 2 ^ b):=by
      show _=_
      rw [stateTo,HBT.out]
      split <;> simp
     generalize l.getD (m+q) 0#64=v at hrc hbit HST HBT
     have ht:(if v.getLsbD r=true then (1:Int) else 0)=0∨(if v.getLsbD r=true then (1:Int) else 0)=1:=by split <;> simp
     generalize (if v.getLsbD r=true then (1:Int) else 0)=t at ht hbit HST
     have hsb:=stateTo_bd (wpr W) p.words X Y b
     have hg0:=upTo_at W p.words cnt i b hlt
     have hgc:=RG.out.cell i
     rw [ints_get _ i (by rw [upTo_length];exact hlt),hg0,HXY.out.1,HXY.out.2] at hgc
     generalize stateTo (wpr W) p.words X Y b=z at hgc hsb HST
     have hb3:b < 3:=by omega
     have hwq:IntKind.i64.wrap (q:Int)=(q:Int):=IntWalk.i64_in _ (by omega)
     have hwr:IntKind.i64.wrap (r:Int)=(r:Int):=IntWalk.i64_in _ (by omega)
     have HPUT:Hid (bits .or .i64 z (wrap64 (wrap64 (bits .and .u64 ((v.toNat:Int) / 2 ^ min (X % 64) 64) 1) * 2 ^ min b 64))=stateTo (wpr W) p.words X Y (b+1)):=put_state X b r _ z t _ hb3 hr hbit ht hsb.1 hsb.2 HST.out
     have ht0:0≤t:=by omega
     have ht1:t≤1:=by omega
     have hfr:=RG.out.frozen i
     have hgl:=RG.out.lt
     obtain ⟨e0,e1,e2,e3,el⟩:=RX.out.cells4
     clear hq hr hmm hll hle HLB hg0 ht
     go_wp2_with fail
     go_still_tail 25,(by kernel_rfl)
     change wpList _ _ _ _ _ wr.drew
     have BWd:Hid (Below w1.heap.size w1 wr.drew):=BW.out.drew
     have RXd:Hid (Row wr.drew gb 54 [.int .i64 W,.int .i64 Hh,.int .i64 p.edge,.slice (some ⟨g,0,none⟩) cnt cnt]):=RX.out
     have RGd:Hid (Row wr.drew g 3 (ints (upTo W p.words cnt i b))):=RG.out
     have hgc9:wr.drew.cell? ⟨g,i,none⟩=some (.int .i64 z):=hgc
     clear hgc hfr hgl e0 e1 e2 e3 el hrd hrc hrb hc hbl BW RX RG
     revert BWd RXd RGd hgc9
     generalize wr.drew=w9
     intro BWd RXd RGd hgc9
     have hfr:=RGd.out.frozen i
     have hgl:=RGd.out.lt
     go_wp2_with fail
     go_roundg (n - (b+1))
     case measure=>omega
     case rel=>
      rw [HPUT.out]
      have RS:=RGd.out.set i (.int .i64 (stateTo (wpr W) p.words X Y (b+1)))
      rw [ints_setv,← HXY.out.1,← HXY.out.2,upTo_set _ _ _ _ _ _ hlt,HXY.out.1,HXY.out.2] at RS
      exact ⟨b+1,by omega,by omega,by go_num,BWd.out.setCell (p:=⟨g,i,none⟩) HG.out _,RXd.out.far (p:=⟨g,i,none⟩) (by have:=HGB.out;show gb≠g;omega) _,RS⟩
    ·have hlbz:¬ (b:Int) < (n:Int):=by omega
     have e:upTo W p.words cnt i b=upTo W p.words cnt (i+1) 0:=by rw [show b=p.words.length by have:=HWL.out;omega];exact upTo_next W p.words cnt i
     rw [e] at RG
     go_wp2
     go_roundg (cnt - (i+1))
     case measure=>omega
     case rel=>exact ⟨i+1,by omega,by omega,by go_num,BW,RX,RG⟩
  ·have hltz:¬ (i:Int) < (cnt:Int):=by omega
   obtain rfl:i=cnt:=by omega
   have RZr:=hiD (rowCells RZ.out BW.out)
   obtain ⟨d0,d1,d2,d3,dl⟩:=RZr.out.cells4
   obtain ⟨f0,f1,f2,f3⟩:=RZr.out.froz4
   obtain ⟨e0,e1,e2,e3,el⟩:=RX.out.cells4
   go_wp2
   obtain ⟨hbl,RZ4,hfar⟩:=put4 (.int .i64 W) (.int .i64 Hh) (.int .i64 p.edge) (.slice (some ⟨g,0,none⟩) i i) RZr.out (Nat.le_succ w.heap.size) HBr.out
   have hne:g≠w.heap.size+1:=by have h1:=HG.out;have h2:=RZ.out.lt;omega
   have RGz:=hfar g _ _ hne RG
   have r0:=RZ4.cell 0
   have r1:=RZ4.cell 1
   have r2:=RZ4.cell 2
   have r3:=RZ4.cell 3
   clear hfar
   simp only [List.getElem?_cons_zero,List.getElem?_cons_succ] at r0 r1 r2 r3
   revert hbl RGz r0 r1 r2 r3 RZ4
   generalize World.setCell (World.setCell (World.setCell (World.setCell wr ⟨w.heap.size+1,0,none⟩ (.int .i64 W)) ⟨w.heap.size+1,1,none⟩ (.int .i64 Hh)) ⟨w.heap.size+1,2,none⟩ (.int .i64 p.edge)) ⟨w.heap.size+1,3,none⟩ (.slice (some ⟨g,0,none⟩) i i)=wz
   intro hbl RZ4 RGz r0 r1 r2 r3
   refine bodyPost_ret (v:=.tuple #[.agg #[.int .i64 W,.int .i64 Hh,.int .i64 p.edge,.slice (some ⟨g,0,none⟩) i i],.int .i64 0]) (by simp [results,Try.results26,go_sem,r0,r1,r2,r3]) rfl ?_
   rw [HCE.out.1,HCE.out.2]
   have hcl:upTo W p.words i i 0=cellsP p:=by
    rw [upTo_all]
    unfold cellsP
    rw [HW.out,HH.out,Int.toNat_natCast,Int.toNat_natCast,← HCNT.out]
   rw [hcl] at RGz
   have hl:(cellsP p).length=i:=by rw [← hcl,upTo_length]
   refine ⟨some ⟨g,0,none⟩,i,i,?_,⟨RGz.rd (by rw [ints_length,hl,Nat.mul_one]),by unfold maxLen;omega⟩,hbl⟩
   unfold unpackG
   rw [HW.out,HH.out]
end Go.Proofs.Ytiemhbogbaamlaa
/-
 A part.
-/
namespace Go.Proofs.Ytiemhbogbaamlaa
open Go.RowKit
theorem int_infoR:(Try.prog.info? 3).map (fun i=>(i.zero,i.size,i.bytes))=some (some (.int .i64 0),1,8):=by kernel_rfl
theorem put4own {wr:World} {b base sz n:Nat} {e T:TypeId} {v u0 u1 u2 u3:Value} {xs:List Value} (v0 v1 v2 v3:Value) (h:Row wr b T [u0,u1,u2,u3]) (ho:wr.ownsRow base e sz v n xs) (hne:e≠T):
 World.ownsRow ((((wr.setCell ⟨b,0,none⟩ v0).setCell ⟨b,1,none⟩ v1).setCell ⟨b,2,none⟩ v2).setCell ⟨b,3,none⟩ v3) base e sz v n xs:=
 own_set (p:=⟨b,3,none⟩) (own_set (p:=⟨b,2,none⟩) (own_set (p:=⟨b,1,none⟩) (own_set (p:=⟨b,0,none⟩) ho h hne v0) (h.set 0 v0) hne v1) ((h.set 0 v0).set 1 v1) hne v2) (((h.set 0 v0).set 1 v1).set 2 v2) hne v3
end Go.Proofs.Ytiemhbogbaamlaa
/-
 A part.
-/
namespace Go.Proofs.Ytiemhbogbaamlaa
open Go.RowKit
def IntsPost (l:List Int) (w:World) (e:Ending) (w':World):Prop:=∃ A n c,e=.returned (.slice A n c)∧Rd w' w'.heap.size 1 A n (ints l)∧n≤maxLen∧Below w.heap.size w w'
def bump (l:List Int) (i:Nat):List Int:=l.set i (l.getD i 0+1)
theorem bump_length (l:List Int) (i:Nat):(bump l i).length=l.length:=by simp [bump]
theorem bumpAt (l:List Int) (i:Nat):(ints l).set i (.int .i64 (l.getD i 0+1))=ints (bump l i):=by
 simp [ints,bump,List.map_set]
def countTo (N:Nat) (cs:List Int) (k:Nat):List Int:=(cs.take k).foldl (fun l s=>bump l s.toNat) (zeros N)
theorem countTo_zero (N:Nat) (cs:List Int):countTo N cs 0=zeros N:=rfl
theorem countTo_snoc (N:Nat) (cs:List Int) (k:Nat) (h:k < cs.length):countTo N cs (k+1)=bump (countTo N cs k) (cs.getD k 0).toNat:=by
 unfold countTo
 rw [List.take_add_one,List.getElem?_eq_getElem h,List.foldl_append,List.getD_eq_getElem?_getD,List.getElem?_eq_getElem h]
 rfl
theorem countTo_length (N:Nat) (cs:List Int) (k:Nat):(countTo N cs k).length=N:=by
 unfold countTo
 have:∀ (l:List Int) (ys:List Int),(ys.foldl (fun l s=>bump l s.toNat) l).length=l.length:=by
  intro l ys
  induction ys generalizing l with
  | nil=>rfl
  | cons y ys ih=>rw [List.foldl_cons,ih,bump_length]
 rw [this];simp [zeros]
theorem bump_get (l:List Int) (i j:Nat):(bump l i).getD j 0=l.getD j 0∨(bump l i).getD j 0=l.getD j 0+1:=by
 unfold bump
 rw [List.getD_eq_getElem?_getD,List.getElem?_set]
 split
 ·rename_i e
  subst e
  split
  ·right;rfl
  ·left;rw [List.getD_eq_getElem?_getD,List.getElem?_eq_none (by omega)]
 ·left;rw [List.getD_eq_getElem?_getD]
theorem countTo_bd (N:Nat) (cs:List Int) (k j:Nat) (h:k≤cs.length):0≤(countTo N cs k).getD j 0∧(countTo N cs k).getD j 0≤k:=by
 induction k with
 | zero=>
  rw [countTo_zero]
  have:(zeros N).getD j 0=0:=by unfold zeros;rw [List.getD_eq_getElem?_getD,List.getElem?_replicate];split <;> rfl
  omega
 | succ k ih=>
  have:=ih (by omega)
  rw [countTo_snoc N cs k (by omega)]
  rcases bump_get (countTo N cs k) (cs.getD k 0).toNat j with e | e <;> rw [e] <;> omega
def countF (p:Pln):List Int:=if rightPl p=true then countTo (2 ^ p.words.length) (cellsP p) (cellsP p).length else []
theorem cellsP_bd (p:Pln) (k:Nat):0≤(cellsP p).getD k 0∧(cellsP p).getD k 0 < 2 ^ p.words.length:=by
 have hp:(0:Int) < 2 ^ p.words.length:=Int.pow_pos (by omega)
 by_cases hk:k < p.h.toNat * p.w.toNat
 ·have:(cellsP p).getD k 0=stateTo (wpr p.w.toNat) p.words (k % p.w.toNat) (k / p.w.toNat) p.words.length:=by
   unfold cellsP
   rw [List.getD_eq_getElem?_getD,List.getElem?_map,List.getElem?_range hk];rfl
  rw [this]
  exact stateTo_bd _ _ _ _ _
 ·have:(cellsP p).getD k 0=0:=by
   rw [List.getD_eq_getElem?_getD,List.getElem?_eq_none (by rw [cellsP_length];omega)];rfl
  rw [this];omega
set_option maxRecDepth 100000 in
set_option maxHeartbeats 4000000 in
theorem plCount_any (p:Pln) (A:Option Addr) (n c:Nat) (sl:List Sl) (w:World) (h:PAt w p A n sl):
 Calls Try.prog 70 #[.agg #[.int .i64 p.w,.int .i64 p.h,.int .i64 p.edge,.slice A n c]] w (IntsPost (countF p) w):=by
 have H:=hiD h
 have HWL:Hid (p.words.length=n):=h.wl
 have hm:=h.n63
 unfold maxLen at hm
 clear h
 go_enter Try.func70,Try.ntmps70
 go_wp2_with fail
 refine (plUnpack_any p A n c sl _ (H.out.up (by go_grown))).mono ?_
 rintro e w1 ⟨XA,xn,xc,rfl,hg,hb⟩
 have HB:Hid (Below w.heap.size w w1):=below_next hb (by go_grown)
 have RA:Hid (Row w1 w.heap.size 42 [.int .i64 p.w,.int .i64 p.h,.int .i64 p.edge,.slice A n c]):=rowCells (Row.new w 42 [.int .i64 p.w,.int .i64 p.h,.int .i64 p.edge,.slice A n c]) hb
 clear hb
 cases hr:rightPl p
 ·have HC:Hid (countF p=[]):=(by show _=_;unfold countF;rw [hr];rfl)
  have h1:unpackR p=noGrd:=by unfold unpackR;rw [hr];rfl
  have h2:unpackErr p=2:=by unfold unpackErr;rw [hr];rfl
  rw [h1] at hg ⊢
  rw [h2]
  clear hr h1 h2 hg
  have BB:=HB.out
  have hsz:=BB.size
  go_wp2
  go_ret
  rw [HC.out]
  exact ⟨none,0,0,rfl,Rd.empty none,by unfold maxLen;omega,by go_grown⟩
 have h1:unpackR p=unpackG p:=by unfold unpackR;rw [hr];rfl
 have h2:unpackErr p=0:=by unfold unpackErr;rw [hr];rfl
 have hn3:1≤n∧n≤3:=by
  have:=(rightPl_parts hr).2.1
  rw [HWL.out] at this;exact this
 rw [h1] at hg ⊢
 rw [h2]
 have HC:Hid (countF p=countTo (2 ^ n) (cellsP p) (cellsP p).length):=(by show _=_;unfold countF;rw [hr,HWL.out];rfl)
 have HG:Hid (Rd w1 w1.heap.size 1 XA xn (ints (cellsP p))):=hg.cells
 have hxm:=hg.c63
 unfold maxLen at hxm
 have HXN:Hid ((cellsP p).length=xn):=(by have:=HG.out.1;rw [ints_length,Nat.mul_one] at this;exact this)
 clear h1 h2 hr hg
 unfold unpackG
 dsimp only
 obtain ⟨N,hN⟩:∃ N:Nat,N=2 ^ n:=⟨_,rfl⟩
 have hN8:N≤8∧wrap64 ((2:Int) ^ n)=(N:Int):=by
  rw [hN]
  have hc:n=1∨n=2∨n=3:=by omega
  rcases hc with rfl | rfl | rfl <;> exact ⟨by decide,by simp [wrap64]⟩
 obtain ⟨hN8,hwN⟩:=hN8
 rw [← hN] at HC
 have HSB:Hid (∀ k,0≤(cellsP p).getD k 0∧(cellsP p).getD k 0 < (N:Int)):=fun k=>by
  have:=cellsP_bd p k
  rw [HWL.out] at this
  rw [hN,Int.natCast_pow];exact this
 have hmk:=fun W=>make_like (P:=Try.prog) Try.underlying35 int_infoR rfl N (N:Int) rfl (by omega) (by omega) W
 clear hN
 obtain ⟨k0,k1,k2,k3,kl⟩:=RA.out.cells4
 go_wp2
 clear hmk k0 k1 k2 k3 kl hwN
 go_loopg [7,24] xn (fun gg _ s24 wr=>∃ kk:Nat,kk≤xn∧xn - kk≤gg∧s24=.int .i64 kk∧Aside (Below w1.heap.size w1 wr)∧Aside (Row wr w1.heap.size 54 [.int .i64 p.w,.int .i64 p.h,.int .i64 p.edge,.slice XA xn xc])∧Aside (Row wr (w1.heap.size+1) 3 (ints (countTo N (cellsP p) kk))))
 case atStart=>
  refine ⟨0,Nat.zero_le _,by omega,rfl,(show Below _ _ _ by go_grown),(show Row _ _ _ _ from (Row.new w1 54 [.int .i64 p.w,.int .i64 p.h,.int .i64 p.edge,.slice XA xn xc]).alloc _),?_⟩
  show Row _ _ _ _
  rw [countTo_zero,ints_zeros]
  exact rowNew1 w1 _ 3 (List.replicate N (.int .i64 0))
 case round=>
  obtain ⟨kk,hkk,hgg,rfl,BW,RX,RZ⟩:=hrel
  have HBr:=hiD (below_on2 HB.out BW.out)
  have RZ:Hid (Row wr (w1.heap.size+1) 3 (ints (countTo N (cellsP p) kk))):=RZ.out
  obtain ⟨e0,e1,e2,e3,el⟩:=RX.out.cells4
  by_cases hlt:kk < xn
  ·have hltz:(kk:Int) < (xn:Int):=by omega
   obtain ⟨ad,u,rfl,hbl,hu,hc⟩:=(HG.out.up BW.out).get1 hlt
   rw [ints_get _ kk (by rw [HXN.out];exact hlt)] at hu
   injection hu with hu
   subst hu
   have hsb:=HSB.out kk
   have HS:=countTo_snoc N (cellsP p) kk (by rw [HXN.out];exact hlt)
   have hbdk:=fun j=>countTo_bd N (cellsP p) kk j (by rw [HXN.out];omega)
   generalize (cellsP p).getD kk 0=st at hc hsb HS
   obtain ⟨pz,rfl⟩:∃ pz:Nat,st=(pz:Int):=⟨st.toNat,by omega⟩
   rw [Int.toNat_natCast] at HS
   have hp1:(pz:Int) < (N:Int):=hsb.2
   have hp0:(0:Int)≤(pz:Int):=by omega
   have hbd:=hbdk pz
   have hlen:=countTo_length N (cellsP p) kk
   generalize countTo N (cellsP p) kk=zs at RZ HS hbd hlen hbdk
   have hcell:wr.cell? ⟨w1.heap.size+1,pz,none⟩=some (.int .i64 (zs.getD pz 0)):=by rw [RZ.out.cell];exact ints_get zs pz (by omega)
   have hfr:wr.frozen? ⟨w1.heap.size+1,pz,none⟩=false:=RZ.out.frozen pz
   have hbz:=RZ.out.lt
   have HS':Hid (countTo N (cellsP p) (kk+1)=bump zs pz):=HS
   generalize hv:zs.getD pz 0=v at hcell hbd
   have HV:=hiD hv
   have hw1:IntKind.i64.wrap (pz:Int)=(pz:Int):=IntWalk.i64_in _ (by omega)
   have hw2:IntKind.i64.wrap (v+1)=v+1:=IntWalk.i64_in _ (by omega)
   clear hv HS hlen hbdk
   go_wp2
   go_roundg (xn - (kk+1))
   case measure=>omega
   case rel=>
    refine ⟨kk+1,by omega,by omega,by go_num,?_,?_,?_⟩
    ·show Below _ _ _
     exact BW.out.setCell (p:=⟨w1.heap.size+1,pz,none⟩) (Nat.le_succ _) _
    ·show Row _ _ _ _
     exact RX.out.far (p:=⟨w1.heap.size+1,pz,none⟩) (by show w1.heap.size≠w1.heap.size+1;omega) _
    ·show Row _ _ _ _
     rw [HS'.out,← bumpAt,HV.out]
     exact RZ.out.set pz _
  ·have hltz:¬ (kk:Int) < (xn:Int):=by omega
   obtain rfl:kk=xn:=by omega
   go_wp2
   go_ret
   refine ⟨_,_,_,rfl,?_,by unfold maxLen;omega,HBr.out⟩
   rw [HC.out,HXN.out]
   exact RZ.out.rd (by rw [ints_length,countTo_length,Nat.mul_one])
end Go.Proofs.Ytiemhbogbaamlaa
