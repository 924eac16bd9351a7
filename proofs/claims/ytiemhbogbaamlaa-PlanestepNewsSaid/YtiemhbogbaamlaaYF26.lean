/-
 A part.
-/
import Derived.Test.YtiemhbogbaamlaaYF25
import Derived.Laws.CopyOwn
set_option linter.unusedSimpArgs false
set_option linter.unusedVariables false
namespace Go.Proofs.Ytiemhbogbaamlaa
open Go.RowKit
theorem i64_and63 (n:Int):bits .and .i64 n 63=n % 64:=by
 have h1:(BitVec.ofInt 64 63).toNat=2 ^ 6 - 1:=by decide
 have key:(BitVec.ofInt 64 n &&& BitVec.ofInt 64 63).toNat=(n % ((2 ^ 64:Nat):Int)).toNat % 2 ^ 6:=by
  rw [BitVec.toNat_and,BitVec.toNat_ofInt,h1,Nat.and_two_pow_sub_one_eq_mod]
 show IntKind.i64.wrap ((BitVec.ofInt 64 n &&& BitVec.ofInt 64 63).toNat:Nat)=n % 64
 rw [key,IntKind.wrap_i64]
 omega
def ShPost (row:List (BitVec 64)) (n:Nat) (w:World) (e:Ending) (w':World):Prop:=
 ∃ g,e=.returned (.slice (some ⟨g,0,none⟩) n n)∧Row w' g 66 (w64s row)∧w.heap.size≤g∧Below w.heap.size w w'
theorem w64s_setP (l:List (BitVec 64)) (k:Nat) (x:BitVec 64):(w64s l).set k (w64 x)=w64s (l.set k x):=by simp [w64s,List.map_set]
theorem shA_in {row:List (BitVec 64)} {step:Int} {rest i k:Nat} (h:(i:Int)+step=k) (hk:k < row.length):shA row step rest i=row.getD k 0#64 >>> rest:=by
 unfold shA;rw [h,if_pos ⟨by omega,by omega⟩,Int.toNat_natCast]
theorem shA_out {row:List (BitVec 64)} {step:Int} {rest i:Nat} (h:(i:Int)+step < 0∨(row.length:Int)≤(i:Int)+step):shA row step rest i=0#64:=by
 unfold shA;rw [if_neg (by omega)]
theorem shB_in {row:List (BitVec 64)} {step:Int} {rest i k:Nat} (hr:0 < rest) (h:(i:Int)+step+1=k) (hk:k < row.length):shB row step rest i=row.getD k 0#64 <<< (64 - rest):=by
 unfold shB;rw [h,if_pos ⟨hr,by omega,by omega⟩,Int.toNat_natCast]
theorem shB_out {row:List (BitVec 64)} {step:Int} {rest i:Nat} (h:rest=0∨(i:Int)+step+1 < 0∨(row.length:Int)≤(i:Int)+step+1):shB row step rest i=0#64:=by
 unfold shB;rw [if_neg (by omega)]
theorem shGo_skip {row:List (BitVec 64)} {step:Int} {rest i:Nat} (h:shA row step rest i ||| shB row step rest i=0#64):shGo row step rest (i+1)=shGo row step rest i:=by
 unfold shGo
 apply List.map_congr_left
 intro j _
 by_cases e:j=i
 ·subst e;rw [if_pos (Nat.lt_succ_self j),if_neg (Nat.lt_irrefl j),h]
 ·by_cases h2:j < i
  ·rw [if_pos h2,if_pos (by omega)]
  ·rw [if_neg h2,if_neg (by omega)]
theorem shGo_set0 (row:List (BitVec 64)) (step:Int) (rest i:Nat) (hi:i < row.length):(shGo row step rest i).set i 0#64=shGo row step rest i:=by
 refine map_set_range _ _ _ _ _ hi (fun j _ _=>rfl) ?_
 rw [if_neg (Nat.lt_irrefl i)]
theorem w64_shl (x:BitVec 64) (k:Nat):IntKind.u64.wrap ((x.toNat:Int) * 2 ^ k)=((x <<< k).toNat:Int):=by
 rw [BitVec.toNat_shiftLeft,Nat.shiftLeft_eq]
 show ((x.toNat:Int) * 2 ^ k) % 18446744073709551616=_
 rw [Int.natCast_emod,Int.natCast_mul,Int.natCast_pow];rfl
theorem sh_cell (z v:BitVec 64) (k:Nat):Value.int .u64 (bits .or .u64 (z.toNat:Int) (IntKind.u64.wrap ((v.toNat:Int) * 2 ^ k)))=w64 (z ||| v <<< k):=by
 rw [w64_shl,w64_orP];rfl
theorem one_shl (r:Nat):IntKind.u64.wrap ((2:Int) ^ r)=((1#64 <<< r:BitVec 64).toNat:Int):=by
 have h:=w64_shl 1#64 r
 have e:(((1#64:BitVec 64).toNat:Nat):Int) * 2 ^ r=2 ^ r:=by rw [show (((1#64:BitVec 64).toNat:Nat):Int)=1 from rfl,Int.one_mul]
 rw [e] at h
 exact h
theorem clr_cell (v:BitVec 64) (r:Nat):Value.int .u64 (bits .andNot .u64 (v.toNat:Int) (IntKind.u64.wrap ((2:Int) ^ r)))=w64 (v &&& ~~~(1#64 <<< r)):=by
 rw [one_shl,w64_andNot];rfl
theorem shl_word1 (t:Bool) (r:Nat) (hr:r < 64):IntKind.u64.wrap (b01 t * 2 ^ r)=(((if t=true then 1#64 <<< r else 0#64:BitVec 64).toNat:Nat):Int):=by
 have h:=shl_word t r hr
 have h1:IntKind.u64.wrap (b01 t)=b01 t:=by cases t <;> rfl
 rw [h1] at h;exact h
theorem orb_cell (v:BitVec 64) (t:Bool) (r:Nat) (hr:r < 64):Value.int .u64 (bits .or .u64 (v.toNat:Int) (IntKind.u64.wrap (b01 t * 2 ^ r)))=w64 (v ||| (if t=true then 1#64 <<< r else 0#64)):=by
 rw [shl_word1 t r hr,w64_orP];rfl
theorem w64_pred (a:BitVec 64):IntKind.u64.wrap ((a.toNat:Int) - 1)=((a - 1#64).toNat:Int):=by
 rw [BitVec.toNat_sub]
 show ((a.toNat:Int) - 1) % 18446744073709551616=_
 have:=a.isLt
 simp only [BitVec.toNat_ofNat]
 omega
theorem and_cell (v:BitVec 64) (r:Nat):Value.int .u64 (bits .and .u64 (v.toNat:Int) (IntKind.u64.wrap (IntKind.u64.wrap ((2:Int) ^ r) - 1)))=w64 (v &&& ((1#64 <<< r) - 1#64)):=by
 rw [one_shl,w64_pred,w64_andP];rfl
theorem shr_cell (v:BitVec 64) (r:Nat):Value.int .u64 ((v.toNat:Int) / 2 ^ r)=w64 (v >>> r):=by rw [w64_shr];rfl
set_option maxRecDepth 100000 in
set_option maxHeartbeats 4000000 in
theorem shifted_any (row:List (BitVec 64)) (A:Option Addr) (n c W E:Nat) (dx:Int) (w:World) (h:Rd w w.heap.size 1 A n (w64s row)) (hn:n=wpr W) (hW:1≤W∧W≤256) (hE:E≤2) (hd1:-256≤dx) (hd2:dx≤256):
 Calls Try.prog 101 #[.slice A n c,.int .i64 W,.int .i64 dx,.int .i64 E] w (ShPost (shF row W dx E) n w):=by
 have H:=hiD h
 have HL:Hid (row.length=n):=by have:=h.1;rw [w64s_length,Nat.mul_one] at this;exact this
 obtain ⟨w1',w2',w3'⟩:=wpr_bd hW.1
 rw [← hn] at w1' w2' w3'
 have HN:=hiD hn
 have hn4:n≤4:=by omega
 obtain ⟨step,hst⟩:∃ step:Int,step=dx / 64:=⟨_,rfl⟩
 obtain ⟨rest,hre⟩:∃ rest:Nat,(rest:Int)=dx % 64:=⟨(dx % 64).toNat,by omega⟩
 have hr64:rest < 64:=by omega
 have HD:Hid (dx=64 * step+rest):=by show dx=64 * step+rest;omega
 have hand:bits .and .i64 dx 63=(rest:Int):=by rw [i64_and63,hre]
 have hsb1:-4≤step:=by omega
 have hsb2:step≤4:=by omega
 have hdiv:dx / 64=step:=hst.symm
 have hmk:=fun W=>make_like (P:=Try.prog) Try.underlying67 word_infoP rfl n (n:Int) rfl (by omega) (by omega) W
 clear h hn hst hre
 go_enter Try.func101,Try.ntmps101
 go_wp2
 have RX:Hid (Row (World.alloc w (.cells (likeRow (Value.int .u64 0) n) 66)) w.heap.size 66 (w64s (shGo row step rest 0))):=by
  show Row _ _ _ _
  rw [shGo_zero,HL.out]
  exact blankRow w n
 have HB3:Hid (Below w.heap.size w (World.alloc w (.cells (likeRow (Value.int .u64 0) n) 66))):=(show Below _ _ _ by go_grown)
 clear hmk hdiv hand
 revert RX HB3
 generalize World.alloc w (.cells (likeRow (Value.int .u64 0) n) 66)=w3
 intro RX HB3
 obtain ⟨ad,rfl,hadb,_⟩:=H.out.ex (by omega)
 go_loopg [12,13,14,28] n (fun gg _ _ _ s28 wr=>∃ i:Nat,i≤n∧n - i≤gg∧s28=.int .i64 i∧Aside (Below w.heap.size w wr)∧Aside (Row wr w.heap.size 66 (w64s (shGo row step rest i))))
 case atStart=>exact ⟨0,Nat.zero_le _,by omega,rfl,HB3.out,RX.out⟩
 case round=>
  clear HB3 RX
  obtain ⟨i,hi,hgg,rfl,BW,RX⟩:=hrel
  by_cases hlt:i < n
  ·have hltz:(i:Int) < (n:Int):=by omega
   have HCW:Hid (∀ k,k < n→wr.cell? (ad.add k)=some (.int .u64 ((row.getD k 0#64).toNat:Int))):=fun k hk=>by
    obtain ⟨ad',e,_,hc⟩:=(H.out.below BW.out (Nat.le_refl _)).word hk
    injection e with e;subst e;exact hc
   have hfr:=RX.out.frozen i
   have hgl:=RX.out.lt
   have hc0:wr.cell? ⟨w.heap.size,i,none⟩=some (.int .u64 0):=by
    have h9:=RX.out.cell i
    rw [w64s_get _ _ (by rw [shGo_length,HL.out];exact hlt)] at h9
    exact h9.trans (congrArg (fun z=>some (w64 z)) (shGo_get row step rest i (by rw [HL.out];exact hlt)))
   have hs1:-8≤(i:Int)+step:=by omega
   have hs2:(i:Int)+step≤8:=by omega
   rcases Int.lt_or_le ((i:Int)+step) 0 with c1 | c1
   ·-- below
    have HA:Hid (shA row step rest i=0#64):=shA_out (.inl c1)
    by_cases c2:0 < rest∧(i:Int)+step=-1
    ·obtain ⟨c2,c3⟩:=c2
     obtain ⟨k2,hk2⟩:∃ k2:Nat,(i:Int)+step+1=(k2:Int):=⟨0,by omega⟩
     have hk2n:k2 < n:=by omega
     have hk2z:(k2:Int) < (n:Int):=by omega
     have hcw:=HCW.out k2 hk2n
     have HBi:Hid (shB row step rest i=row.getD k2 0#64 <<< (64 - rest)):=shB_in c2 hk2 (by rw [HL.out];exact hk2n)
     generalize row.getD k2 0#64=v at hcw HBi
     clear c3
     go_wp2_with fail
     have RL:Hid (Row wr w.heap.size 66 (w64s ((shGo row step rest i).set i (shA row step rest i)))):=by
      show Row _ _ _ _
      rw [HA.out,shGo_set0 _ _ _ _ (by rw [HL.out];exact hlt)]
      exact RX.out
     clear hc0 hfr hgl HCW RX
     have hc0:World.cell? wr ⟨w.heap.size,i,none⟩=some (.int .u64 ((shA row step rest i).toNat:Int)):=by
      have h9:=RL.out.cell i
      rw [w64s_get _ _ (by rw [List.length_set,shGo_length,HL.out];exact hlt),List.getD_eq_getElem?_getD,List.getElem?_set_self (by rw [shGo_length,HL.out];exact hlt)] at h9
      exact h9
     generalize hzz:shA row step rest i=z at hc0 RL
     have HZ:=hiD hzz
     have hadn:ad.block < (wr).heap.size:=Nat.lt_of_lt_of_le hadb (show w.heap.size≤(wr).heap.size from BW.out.size)
     have hfr:=RL.out.frozen i
     have hgl:=RL.out.lt
     clear hzz
     go_still_tail 13,(by kernel_rfl)
     change wpList _ _ _ _ _ (World.drew wr)
     have BWd:Hid (Below w.heap.size w (World.drew wr)):=BW.out.drew
     have RXd:Hid (Row (World.drew wr) w.heap.size 66 (w64s ((shGo row step rest i).set i z))):=RL.out
     have hc9:(World.drew wr).cell? ⟨w.heap.size,i,none⟩=some (.int .u64 (z.toNat:Int)):=hc0
     clear hc0 hfr hgl hcw hadn RL
     revert BWd RXd hc9
     generalize World.drew wr=w9
     intro BWd RXd hc9
     have hfr:=RXd.out.frozen i
     have hgl:=RXd.out.lt
     go_wp2_with fail
     go_roundg (n - (i+1))
     case measure=>omega
     case rel=>
      have hpt:=RXd.out.set i (w64 (z ||| v <<< (64 - rest)))
      rw [w64s_setP,List.set_set,shGo_set _ _ _ _ _ (by rw [HL.out];exact hlt) (by rw [HZ.out,HBi.out])] at hpt
      exact ⟨i+1,by omega,by omega,by go_num,BWd.out.setCell (p:=⟨w.heap.size,i,none⟩) (Nat.le_refl _) _,(by show Row _ _ _ _;rw [sh_cell];exact hpt)⟩
    ·have HBo:Hid (shB row step rest i=0#64):=shB_out (by omega)
     by_cases c3:0 < rest
     ·have c4:(i:Int)+step+1 < 0:=by omega
      clear c2
      go_wp2
      go_roundg (n - (i+1))
      case measure=>omega
      case rel=>exact ⟨i+1,by omega,by omega,by go_num,BW,(by show Row _ _ _ _;rw [shGo_skip (by rw [HA.out,HBo.out];rfl)];exact RX.out)⟩
     ·obtain rfl:rest=0:=by omega
      clear c2
      go_wp2
      go_roundg (n - (i+1))
      case measure=>omega
      case rel=>exact ⟨i+1,by omega,by omega,by go_num,BW,(by show Row _ _ _ _;rw [shGo_skip (by rw [HA.out,HBo.out];rfl)];exact RX.out)⟩
   ·rcases Int.lt_or_le ((i:Int)+step) (n:Int) with c5 | c5
    ·obtain ⟨k1,hk1⟩:∃ k1:Nat,(i:Int)+step=(k1:Int):=⟨_,(Int.toNat_of_nonneg c1).symm⟩
     have hk1n:k1 < n:=by omega
     have hk1z:(k1:Int) < (n:Int):=by omega
     have hca:=HCW.out k1 hk1n
     have HA:Hid (shA row step rest i=row.getD k1 0#64 >>> rest):=shA_in hk1 (by rw [HL.out];exact hk1n)
     generalize row.getD k1 0#64=a at hca HA
     by_cases c2:0 < rest∧k1+1 < n
     ·obtain ⟨c2,c3⟩:=c2
      obtain ⟨k2,hk2⟩:∃ k2:Nat,k2=k1+1:=⟨_,rfl⟩
      have hk2n:k2 < n:=by omega
      have hk2z:(k2:Int) < (n:Int):=by omega
      have hcw:=HCW.out k2 hk2n
      have HBi:Hid (shB row step rest i=row.getD k2 0#64 <<< (64 - rest)):=shB_in c2 (by omega) (by rw [HL.out];exact hk2n)
      generalize row.getD k2 0#64=v at hcw HBi
      have hk12:(k1:Int)+1=(k2:Int):=by omega
      clear c3 hk2
      go_wp2_with fail
      have hadn:ad.block < wr.heap.size:=Nat.lt_of_lt_of_le hadb BW.out.size
      have BW5:Hid (Below w.heap.size w (World.setCell wr ⟨w.heap.size,i,none⟩ (Value.int .u64 ((a.toNat:Int) / 2 ^ rest)))):=BW.out.setCell (p:=⟨w.heap.size,i,none⟩) (Nat.le_refl _) _
      have RL:Hid (Row (World.setCell wr ⟨w.heap.size,i,none⟩ (Value.int .u64 ((a.toNat:Int) / 2 ^ rest))) w.heap.size 66 (w64s ((shGo row step rest i).set i (shA row step rest i)))):=by
       show Row _ _ _ _
       rw [shr_cell,HA.out,← w64s_setP]
       exact RX.out.set i _
      have hcw5:(World.setCell wr ⟨w.heap.size,i,none⟩ (Value.int .u64 ((a.toNat:Int) / 2 ^ rest))).cell? (ad.add k2)=some (.int .u64 (v.toNat:Int)):=by
       rw [World.cell?_setCell_other _ _ _ _ (fun e=>by
        have h7:=congrArg Addr.block e
        rw [add_block] at h7
        dsimp only at h7
        omega)]
       exact hcw
      clear hc0 hfr hgl HCW hcw hca hadn BW RX HA
      revert BW5 RL hcw5
      generalize World.setCell wr ⟨w.heap.size,i,none⟩ (Value.int .u64 ((a.toNat:Int) / 2 ^ rest))=w5
      intro BW5 RL hcw
      have hc0:World.cell? w5 ⟨w.heap.size,i,none⟩=some (.int .u64 ((shA row step rest i).toNat:Int)):=by
       have h9:=RL.out.cell i
       rw [w64s_get _ _ (by rw [List.length_set,shGo_length,HL.out];exact hlt),List.getD_eq_getElem?_getD,List.getElem?_set_self (by rw [shGo_length,HL.out];exact hlt)] at h9
       exact h9
      generalize hzz:shA row step rest i=z at hc0 RL
      have HZ:=hiD hzz
      have hadn:ad.block < (w5).heap.size:=Nat.lt_of_lt_of_le hadb (show w.heap.size≤(w5).heap.size from BW5.out.size)
      have hfr:=RL.out.frozen i
      have hgl:=RL.out.lt
      clear hzz
      go_still_tail 13,(by kernel_rfl)
      change wpList _ _ _ _ _ (World.drew w5)
      have BWd:Hid (Below w.heap.size w (World.drew w5)):=BW5.out.drew
      have RXd:Hid (Row (World.drew w5) w.heap.size 66 (w64s ((shGo row step rest i).set i z))):=RL.out
      have hc9:(World.drew w5).cell? ⟨w.heap.size,i,none⟩=some (.int .u64 (z.toNat:Int)):=hc0
      clear hc0 hfr hgl hcw hadn RL
      revert BWd RXd hc9
      generalize World.drew w5=w9
      intro BWd RXd hc9
      have hfr:=RXd.out.frozen i
      have hgl:=RXd.out.lt
      go_wp2_with fail
      go_roundg (n - (i+1))
      case measure=>omega
      case rel=>
       have hpt:=RXd.out.set i (w64 (z ||| v <<< (64 - rest)))
       rw [w64s_setP,List.set_set,shGo_set _ _ _ _ _ (by rw [HL.out];exact hlt) (by rw [HZ.out,HBi.out])] at hpt
       exact ⟨i+1,by omega,by omega,by go_num,BWd.out.setCell (p:=⟨w.heap.size,i,none⟩) (Nat.le_refl _) _,(by show Row _ _ _ _;rw [sh_cell];exact hpt)⟩
     ·have HBo:Hid (shB row step rest i=0#64):=shB_out (by rw [HL.out];omega)
      by_cases c3:0 < rest
      ·have c4:(n:Int)≤(k1:Int)+1:=by omega
       clear c2
       go_wp2
       rw [shr_cell]
       go_roundg (n - (i+1))
       case measure=>omega
       case rel=>
        have hpt:=RX.out.set i (w64 (a >>> rest))
        rw [w64s_setP,shGo_set _ _ _ _ _ (by rw [HL.out];exact hlt) (by rw [HA.out,HBo.out,BitVec.or_zero])] at hpt
        exact ⟨i+1,by omega,by omega,by go_num,BW.out.setCell (p:=⟨w.heap.size,i,none⟩) (Nat.le_refl _) _,hpt⟩
      ·obtain rfl:rest=0:=by omega
       clear c2
       go_wp2
       go_roundg (n - (i+1))
       case measure=>omega
       case rel=>
        have hpt:=RX.out.set i (w64 a)
        rw [w64s_setP,shGo_set _ _ _ _ _ (by rw [HL.out];exact hlt) (by rw [HA.out,HBo.out,BitVec.or_zero,BitVec.ushiftRight_zero])] at hpt
        exact ⟨i+1,by omega,by omega,by go_num,BW.out.setCell (p:=⟨w.heap.size,i,none⟩) (Nat.le_refl _) _,hpt⟩
    ·-- above
     have HA:Hid (shA row step rest i=0#64):=shA_out (.inr (by rw [HL.out];exact c5))
     have HBo:Hid (shB row step rest i=0#64):=shB_out (by rw [HL.out];omega)
     by_cases c3:0 < rest
     ·have c4:(n:Int)≤(i:Int)+step+1:=by omega
      go_wp2
      go_roundg (n - (i+1))
      case measure=>omega
      case rel=>exact ⟨i+1,by omega,by omega,by go_num,BW,(by show Row _ _ _ _;rw [shGo_skip (by rw [HA.out,HBo.out];rfl)];exact RX.out)⟩
     ·obtain rfl:rest=0:=by omega
      go_wp2
      go_roundg (n - (i+1))
      case measure=>omega
      case rel=>exact ⟨i+1,by omega,by omega,by go_num,BW,(by show Row _ _ _ _;rw [shGo_skip (by rw [HA.out,HBo.out];rfl)];exact RX.out)⟩
  ·have hltz:¬ (i:Int) < (n:Int):=by omega
   obtain rfl:n=i:=by omega
   have RX0:Hid (Row wr w.heap.size 66 (w64s (shTo row W dx E 0))):=by
    show Row _ _ _ _
    have:=RX.out
    rw [← HL.out] at this
    rw [shGo_all row W step rest dx E hr64 HD.out] at this
    exact this
   have BW0:Hid (Below w.heap.size w wr):=BW.out
   clear RX BW hgg
   go_wp2
   go_loopg [15,16,17,82] W (fun gg _ _ _ s82 wr=>∃ x:Nat,x≤W∧W - x≤gg∧s82=.int .i64 x∧Aside (Below w.heap.size w wr)∧Aside (Row wr w.heap.size 66 (w64s (shTo row W dx E x))))
   case atStart=>exact ⟨0,Nat.zero_le _,by omega,rfl,BW0.out,RX0.out⟩
   case round=>
    clear BW0 RX0
    obtain ⟨x,hx,hgg,rfl,BW,RX⟩:=hrel
    by_cases hlx:x < W
    ·have hlxz:(x:Int) < (W:Int):=by omega
     by_cases hin:0≤(x:Int)+dx∧(x:Int)+dx < (W:Int)
     ·obtain ⟨c1,c2⟩:=hin
      have HSI:Hid (shTo row W dx E (x+1)=shTo row W dx E x):=shTo_in row W dx E x ⟨c1,c2⟩
      go_wp2
      go_roundg (W - (x+1))
      case measure=>omega
      case rel=>exact ⟨x+1,by omega,by omega,by go_num,BW,(by show Row _ _ _ _;rw [HSI.out];exact RX.out)⟩
     ·obtain ⟨q,hq⟩:∃ q,q=x / 64:=⟨_,rfl⟩
      obtain ⟨r,hr⟩:∃ r,r=x % 64:=⟨_,rfl⟩
      have hqz:(x:Int) / 64=(q:Int):=by omega
      have hrz:(x:Int) % 64=(r:Int):=by omega
      have hr64x:r < 64:=by omega
      have hqn:q < n:=by omega
      have hqnz:(q:Int) < (n:Int):=by omega
      have HQR:Hid (q=x / 64∧r=x % 64):=⟨hq,hr⟩
      have hc0:wr.cell? ⟨w.heap.size,q,none⟩=some (w64 (shW row W dx E x q)):=by
       rw [RX.out.cell,w64s_get _ _ (by rw [shTo_length,HL.out];exact hqn)]
       exact congrArg (fun z=>some (w64 z)) (shTo_get row W dx E x q (by rw [HL.out];exact hqn))
      generalize hvv:shW row W dx E x q=v at hc0
      have HV:=hiD hvv
      unfold w64 at hc0
      have hfr:=RX.out.frozen q
      have hgl:=RX.out.lt
      have h3:(x:Int)+dx < 0∨(W:Int)≤(x:Int)+dx:=by omega
      clear hq hr hvv hin
      rcases h3 with h3 | h3
      ·go_wp2_with fail
       refine (pInside_any ((x:Int)+dx) W E _ (by omega) (by omega) (by omega) (by omega)).mono ?_
       have BW5:Hid (Below w.heap.size w (World.setCell wr ⟨w.heap.size,q,none⟩ (Value.int .u64 (bits .andNot .u64 (v.toNat:Int) (IntKind.u64.wrap ((2:Int) ^ r)))))):=BW.out.setCell (p:=⟨w.heap.size,q,none⟩) (Nat.le_refl _) _
       have RL:Hid (Row (World.setCell wr ⟨w.heap.size,q,none⟩ (Value.int .u64 (bits .andNot .u64 (v.toNat:Int) (IntKind.u64.wrap ((2:Int) ^ r))))) w.heap.size 66 (w64s ((shTo row W dx E x).set q (v &&& ~~~(1#64 <<< r))))):=by
        show Row _ _ _ _
        rw [clr_cell,← w64s_setP]
        exact RX.out.set q _
       clear hc0 hfr hgl BW RX
       revert BW5 RL
       generalize World.setCell wr ⟨w.heap.size,q,none⟩ (Value.int .u64 (bits .andNot .u64 (v.toNat:Int) (IntKind.u64.wrap ((2:Int) ^ r))))=w5
       intro BW5 RL
       have hb:=atF_bd ((x:Int)+dx) W E (by omega)
       have HNX:Hid (∀ u,u=(shW row W dx E x (x / 64) &&& ~~~(1#64 <<< (x % 64))) ||| (if tgtB row W dx E x=true then 1#64 <<< (x % 64) else 0#64)→(shTo row W dx E x).set (x / 64) u=shTo row W dx E (x+1)):=fun u hu=>shTo_next row W dx E x (by rw [HL.out,← HQR.out.1];exact hqn) u hu
       rw [← HQR.out.1,← HQR.out.2,HV.out] at HNX
       have HTG:Hid (tgtB row W dx E x=(decide (0≤atF ((x:Int)+dx) W E) && rbit row (atF ((x:Int)+dx) W E))):=rfl
       generalize atF ((x:Int)+dx) W E=ka at hb HTG
       by_cases hka:0≤ka
       ·obtain ⟨kq,rfl⟩:∃ kq:Nat,ka=(kq:Int):=⟨ka.toNat,by omega⟩
        rw [inPair_in hka]
        rintro e w6 ⟨rfl,rfl⟩
        have HTB:Hid (tgtB row W dx E x=(row.getD (kq / 64) 0#64).getLsbD (kq % 64)):=by
         show _=_
         rw [HTG.out,decide_eq_true hka,Bool.true_and]
         unfold rbit
         rw [decide_eq_true hka,Bool.true_and,Int.toNat_natCast]
        have hkq:kq / 64 < n:=by omega
        have hkq2:kq≤100000:=by omega
        have hc5:w5.cell? ⟨w.heap.size,q,none⟩=some (w64 (v &&& ~~~(1#64 <<< r))):=by
         have h9:=RL.out.cell q
         rw [w64s_get _ _ (by rw [List.length_set,shTo_length,HL.out];exact hqn),List.getD_eq_getElem?_getD,List.getElem?_set_self (by rw [shTo_length,HL.out];exact hqn)] at h9
         exact h9
        unfold w64 at hc5
        generalize hzz:v &&& ~~~(1#64 <<< r)=z at hc5 RL HNX
        have hfr:=RL.out.frozen q
        have hgl:=RL.out.lt
        generalize htt:(row.getD (kq / 64) 0#64).getLsbD (kq % 64)=tv at HTB
        have HTT:=hiD htt
        clear hzz htt
        have hwq:IntKind.i64.wrap (q:Int)=(q:Int):=IntWalk.i64_in _ (by omega)
        have hwr:IntKind.i64.wrap (r:Int)=(r:Int):=IntWalk.i64_in _ (by omega)
        go_wp2_with fail
        refine wp_region_still_tail 14 (by kernel_rfl) (by kernel_rfl) ?_
        simp only [List.take_succ_cons,List.take_zero,List.drop_succ_cons,List.drop_zero]
        iterate 7 still_step
        still_call ((pbit_any row kq n c (some ad) _ (H.out.up BW5.out.drew) hkq hkq2 (by unfold maxLen;omega)).mono (fun e w2 h2=>⟨h2.1.trans (by rw [HTT.out]),h2.2.symm⟩))
        iterate 6 still_step
        refine wpStill_nil ?_
        change wpList _ _ _ _ _ (World.drew w5)
        have BWd:Hid (Below w.heap.size w (World.drew w5)):=BW5.out.drew
        have RXd:Hid (Row (World.drew w5) w.heap.size 66 (w64s ((shTo row W dx E x).set q z))):=RL.out
        have hc9:(World.drew w5).cell? ⟨w.heap.size,q,none⟩=some (.int .u64 (z.toNat:Int)):=hc5
        clear hc5 hfr hgl BW5 RL
        revert BWd RXd hc9
        generalize World.drew w5=w9
        intro BWd RXd hc9
        have hfr:=RXd.out.frozen q
        have hgl:=RXd.out.lt
        go_wp2_with fail
        go_roundg (W - (x+1))
        case measure=>omega
        case rel=>
         have hpt:=RXd.out.set q (w64 (z ||| (if tv=true then 1#64 <<< r else 0#64)))
         rw [w64s_setP,List.set_set,HNX.out _ (by rw [HTB.out])] at hpt
         exact ⟨x+1,by omega,by omega,by go_num,BWd.out.setCell (p:=⟨w.heap.size,q,none⟩) (Nat.le_refl _) _,(by show Row _ _ _ _;rw [show min (x % 64) 64=r by have:=HQR.out.2;omega,orb_cell _ _ _ hr64x];exact hpt)⟩
       ·obtain rfl:ka=-1:=by omega
        rw [inPair_out]
        rintro e w6 ⟨rfl,rfl⟩
        have HTB:Hid (tgtB row W dx E x=false):=HTG.out
        go_wp2
        go_roundg (W - (x+1))
        case measure=>omega
        case rel=>
         have hpt:=RL.out
         rw [HNX.out _ (by rw [HTB.out];simp)] at hpt
         exact ⟨x+1,by omega,by omega,by go_num,BW5.out,hpt⟩
      ·go_wp2_with fail
       refine (pInside_any ((x:Int)+dx) W E _ (by omega) (by omega) (by omega) (by omega)).mono ?_
       have BW5:Hid (Below w.heap.size w (World.setCell wr ⟨w.heap.size,q,none⟩ (Value.int .u64 (bits .andNot .u64 (v.toNat:Int) (IntKind.u64.wrap ((2:Int) ^ r)))))):=BW.out.setCell (p:=⟨w.heap.size,q,none⟩) (Nat.le_refl _) _
       have RL:Hid (Row (World.setCell wr ⟨w.heap.size,q,none⟩ (Value.int .u64 (bits .andNot .u64 (v.toNat:Int) (IntKind.u64.wrap ((2:Int) ^ r))))) w.heap.size 66 (w64s ((shTo row W dx E x).set q (v &&& ~~~(1#64 <<< r))))):=by
        show Row _ _ _ _
        rw [clr_cell,← w64s_setP]
        exact RX.out.set q _
       clear hc0 hfr hgl BW RX
       revert BW5 RL
       generalize World.setCell wr ⟨w.heap.size,q,none⟩ (Value.int .u64 (bits .andNot .u64 (v.toNat:Int) (IntKind.u64.wrap ((2:Int) ^ r))))=w5
       intro BW5 RL
       have hb:=atF_bd ((x:Int)+dx) W E (by omega)
       have HNX:Hid (∀ u,u=(shW row W dx E x (x / 64) &&& ~~~(1#64 <<< (x % 64))) ||| (if tgtB row W dx E x=true then 1#64 <<< (x % 64) else 0#64)→(shTo row W dx E x).set (x / 64) u=shTo row W dx E (x+1)):=fun u hu=>shTo_next row W dx E x (by rw [HL.out,← HQR.out.1];exact hqn) u hu
       rw [← HQR.out.1,← HQR.out.2,HV.out] at HNX
       have HTG:Hid (tgtB row W dx E x=(decide (0≤atF ((x:Int)+dx) W E) && rbit row (atF ((x:Int)+dx) W E))):=rfl
       generalize atF ((x:Int)+dx) W E=ka at hb HTG
       by_cases hka:0≤ka
       ·obtain ⟨kq,rfl⟩:∃ kq:Nat,ka=(kq:Int):=⟨ka.toNat,by omega⟩
        rw [inPair_in hka]
        rintro e w6 ⟨rfl,rfl⟩
        have HTB:Hid (tgtB row W dx E x=(row.getD (kq / 64) 0#64).getLsbD (kq % 64)):=by
         show _=_
         rw [HTG.out,decide_eq_true hka,Bool.true_and]
         unfold rbit
         rw [decide_eq_true hka,Bool.true_and,Int.toNat_natCast]
        have hkq:kq / 64 < n:=by omega
        have hkq2:kq≤100000:=by omega
        have hc5:w5.cell? ⟨w.heap.size,q,none⟩=some (w64 (v &&& ~~~(1#64 <<< r))):=by
         have h9:=RL.out.cell q
         rw [w64s_get _ _ (by rw [List.length_set,shTo_length,HL.out];exact hqn),List.getD_eq_getElem?_getD,List.getElem?_set_self (by rw [shTo_length,HL.out];exact hqn)] at h9
         exact h9
        unfold w64 at hc5
        generalize hzz:v &&& ~~~(1#64 <<< r)=z at hc5 RL HNX
        have hfr:=RL.out.frozen q
        have hgl:=RL.out.lt
        generalize htt:(row.getD (kq / 64) 0#64).getLsbD (kq % 64)=tv at HTB
        have HTT:=hiD htt
        clear hzz htt
        have hwq:IntKind.i64.wrap (q:Int)=(q:Int):=IntWalk.i64_in _ (by omega)
        have hwr:IntKind.i64.wrap (r:Int)=(r:Int):=IntWalk.i64_in _ (by omega)
        go_wp2_with fail
        refine wp_region_still_tail 14 (by kernel_rfl) (by kernel_rfl) ?_
        simp only [List.take_succ_cons,List.take_zero,List.drop_succ_cons,List.drop_zero]
        iterate 7 still_step
        still_call ((pbit_any row kq n c (some ad) _ (H.out.up BW5.out.drew) hkq hkq2 (by unfold maxLen;omega)).mono (fun e w2 h2=>⟨h2.1.trans (by rw [HTT.out]),h2.2.symm⟩))
        iterate 6 still_step
        refine wpStill_nil ?_
        change wpList _ _ _ _ _ (World.drew w5)
        have BWd:Hid (Below w.heap.size w (World.drew w5)):=BW5.out.drew
        have RXd:Hid (Row (World.drew w5) w.heap.size 66 (w64s ((shTo row W dx E x).set q z))):=RL.out
        have hc9:(World.drew w5).cell? ⟨w.heap.size,q,none⟩=some (.int .u64 (z.toNat:Int)):=hc5
        clear hc5 hfr hgl BW5 RL
        revert BWd RXd hc9
        generalize World.drew w5=w9
        intro BWd RXd hc9
        have hfr:=RXd.out.frozen q
        have hgl:=RXd.out.lt
        go_wp2_with fail
        go_roundg (W - (x+1))
        case measure=>omega
        case rel=>
         have hpt:=RXd.out.set q (w64 (z ||| (if tv=true then 1#64 <<< r else 0#64)))
         rw [w64s_setP,List.set_set,HNX.out _ (by rw [HTB.out])] at hpt
         exact ⟨x+1,by omega,by omega,by go_num,BWd.out.setCell (p:=⟨w.heap.size,q,none⟩) (Nat.le_refl _) _,(by show Row _ _ _ _;rw [show min (x % 64) 64=r by have:=HQR.out.2;omega,orb_cell _ _ _ hr64x];exact hpt)⟩
       ·obtain rfl:ka=-1:=by omega
        rw [inPair_out]
        rintro e w6 ⟨rfl,rfl⟩
        have HTB:Hid (tgtB row W dx E x=false):=HTG.out
        go_wp2
        go_roundg (W - (x+1))
        case measure=>omega
        case rel=>
         have hpt:=RL.out
         rw [HNX.out _ (by rw [HTB.out];simp)] at hpt
         exact ⟨x+1,by omega,by omega,by go_num,BW5.out,hpt⟩
    ·have hlxz:¬ (x:Int) < (W:Int):=by omega
     obtain rfl:W=x:=by omega
     have hn0:(0:Int)≤(n:Int) - 1:=by omega
     by_cases hw0:W % 64=0
     ·have hwz:(W:Int) % 64=0:=by omega
      have HFN:Hid (shTo row W dx E W=shF row W dx E):=shTo_end row W dx E hw0 (by rw [HL.out];exact HN.out)
      go_wp2
      go_ret
      exact ⟨w.heap.size,rfl,by rw [← HFN.out];exact RX.out,Nat.le_refl _,BW.out⟩
     ·obtain ⟨rW,hrW⟩:∃ rW,rW=W % 64:=⟨_,rfl⟩
      have hwz:(W:Int) % 64=(rW:Int):=by omega
      have hne:((rW:Int) != 0)=true:=by
       rw [bne_iff_ne];omega
      have hrW64:rW < 64:=by omega
      have hc0:wr.cell? ⟨w.heap.size,n - 1,none⟩=some (w64 (shW row W dx E W (n - 1))):=by
       rw [RX.out.cell,w64s_get _ _ (by rw [shTo_length,HL.out];omega)]
       exact congrArg (fun z=>some (w64 z)) (shTo_get row W dx E W (n - 1) (by rw [HL.out];omega))
      have HLS:Hid (∀ u,u=shW row W dx E W (n - 1) &&& ((1#64 <<< rW) - 1#64)→(shTo row W dx E W).set (n - 1) u=shF row W dx E):=fun u hu=>by
       have:=shTo_last row W dx E hw0 (by rw [HL.out];exact HN.out) u
       rw [HL.out,← hrW] at this
       exact this hu
      generalize shW row W dx E W (n - 1)=v at hc0 HLS
      unfold w64 at hc0
      have hfr:=RX.out.frozen (n - 1)
      have hgl:=RX.out.lt
      clear hrW hw0
      go_wp2
      go_ret
      refine ⟨w.heap.size,rfl,?_,Nat.le_refl _,?_⟩
      ·have hpt:=RX.out.set (n - 1) (w64 (v &&& ((1#64 <<< rW) - 1#64)))
       rw [w64s_setP,HLS.out _ rfl] at hpt
       rw [and_cell];exact hpt
      ·exact BW.out.setCell (p:=⟨w.heap.size,n - 1,none⟩) (Nat.le_refl _) _
end Go.Proofs.Ytiemhbogbaamlaa
/-
 A part.
-/
namespace Go.Proofs.Ytiemhbogbaamlaa
open Go.RowKit
def mvRow (R:List (BitVec 64)) (n y:Nat) (inc:Bool):List (BitVec 64):=(List.range R.length).map (fun k=>if (decide (k / n < y) || (inc && decide (k / n=y)))=true then R.getD k 0#64 else 0#64)
def mvTo (D:List (List (BitVec 64))) (n y b:Nat):List (List (BitVec 64)):=(List.range D.length).map (fun j=>mvRow (D.getD j []) n y (decide (j < b)))
theorem mvRow_length (R:List (BitVec 64)) (n y:Nat) (inc:Bool):(mvRow R n y inc).length=R.length:=by simp [mvRow]
theorem mvTo_length (D:List (List (BitVec 64))) (n y b:Nat):(mvTo D n y b).length=D.length:=by simp [mvTo]
theorem mvTo_row (D:List (List (BitVec 64))) (n y b j:Nat) (h:j < D.length):(mvTo D n y b).getD j []=mvRow (D.getD j []) n y (decide (j < b)):=by
 unfold mvTo
 rw [List.getD_eq_getElem?_getD,List.getElem?_map,List.getElem?_range h];rfl
theorem mvRow_next (R:List (BitVec 64)) (n y:Nat):mvRow R n y true=mvRow R n (y+1) false:=by
 unfold mvRow
 apply List.map_congr_left
 intro k _
 have:(decide (k / n < y) || (true && decide (k / n=y)))=(decide (k / n < y+1) || (false && decide (k / n=y+1))):=by
  rw [Bool.true_and,Bool.false_and,Bool.or_false,Bool.eq_iff_iff]
  simp;omega
 rw [this]
theorem mvTo_next (D:List (List (BitVec 64))) (n y:Nat):mvTo D n y D.length=mvTo D n (y+1) 0:=by
 unfold mvTo
 apply List.map_congr_left
 intro j hj
 rw [decide_eq_true (List.mem_range.1 hj),decide_eq_false (Nat.not_lt_zero j),mvRow_next]
theorem mvTo_zero (D:List (List (BitVec 64))) (n M:Nat) (h:∀ j,j < D.length→(D.getD j []).length=M):mvTo D n 0 0=List.replicate D.length (List.replicate M 0#64):=by
 unfold mvTo mvRow
 apply List.ext_getElem (by simp)
 intro j h1 h2
 simp only [List.getElem_map,List.getElem_range,List.getElem_replicate]
 have hj:j < D.length:=by simpa using h1
 rw [h j hj]
 apply List.ext_getElem (by simp)
 intro k h3 h4
 simp
theorem getD_eq {α} (l:List α) (d:α) (k:Nat) (h:k < l.length):l.getD k d=l[k]:=by
 rw [List.getD_eq_getElem?_getD,List.getElem?_eq_getElem h];rfl
theorem mvTo_all (D:List (List (BitVec 64))) (n H:Nat) (hn:1≤n) (h:∀ j,j < D.length→(D.getD j []).length=H * n):mvTo D n H 0=D:=by
 unfold mvTo
 apply List.ext_getElem (by simp)
 intro j h1 h2
 simp only [List.getElem_map,List.getElem_range]
 have hl:=h j h2
 rw [getD_eq D [] j h2] at hl ⊢
 unfold mvRow
 apply List.ext_getElem (by simp)
 intro k h3 h4
 simp only [List.getElem_map,List.getElem_range]
 have hk:k / n < H:=Nat.div_lt_of_lt_mul (by rw [Nat.mul_comm];omega)
 rw [decide_eq_true hk,Bool.true_or,if_pos rfl,getD_eq _ _ k h4]
theorem div_row {n H k y:Nat} (hn:1≤n) (h:k / n=y):∃ i,i < n∧k=y * n+i:=⟨k % n,Nat.mod_lt _ (by omega),by rw [← h];exact (Nat.div_add_mod' k n).symm⟩
theorem mvTo_skip (D:List (List (BitVec 64))) (n y:Nat) (hn:1≤n) (h:∀ j,j < D.length→∀ i,i < n→(D.getD j []).getD (y * n+i) 0#64=0#64):mvTo D n (y+1) 0=mvTo D n y 0:=by
 unfold mvTo
 apply List.map_congr_left
 intro j hj
 have hj:=List.mem_range.1 hj
 rw [decide_eq_false (Nat.not_lt_zero j),← mvRow_next]
 unfold mvRow
 apply List.map_congr_left
 intro k _
 by_cases e:k / n=y
 ·obtain ⟨i,hi,e2⟩:=div_row (H:=0) hn e
  rw [e2,h j hj i hi];simp
 ·rw [decide_eq_false e];simp
theorem splice_get {α} (L cs:List α) (off k:Nat) (d:α) (h:off+cs.length≤L.length):(splice L off cs).getD k d=if k < off then L.getD k d else if k < off+cs.length then cs.getD (k - off) d else L.getD k d:=by
 unfold splice
 have hm:min off L.length=off:=by omega
 simp only [List.getD_eq_getElem?_getD]
 by_cases h1:k < off
 ·rw [if_pos h1,List.getElem?_append_left (by rw [List.length_take];omega),List.getElem?_take_of_lt h1]
 ·rw [if_neg h1,List.getElem?_append_right (by rw [List.length_take];omega),List.length_take,hm]
  by_cases h2:k < off+cs.length
  ·rw [if_pos h2,List.getElem?_append_left (by omega)]
  ·rw [if_neg h2,List.getElem?_append_right (by omega),List.getElem?_drop,show off+cs.length+(k - off - cs.length)=k by omega]
theorem mvRow_get (R:List (BitVec 64)) (n y:Nat) (inc:Bool) (k:Nat) (h:k < R.length):(mvRow R n y inc).getD k 0#64=if (decide (k / n < y) || (inc && decide (k / n=y)))=true then R.getD k 0#64 else 0#64:=by
 unfold mvRow
 rw [List.getD_eq_getElem?_getD,List.getElem?_map,List.getElem?_range h];rfl
theorem mvRow_put (R ws:List (BitVec 64)) (n H y:Nat) (hn:1≤n) (hR:R.length=H * n) (hy:y < H) (hl:ws.length=n) (h:∀ i,i < n→ws.getD i 0#64=R.getD (y * n+i) 0#64):
 splice (mvRow R n y false) (y * n) ws=mvRow R n y true:=by
 have hfit:y * n+ws.length≤(mvRow R n y false).length:=by
  rw [mvRow_length,hl,hR]
  have:=Nat.mul_le_mul_right n (show y+1≤H by omega)
  rw [Nat.add_mul,Nat.one_mul] at this
  exact this
 apply List.ext_getElem (by rw [length_splice _ _ _ hfit,mvRow_length,mvRow_length])
 intro k h1 h2
 have hk:k < R.length:=by rw [mvRow_length] at h2;exact h2
 rw [← getD_eq _ 0#64 k h1,← getD_eq _ 0#64 k h2,splice_get _ _ _ _ _ hfit,mvRow_get _ _ _ _ _ hk,mvRow_get _ _ _ _ _ hk,hl]
 by_cases e:k / n=y
 ·obtain ⟨i,hi,e2⟩:=div_row (H:=0) hn e
  rw [if_neg (by omega),if_pos (by omega),e2,show y * n+i - y * n=i by omega,h i hi]
  rw [e2] at e
  simp [e]
 ·have h9:¬ (y * n≤k∧k < y * n+n):=fun ⟨a,b⟩=>e (by
   obtain ⟨i,hi⟩:∃ i,i=k - y * n:=⟨_,rfl⟩
   have hk2:k=y * n+i:=by omega
   rw [hk2];exact (row_at (by omega)).1)
  rw [decide_eq_false e]
  by_cases h10:k < y * n
  ·rw [if_pos h10];simp
  ·rw [if_neg h10,if_neg (by omega)];simp
theorem mvTo_put (D:List (List (BitVec 64))) (ws:List (BitVec 64)) (n H y b:Nat) (hn:1≤n) (hD:∀ j,j < D.length→(D.getD j []).length=H * n) (hy:y < H) (hb:b < D.length) (hl:ws.length=n)
 (h:∀ i,i < n→ws.getD i 0#64=(D.getD b []).getD (y * n+i) 0#64):
 (mvTo D n y b).set b (splice ((mvTo D n y b).getD b []) (y * n) ws)=mvTo D n y (b+1):=by
 rw [mvTo_row _ _ _ _ _ hb,decide_eq_false (Nat.lt_irrefl b),mvRow_put _ _ _ H _ hn (hD b hb) hy hl h]
 refine map_set_range _ _ _ _ _ hb (fun j hj hjb=>?_) ?_
 ·by_cases h1:j < b
  ·rw [decide_eq_true h1,decide_eq_true (by omega)]
  ·rw [decide_eq_false h1,decide_eq_false (by omega)]
 ·rw [decide_eq_true (Nat.lt_succ_self b)]
def rowAt (l:List (BitVec 64)) (n k:Nat):List (BitVec 64):=(l.drop (k * n)).take n
theorem rowAt_length (l:List (BitVec 64)) (n H k:Nat) (hl:l.length=H * n) (hk:k < H):(rowAt l n k).length=n:=by
 unfold rowAt
 rw [List.length_take,List.length_drop,hl]
 have:=Nat.mul_le_mul_right n (show k+1≤H by omega)
 rw [Nat.add_mul,Nat.one_mul] at this
 omega
theorem rowAt_get (l:List (BitVec 64)) (n k i:Nat) (hi:i < n):(rowAt l n k).getD i 0#64=l.getD (k * n+i) 0#64:=by
 unfold rowAt
 rw [List.getD_eq_getElem?_getD,List.getElem?_take_of_lt hi,List.getElem?_drop,List.getD_eq_getElem?_getD]
theorem rbit_row (l:List (BitVec 64)) (n k a:Nat) (ha:a / 64 < n):rbit (rowAt l n k) (a:Int)=bitW n l a k:=by
 unfold rbit bitW
 rw [decide_eq_true (by omega),Bool.true_and,Int.toNat_natCast,rowAt_get _ _ _ _ ha]
theorem shF_get (row:List (BitVec 64)) (W:Nat) (dx e:Int) (i:Nat) (hi:i < row.length):(shF row W dx e).getD i 0#64=mkW (fun t=>decide (64 * i+t < W) && tgtB row W dx e (64 * i+t)):=by
 unfold shF
 rw [List.getD_eq_getElem?_getD,List.getElem?_map,List.getElem?_range hi];rfl
theorem moveP_plane_len (p:Pln) (dx dy:Int) (b:Nat) (hb:b < p.words.length):((moveP p dx dy).words.getD b []).length=p.h.toNat * wpr p.w.toNat:=by
 unfold moveP
 rw [pack_get _ _ _ hb]
 exact planeF_length _ _ _ _
theorem moveP_bit {p:Pln} (h:rightPl p=true) (dx dy:Int) (b y i t:Nat) (hb:b < p.words.length) (hy:y < p.h.toNat) (hi:i < wpr p.w.toNat) (ht:t < 64):
 (((moveP p dx dy).words.getD b []).getD (y * wpr p.w.toNat+i) 0#64).getLsbD t=(decide (64 * i+t < p.w.toNat) && (decide (0≤atF (((64 * i+t:Nat):Int)+dx) p.w p.edge∧0≤atF ((y:Int)+dy) p.h p.edge) && bitW (wpr p.w.toNat) (p.words.getD b []) (atF (((64 * i+t:Nat):Int)+dx) p.w p.edge).toNat (atF ((y:Int)+dy) p.h p.edge).toNat)):=by
 by_cases hx:64 * i+t < p.w.toNat
 ·have hm:=move_bit h dx dy b (64 * i+t) y hb hx hy
  rw [decide_eq_true hx,Bool.true_and,← hm,bitW,show (64 * i+t) / 64=i by omega,show (64 * i+t) % 64=t by omega]
 ·rw [decide_eq_false hx,Bool.false_and]
  have e1:(moveP p dx dy).words.getD b []=planeF p.w.toNat p.h.toNat (movedG p dx dy).cells b:=by
   unfold moveP
   rw [pack_get _ _ _ hb];rfl
  obtain ⟨a1,a2⟩:=row_at (n:=wpr p.w.toNat) (y:=y) hi
  rw [e1,planeF_get _ _ _ _ _ (row_ltP hi hy),mkW_get,a1,a2,decide_eq_false hx];simp
theorem move_row {p:Pln} (h:rightPl p=true) (dx dy:Int) (b y i k:Nat) (hb:b < p.words.length) (hy:y < p.h.toNat) (hi:i < wpr p.w.toNat) (hk:atF ((y:Int)+dy) p.h p.edge=(k:Int)):
 (shF (rowAt (p.words.getD b []) (wpr p.w.toNat) k) p.w.toNat dx p.edge).getD i 0#64=((moveP p dx dy).words.getD b []).getD (y * wpr p.w.toNat+i) 0#64:=by
 obtain ⟨hs,hn,hpl⟩:=rightPl_parts h
 obtain ⟨s1,s2,_⟩:=sizedF_parts hs
 have hW:1≤p.w.toNat:=by omega
 obtain ⟨w1,w2,w3⟩:=wpr_bd hW
 have hkb:=atF_bd ((y:Int)+dy) p.h p.edge (by omega)
 have hkh:k < p.h.toNat:=by omega
 have hwz:((p.w.toNat:Nat):Int)=p.w:=Int.toNat_of_nonneg (by omega)
 have hrl:=rowAt_length _ _ p.h.toNat k (planeOk_parts (hpl b hb)).1 hkh
 rw [shF_get _ _ _ _ _ (by rw [hrl];exact hi)]
 apply word_ext
 intro t ht
 rw [mkW_get,decide_eq_true ht,Bool.true_and,moveP_bit h dx dy b y i t hb hy hi ht,hk]
 by_cases hx:64 * i+t < p.w.toNat
 ·rw [decide_eq_true hx,Bool.true_and,Bool.true_and]
  unfold tgtB
  rw [hwz]
  have hab:=atF_bd (((64 * i+t:Nat):Int)+dx) p.w p.edge (by omega)
  generalize atF (((64 * i+t:Nat):Int)+dx) p.w p.edge=a at hab
  by_cases ha:0≤a
  ·obtain ⟨m,rfl⟩:∃ m:Nat,a=(m:Int):=⟨a.toNat,by omega⟩
   rw [decide_eq_true ha,decide_eq_true ⟨ha,by omega⟩,Bool.true_and,Bool.true_and,Int.toNat_natCast,Int.toNat_natCast,rbit_row _ _ _ _ (by omega)]
  ·rw [decide_eq_false ha,decide_eq_false (fun x=>ha x.1)];simp
 ·rw [decide_eq_false hx];simp
theorem move_none {p:Pln} (h:rightPl p=true) (dx dy:Int) (b y i:Nat) (hb:b < p.words.length) (hy:y < p.h.toNat) (hi:i < wpr p.w.toNat) (hk:atF ((y:Int)+dy) p.h p.edge < 0):
 ((moveP p dx dy).words.getD b []).getD (y * wpr p.w.toNat+i) 0#64=0#64:=by
 apply word_ext
 intro t ht
 rw [moveP_bit h dx dy b y i t hb hy hi ht,decide_eq_false (p:=_∧_) (fun x=>by omega)]
 simp
end Go.Proofs.Ytiemhbogbaamlaa
