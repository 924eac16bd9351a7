/-
 A part.
-/
import Derived.Test.YtiemhbogbaamlaaYF3
import Derived.Test.YtiemhbogbaamlaaProg
import Derived.Laws.CopyOwn
import Derived.StillTailTactics
import Derived.BigQuiet
import Derived.Test.YtiemhbogbaamlaaYF11
import Derived.Deep.Light
import Derived.Test.YtiemhbogbaamlaaYF1
set_option linter.unusedSimpArgs false
set_option linter.unusedVariables false
namespace Go.Proofs.Ytiemhbogbaamlaa
open Go.RowKit
theorem u64_info:(Try.prog.info? 66).map (fun i=>(i.zero,i.size,i.bytes))=some (some (.int .u64 0),1,8):=by kernel_rfl
theorem w64s_at (vs:List (BitVec 64)) (r:List Value) (k:Nat) (h:k < vs.length):(w64s vs ++ r)[k]?=some (w64 (vs.getD k 0)):=by
 rw [List.getElem?_append_left (by simpa [w64s] using h)]
 simp [w64s,List.getElem?_map,List.getElem?_eq_getElem h,List.getD_eq_getElem?_getD]
theorem w64s_next (vs:List (BitVec 64)) (m k:Nat) (z:Value) (hl:vs.length=m) (hk:0 < k):(w64s vs ++ List.replicate k z)[m]?=some z:=by
 subst hl
 rw [List.getElem?_append_right (by simp [w64s]),List.getElem?_replicate]
 simp [w64s,hk]
theorem w64s_set (vs:List (BitVec 64)) (x:BitVec 64) (m k:Nat) (z:Value) (hl:vs.length=m) (hk:0 < k):(w64s vs ++ List.replicate k z).set m (w64 x)=w64s (vs ++ [x]) ++ List.replicate (k - 1) z:=by
 subst hl
 obtain ⟨j,rfl⟩:∃ j,k=j+1:=⟨k - 1,by omega⟩
 rw [List.set_append_right _ _ (by simp [w64s])]
 simp [w64s,List.replicate_succ]
theorem w64_and (x y:BitVec 64):bits .and .u64 (x.toNat:Int) (y.toNat:Int)=((x &&& y).toNat:Int):=by
 rw [u64_and_nat _ _ x.isLt y.isLt,BitVec.toNat_and]
theorem w64_or (x y:BitVec 64):bits .or .u64 (x.toNat:Int) (y.toNat:Int)=((x ||| y).toNat:Int):=by
 rw [u64_or_nat _ _ x.isLt y.isLt,BitVec.toNat_or]
theorem w64_not (x:BitVec 64):bits .xor .u64 IntKind.u64.max (x.toNat:Int)=((~~~x).toNat:Int):=by
 have h:IntKind.u64.max=(((BitVec.allOnes 64).toNat:Nat):Int):=by decide
 rw [h,u64_xor_nat _ _ (BitVec.allOnes 64).isLt x.isLt,← BitVec.toNat_xor,BitVec.allOnes_xor]
theorem w64_xor (x y:BitVec 64):bits .xor .u64 (x.toNat:Int) (y.toNat:Int)=((x ^^^ y).toNat:Int):=by
 rw [u64_xor_nat _ _ x.isLt y.isLt,BitVec.toNat_xor]
set_option maxRecDepth 100000 in
set_option maxHeartbeats 1000000 in
theorem values_any (inn:Nat) (GA OA IA:Option Addr) (gn gc on oc ic:Nat) (gs:List Gt) (ins:List (BitVec 64)) (w:World)
 (hG:Rd w w.heap.size 3 GA gn (gatesCells gs)) (hI:Rd w w.heap.size 1 IA inn (w64s ins)) (h1:inn≤1000) (h2:gn≤20000)
 (hok:∀ k,k < gs.length→gateOk ((inn:Int)+k) (gs.getD k default)=true):
 Calls Try.prog 102 #[.agg #[.int .i64 inn,.slice GA gn gc,.slice OA on oc],.slice IA inn ic] w fun e w'=>
  ∃ g,e=.returned (.slice (some ⟨g,0,none⟩) (inn+gn) (inn+gn))∧Row w' g 66 (w64s (runG evalW 0 gs ins))∧w.heap.size≤g∧Below w.heap.size w w':=by
 have LN:Hid (gs.length=gn):=by have:=hG.1;rw [gatesCells_length] at this;show _=_;omega
 have LI:Hid (ins.length=inn):=by have:=hI.1;simp [w64s] at this;show _=_;omega
 have HG:=hiD hG
 have HI:=hiD hI
 have HOK:=hiD hok
 clear hG hI hok
 have hmk:=fun W=>make_like (P:=Try.prog) Try.underlying67 u64_info rfl (inn+gn) ((inn:Int)+(gn:Int)) (by omega) (by omega) (by omega) W
 go_enter Try.func102,Try.ntmps102
 go_wp2_with (with_reducible refine wpList_copy_splice rfl (.tmp 16) (.tmp 17) 67 67 rfl 66 Try.underlying67 (by kernel_rfl) (some ⟨w.heap.size+1,0,none⟩) IA (inn+gn) (inn+gn) inn ic rfl rfl (w.heap.size+1) 0 (List.replicate (inn+gn) (.int .u64 0)) 66 ?hg (w64s ins) ?hn ?hpos ?hfit ?h1 (w.heap.size+1) (w.alloc (.cells #[.int .i64 inn,.slice GA gn gc,.slice OA on oc] 37)) ?hb ?hBg ?_)
 case hg=>
  have:=Row.new (w.alloc (.cells #[.int .i64 inn,.slice GA gn gc,.slice OA on oc] 37)) 66 (List.replicate (inn+gn) (.int .u64 0))
  rw [World.size_alloc] at this
  exact this
 case hn=>simp [w64s,LI.out]
 case hpos=>
  intro hp
  obtain ⟨ad,e,hb,hc⟩:=HI.out.ex (by simp [w64s,LI.out] at hp;exact hp)
  exact ⟨ad,e,fun j v hv=>(by
   have:=((HI.out.up (show Below w.heap.size w ((w.alloc (.cells #[.int .i64 inn,.slice GA gn gc,.slice OA on oc] 37)).alloc (.cells (likeRow (.int .u64 0) (inn+gn)) 66)) by go_grown)).ex (by simp [w64s,LI.out] at hp;exact hp))
   obtain ⟨ad',e',_,hc'⟩:=this
   rw [e] at e'
   injection e' with e'
   subst e'
   exact hc' j v hv)⟩
 case hfit=>simp [w64s,LI.out]
 case h1=>intro v hv;simp only [w64s,List.mem_map] at hv;obtain ⟨x,_,rfl⟩:=hv;rfl
 case hb=>go_grown
 case hBg=>omega
 intro w1 hrow hb1
 have R1:Hid (Row w1 (w.heap.size+1) 66 (w64s ins ++ List.replicate gn (.int .u64 0))):=by
  have:=hrow.out
  simp only [splice,List.take_zero,List.nil_append,Nat.zero_add,List.drop_replicate,w64s,List.length_map,LI.out] at this
  rw [show inn+gn - inn=gn from by omega] at this
  exact this
 have c0:w1.cell? ⟨w.heap.size,0,none⟩=some (.int .i64 inn):=(hb1.cell (p:=⟨w.heap.size,0,none⟩) (by simp)).trans (by go_cell)
 have c1:w1.cell? ⟨w.heap.size,1,none⟩=some (.slice GA gn gc):=(hb1.cell (p:=⟨w.heap.size,1,none⟩) (by simp)).trans (by go_cell)
 clear hmk hrow
 go_wp2
 clear c0 c1
 go_loopg [22] gn (fun gg s22 wr=>∃ kk:Nat,kk≤gn∧gn - kk≤gg∧s22=.int .i64 kk∧Aside (Below (w.heap.size+1) (w.alloc (.cells #[.int .i64 inn,.slice GA gn gc,.slice OA on oc] 37)) wr)∧Aside (Row wr (w.heap.size+1) 66 (w64s (runG evalW 0 (gs.take kk) ins) ++ List.replicate (gn - kk) (.int .u64 0))))
 case atStart=>exact ⟨0,Nat.zero_le _,by omega,rfl,hb1,R1.out⟩
 case round=>
  clear hb1 R1
  obtain ⟨kk,hkk,hg,rfl,BW,RW⟩:=hrel
  have c0:wr.cell? ⟨w.heap.size,0,none⟩=some (.int .i64 inn):=(BW.out.cell (p:=⟨w.heap.size,0,none⟩) (by simp)).trans (by go_cell)
  have c1:wr.cell? ⟨w.heap.size,1,none⟩=some (.slice GA gn gc):=(BW.out.cell (p:=⟨w.heap.size,1,none⟩) (by simp)).trans (by go_cell)
  have hsz:w.heap.size+1 < wr.heap.size:=RW.out.lt
  have hsz0:w.heap.size < wr.heap.size:=by omega
  have HB0:Aside (Below w.heap.size w wr):=below_box (k:=1) BW.out
  by_cases hlt:kk < gn
  ·have hltz:(kk:Int) < (gn:Int):=by omega
   obtain ⟨ad,rfl,hb,g0,g1,g2⟩:=(HG.out.below HB0.out (Nat.le_refl _)).gate hlt
   have HP:=gateOk_parts (HOK.out kk (by rw [LN.out];exact hlt))
   have HT:=runG_take evalW 0 gs ins kk (by rw [LN.out];exact hlt)
   generalize gs.getD kk default=gt at g0 g1 g2 HP HT
   have hlen:(runG evalW 0 (gs.take kk) ins).length=inn+kk:=by rw [runG_length,List.length_take,LI.out,LN.out];omega
   generalize runG evalW 0 (gs.take kk) ins=vs at RW HT hlen
   obtain ⟨op,ga,gb⟩:=gt
   dsimp only at g0 g1 g2 HP HT
   obtain ⟨hop,ha,hb',ha0,hb0⟩:=HP
   have vc:wr.cell? ⟨w.heap.size+1,inn+kk,none⟩=some (.int .u64 0):=(RW.out.cell (inn+kk)).trans (by rw [List.getElem?_append_right (by simp [w64s];omega),List.getElem?_replicate];simp [w64s,hlen];omega)
   have vf:wr.frozen? ⟨w.heap.size+1,inn+kk,none⟩=false:=RW.out.frozen (inn+kk)
   have HL:Aside (vs.length=inn+kk):=hlen
   have HS:Aside (∀ x:BitVec 64,(w64s vs ++ List.replicate (gn - kk) (Value.int .u64 0)).set (inn+kk) (w64 x)=w64s (vs ++ [x]) ++ List.replicate (gn - kk - 1) (Value.int .u64 0)):=fun x=>w64s_set vs x _ _ _ hlen (by omega)
   rcases hop with rfl | rfl | rfl | rfl | rfl | rfl
   ·clear ha hb' ha0 hb0 hlen
    have HT':Aside _:=HT
    clear HT
    go_wp2
    go_roundg (gn - (kk+1))
    case measure=>omega
    case rel=>
     have BB:=BW.out
     have HT:=HT'.out
     refine ⟨kk+1,by omega,by omega,by go_num,(show Below _ _ _ by go_grown),?_⟩
     show Row _ _ _ _
     rw [HT,show gn - (kk+1)=gn - kk - 1 from by omega]
     have h0:=HS.out 0
     have he:(w64s vs ++ List.replicate (gn - kk) (Value.int .u64 0)).set (inn+kk) (w64 0)=w64s vs ++ List.replicate (gn - kk) (Value.int .u64 0):=by
      apply List.ext_getElem?
      intro j
      rw [List.getElem?_set]
      split
      ·rename_i hj;subst hj
       have:=(RW.out.cell (inn+kk)).symm.trans vc
       rw [this,if_pos (List.getElem?_eq_some_iff.1 this).1];rfl
      ·rfl
     rw [show (evalW 0 _ _)=0 from rfl,← h0,he]
     exact (RW.out.alloc _)
   ·clear ha hb' ha0 hb0 hlen
    have HT':Aside _:=HT
    clear HT
    go_wp2
    go_roundg (gn - (kk+1))
    case measure=>omega
    case rel=>
     have BB:=BW.out
     have HT:=HT'.out
     refine ⟨kk+1,by omega,by omega,by go_num,(show Below _ _ _ by go_grown),?_⟩
     show Row _ _ _ _
     rw [HT,show gn - (kk+1)=gn - kk - 1 from by omega]
     rw [show evalW 1 _ _=BitVec.allOnes 64 from rfl,← HS.out]
     exact (RW.out.set _ _).alloc _
   ·obtain ⟨an,rfl⟩:∃ an:Nat,ga=(an:Int):=⟨ga.toNat,by omega⟩
    have ha':an < inn+kk:=by omega
    have va:wr.cell? ⟨w.heap.size+1,an,none⟩=some (w64 (vs.getD an 0)):=(RW.out.cell an).trans (w64s_at vs _ an (by omega))
    simp only [Int.toNat_natCast] at HT
    generalize vs.getD an 0=x at va HT
    unfold w64 at va
    clear ha hb' ha0 hb0 hlen
    have HT':Aside _:=HT
    clear HT
    go_wp2
    go_roundg (gn - (kk+1))
    case measure=>omega
    case rel=>
     have BB:=BW.out
     have HT:=HT'.out
     refine ⟨kk+1,by omega,by omega,by go_num,(show Below _ _ _ by go_grown),?_⟩
     show Row _ _ _ _
     rw [HT,show gn - (kk+1)=gn - kk - 1 from by omega]
     rw [show evalW 2 x _ = ~~~x from rfl,← HS.out]
     have:=(RW.out.set (inn+kk) (w64 (~~~x))).alloc (.cells #[.int .i64 2,.int .i64 an,.int .i64 gb] 77)
     rw [w64_not]
     exact this
   ·obtain ⟨an,rfl⟩:∃ an:Nat,ga=(an:Int):=⟨ga.toNat,by omega⟩
    obtain ⟨bn,rfl⟩:∃ bn:Nat,gb=(bn:Int):=⟨gb.toNat,by omega⟩
    have ha':an < inn+kk:=by omega
    have hbn:bn < inn+kk:=by omega
    have va:wr.cell? ⟨w.heap.size+1,an,none⟩=some (w64 (vs.getD an 0)):=(RW.out.cell an).trans (w64s_at vs _ an (by omega))
    have vb:wr.cell? ⟨w.heap.size+1,bn,none⟩=some (w64 (vs.getD bn 0)):=(RW.out.cell bn).trans (w64s_at vs _ bn (by omega))
    simp only [Int.toNat_natCast] at HT
    generalize vs.getD an 0=x at va HT
    generalize vs.getD bn 0=y at vb HT
    unfold w64 at va vb
    clear ha hb' ha0 hb0 hlen
    have HT':Aside _:=HT
    clear HT
    go_wp2
    go_region
    go_wp2
    go_roundg (gn - (kk+1))
    case measure=>omega
    case rel=>
     have BB:=BW.out
     have HT:=HT'.out
     refine ⟨kk+1,by omega,by omega,by go_num,(show Below _ _ _ by go_grown),?_⟩
     show Row _ _ _ _
     rw [HT,show gn - (kk+1)=gn - kk - 1 from by omega]
     rw [show evalW 3 x y=x &&& y from rfl,← HS.out,w64_and]
     exact ((RW.out.set (inn+kk) (w64 (x &&& y))).alloc _).drew
   ·obtain ⟨an,rfl⟩:∃ an:Nat,ga=(an:Int):=⟨ga.toNat,by omega⟩
    obtain ⟨bn,rfl⟩:∃ bn:Nat,gb=(bn:Int):=⟨gb.toNat,by omega⟩
    have ha':an < inn+kk:=by omega
    have hbn:bn < inn+kk:=by omega
    have va:wr.cell? ⟨w.heap.size+1,an,none⟩=some (w64 (vs.getD an 0)):=(RW.out.cell an).trans (w64s_at vs _ an (by omega))
    have vb:wr.cell? ⟨w.heap.size+1,bn,none⟩=some (w64 (vs.getD bn 0)):=(RW.out.cell bn).trans (w64s_at vs _ bn (by omega))
    simp only [Int.toNat_natCast] at HT
    generalize vs.getD an 0=x at va HT
    generalize vs.getD bn 0=y at vb HT
    unfold w64 at va vb
    clear ha hb' ha0 hb0 hlen
    have HT':Aside _:=HT
    clear HT
    go_wp2
    go_region
    go_wp2
    go_roundg (gn - (kk+1))
    case measure=>omega
    case rel=>
     have BB:=BW.out
     have HT:=HT'.out
     refine ⟨kk+1,by omega,by omega,by go_num,(show Below _ _ _ by go_grown),?_⟩
     show Row _ _ _ _
     rw [HT,show gn - (kk+1)=gn - kk - 1 from by omega]
     rw [show evalW 4 x y=x ||| y from rfl,← HS.out,w64_or]
     exact ((RW.out.set (inn+kk) (w64 (x ||| y))).alloc _).drew
   ·obtain ⟨an,rfl⟩:∃ an:Nat,ga=(an:Int):=⟨ga.toNat,by omega⟩
    obtain ⟨bn,rfl⟩:∃ bn:Nat,gb=(bn:Int):=⟨gb.toNat,by omega⟩
    have ha':an < inn+kk:=by omega
    have hbn:bn < inn+kk:=by omega
    have va:wr.cell? ⟨w.heap.size+1,an,none⟩=some (w64 (vs.getD an 0)):=(RW.out.cell an).trans (w64s_at vs _ an (by omega))
    have vb:wr.cell? ⟨w.heap.size+1,bn,none⟩=some (w64 (vs.getD bn 0)):=(RW.out.cell bn).trans (w64s_at vs _ bn (by omega))
    simp only [Int.toNat_natCast] at HT
    generalize vs.getD an 0=x at va HT
    generalize vs.getD bn 0=y at vb HT
    unfold w64 at va vb
    clear ha hb' ha0 hb0 hlen
    have HT':Aside _:=HT
    clear HT
    go_wp2
    go_region
    go_wp2
    go_roundg (gn - (kk+1))
    case measure=>omega
    case rel=>
     have BB:=BW.out
     have HT:=HT'.out
     refine ⟨kk+1,by omega,by omega,by go_num,(show Below _ _ _ by go_grown),?_⟩
     show Row _ _ _ _
     rw [HT,show gn - (kk+1)=gn - kk - 1 from by omega]
     rw [show evalW 5 x y=x ^^^ y from rfl,← HS.out,w64_xor]
     exact ((RW.out.set (inn+kk) (w64 (x ^^^ y))).alloc _).drew
  ·have hltz:¬ (kk:Int) < (gn:Int):=by omega
   obtain rfl:kk=gn:=by omega
   go_wp2
   go_ret
   refine ⟨w.heap.size+1,rfl,?_,by omega,HB0.out⟩
   have:=RW.out
   rw [Nat.sub_self,List.replicate_zero,List.append_nil,← LN.out,List.take_length] at this
   exact this
end Go.Proofs.Ytiemhbogbaamlaa
/-
 A part.
-/
namespace Go.Proofs.Ytiemhbogbaamlaa
open Go.RowKit
theorem right_at (c:Circ) (GA OA:Option Addr) (gn gc on oc:Nat) (w:World) (h:CAt w c GA OA gn on):
 Calls Try.prog 54 #[.agg #[.int .i64 c.inputs,.slice GA gn gc,.slice OA on oc]] w fun e w'=>e=.returned (.bool (rightC c))∧Below w.heap.size w w':=
 right_any c.inputs GA OA gn gc on oc c.gates c.outs w h.gates h.outs h.g63 h.o63
set_option maxHeartbeats 1000000 in
theorem words_ok (c:Circ) (GA OA IA:Option Addr) (gn gc on oc n ic:Nat) (ins:List (BitVec 64)) (w:World) (h:CAt w c GA OA gn on) (hI:Rd w w.heap.size 1 IA n (w64s ins)) (hok:okC c n=true):
 Calls Try.prog 72 #[.agg #[.int .i64 c.inputs,.slice GA gn gc,.slice OA on oc],.slice IA n ic] w fun e w'=>
  ∃ g,e=.returned (.tuple #[.slice (some ⟨g,0,none⟩) on on,.int .i64 0])∧Row w' g 66 (w64s (outsG evalW 0 c ins))∧w.heap.size≤g∧Below w.heap.size w w':=by
 have H:=hiD h
 have HI:=hiD hI
 simp only [okC,Bool.and_eq_true,decide_eq_true_eq] at hok
 obtain ⟨hr,hn⟩:=hok
 obtain ⟨⟨h0,h1,h2,h3⟩,hg,ho⟩:=rightC_parts hr
 rw [h.gl] at h2 ho
 rw [h.ol] at h3
 obtain ⟨inp,gs,os⟩:=c
 dsimp only at hn h0 h1 hg ho
 subst hn
 have HR:=hiD hr
 have LO:Hid (os.length=on):=h.ol
 have LI:Hid (ins.length=n):=by have:=hI.1;simp [w64s] at this;show _=_;omega
 have HGK:=hiD hg
 have HOK:=hiD ho
 have LG:Hid (gs.length=gn):=h.gl
 clear h hI hr hg ho
 have hmk:=fun W=>make_like (P:=Try.prog) Try.underlying67 u64_info rfl on (on:Int) rfl (by omega) (by omega) W
 go_enter Try.func72,Try.ntmps72
 go_wp2_with fail
 refine (right_at ⟨(n:Int),gs,os⟩ GA OA gn gc on oc _ (H.out.up (by go_grown))).mono ?_
 rw [HR.out]
 rintro e w1 ⟨rfl,hb⟩
 have B1:Below w.heap.size w w1:=(show Below w.heap.size w _ by go_grown).trans (hb.mono (by simp))
 have c0:w1.cell? ⟨w.heap.size,0,none⟩=some (.int .i64 n):=(hb.cell (p:=⟨w.heap.size,0,none⟩) (by simp)).trans (by go_cell)
 have c1:w1.cell? ⟨w.heap.size,1,none⟩=some (.slice GA gn gc):=(hb.cell (p:=⟨w.heap.size,1,none⟩) (by simp)).trans (by go_cell)
 have c2:w1.cell? ⟨w.heap.size,2,none⟩=some (.slice OA on oc):=(hb.cell (p:=⟨w.heap.size,2,none⟩) (by simp)).trans (by go_cell)
 have hz1:w.heap.size < w1.heap.size:=by have:=hb.size;simp at this;omega
 clear hb
 go_wp2_with fail
 refine (values_any n GA OA IA gn gc on oc ic gs ins _ (H.out.up B1).gates (HI.out.up B1) (by omega) h2 HGK.out).mono ?_
 rintro e w2 ⟨g,rfl,hrow,hgle,hb⟩
 have B2:Below w.heap.size w w2:=B1.trans (hb.mono B1.size)
 have d2:w2.cell? ⟨w.heap.size,2,none⟩=some (.slice OA on oc):=(hb.cell (p:=⟨w.heap.size,2,none⟩) (by show w.heap.size < _;omega)).trans c2
 have hz2:w.heap.size < w2.heap.size:=by have:=hb.size;omega
 have HROW:=hiD hrow
 have hgl:g < w2.heap.size:=hrow.lt
 have HB2:=hiD B2
 clear hb B1 c0 c1 c2 hz1 hrow B2
 go_wp2
 go_loopg [30] on (fun gg s30 wr=>∃ kk:Nat,kk≤on∧on - kk≤gg∧s30=.int .i64 kk∧Aside (Below (w2.heap.size) w2 wr)∧Aside (Row wr w2.heap.size 66 (w64s ((os.take kk).map fun o=>(runG evalW 0 gs ins).getD o.toNat 0) ++ List.replicate (on - kk) (.int .u64 0))))
 case atStart=>exact ⟨0,Nat.zero_le _,by omega,rfl,(show Below _ _ _ by go_grown),Row.new _ _ _⟩
 case round=>
  obtain ⟨kk,hkk,hgg,rfl,BW,RW⟩:=hrel
  have e2:wr.cell? ⟨w.heap.size,2,none⟩=some (.slice OA on oc):=(BW.out.cell (p:=⟨w.heap.size,2,none⟩) hz2).trans d2
  have hsz:w2.heap.size < wr.heap.size:=RW.out.lt
  by_cases hlt:kk < on
  ·have hltz:(kk:Int) < (on:Int):=by omega
   have B3:Below w.heap.size w wr:=HB2.out.trans (BW.out.mono (by omega))
   obtain ⟨ad,rfl,hb,hcell⟩:=((H.out.up B3).outs).int hlt
   obtain ⟨ho1,ho2⟩:=outOk_at HOK.out (k:=kk) (by rw [LO.out];exact hlt)
   have HT:Aside _:=map_take_snoc (fun o=>(runG evalW 0 gs ins).getD o.toNat 0) os kk (by rw [LO.out];exact hlt)
   generalize os.getD kk 0=o at hcell ho1 ho2 HT
   obtain ⟨on',rfl⟩:∃ m:Nat,o=(m:Int):=⟨o.toNat,by omega⟩
   have hon:on' < n+gn:=by omega
   clear ho1 ho2 B3
   have HL:Aside ((runG evalW 0 gs ins).length=n+gn):=by show _=_;rw [runG_length,LI.out,LG.out]
   have hv:wr.cell? ⟨g,on',none⟩=some (w64 ((runG evalW 0 gs ins).getD on' 0)):=by
    rw [BW.out.cell (p:=⟨g,on',none⟩) hgl,HROW.out.cell on']
    have:=w64s_at (runG evalW 0 gs ins) [] on' (by rw [HL.out];exact hon)
    simpa using this
   have hlt':((os.take kk).map fun o=>(runG evalW 0 gs ins).getD o.toNat 0).length=kk:=by rw [List.length_map,List.length_take,LO.out];omega
   have hs:=w64s_set ((os.take kk).map fun o=>(runG evalW 0 gs ins).getD o.toNat 0) ((runG evalW 0 gs ins).getD on' 0) kk (on - kk) (.int .u64 0) hlt' (by omega)
   have vc:wr.cell? ⟨w2.heap.size,kk,none⟩=some (.int .u64 0):=(RW.out.cell kk).trans (w64s_next _ _ _ _ hlt' (by omega))
   have vf:wr.frozen? ⟨w2.heap.size,kk,none⟩=false:=RW.out.frozen kk
   generalize hx:(runG evalW 0 gs ins).getD on' 0=x at hv hs
   have HX:Aside ((runG evalW 0 gs ins).getD on' 0=x):=hx
   have HS:Aside _:=hs
   clear hx hs hlt'
   unfold w64 at hv
   go_wp2
   go_roundg (on - (kk+1))
   case measure=>omega
   case rel=>
    have BB:=BW.out
    refine ⟨kk+1,by omega,by omega,by go_num,(show Below _ _ _ by go_grown),?_⟩
    show Row _ _ _ _
    rw [HT.out,show on - (kk+1)=on - kk - 1 from by omega]
    simp only [Int.toNat_natCast]
    rw [HX.out,← HS.out]
    exact RW.out.set _ _
  ·have hltz:¬ (kk:Int) < (on:Int):=by omega
   obtain rfl:kk=on:=by omega
   go_wp2
   go_ret2
   refine ⟨w2.heap.size,rfl,?_,HB2.out.size,HB2.out.trans (BW.out.mono HB2.out.size)⟩
   have:=RW.out
   rw [Nat.sub_self,List.replicate_zero,List.append_nil,← LO.out,List.take_length] at this
   exact this
end Go.Proofs.Ytiemhbogbaamlaa
/-
 A part.
-/
namespace Go.Proofs.Ytiemhbogbaamlaa
open Go.RowKit
section
variable {P:Program} {ops:Array Oper} {Q:Exit→Act→World→Prop} {md:Region.Mode} {S:World→Prop} {W:List Nat}
theorem restL_two {i j:Nat} {o p:Oper} {f:Nat} {lst:Array Bool} {a:Act} {w:World} (hr:Region.ready md ops lst=[i,j]) (ho:ops[i]?=some o) (hp:ops[j]?=some p)
 (h:∀ K':Act→World→Prop,Shut (∀ b u,(W.contains i=false→S u)→((W.contains i=false→S u)→restL P md ops Q S W f (lst.setIfInBounds i true) b u)→K' b u)→if Region.wanted o (yielded ops a.tmps)=true then Oper.wp P o a w K' Q else K' (a.put o.dst undef) w)
 (h2:∀ K':Act→World→Prop,Shut (∀ b u,(W.contains j=false→S u)→((W.contains j=false→S u)→restL P md ops Q S W f (lst.setIfInBounds j true) b u)→K' b u)→if Region.wanted p (yielded ops a.tmps)=true then Oper.wp P p a w K' Q else K' (a.put p.dst undef) w):
 restL P md ops Q S W (f+1) lst a w:=by
 intro hc
 refine And.intro (fun h0=>absurd (hr.symm.trans h0) (by simp)) (fun k hk=>?_)
 have hc':=hc.set hk
 rw [hr] at hk
 rcases List.mem_cons.1 hk with e | hk
 ·subst e
  exact wpOp_step ho (fun K' hK=>h K' (fun b u hS hW=>hK b u ⟨fun e _=>hS e,hW hS hc'⟩))
 ·obtain rfl:=List.mem_singleton.1 hk
  exact wpOp_step hp (fun K' hK=>h2 K' (fun b u hS hW=>hK b u ⟨fun e _=>hS e,hW hS hc'⟩))
end
end Go.Proofs.Ytiemhbogbaamlaa
