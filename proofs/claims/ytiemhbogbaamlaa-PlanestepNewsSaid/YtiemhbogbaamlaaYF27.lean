/-
 A part.
-/
import Derived.Test.YtiemhbogbaamlaaYF1
import Derived.Test.YtiemhbogbaamlaaYF26
import Derived.Laws.Slices
import Derived.Lib.MinMax
set_option linter.unusedSimpArgs false
set_option linter.unusedVariables false
namespace Go.Proofs.Ytiemhbogbaamlaa
open Go.RowKit
theorem run_slice_win {P:Program} (W:World) (t e:TypeId) (ht:P.underlying t=some (.slice e)) (hz:∀ w,(Go.sizeOf e).run P w=.ok 1 w) (ad:Addr) (len cap l h:Nat) (hlh:l < h) (hh:h≤cap):
 (Instr.slice t (.slice (some ad) len cap) (some (.int .i64 (l:Int))) (some (.int .i64 (h:Int))) none).run P W=.ok (.slice (some (ad.add l)) (h - l) (cap - l)) W:=by
 have ht':P.underlying t=some (.slice (P.elem t)):=by simp [Program.elem,ht]
 have he:P.elem t=e:=by simp [Program.elem,ht]
 rw [run_slice_lh W t _ _ _ ht' .i64 .i64 _ _ (by omega) (by omega) (by omega),he,hz]
 have hne:¬ cap=l:=by omega
 simp [Result.andThen,sliced,hne]
theorem size_word (w:World):(Go.sizeOf 66).run Try.prog w=.ok 1 w:=by kernel_rfl
theorem Rd.window {w:World} {B n:Nat} {ad:Addr} {l:List (BitVec 64)} (h:Rd w B 1 (some ad) n (w64s l)) (a k:Nat) (hk:a+k≤n):Rd w B 1 (some (ad.add a)) k (w64s ((l.drop a).take k)):=by
 have hl:l.length=n:=by have:=h.1;rw [w64s_length,Nat.mul_one] at this;exact this
 refine ⟨by rw [w64s_length,List.length_take,List.length_drop];omega,fun hk0=>?_⟩
 obtain ⟨ad',e,hb,hc⟩:=h.2 (by omega)
 injection e with e
 subst e
 refine ⟨_,rfl,by rw [add_block];exact hb,fun j u hu=>?_⟩
 rw [add_add']
 refine hc _ _ ?_
 unfold w64s at hu ⊢
 rw [List.getElem?_map] at hu ⊢
 have hj:j < k:=by
  rcases Nat.lt_or_ge j k with h1 | h1
  ·exact h1
  ·rw [List.getElem?_eq_none (by rw [List.length_take];omega)] at hu;cases hu
 rw [List.getElem?_take_of_lt hj,List.getElem?_drop] at hu
 exact hu
theorem step_copy_row {P:Program} {ops:Array Oper} {o:Oper} {a:Act} {w:World} {K:Act→World→Prop} {Q:Exit→Act→World→Prop} {E:Prop} (hgd:o.guard=none) (d s:Operand) (dT sT:TypeId)
 (ho:o.op=.call { callee:=.builtin .copy,args:=#[d,s],argTypes:=#[dT,sT] }) (elem:TypeId) (hu:P.underlying dT=some (.slice elem)) (hsz:(P.info? elem).map (·.size)=some 1)
 (ad:Addr) (dLen dCap sLen sCap:Nat) (g off:Nat) (hd:a.eval d=.slice (some ⟨g,off,none⟩) dLen dCap) (hs:a.eval s=.slice (some ad) sLen sCap)
 (cur:List Value) (t:TypeId) (hg:Row w g t cur) (cs:List Value) (hn:cs.length=Nat.min sLen dLen)
 (hsrc:∀ j v,cs[j]?=some v→w.cell? (ad.add j)=some v)
 (hfit:off+cs.length≤cur.length) (h1:∀ v ∈ cs,v.oneCell'=true)
 (h:K (a.put o.dst (goInt cs.length)) (w.setRow g (splice cur off cs).toArray)):
 if Region.wanted o (yielded ops a.tmps)=true then Oper.wp P o a w K Q else E:=by
 have hw:Region.wanted o (yielded ops a.tmps)=true:=by simp [Region.wanted,hgd]
 rw [if_pos hw]
 have hrun:=run_copy_row (P:=P) w dT sT o.type elem g off dLen dCap ad sLen sCap cur.toArray t cs hu hsz hg hn hsrc (by simpa using hfit) h1
 unfold Oper.wp
 simp [execOp,ho,resolve,invoke,builtin,hd,hs,hrun,Result.andThen]
 exact h
theorem Row.setRow {w:World} {g:Nat} {T:TypeId} {xs:List Value} (h:Row w g T xs) (ys:List Value):Row (w.setRow g ys.toArray) g T ys:=setRow_heap w g _ _ T _ h
theorem Row.setRow_far {w:World} {g k:Nat} {T:TypeId} {xs:List Value} (h:Row w k T xs) (hk:k≠g) (ys:Array Value):Row (w.setRow g ys) k T xs:=(setRow_other w g k ys hk).trans h
theorem own_setRow {w:World} {base sz n g:Nat} {e T:TypeId} {v:Value} {xs cs:List Value} (ho:w.ownsRow base e sz v n xs) (hr:Row w g T cs) (hne:e≠T) (ys:Array Value):(w.setRow g ys).ownsRow base e sz v n xs:=by
 refine ⟨ho.1,ho.2.imp id (fun ⟨k,cap,cur,a,b,c,d⟩=>⟨k,cap,cur,a,b,?_,d⟩)⟩
 rw [setRow_other w g k ys (fun e2=>by
  subst e2
  unfold Row at hr
  rw [hr] at c
  injection c with c
  injection c with _ ht
  exact hne ht.symm)]
 exact c
theorem w64s_splice (l cs:List (BitVec 64)) (off:Nat):splice (w64s l) off (w64s cs)=w64s (splice l off cs):=by simp [splice,w64s]
theorem POwn.splice {w:World} {base M:Nat} {v:Value} {gs:List Nat} {rows:List (List (BitVec 64))} (h:POwn w base v M gs rows) (i off:Nat) (ws:List (BitVec 64)) (hi:i < rows.length) (hfit:off+ws.length≤M):
 POwn (w.setRow (gs.getD i 0) (w64s (Go.splice (rows.getD i []) off ws)).toArray) base v M gs (rows.set i (Go.splice (rows.getD i []) off ws)):=by
 have hri:=h.row i hi
 have hw:=h.wid i hi
 refine ⟨by rw [List.length_set];exact h.len,by rw [List.length_set];exact own_setRow h.own hri (by decide) _,fun j hj=>?_,fun j hj=>?_,fun j hj=>?_,fun j l hj hl e=>?_⟩
 all_goals rw [List.length_set] at hj
 ·by_cases e:j=i
  ·subst e
   have:(rows.set j (Go.splice (rows.getD j []) off ws)).getD j []=Go.splice (rows.getD j []) off ws:=by
    rw [List.getD_eq_getElem?_getD,List.getElem?_set_self hi];rfl
   rw [this]
   exact hri.setRow _
  ·have:(rows.set i (Go.splice (rows.getD i []) off ws)).getD j []=rows.getD j []:=by
    rw [List.getD_eq_getElem?_getD,List.getElem?_set_ne (fun h=>e h.symm),List.getD_eq_getElem?_getD]
   rw [this]
   exact (h.row j hj).setRow_far (fun h9=>e (h.inj j i hj hi h9)) _
 ·by_cases e:j=i
  ·subst e
   rw [List.getD_eq_getElem?_getD,List.getElem?_set_self hi]
   show (Go.splice (rows.getD j []) off ws).length=M
   rw [length_splice _ _ _ (by rw [hw];exact hfit)];exact hw
  ·rw [List.getD_eq_getElem?_getD,List.getElem?_set_ne (fun h=>e h.symm),← List.getD_eq_getElem?_getD]
   exact h.wid j hj
 ·exact h.bas j hj
 ·rw [List.length_set] at hl
  exact h.inj j l hj hl e
set_option maxRecDepth 100000 in
set_option maxHeartbeats 2000000 in
theorem plMove_bad (p:Pln) (A:Option Addr) (n c:Nat) (sl:List Sl) (dx dy:Int) (w:World) (h:PAt w p A n sl) (hbad:moveErr p dx dy≠0):
 Calls Try.prog 71 #[.agg #[.int .i64 p.w,.int .i64 p.h,.int .i64 p.edge,.slice A n c],.int .i64 dx,.int .i64 dy] w (PPost (moveR p dx dy) (moveErr p dx dy) w):=by
 have H:=hiD h
 have h2:moveErr p dx dy=2:=by unfold moveErr at hbad ⊢;split at hbad <;> simp_all
 have HCE:Hid (moveR p dx dy=noPln∧moveErr p dx dy=2):=⟨by unfold moveR;rw [if_neg hbad],h2⟩
 have hq:rightPl p=false∨rightPl p=true∧(256 < max dx dy∨¬ 256 < max dx dy∧min dx dy < -256):=by
  cases hr:rightPl p
  ·exact .inl rfl
  ·refine .inr ⟨rfl,?_⟩
   unfold moveErr offOk at hbad
   rw [hr] at hbad
   simp at hbad
   omega
 clear h hbad h2
 go_enter Try.func71,Try.ntmps71
 go_wp2_with fail
 refine (plRight_any p A n c sl _ (H.out.up (by go_grown))).mono ?_
 rintro e w1 ⟨rfl,hb⟩
 have HB:Hid (Below w.heap.size w w1):=below_next hb (by go_grown)
 have RZ:Hid (Row w1 (w.heap.size+1) 42 [.int .i64 0,.int .i64 0,.int .i64 0,.slice none 0 0]):=rowCells (rowNew1 w _ 42 [.int .i64 0,.int .i64 0,.int .i64 0,.slice none 0 0]) hb
 clear hb
 obtain ⟨d0,d1,d2,d3,dl⟩:=RZ.out.cells4
 obtain ⟨f0,f1,f2,f3⟩:=RZ.out.froz4
 have BB:=HB.out
 rcases hq with hr | ⟨hr,h1 | ⟨h2,h1⟩⟩
 all_goals rw [hr];clear hr
 ·go_wp2
  exact bodyPost_ret (v:=.tuple #[.agg #[.int .i64 0,.int .i64 0,.int .i64 0,.slice none 0 0],.int .i64 2]) (by simp [results,Try.results71,go_sem,d0,d1,d2,d3]) rfl (ppost_err HCE.out.1 HCE.out.2 (by go_grown))
 ·go_wp2
  exact bodyPost_ret (v:=.tuple #[.agg #[.int .i64 0,.int .i64 0,.int .i64 0,.slice none 0 0],.int .i64 2]) (by simp [results,Try.results71,go_sem,d0,d1,d2,d3]) rfl (ppost_err HCE.out.1 HCE.out.2 (by go_grown))
 ·go_wp2
  exact bodyPost_ret (v:=.tuple #[.agg #[.int .i64 0,.int .i64 0,.int .i64 0,.slice none 0 0],.int .i64 2]) (by simp [results,Try.results71,go_sem,d0,d1,d2,d3]) rfl (ppost_err HCE.out.1 HCE.out.2 (by go_grown))
set_option maxRecDepth 100000 in
set_option maxHeartbeats 6000000 in
theorem plMove_good (p:Pln) (A:Option Addr) (n c:Nat) (sl:List Sl) (dx dy:Int) (w:World) (h:PAt w p A n sl) (hr:rightPl p=true) (ho:offOk dx dy=true):
 Calls Try.prog 71 #[.agg #[.int .i64 p.w,.int .i64 p.h,.int .i64 p.edge,.slice A n c],.int .i64 dx,.int .i64 dy] w (PPost (moveR p dx dy) (moveErr p dx dy) w):=by
 have H:=hiD h
 have HWL:Hid (p.words.length=n):=h.wl
 have hm:=h.n63
 unfold maxLen at hm
 have HR:=hiD hr
 have HCE:Hid (moveR p dx dy=moveP p dx dy∧moveErr p dx dy=0):=by
  have h2:moveErr p dx dy=0:=by unfold moveErr;rw [if_pos ⟨hr,ho⟩]
  exact ⟨by unfold moveR;rw [if_pos h2],h2⟩
 have ho2:(-256≤dx∧dx≤256)∧(-256≤dy∧dy≤256):=by simpa [offOk] using ho
 obtain ⟨⟨o1,o2⟩,o3,o4⟩:=ho2
 have hmx:¬ 256 < max dx dy:=by omega
 have hmn:¬ min dx dy < -256:=by omega
 obtain ⟨hs,⟨hn1,hn3⟩,hpl0⟩:=rightPl_parts hr
 obtain ⟨⟨s1,s2⟩,⟨s3,s4⟩,s5,s6,s7⟩:=sizedF_parts hs
 obtain ⟨W,hW⟩:∃ W:Nat,p.w=(W:Int):=⟨p.w.toNat,by omega⟩
 obtain ⟨Hh,hH⟩:∃ Hh:Nat,p.h=(Hh:Int):=⟨p.h.toNat,by omega⟩
 obtain ⟨E,hE⟩:∃ E:Nat,p.edge=(E:Int):=⟨p.edge.toNat,by omega⟩
 have HW:=hiD hW
 have HH:=hiD hH
 have HE:=hiD hE
 have HWT:Hid (p.w.toNat=W∧p.h.toNat=Hh):=by rw [hW,hH];exact ⟨Int.toNat_natCast W,Int.toNat_natCast Hh⟩
 rw [hW,hH,Int.toNat_natCast,Int.toNat_natCast] at hpl0
 have hW1:1≤W∧W≤256:=by omega
 have hH1:1≤Hh∧Hh≤256:=by omega
 have hE2:E≤2:=by omega
 obtain ⟨w1',w2',w3'⟩:=wpr_bd hW1.1
 have HPL:Hid (∀ b,b < p.words.length→(p.words.getD b []).length=Hh * wpr W):=fun b hb=>(planeOk_parts (hpl0 b hb)).1
 obtain ⟨nn,hnn⟩:∃ nn,nn=wpr W:=⟨_,rfl⟩
 have HNN:Hid (wpr W=nn):=hnn.symm
 rw [← hnn] at w1' w2' w3'
 have hn4:nn≤4:=by omega
 rw [HWL.out] at hn1 hn3
 obtain ⟨M,hM⟩:∃ M,M=Hh * nn:=⟨_,rfl⟩
 have HMM:=hiD hM
 have hMb:M≤1024:=by rw [hM];exact Nat.mul_le_mul hH1.2 hn4
 have hM1:1≤M:=by rw [hM];exact Nat.mul_le_mul hH1.1 w1'
 obtain ⟨D,hD⟩:∃ D,D=(moveP p dx dy).words:=⟨_,rfl⟩
 have HD:=hiD hD
 have HDL:Hid (D.length=n):=by show D.length=n;rw [hD,move_len];exact HWL.out
 have HDM:Hid (∀ j,j < D.length→(D.getD j []).length=Hh * nn):=fun j hj=>by
  rw [hD,moveP_plane_len _ _ _ _ (by rw [HDL.out] at hj;rw [HWL.out];exact hj),HWT.out.1,HWT.out.2,HNN.out]
 have HKR:Hid (∀ b y i k:Nat,b < n→y < Hh→i < nn→atF ((y:Int)+dy) Hh E=(k:Int)→(shF (rowAt (p.words.getD b []) nn k) W dx E).getD i 0#64=(D.getD b []).getD (y * nn+i) 0#64):=fun b y i k hb hy hi hk=>by
  have:=move_row hr dx dy b y i k (by rw [HWL.out];exact hb) (by rw [HWT.out.2];exact hy) (by rw [HWT.out.1,HNN.out];exact hi) (by rw [hH,hE];exact hk)
  rw [HWT.out.1,HNN.out,hE,← hD] at this
  exact this
 have HKN:Hid (∀ b y i:Nat,b < n→y < Hh→i < nn→atF ((y:Int)+dy) Hh E < 0→(D.getD b []).getD (y * nn+i) 0#64=0#64):=fun b y i hb hy hi hk=>by
  have:=move_none hr dx dy b y i (by rw [HWL.out];exact hb) (by rw [HWT.out.2];exact hy) (by rw [HWT.out.1,HNN.out];exact hi) (by rw [hH,hE];exact hk)
  rw [HWT.out.1,HNN.out,← hD] at this
  exact this
 clear hr ho hs s1 s2 s3 s4 s5 s6 s7 hW hH hE hnn hpl0 h hM hD
 go_enter Try.func71,Try.ntmps71
 go_wp2_with fail
 refine (plRight_any p A n c sl _ (H.out.up (by go_grown))).mono ?_
 rw [HR.out]
 rintro e w1 ⟨rfl,hb⟩
 have HB:Hid (Below w.heap.size w w1):=below_next hb (by go_grown)
 have RA:Hid (Row w1 w.heap.size 42 [.int .i64 p.w,.int .i64 p.h,.int .i64 p.edge,.slice A n c]):=rowCells ((Row.new w 42 [.int .i64 p.w,.int .i64 p.h,.int .i64 p.edge,.slice A n c]).alloc _) hb
 have RZ:Hid (Row w1 (w.heap.size+1) 42 [.int .i64 0,.int .i64 0,.int .i64 0,.slice none 0 0]):=rowCells (rowNew1 w _ 42 [.int .i64 0,.int .i64 0,.int .i64 0,.slice none 0 0]) hb
 clear hb
 rw [HW.out,HH.out,HE.out] at RA
 obtain ⟨k0,k1,k2,k3,kl⟩:=RA.out.cells4
 go_wp2_with fail
 refine (blank_any W Hh E n _ hW1 hH1 hn3 hE2).mono ?_
 rw [HNN.out]
 rintro e w2 ⟨PA,pc,gs,rfl,hpo,hb⟩
 obtain ⟨ae,rfl,_⟩:=(by have:=hpo.own;rw [List.length_replicate] at this;exact Rd.of_own this:Rd w2 w2.heap.size 1 PA n (gs.map (gcell (Hh * nn)))).ex (by omega)
 have HPO:=hiD hpo
 have HB2:=hiD hb
 have RA2:=hiD (rowCells RA.out hb)
 clear hb hpo k0 k1 k2 k3 kl
 obtain ⟨k0,k1,k2,k3,kl⟩:=RA2.out.cells4
 go_wp2_with fail
 refine (words_any W _ (by omega)).mono ?_
 rw [HNN.out]
 rintro e w3 ⟨rfl,rfl⟩
 go_wp2
 have RX:Hid (Row (World.alloc w2 (.cells #[.int .i64 W,.int .i64 Hh,.int .i64 E,.slice (some ae) n pc] 42)) w2.heap.size 42 [.int .i64 W,.int .i64 Hh,.int .i64 E,.slice (some ae) n pc]):=Row.new w2 42 [.int .i64 W,.int .i64 Hh,.int .i64 E,.slice (some ae) n pc]
 have HP1:Hid (POwn (World.alloc w2 (.cells #[.int .i64 W,.int .i64 Hh,.int .i64 E,.slice (some ae) n pc] 42)) w1.heap.size (.slice (some ae) n pc) M gs (mvTo D nn 0 0)):=by
  show POwn _ _ _ _ _ _
  rw [mvTo_zero D nn (Hh * nn) HDM.out,HDL.out,HMM.out]
  exact HPO.out.up ((Below.refl _ _).alloc (Nat.le_refl _) _)
 have HB3:Hid (Below w1.heap.size w1 (World.alloc w2 (.cells #[.int .i64 W,.int .i64 Hh,.int .i64 E,.slice (some ae) n pc] 42))):=below_on2 HB2.out (by go_grown)
 have hgb:w1.heap.size≤w2.heap.size:=HB2.out.size
 have HLT:Hid (∀ j,j < n→gs.getD j 0 < w2.heap.size):=fun j hj=>(HPO.out.row j (by rw [List.length_replicate];exact hj)).lt
 clear k0 k1 k2 k3 kl RA2 HPO HB2
 revert RX HP1 HB3 hgb HLT
 generalize World.alloc w2 (.cells #[.int .i64 W,.int .i64 Hh,.int .i64 E,.slice (some ae) n pc] 42)=w3
 generalize w2.heap.size=gb
 intro RX HP1 HB3 hgb HLT
 go_loopg [10,11,12,13,14,46] Hh (fun gg _ _ _ _ _ s46 wr=>∃ y:Nat,y≤Hh∧Hh - y≤gg∧s46=.int .i64 y∧Aside (Below w1.heap.size w1 wr)∧Aside (Row wr gb 42 [.int .i64 W,.int .i64 Hh,.int .i64 E,.slice (some ae) n pc])∧Aside (POwn wr w1.heap.size (.slice (some ae) n pc) M gs (mvTo D nn y 0)))
 case atStart=>exact ⟨0,Nat.zero_le _,by omega,rfl,HB3.out,RX.out,HP1.out⟩
 case round=>
  clear HB3 RX HP1
  obtain ⟨y,hy,hgg,rfl,BW,RX,PW⟩:=hrel
  have RAr:=hiD (rowCells RA.out BW.out)
  have HBr:=hiD (below_on2 HB.out BW.out)
  obtain ⟨k0,k1,k2,k3,kl⟩:=RAr.out.cells4
  by_cases hlt:y < Hh
  ·have hltz:(y:Int) < (Hh:Int):=by omega
   go_wp2_with fail
   refine (pInside_any ((y:Int)+dy) Hh E _ (by omega) (by omega) (by omega) (by omega)).mono ?_
   have hab:=atF_bd ((y:Int)+dy) Hh E (by omega)
   obtain ⟨ka,hka⟩:∃ ka,ka=atF ((y:Int)+dy) Hh E:=⟨_,rfl⟩
   have HKA:Hid (atF ((y:Int)+dy) Hh E=ka):=hka.symm
   rw [← hka] at hab ⊢
   clear hka
   by_cases hk0:0≤ka
   ·obtain ⟨kq,rfl⟩:∃ kq:Nat,ka=(kq:Int):=⟨ka.toNat,by omega⟩
    rw [inPair_in hk0]
    rintro e w6 ⟨rfl,rfl⟩
    have hkqH:kq < Hh:=by omega
    go_wp2
    have BWo:Hid (Below w1.heap.size w1 wr):=BW.out
    have RXo:Hid (Row wr gb 42 [.int .i64 W,.int .i64 Hh,.int .i64 E,.slice (some ae) n pc]):=RX.out
    have PWo:Hid (POwn wr w1.heap.size (.slice (some ae) n pc) M gs (mvTo D nn y 0)):=PW.out
    clear k0 k1 k2 k3 kl BW RX PW RAr HBr
    obtain ⟨wo,rfl⟩:∃ wo:World,wo=wr:=⟨_,rfl⟩
    go_loopg [13,14,65] n (fun gg _ _ s65 wr=>∃ b:Nat,b≤n∧n - b≤gg∧s65=.int .i64 b∧Aside (Below w1.heap.size w1 wr)∧Aside (Row wr gb 42 [.int .i64 W,.int .i64 Hh,.int .i64 E,.slice (some ae) n pc])∧Aside (POwn wr w1.heap.size (.slice (some ae) n pc) M gs (mvTo D nn y b)))
    case atStart=>exact ⟨0,Nat.zero_le _,by omega,rfl,BWo.out,RXo.out,PWo.out⟩
    case round=>
     clear BWo RXo PWo
     obtain ⟨b,hb,hgb2,rfl,BW,RX,PW⟩:=hrel
     by_cases hlb:b < n
     ·have hlbz:(b:Int) < (n:Int):=by omega
      have RAr:=hiD (rowCells RA.out BW.out)
      have HBr:=hiD (below_on2 HB.out BW.out)
      obtain ⟨ad,rfl,hbl,hc,hrd,hlm,hle⟩:=(H.out.up HBr.out).row hlb
      obtain ⟨hcap,hcap2⟩:=(H.out).cap b (by rw [HWL.out];exact hlb)
      have HLB:=HPL.out b (by rw [HWL.out];exact hlb)
      rw [HNN.out,← HMM.out] at HLB
      have HRW:Hid (∀ i,i < nn→(shF (rowAt (p.words.getD b []) nn kq) W dx E).getD i 0#64=(D.getD b []).getD (y * nn+i) 0#64):=fun i hi=>HKR.out b y i kq hlb hlt hi HKA.out
      generalize p.words.getD b []=l at hrd hle HLB HRW
      generalize sl.getD b default=s at hc hrd hlm hle hcap hcap2
      obtain ⟨sa,sn,sc⟩:=s
      dsimp only at hc hrd hlm hle hcap hcap2
      unfold maxLen at hlm hcap2
      obtain rfl:M=sn:=by omega
      obtain ⟨rd,rfl,_⟩:=hrd.ex (by omega)
      have HRD:=hiD hrd
      obtain ⟨ae',e,hbe,hce⟩:=PW.out.elem ((mvTo_length _ _ _ _).trans HDL.out) hlb
      injection e with e
      subst e
      have HGN:Hid (gs.getD b 0 < gb):=HLT.out b hlb
      have HGB:Hid (w1.heap.size≤gs.getD b 0):=PW.out.bas b (by rw [mvTo_length,HDL.out];exact hlb)
      have HPR:Hid (Row wr (gs.getD b 0) 66 (w64s ((mvTo D nn y b).getD b []))):=PW.out.row b (by rw [mvTo_length,HDL.out];exact hlb)
      generalize hgr:gs.getD b 0=gr at hce HPR HGB HGN
      have HLRL:Hid (((mvTo D nn y b).getD b []).length=M):=PW.out.wid b (by rw [mvTo_length,HDL.out];exact hlb)
      generalize hlr:(mvTo D nn y b).getD b []=LR at HPR HLRL
      have HLR:=hiD hlr
      clear hlr
      have HGR:=hiD hgr
      obtain ⟨m,hmm⟩:∃ m,m=y * nn:=⟨_,rfl⟩
      obtain ⟨mk,hmk⟩:∃ mk,mk=kq * nn:=⟨_,rfl⟩
      have hmM:m+nn≤M:=by
       have:=Nat.mul_le_mul_right nn (show y+1≤Hh by omega)
       rw [Nat.add_mul,Nat.one_mul] at this
       rw [hmm,HMM.out];exact this
      have hmkM:mk+nn≤M:=by
       have:=Nat.mul_le_mul_right nn (show kq+1≤Hh by omega)
       rw [Nat.add_mul,Nat.one_mul] at this
       rw [hmk,HMM.out];exact this
      obtain ⟨m2,hm2⟩:∃ m2,m2=m+nn:=⟨_,rfl⟩
      obtain ⟨mk2,hmk2⟩:∃ mk2,mk2=mk+nn:=⟨_,rfl⟩
      have hz1:(y:Int) * (nn:Int)=(m:Int):=by rw [hmm,Int.natCast_mul]
      have hz2:((y:Int)+1) * (nn:Int)=(m2:Int):=by rw [Int.add_mul,Int.one_mul,hz1];omega
      have hz3:(kq:Int) * (nn:Int)=(mk:Int):=by rw [hmk,Int.natCast_mul]
      have hz4:((kq:Int)+1) * (nn:Int)=(mk2:Int):=by rw [Int.add_mul,Int.one_mul,hz3];omega
      have hwy:IntKind.i64.wrap ((y:Int)+1)=(y:Int)+1:=IntWalk.i64_in _ (by omega)
      have hwk:IntKind.i64.wrap ((kq:Int)+1)=(kq:Int)+1:=IntWalk.i64_in _ (by omega)
      have hw1:IntKind.i64.wrap (m:Int)=(m:Int):=IntWalk.i64_in _ (by omega)
      have hw2:IntKind.i64.wrap (m2:Int)=(m2:Int):=IntWalk.i64_in _ (by omega)
      have hw3:IntKind.i64.wrap (mk:Int)=(mk:Int):=IntWalk.i64_in _ (by omega)
      have hw4:IntKind.i64.wrap (mk2:Int)=(mk2:Int):=IntWalk.i64_in _ (by omega)
      have hsl1:∀ W9:World,(Instr.slice 67 (.slice (some ⟨gr,0,none⟩) M M) (some (.int .i64 (m:Int))) (some (.int .i64 (m2:Int))) none).run Try.prog W9=.ok (.slice (some ⟨gr,m,none⟩) nn (M - m)) W9:=fun W9=>by
       have:=run_slice_win (P:=Try.prog) W9 67 66 Try.underlying67 size_word ⟨gr,0,none⟩ M M m m2 (by omega) (by omega)
       rw [add_zero_off,show m2 - m=nn by omega] at this
       exact this
      have hsl2:∀ W9:World,(Instr.slice 67 (.slice (some rd) M sc) (some (.int .i64 (mk:Int))) (some (.int .i64 (mk2:Int))) none).run Try.prog W9=.ok (.slice (some (rd.add mk)) nn (sc - mk)) W9:=fun W9=>by
       have:=run_slice_win (P:=Try.prog) W9 67 66 Try.underlying67 size_word rd M sc mk mk2 (by omega) (by omega)
       rw [show mk2 - mk=nn by omega] at this
       exact this
      have HMK:Hid (mk=kq * nn∧m=y * nn):=⟨hmk,hmm⟩
      have HLL:Hid (l.length=Hh * nn):=by show l.length=Hh * nn;rw [HLB,HMM.out]
      clear hmm hmk hm2 hmk2 hrd HLB hle hgr
      go_wp2_with fail
      refine wp_region_L (fun w'=>Row w' gb 42 [.int .i64 W,.int .i64 Hh,.int .i64 E,.slice (some ae) n pc]∧Row w' w.heap.size 42 [.int .i64 W,.int .i64 Hh,.int .i64 E,.slice (some ad) n c]∧w'.cell? (ae.add b)=some (.slice (some ⟨gr,0,none⟩) M M)) [28] (by kernel_rfl) (by exact ⟨RX.out.drew,RAr.out.drew,hce⟩) (fun hHeld=>?_)
      have BWd:Hid (Below w1.heap.size w1 wr.drew):=BW.out.drew
      have RXd:Hid (Row wr.drew gb 42 [.int .i64 W,.int .i64 Hh,.int .i64 E,.slice (some ae) n pc]):=hHeld.1
      have RAd:Hid (Row wr.drew w.heap.size 42 [.int .i64 W,.int .i64 Hh,.int .i64 E,.slice (some ad) n c]):=hHeld.2.1
      have PWd:Hid (POwn wr.drew w1.heap.size (.slice (some ae) n pc) M gs (mvTo D nn y b)):=PW.out.drew
      have HPRd:Hid (Row wr.drew gr 66 (w64s LR)):=HPR.out
      have HRDd:Hid (Rd wr.drew wr.drew.heap.size 1 (some rd) M (w64s l)):=HRD.out
      have hbed:ae.block < wr.drew.heap.size:=hbe
      have hced:Hid (wr.drew.cell? (ae.add b)=some (.slice (some ⟨gr,0,none⟩) M M)):=hHeld.2.2
      clear RX RAr BW PW HPR HRD hbe hce hbl hc HBr
      revert hHeld BWd RXd RAd PWd HPRd HRDd hbed hced
      generalize wr.drew=wQ
      intro hHeld BWd RXd RAd PWd HPRd HRDd hbed hced
      refine lPureW 0 ?va1 rfl (by rfl) ?ya1 ?ra1
      case ya1=>intro w' hSw;clear hSw;go_simp;try (with_reducible rfl)
      go_simp
      refine lPureW 2 ?va2 rfl (by rfl) ?ya2 ?ra2
      case ya2=>intro w' hSw;clear hSw;go_simp;try (with_reducible rfl)
      go_simp
      refine lPureW 5 ?va3 rfl (by rfl) ?ya3 ?ra3
      case ya3=>intro w' hSw;clear hSw;go_simp;try (with_reducible rfl)
      go_simp
      refine lPureW 6 ?va4 rfl (by rfl) ?ya4 ?ra4
      case ya4=>intro w' hSw;clear hSw;go_simp;try (with_reducible rfl)
      go_simp
      refine lPureW 7 ?va5 rfl (by rfl) ?ya5 ?ra5
      case ya5=>intro w' hSw;clear hSw;go_simp;try (with_reducible rfl)
      go_simp
      refine lPureW 8 ?va6 rfl (by rfl) ?ya6 ?ra6
      case ya6=>intro w' hSw;clear hSw;go_simp;try (with_reducible rfl)
      go_simp
      refine lPureW 9 ?va7 rfl (by rfl) ?ya7 ?ra7
      case ya7=>intro w' hSw;clear hSw;go_simp;try (with_reducible rfl)
      go_simp
      refine lPureW 10 ?va8 rfl (by rfl) ?ya8 ?ra8
      case ya8=>intro w' hSw;clear hSw;go_simp;try (with_reducible rfl)
      go_simp
      refine lPureW 11 ?va9 rfl (by rfl) ?ya9 ?ra9
      case ya9=>intro w' hSw;clear hSw;go_simp;try (with_reducible rfl)
      go_simp
      refine lPureW 13 ?va10 rfl (by rfl) ?ya10 ?ra10
      case ya10=>intro w' hSw;clear hSw;go_simp;try (with_reducible rfl)
      go_simp
      refine lPureW 14 ?va11 rfl (by rfl) ?ya11 ?ra11
      case ya11=>intro w' hSw;clear hSw;go_simp;try (with_reducible rfl)
      go_simp
      refine lPureW 15 ?va12 rfl (by rfl) ?ya12 ?ra12
      case ya12=>intro w' hSw;clear hSw;go_simp;try (with_reducible rfl)
      go_simp
      refine lPureW 16 ?va13 rfl (by rfl) ?ya13 ?ra13
      case ya13=>intro w' hSw;clear hSw;go_simp;try (with_reducible rfl)
      go_simp
      refine lPureW 17 ?va14 rfl (by rfl) ?ya14 ?ra14
      case ya14=>intro w' hSw;clear hSw;go_simp;try (with_reducible rfl)
      go_simp
      refine lPureW 18 ?va15 rfl (by rfl) ?ya15 ?ra15
      case ya15=>intro w' hSw;clear hSw;go_simp;try (with_reducible rfl)
      go_simp
      refine lPureW 19 ?va16 rfl (by rfl) ?ya16 ?ra16
      case ya16=>intro w' hSw;clear hSw;go_simp;try (with_reducible rfl)
      go_simp
      refine lPureW 20 ?va17 rfl (by rfl) ?ya17 ?ra17
      case ya17=>intro w' hSw;clear hSw;go_simp;try (with_reducible rfl)
      go_simp
      refine lPureW 22 ?va18 rfl (by rfl) ?ya18 ?ra18
      case ya18=>intro w' hSw;clear hSw;go_simp;try (with_reducible rfl)
      go_simp
      refine lPureW 24 ?va19 rfl (by rfl) ?ya19 ?ra19
      case ya19=>intro w' hSw;clear hSw;go_simp;try (with_reducible rfl)
      go_simp
      refine lPureW 25 ?va20 rfl (by rfl) ?ya20 ?ra20
      case ya20=>intro w' hSw;clear hSw;go_simp;try (with_reducible rfl)
      go_simp
      refine lTakeW 1 ?va21 [[28,12,4,3]] rfl (by rfl) ?ya21 hHeld ?ra21
      case ya21=>
       intro w' hSw
       obtain ⟨hS1,hS2,hS3⟩:=hSw
       have hSh:=hiD hS1
       have hSp:=hiD hS2
       clear hS1 hS2
       obtain ⟨z0,z1,z2,z3,zl⟩:=hSh.out.cells4
       obtain ⟨y0,y1,y2,y3,yl⟩:=hSp.out.cells4
       go_simp
       try (with_reducible rfl)
      go_simp
      refine lTakeW 3 ?va22 [[28,12,4]] rfl (by rfl) ?ya22 hHeld ?ra22
      case ya22=>
       intro w' hSw
       obtain ⟨hS1,hS2,hS3⟩:=hSw
       have hSh:=hiD hS1
       have hSp:=hiD hS2
       clear hS1 hS2
       obtain ⟨z0,z1,z2,z3,zl⟩:=hSh.out.cells4
       obtain ⟨y0,y1,y2,y3,yl⟩:=hSp.out.cells4
       go_simp
       try (with_reducible rfl)
      go_simp
      refine lTakeW 4 ?va23 [[28,12]] rfl (by rfl) ?ya23 hHeld ?ra23
      case ya23=>
       intro w' hSw
       obtain ⟨hS1,hS2,hS3⟩:=hSw
       have hSh:=hiD hS1
       have hSp:=hiD hS2
       clear hS1 hS2
       obtain ⟨z0,z1,z2,z3,zl⟩:=hSh.out.cells4
       obtain ⟨y0,y1,y2,y3,yl⟩:=hSp.out.cells4
       go_simp
       try (with_reducible rfl)
      go_simp
      refine lTakeW 12 ?va24 [[28]] rfl (by rfl) ?ya24 hHeld ?ra24
      case ya24=>
       intro w' hSw
       obtain ⟨hS1,hS2,hS3⟩:=hSw
       have hSh:=hiD hS1
       have hSp:=hiD hS2
       clear hS1 hS2
       obtain ⟨z0,z1,z2,z3,zl⟩:=hSh.out.cells4
       obtain ⟨y0,y1,y2,y3,yl⟩:=hSp.out.cells4
       go_simp
       try (with_reducible rfl)
      go_simp
      refine lTakeW 21 ?va25 [[28,27]] rfl (by rfl) ?ya25 hHeld ?ra25
      case ya25=>
       intro w' hSw
       obtain ⟨hS1,hS2,hS3⟩:=hSw
       have hSh:=hiD hS1
       have hSp:=hiD hS2
       clear hS1 hS2
       obtain ⟨z0,z1,z2,z3,zl⟩:=hSh.out.cells4
       obtain ⟨y0,y1,y2,y3,yl⟩:=hSp.out.cells4
       go_simp
       try (with_reducible rfl)
      go_simp
      refine lTakeW 23 ?va26 [[28,27]] rfl (by rfl) ?ya26 hHeld ?ra26
      case ya26=>
       intro w' hSw
       obtain ⟨hS1,hS2,hS3⟩:=hSw
       have hSh:=hiD hS1
       have hSp:=hiD hS2
       clear hS1 hS2
       obtain ⟨z0,z1,z2,z3,zl⟩:=hSh.out.cells4
       obtain ⟨y0,y1,y2,y3,yl⟩:=hSp.out.cells4
       go_simp
       try (with_reducible rfl)
      go_simp
      refine lTakeW 26 ?va27 [[28,27]] rfl (by rfl) ?ya27 hHeld ?ra27
      case ya27=>
       intro w' hSw
       obtain ⟨hS1,hS2,hS3⟩:=hSw
       have hSh:=hiD hS1
       have hSp:=hiD hS2
       clear hS1 hS2
       obtain ⟨z0,z1,z2,z3,zl⟩:=hSh.out.cells4
       obtain ⟨y0,y1,y2,y3,yl⟩:=hSp.out.cells4
       go_simp
       try (with_reducible rfl)
      go_simp
      refine restL_one (i:=27) (by kernel_rfl) rfl (fun K hK=>?_)
      go_simp
      go_at_call 101
      refine (shifted_any (rowAt l nn kq) (some (rd.add mk)) nn (sc - mk) W E dx wQ (by have h9:=HRDd.out.window mk nn hmkM;rw [HMK.out.1] at h9 ⊢;exact h9) HNN.out.symm hW1 hE2 o1 o2).mono ?_
      rintro e4 w4 ⟨g4,rfl,hrow4,hg4,hb4⟩
      have BW4:=hiD (below_on2 BWd.out hb4)
      have RX4:=hiD (rowCells RXd.out hb4)
      have RA4:=hiD (rowCells RAd.out hb4)
      have PW4:Hid (POwn w4 w1.heap.size (.slice (some ae) n pc) M gs (mvTo D nn y b)):=PWd.out.up hb4
      have HPR4:=hiD (rowCells HPRd.out hb4)
      have HR4:=hiD hrow4
      have hce4:w4.cell? (ae.add b)=some (.slice (some ⟨gr,0,none⟩) M M):=(hb4.cell (by rw [add_block];exact hbed)).trans hced.out
      clear hHeld BWd RXd RAd PWd HPRd HRDd hbed hced hb4 hrow4
      refine hK.out _ _ (fun _=>?keep) (fun hHeld=>?_)
      case keep=>exact ⟨RX4.out,RA4.out,hce4⟩
      have hHeld:=hHeld rfl
      clear hK K
      try go_simp
      refine restL_one (i:=28) (by kernel_rfl) rfl (fun K hK=>?_)
      refine step_copy_row rfl (.tmp 82) (.tmp 97) 67 67 rfl 66 Try.underlying67 (by kernel_rfl) ⟨g4,0,none⟩ nn (M - m) nn nn gr m rfl rfl (w64s LR) 66 HPR4.out (w64s (shF (rowAt l nn kq) W dx E)) ?hn ?hsrc ?hfit (w64s_one _) ?_
      case hn=>rw [w64s_length,shF_length,rowAt_length l nn Hh kq HLL.out hkqH];exact (Nat.min_self nn).symm
      case hsrc=>exact fun j v hv=>by rw [add_zero_off,HR4.out.cell];exact hv
      case hfit=>rw [w64s_length,w64s_length,shF_length,rowAt_length l nn Hh kq HLL.out hkqH,HLRL.out];exact hmM
      refine hK.out _ _ (fun h=>absurd h (by decide)) (fun _=>?_)
      clear hK K
      try go_simp
      refine restL_done (by kernel_rfl) ?_ _
      have hsl:(shF (rowAt l nn kq) W dx E).length=nn:=by rw [shF_length,rowAt_length l nn Hh kq HLL.out hkqH]
      have HX8:Hid (Row (World.setRow w4 gr (splice (w64s LR) m (w64s (shF (rowAt l nn kq) W dx E))).toArray) gb 42 [.int .i64 W,.int .i64 Hh,.int .i64 E,.slice (some ae) n pc]):=RX4.out.setRow_far (by have:=HGN.out;omega) _
      have HB8:Hid (Below w1.heap.size w1 (World.setRow w4 gr (splice (w64s LR) m (w64s (shF (rowAt l nn kq) W dx E))).toArray)):=below_setRow BW4.out HGB.out _
      have HP8:Hid (POwn (World.setRow w4 gr (splice (w64s LR) m (w64s (shF (rowAt l nn kq) W dx E))).toArray) w1.heap.size (.slice (some ae) n pc) M gs (mvTo D nn y (b+1))):=by
       show POwn _ _ _ _ _ _
       have h9:=PW4.out.splice b m (shF (rowAt l nn kq) W dx E) (by rw [mvTo_length,HDL.out];exact hlb) (by rw [hsl];exact hmM)
       have h10:=mvTo_put D (shF (rowAt l nn kq) W dx E) nn Hh y b w1' HDM.out hlt (by rw [HDL.out];exact hlb) hsl HRW.out
       rw [← HMK.out.2,HLR.out] at h10
       rw [HLR.out,h10,HGR.out] at h9
       rw [w64s_splice]
       exact h9
      clear RX4 RA4 PW4 HPR4 HR4 hce4 BW4 hsl
      revert HX8 HB8 HP8
      generalize World.setRow w4 gr (splice (w64s LR) m (w64s (shF (rowAt l nn kq) W dx E))).toArray=w8
      intro HX8 HB8 HP8
      go_wp2
      go_roundg (n - (b+1))
      case measure=>omega
      case rel=>exact ⟨b+1,by omega,by omega,by go_num,HB8.out,HX8.out,HP8.out⟩
     ·have hlbz:¬ (b:Int) < (n:Int):=by omega
      obtain rfl:n=b:=by omega
      have HNX:Hid (mvTo D nn y n=mvTo D nn (y+1) 0):=by show _=_;rw [← HDL.out];exact mvTo_next D nn y
      go_wp2
      go_roundg (Hh - (y+1))
      case measure=>omega
      case rel=>exact ⟨y+1,by omega,by omega,by go_num,BW,RX,(by show POwn _ _ _ _ _ _;rw [← HNX.out];exact PW.out)⟩
   ·obtain rfl:ka=-1:=by omega
    rw [inPair_out]
    rintro e w6 ⟨rfl,rfl⟩
    have HSK:Hid (mvTo D nn (y+1) 0=mvTo D nn y 0):=mvTo_skip D nn y w1' (fun j hj i hi=>HKN.out j y i (by rw [HDL.out] at hj;exact hj) hlt hi (by rw [HKA.out];omega))
    go_wp2
    go_roundg (Hh - (y+1))
    case measure=>omega
    case rel=>exact ⟨y+1,by omega,by omega,by go_num,BW,RX,(by show POwn _ _ _ _ _ _;rw [HSK.out];exact PW.out)⟩
  ·have hltz:¬ (y:Int) < (Hh:Int):=by omega
   obtain rfl:Hh=y:=by omega
   have RZr:=hiD (rowCells RZ.out BW.out)
   obtain ⟨d0,d1,d2,d3,dl⟩:=RZr.out.cells4
   obtain ⟨f0,f1,f2,f3⟩:=RZr.out.froz4
   obtain ⟨e0,e1,e2,e3,el⟩:=RX.out.cells4
   go_wp2
   obtain ⟨hbl,RZ4,_⟩:=put4 (.int .i64 W) (.int .i64 Hh) (.int .i64 E) (.slice (some ae) n pc) RZr.out (Nat.le_succ w.heap.size) HBr.out
   have hpo:=PW.out.far4 (.int .i64 W) (.int .i64 Hh) (.int .i64 E) (.slice (some ae) n pc) RZr.out (by decide) RZ.out.lt
   have r0:=RZ4.cell 0
   have r1:=RZ4.cell 1
   have r2:=RZ4.cell 2
   have r3:=RZ4.cell 3
   simp only [List.getElem?_cons_zero,List.getElem?_cons_succ] at r0 r1 r2 r3
   clear RZ4
   revert hbl hpo r0 r1 r2 r3
   generalize World.setCell (World.setCell (World.setCell (World.setCell wr ⟨w.heap.size+1,0,none⟩ (.int .i64 W)) ⟨w.heap.size+1,1,none⟩ (.int .i64 Hh)) ⟨w.heap.size+1,2,none⟩ (.int .i64 E)) ⟨w.heap.size+1,3,none⟩ (.slice (some ae) n pc)=wz
   intro hbl hpo r0 r1 r2 r3
   refine bodyPost_ret (v:=.tuple #[.agg #[.int .i64 W,.int .i64 Hh,.int .i64 E,.slice (some ae) n pc],.int .i64 0]) (by simp [results,Try.results71,go_sem,r0,r1,r2,r3]) rfl ?_
   rw [HCE.out.1,HCE.out.2]
   rw [mvTo_all D nn Hh w1' HDM.out,HD.out] at hpo
   refine ⟨some ae,n,pc,_,_,?_,hpo.base HB.out.size,⟨by rw [move_len];exact HWL.out,hn3,hMb⟩,hbl⟩
   show Ending.returned (.tuple #[.agg #[.int .i64 W,.int .i64 Hh,.int .i64 E,.slice (some ae) n pc],.int .i64 0])=Ending.returned (.tuple #[.agg #[.int .i64 p.w,.int .i64 p.h,.int .i64 p.edge,.slice (some ae) n pc],.int .i64 0])
   rw [HW.out,HH.out,HE.out]
theorem plMove_any (p:Pln) (A:Option Addr) (n c:Nat) (sl:List Sl) (dx dy:Int) (w:World) (h:PAt w p A n sl):
 Calls Try.prog 71 #[.agg #[.int .i64 p.w,.int .i64 p.h,.int .i64 p.edge,.slice A n c],.int .i64 dx,.int .i64 dy] w (PPost (moveR p dx dy) (moveErr p dx dy) w):=by
 by_cases hb:rightPl p=true∧offOk dx dy=true
 ·exact plMove_good p A n c sl dx dy w h hb.1 hb.2
 ·exact plMove_bad p A n c sl dx dy w h (by unfold moveErr;rw [if_neg hb];decide)
end Go.Proofs.Ytiemhbogbaamlaa
