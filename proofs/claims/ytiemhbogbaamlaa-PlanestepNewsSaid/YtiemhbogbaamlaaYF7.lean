/-
 A part.
-/
import Derived.Test.YtiemhbogbaamlaaYF2
import Derived.Test.YtiemhbogbaamlaaYF4
import Derived.Test.YtiemhbogbaamlaaYF6
import Derived.Test.YtiemhbogbaamlaaYF1
import Derived.Maps.AppendAt
import Derived.RegionTactic
import Derived.Deep.QuietTactic
set_option linter.unusedSimpArgs false
set_option linter.unusedVariables false
namespace Go.Proofs.Ytiemhbogbaamlaa
open Go.RowKit
def circT (t:Tre):Circ:=allC (lowR t)
def inRows (t:Tre) (p:Pln):List (List (BitVec 64)):=t.hood.flatMap (fun o=>(moveP p o.x o.y).words)
def inAt (rows:List (List (BitVec 64))) (k:Nat):List (BitVec 64):=rows.map (fun l=>l.getD k 0#64)
def maskF (W k:Nat):BitVec 64:=if k % wpr W=wpr W - 1∧0 < W % 64 then 1#64 <<< (W % 64) - 1#64 else BitVec.allOnes 64
def nextWord (t:Tre) (p:Pln) (b k:Nat):BitVec 64:=(outsG evalW 0 (circT t) (inAt (inRows t p) k)).getD b 0#64 &&& maskF p.w.toNat k
def nextRow (t:Tre) (p:Pln) (b:Nat):List (BitVec 64):=(List.range (wpr p.w.toNat * p.h.toNat)).map (nextWord t p b)
def nextPl (t:Tre) (p:Pln):Pln:=⟨p.w,p.h,p.edge,(List.range p.words.length).map (nextRow t p)⟩
structure OkTP (t:Tre) (p:Pln):Prop where
 ok:OkTG t (unpackG p)
 rp:rightPl p=true
 nb:p.words.length=bitsF t.states
 few:t.nodes.length≤400
theorem maskLow (r:Nat) (hr:r < 64) (j:Nat) (hj:j < 64):(1#64 <<< r - 1#64).getLsbD j=decide (j < r):=by
 have e:(1#64 <<< r - 1#64)=BitVec.ofNat 64 (2 ^ r - 1):=by
  apply BitVec.eq_of_toNat_eq
  have hp:2 ^ r < 2 ^ 64:=Nat.pow_lt_pow_right (by omega) hr
  have h1:1≤2 ^ r:=Nat.one_le_two_pow
  rw [BitVec.toNat_sub,BitVec.toNat_shiftLeft,BitVec.toNat_ofNat,BitVec.toNat_ofNat,Nat.shiftLeft_eq]
  have h2:1 % 2 ^ 64=1:=by decide
  have h3:(2 ^ r - 1) % 2 ^ 64=2 ^ r - 1:=Nat.mod_eq_of_lt (by omega)
  rw [h2,Nat.one_mul,Nat.mod_eq_of_lt hp]
  rw [show 2 ^ 64 - 1+2 ^ r=2 ^ 64+(2 ^ r - 1) by omega,Nat.add_mod_left]
 rw [e,BitVec.getLsbD_ofNat,Nat.testBit_two_pow_sub_one]
 simp [hj]
theorem maskY_bit {W k:Nat} (hW:1≤W) (j:Nat) (hj:j < 64):(maskF W k).getLsbD j=decide (64 * (k % wpr W)+j < W):=by
 obtain ⟨n1,n2,n3⟩:=wpr_bd hW
 have hm:k % wpr W < wpr W:=Nat.mod_lt _ (by omega)
 unfold maskF
 generalize k % wpr W=i at *
 split
 ·rename_i h
  rw [maskLow _ (by omega) _ hj]
  rw [Bool.eq_iff_iff,decide_eq_true_iff,decide_eq_true_iff]
  have:wpr W=(W+63) / 64:=rfl
  omega
 ·rename_i h
  rw [BitVec.getLsbD_allOnes,decide_eq_true hj]
  symm
  rw [decide_eq_true_iff]
  have:wpr W=(W+63) / 64:=rfl
  omega
theorem tbit_bitI (v:Int) (b:Nat):tbit v b=bitI v b:=by
 unfold tbit bitI
 rw [Bool.eq_iff_iff,decide_eq_true_iff,beq_iff_eq]
section
variable {t:Tre} {p:Pln}
theorem OkTP.sizes (h:OkTP t p):(1≤p.w∧p.w≤256)∧(1≤p.h∧p.h≤256)∧p.w * p.h≤4096∧0≤p.edge∧p.edge≤2:=by
 obtain ⟨a,b,c,d⟩:=sizedF_parts (rightPl_parts h.rp).1
 exact ⟨a,b,c,d.1,d.2⟩
theorem moved_bits (h:rightPl p=true) (dx dy:Int) {k j:Nat} (hk:k < p.h.toNat * wpr p.w.toNat) (hx:64 * (k % wpr p.w.toNat)+j < p.w.toNat) (hj:j < 64):
 (moveP p dx dy).words.map (fun l=>(l.getD k 0#64).getLsbD j)=bitsOf p.words.length (getF (unpackG p) (((64 * (k % wpr p.w.toNat)+j:Nat):Int)+dx) (((k / wpr p.w.toNat:Nat):Int)+dy)):=by
 obtain ⟨hs,_,_⟩:=rightPl_parts h
 obtain ⟨s1,s2,_⟩:=sizedF_parts hs
 have hW:1≤p.w.toNat:=by omega
 have hy:k / wpr p.w.toNat < p.h.toNat:=Nat.div_lt_of_lt_mul (by rw [Nat.mul_comm];exact hk)
 unfold moveP packP bitsOf
 rw [List.map_map]
 apply List.map_congr_left
 intro b hb
 show ((planeF p.w.toNat p.h.toNat (movedG p dx dy).cells b).getD k 0#64).getLsbD j=_
 rw [planeF_get _ _ _ _ _ hk,mkW_get,decide_eq_true hj,decide_eq_true hx,Bool.true_and,Bool.true_and,movedG_get p dx dy _ _ hx hy,tbit_bitI]
theorem in_bits (h:OkTP t p) {k j:Nat} (hk:k < p.h.toNat * wpr p.w.toNat) (hx:64 * (k % wpr p.w.toNat)+j < p.w.toNat) (hj:j < 64):
 (inAt (inRows t p) k).map (bitOf j)=inputsB t (hoodIn (unpackG p) t.hood ((64 * (k % wpr p.w.toNat)+j:Nat):Int) ((k / wpr p.w.toNat:Nat):Int)):=by
 unfold inAt inRows inputsB hoodIn
 rw [List.map_map,List.map_flatMap,List.flatMap_map]
 congr 1
 funext o
 rw [← h.nb,← moved_bits h.rp o.x o.y hk hx hj]
 rfl
theorem evalErr_hood (h:OkTG t (unpackG p)) (x y:Int):evalErr t (hoodIn (unpackG p) t.hood x y)=0:=by
 rw [evalErr,if_pos h.rt,if_pos (hoodIn_length _ _ _ _),if_pos (hoodIn_all h _ _ _)]
theorem circT_right (h:rightT t=true) (hm:t.nodes.length≤400):rightC (circT t)=true:=all_right (lowR_right h hm)
theorem circT_io (h:rightT t=true) (hm:t.nodes.length≤400):(circT t).inputs=(lowN t:Int)∧(circT t).outs.length=bitsF t.states:=by
 obtain ⟨h1,h2⟩:=all_io (lowR_right h hm)
 have hn:0 < t.nodes.length:=by have:=(rightT_parts h).2.1;omega
 refine ⟨h1.trans (by rw [lowR,if_pos h]),h2.trans ?_⟩
 rw [lowR,if_pos h]
 exact lowM_row _ _ (by omega)
theorem inRows_length (h:OkTP t p):(inRows t p).length=lowN t:=by
 unfold inRows lowN
 rw [List.length_flatMap]
 have e:(t.hood.map (fun o:Pt=>(moveP p o.x o.y).words.length))=List.replicate t.hood.length (bitsF t.states):=by
  rw [List.eq_replicate_iff]
  refine ⟨by simp,fun n hn=>?_⟩
  obtain ⟨o,_,rfl⟩:=List.mem_map.1 hn
  rw [moveP,pack_len,h.nb]
 rw [e,List.sum_replicate_nat]
theorem next_bit (h:OkTP t p) {b k j:Nat} (hb:b < p.words.length) (hk:k < p.h.toNat * wpr p.w.toNat) (hx:64 * (k % wpr p.w.toNat)+j < p.w.toNat) (hj:j < 64):
 ((outsG evalW 0 (circT t) (inAt (inRows t p) k)).getD b 0#64).getLsbD j=tbit (nextAt t (unpackG p) ((64 * (k % wpr p.w.toNat)+j:Nat):Int) ((k / wpr p.w.toNat:Nat):Int)) b:=by
 have e1:((outsG evalW 0 (circT t) (inAt (inRows t p) k)).map (bitOf j)).getD b false=((outsG evalW 0 (circT t) (inAt (inRows t p) k)).getD b 0#64).getLsbD j:=getD_map_bit _ _ _
 have he:=evalErr_hood h.ok ((64 * (k % wpr p.w.toNat)+j:Nat):Int) ((k / wpr p.w.toNat:Nat):Int)
 rw [← e1,outsG_bit _ _ _ hj,in_bits h hk hx hj]
 unfold circT
 rw [all_sem (lowR_right h.ok.rt h.few) (by rw [inputs_len he,lowR,if_pos h.ok.rt]),(low_same he).1,bitsOf_get _ _ _ (by rw [← h.nb];exact hb),tbit_bitI]
 rfl
theorem OkTP.hw (h:OkTP t p):(unpackG p).cells.length=p.h.toNat * p.w.toNat:=cellsP_length p
theorem next_cells (h:OkTP t p) {x y:Nat} (hx:x < p.w.toNat) (hy:y < p.h.toNat):(nextG t (unpackG p)).cells.getD (y * p.w.toNat+x) 0=nextAt t (unpackG p) (x:Int) (y:Int):=by
 obtain ⟨e1,e2⟩:=row_at (y:=y) hx
 show ((List.range _).map _).getD _ 0=_
 rw [List.getD_eq_getElem?_getD,List.getElem?_map,List.getElem?_range (by rw [h.hw];exact row_ltP hx hy),Option.map_some,Option.getD_some]
 show nextAt t (unpackG p) (((y * p.w.toNat+x) % p.w.toNat:Nat):Int) (((y * p.w.toNat+x) / p.w.toNat:Nat):Int)=_
 rw [e1,e2]
theorem next_pl (h:OkTP t p):nextPl t p=packP (nextG t (unpackG p)) p.words.length:=by
 obtain ⟨⟨s1,s2⟩,⟨s3,s4⟩,s5,s6⟩:=h.sizes
 have hW:1≤p.w.toNat:=by omega
 obtain ⟨n1,n2,n3⟩:=wpr_bd hW
 show (⟨p.w,p.h,p.edge,(List.range p.words.length).map (nextRow t p)⟩:Pln)=⟨p.w,p.h,p.edge,(List.range p.words.length).map (planeF p.w.toNat p.h.toNat (nextG t (unpackG p)).cells)⟩
 congr 1
 apply List.map_congr_left
 intro b hb
 have hb:=List.mem_range.1 hb
 apply List.ext_getElem
 ·simp [nextRow,planeF,Nat.mul_comm]
 intro k hk hk'
 have hk2:k < p.h.toNat * wpr p.w.toNat:=by rw [planeF_length] at hk';exact hk'
 have hy:k / wpr p.w.toNat < p.h.toNat:=Nat.div_lt_of_lt_mul (by rw [Nat.mul_comm];exact hk2)
 have g1:(planeF p.w.toNat p.h.toNat (nextG t (unpackG p)).cells b)[k]=(planeF p.w.toNat p.h.toNat (nextG t (unpackG p)).cells b).getD k 0#64:=by rw [List.getD_eq_getElem?_getD,List.getElem?_eq_getElem hk'];rfl
 rw [g1,planeF_get _ _ _ _ _ hk2]
 have e2:(nextRow t p b)[k]=nextWord t p b k:=by simp [nextRow]
 rw [e2]
 unfold nextWord
 apply word_ext
 intro j hj
 rw [BitVec.getLsbD_and,maskY_bit hW j hj,mkW_get,decide_eq_true hj,Bool.true_and]
 by_cases hx:64 * (k % wpr p.w.toNat)+j < p.w.toNat
 ·rw [decide_eq_true hx,Bool.and_true,Bool.true_and,next_bit h hb hk2 hx hj,next_cells h hx hy]
 ·rw [decide_eq_false hx,Bool.and_false,Bool.false_and]
theorem next_packErr (h:OkTP t p):packErr (nextG t (unpackG p)) p.words.length=0:=by
 have hn:=h.ok.next
 have hb:=(rightPl_parts h.rp).2.1
 have hs:=states_bd h.ok.rt
 have hp:=bitsF_pow hs
 unfold packErr
 rw [if_pos ⟨hn.rg,by omega,by omega⟩,if_pos]
 rw [List.all_eq_true]
 intro s hs'
 have:=(List.all_eq_true.1 hn.lt) s hs'
 simp only [ltStates,decide_eq_true_eq] at this
 rw [decide_eq_true_iff,Int.toNat_natCast,h.nb]
 omega
theorem next_unpack (h:OkTP t p):unpackG (nextPl t p)=nextG t (unpackG p):=by
 have:=unpack_pack (next_packErr h)
 rw [Int.toNat_natCast] at this
 rw [next_pl h];exact this
theorem next_len (t:Tre) (p:Pln):(nextPl t p).words.length=p.words.length:=by simp [nextPl]
theorem OkTP.next (h:OkTP t p):OkTP t (nextPl t p):=by
 refine ⟨by rw [next_unpack h];exact h.ok.next,?_,by rw [next_len];exact h.nb,h.few⟩
 rw [next_pl h]
 have:=pack_right (next_packErr h)
 rw [Int.toNat_natCast] at this
 exact this
end
def genPl (t:Tre) (p:Pln):Nat→Pln
 | 0=>p
 | k+1=>nextPl t (genPl t p k)
theorem OkTP.gen {t:Tre} {p:Pln} (h:OkTP t p) (k:Nat):OkTP t (genPl t p k):=by
 induction k with
 | zero=>exact h
 | succ k ih=>exact ih.next
theorem gen_shape (t:Tre) (p:Pln) (k:Nat):(genPl t p k).w=p.w∧(genPl t p k).h=p.h∧(genPl t p k).edge=p.edge∧(genPl t p k).words.length=p.words.length:=by
 induction k with
 | zero=>exact ⟨rfl,rfl,rfl,rfl⟩
 | succ k ih=>
  obtain ⟨a,b,c,d⟩:=ih
  exact ⟨a,b,c,by show (nextPl t _).words.length=_;rw [next_len,d]⟩
def checkPl (t:Tre) (p:Pln):Int:=if rightPl p=true∧p.words.length=bitsF t.states then (if (cellsP p).all (ltStates t)=true then 0 else 10) else 2
theorem check_ok {t:Tre} {p:Pln} (hr:rightT t=true) (hm:t.nodes.length≤400) (h:checkPl t p=0):OkTP t p:=by
 unfold checkPl at h
 split at h
 ·rename_i h1
  split at h
  ·rename_i h2
   exact ⟨⟨hr,unpack_right h1.1,h2⟩,h1.1,h1.2,hm⟩
  ·exact absurd h (by decide)
 ·exact absurd h (by decide)
theorem check_cases (t:Tre) (p:Pln):checkPl t p=0∨checkPl t p=2∨checkPl t p=10:=by
 unfold checkPl
 split
 ·split
  ·exact .inl rfl
  ·exact .inr (.inr rfl)
 ·exact .inr (.inl rfl)
def runErr (t:Tre) (p:Pln) (n:Int):Int:=if checkPl t p=0 then (if 0≤n∧n≤10000 then 0 else 2) else checkPl t p
def runPl (t:Tre) (p:Pln) (n:Int):Pln:=if runErr t p n=0 then genPl t p n.toNat else noPln
end Go.Proofs.Ytiemhbogbaamlaa
/-
 A part.
-/
namespace Go.Proofs.Ytiemhbogbaamlaa
open Go.RowKit
theorem run_app_empty {P:Program} {w:World} {base:Nat} {t ty e:TypeId} {i:TypeInfo} {size:Nat} (ht:P.underlying t=some (.slice e)) (hi:P.info? e=some i)
 {v:Value} {n:Nat} {xs:List Value} (hown:w.ownsRow base e size v n xs) (c:Nat):(Builtin.append_ #[t,t] ty #[v,.slice none 0 c]).run P w=.ok v w:=by
 rcases hown.2 with ⟨rfl,rfl⟩ | ⟨g,cap,cur,rfl,_,_,hnc,_⟩
 ·simp [Builtin.append_,run_underlying ht,sizeOf,typeInfo,hi,Builtin.lenOf,Builtin.firstCells]
 ·simp [Builtin.append_,run_underlying ht,sizeOf,typeInfo,hi,Builtin.lenOf,Builtin.firstCells,hnc,storeCells]
theorem run_app {P:Program} {w:World} {base:Nat} {t ty e:TypeId} {z:Value} {size bytes:Nat} (ht:P.underlying t=some (.slice e)) (hi:(P.info? e).map (fun i=>(i.zero,i.size,i.bytes))=some (some z,size,bytes))
 (hzs:z.cells.size=size) (hsz:0 < size) (hb1:1≤bytes) {v:Value} {n:Nat} {xs:List Value} (hown:w.ownsRow base e size v n xs)
 {B:Nat} {A:Option Addr} {m c:Nat} {news:List Value} (hr:Rd w B size A m news) (h1:∀ u ∈ news,u.oneCell'=true) (hbytes:(n+m) * bytes≤140737488355328) (hbase:base≤w.heap.size):
 ∃ v' w',(Builtin.append_ #[t,t] ty #[v,.slice A m c]).run P w=.ok v' w'∧w'.ownsRow base e size v' (n+m) (xs ++ news)∧w.grownBy w' v.ownBlock∧(v'.ownBlock=v.ownBlock∨v'.ownBlock=some w.heap.size):=by
 obtain ⟨i,g1,g2,g3,g4⟩:=info_parts hi
 have h63:n+m≤maxLen:=by
  have:n+m≤(n+m) * bytes:=Nat.le_mul_of_pos_right _ hb1
  unfold maxLen;omega
 have key:∀ ad:Addr,A=some ad→(∀ j u,news[j]?=some u→w.cell? (ad.add j)=some u) →
  ∃ v' w',(Builtin.append_ #[t,t] ty #[v,.slice A m c]).run P w=.ok v' w'∧w'.ownsRow base e size v' (n+m) (xs ++ news)∧w.grownBy w' v.ownBlock∧(v'.ownBlock=v.ownBlock∨v'.ownBlock=some w.heap.size):=fun ad e hc=>by
  subst e
  obtain ⟨v',w',hrun,h2,h3,_,h5⟩:=run_append_own_at (P:=P) w base t ty e i z size bytes ht g1 g2 g3 g4 hzs hsz v n xs hown ad m c news hr.1 hc h1 h63 hbytes hbase
  exact ⟨v',w',hrun,h2,h3,h5⟩
 rcases Nat.eq_zero_or_pos m with h0 | h0
 ·subst h0
  have hn:news=[]:=List.eq_nil_of_length_eq_zero (by simpa using hr.1)
  subst hn
  cases A with
  | none=>exact ⟨v,w,run_app_empty ht g1 hown c,by simpa using hown,World.grownBy.refl w _,.inl rfl⟩
  | some ad=>
   exact key ad rfl (by simp)
 ·obtain ⟨ad,e,_,hc⟩:=hr.2 h0
  exact key ad e hc
section
variable {P:Program} {w:World} {o:Oper} {a:Act} {Q:Exit→Act→World→Prop}
theorem wp_app {K:Act→World→Prop} (s x:Operand) (t:TypeId) (ho:o.op=.call { callee:=.builtin .append,args:=#[s,x],argTypes:=#[t,t] })
 (base:Nat) (e:TypeId) (z:Value) (size bytes:Nat) (ht:P.underlying t=some (.slice e)) (hi:(P.info? e).map (fun i=>(i.zero,i.size,i.bytes))=some (some z,size,bytes))
 (hzs:z.cells.size=size) (hsz:0 < size) (hb1:1≤bytes) (v:Value) (n:Nat) (xs:List Value) (hs:a.eval s=v) (hown:w.ownsRow base e size v n xs)
 (B:Nat) (A:Option Addr) (m c:Nat) (news:List Value) (hx:a.eval x=.slice A m c) (hr:Rd w B size A m news) (h1:∀ u ∈ news,u.oneCell'=true) (hbytes:(n+m) * bytes≤140737488355328) (hbase:base≤w.heap.size)
 (h:∀ v' w',w'.ownsRow base e size v' (n+m) (xs ++ news)→w.grownBy w' v.ownBlock→(v'.ownBlock=v.ownBlock∨v'.ownBlock=some w.heap.size)→K (a.put o.dst v') w'):o.wp P a w K Q:=by
 obtain ⟨v',w',hrun,h2,h3,h4⟩:=run_app (P:=P) (ty:=o.type) (c:=c) ht hi hzs hsz hb1 hown hr h1 hbytes hbase
 unfold Oper.wp execOp
 simp only [ho,resolve,invoke,builtin,Sem.run_bind,Sem.run_pure,Result.andThen_ok,List.map_toArray,List.map_cons,List.map_nil,hs,hx,hrun]
 exact h v' w' h2 h3 h4
theorem wpList_app {ops:Array Oper} {rest:List Oper} (hgd:o.guard=none) (s x:Operand) (t:TypeId) (ho:o.op=.call { callee:=.builtin .append,args:=#[s,x],argTypes:=#[t,t] })
 (base:Nat) (e:TypeId) (z:Value) (size bytes:Nat) (ht:P.underlying t=some (.slice e)) (hi:(P.info? e).map (fun i=>(i.zero,i.size,i.bytes))=some (some z,size,bytes))
 (hzs:z.cells.size=size) (hsz:0 < size) (hb1:1≤bytes) (v:Value) (n:Nat) (xs:List Value) (hs:a.eval s=v) (hown:w.ownsRow base e size v n xs)
 (B:Nat) (A:Option Addr) (m c:Nat) (news:List Value) (hx:a.eval x=.slice A m c) (hr:Rd w B size A m news) (h1:∀ u ∈ news,u.oneCell'=true) (hbytes:(n+m) * bytes≤140737488355328) (hbase:base≤w.heap.size)
 (h:∀ v' w',w'.ownsRow base e size v' (n+m) (xs ++ news)→w.grownBy w' v.ownBlock→(v'.ownBlock=v.ownBlock∨v'.ownBlock=some w.heap.size)→wpList P ops Q rest (a.put o.dst v') w'):wpList P ops Q (o :: rest) a w:=
 wpList_plain hgd fun _ hK=>wp_app s x t ho base e z size bytes ht hi hzs hsz hb1 v n xs hs hown B A m c news hx hr h1 hbytes hbase fun v' w' h2 h3 h4=>hK _ _ (h v' w' h2 h3 h4)
theorem step_app {ops:Array Oper} {K:Act→World→Prop} {E:Prop} (hgd:o.guard=none) (s x:Operand) (t:TypeId) (ho:o.op=.call { callee:=.builtin .append,args:=#[s,x],argTypes:=#[t,t] })
 (base:Nat) (e:TypeId) (z:Value) (size bytes:Nat) (ht:P.underlying t=some (.slice e)) (hi:(P.info? e).map (fun i=>(i.zero,i.size,i.bytes))=some (some z,size,bytes))
 (hzs:z.cells.size=size) (hsz:0 < size) (hb1:1≤bytes) (v:Value) (n:Nat) (xs:List Value) (hs:a.eval s=v) (hown:w.ownsRow base e size v n xs)
 (B:Nat) (A:Option Addr) (m c:Nat) (news:List Value) (hx:a.eval x=.slice A m c) (hr:Rd w B size A m news) (h1:∀ u ∈ news,u.oneCell'=true) (hbytes:(n+m) * bytes≤140737488355328) (hbase:base≤w.heap.size)
 (h:∀ v' w',w'.ownsRow base e size v' (n+m) (xs ++ news)→w.grownBy w' v.ownBlock→(v'.ownBlock=v.ownBlock∨v'.ownBlock=some w.heap.size)→K (a.put o.dst v') w'):
 if Region.wanted o (yielded ops a.tmps)=true then Oper.wp P o a w K Q else E:=by
 have hw:Region.wanted o (yielded ops a.tmps)=true:=by simp [Region.wanted,hgd]
 rw [if_pos hw]
 exact wp_app s x t ho base e z size bytes ht hi hzs hsz hb1 v n xs hs hown B A m c news hx hr h1 hbytes hbase h
end
theorem Rd.lit (w:World) (cs:Array Value) (T:TypeId) {sz m:Nat} (h:cs.size=m * sz):Rd (w.alloc (.cells cs T)) (w.heap.size+1) sz (some ⟨w.heap.size,0,none⟩) m cs.toList:=
 ⟨by simpa using h,fun _=>⟨_,rfl,Nat.lt_succ_self _,fun j u hu=>by
  rw [add_zero_off,World.cell?_alloc_new];simpa using hu⟩⟩
theorem own_far {w:World} {base:Nat} {e:TypeId} {sz n:Nat} {v:Value} {xs:List Value} (h:w.ownsRow base e sz v n xs) {p:Addr} (hp:v.ownBlock≠some p.block) (u:Value):(w.setCell p u).ownsRow base e sz v n xs:=by
 refine ⟨h.1,?_⟩
 rcases h.2 with hn | ⟨g,cap,cur,rfl,hb,hg,rest⟩
 ·exact .inl hn
 ·exact .inr ⟨g,cap,cur,rfl,hb,by rw [Below.heap_setCell _ _ _ _ (fun e=>hp (by simp [Value.ownBlock,e]))];exact hg,rest⟩
theorem own_ne_row {w:World} {base:Nat} {e T:TypeId} {sz n g:Nat} {v:Value} {xs cs:List Value} (h:w.ownsRow base e sz v n xs) (hr:Row w g T cs) (hne:e≠T):v.ownBlock≠some g:=by
 rcases h.2 with ⟨rfl,_⟩ | ⟨g',cap,cur,rfl,_,hg,_⟩
 ·simp [Value.ownBlock]
 ·intro he
  obtain rfl:g'=g:=by simpa [Value.ownBlock] using he
  unfold Row at hr
  rw [hg] at hr
  injection hr with hr
  injection hr with _ ht
  exact hne ht
theorem own_ne_own {w:World} {b b':Nat} {e e':TypeId} {sz sz' n n':Nat} {v v':Value} {xs xs':List Value} (h:w.ownsRow b e sz v n xs) (h':w.ownsRow b' e' sz' v' n' xs') (hne:e≠e'):v.ownBlock=none∨v.ownBlock≠v'.ownBlock:=by
 rcases h.2 with ⟨rfl,_⟩ | ⟨g,cap,cur,rfl,_,hg,_⟩
 ·exact .inl rfl
 ·refine .inr ?_
  rcases h'.2 with ⟨rfl,_⟩ | ⟨g',cap',cur',rfl,_,hg',_⟩
  ·simp [Value.ownBlock]
  ·intro he
   obtain rfl:g=g':=by simpa [Value.ownBlock] using he
   rw [hg] at hg'
   injection hg' with hg'
   injection hg' with _ ht
   exact hne ht
theorem own_base {w:World} {base base':Nat} {e:TypeId} {sz n:Nat} {v:Value} {xs:List Value} (h:w.ownsRow base e sz v n xs) (hb:base'≤base):w.ownsRow base' e sz v n xs:=
 ⟨h.1,h.2.imp id (fun ⟨g,cap,cur,a,b,c⟩=>⟨g,cap,cur,a,Nat.le_trans hb b,c⟩)⟩
theorem own_below {w w':World} {base B:Nat} {e:TypeId} {sz n:Nat} {v:Value} {xs:List Value} (h:w.ownsRow base e sz v n xs) (hb:Below B w w') (hB:w.heap.size≤B):w'.ownsRow base e sz v n xs:=by
 refine ⟨h.1,?_⟩
 rcases h.2 with hn | ⟨g,cap,cur,rfl,hbb,hg,rest⟩
 ·exact .inl hn
 ·have hlt:g < w.heap.size:=(h.lt g rfl).2
  exact .inr ⟨g,cap,cur,rfl,hbb,by rw [hb.block g (by omega)];exact hg,rest⟩
theorem Rd.own {w:World} {base:Nat} {e:TypeId} {sz n:Nat} {v:Value} {xs:List Value} (h:w.ownsRow base e sz v n xs):∃ A c,v=.slice A n c∧Rd w w.heap.size sz A n xs:=by
 rcases h.2 with ⟨rfl,rfl⟩ | ⟨g,cap,cur,rfl,hb,hg,hc⟩
 ·refine ⟨none,0,rfl,?_⟩
  have:xs=[]:=List.eq_nil_of_length_eq_zero (by simpa using h.1)
  rw [this];exact Rd.empty none
 ·exact ⟨_,_,rfl,Rd.of_own h⟩
@[simp] theorem bools_length (bs:List Bool):(bools bs).length=bs.length:=by simp [bools]
theorem bools_get (bs:List Bool) (k:Nat) (h:k < bs.length):(bools bs)[k]?=some (.bool (bs.getD k false)):=by
 simp [bools,List.getElem?_map,List.getElem?_eq_getElem h,List.getD_eq_getElem?_getD]
theorem Rd.bool {w:World} {B n:Nat} {A:Option Addr} {bs:List Bool} (h:Rd w B 1 A n (bools bs)) {k:Nat} (hk:k < n):
 ∃ ad,A=some ad∧ad.block < B∧w.cell? (ad.add k)=some (.bool (bs.getD k false)):=by
 obtain ⟨ad,u,e,hb,hu,hc⟩:=h.get1 hk
 have hl:k < bs.length:=by have:=h.1;simp at this;omega
 rw [bools_get bs k hl] at hu
 injection hu with hu
 exact ⟨ad,e,hb,by rw [hc,hu]⟩
theorem w64s_get (bs:List (BitVec 64)) (k:Nat) (h:k < bs.length):(w64s bs)[k]?=some (w64 (bs.getD k 0)):=by
 simp [w64s,List.getElem?_map,List.getElem?_eq_getElem h,List.getD_eq_getElem?_getD]
theorem Rd.word {w:World} {B n:Nat} {A:Option Addr} {bs:List (BitVec 64)} (h:Rd w B 1 A n (w64s bs)) {k:Nat} (hk:k < n):
 ∃ ad,A=some ad∧ad.block < B∧w.cell? (ad.add k)=some (w64 (bs.getD k 0)):=by
 obtain ⟨ad,u,e,hb,hu,hc⟩:=h.get1 hk
 have hl:k < bs.length:=by have:=h.1;simp [w64s] at this;omega
 rw [w64s_get bs k hl] at hu
 injection hu with hu
 exact ⟨ad,e,hb,by rw [hc,hu]⟩
theorem w64s_one (zs:List (BitVec 64)):∀ u ∈ w64s zs,u.oneCell'=true:=by
 intro u hu
 simp only [w64s,List.mem_map] at hu
 obtain ⟨x,_,rfl⟩:=hu
 rfl
end Go.Proofs.Ytiemhbogbaamlaa
/-
 A part.
-/
namespace Go.Proofs.Ytiemhbogbaamlaa
open Go.RowKit
theorem below_next {w W w':World} (hb:Below W.heap.size W w') (hw:Below w.heap.size w W):Below w.heap.size w w':=hw.trans (hb.mono hw.size)
theorem below_on {w W1 W w':World} (h0:Below w.heap.size w W1) (h1:Below W1.heap.size W1 W) (hb:Below W.heap.size W w'):Below w.heap.size w w':=h0.trans ((h1.trans (hb.mono h1.size)).mono h0.size)
theorem below_on2 {w W1 W:World} (h0:Below w.heap.size w W1) (h1:Below W1.heap.size W1 W):Below w.heap.size w W:=h0.trans (h1.mono h0.size)
theorem rowCells {w:World} {g:Nat} {T:TypeId} {xs:List Value} (h:Row w g T xs) {w':World} (hb:Below w.heap.size w w'):Row w' g T xs:=h.below hb h.lt
theorem rowNew1 (w:World) (o:Obj) (T:TypeId) (xs:List Value):Row ((w.alloc o).alloc (.cells xs.toArray T)) (w.heap.size+1) T xs:=by
 have:=Row.new (w.alloc o) T xs
 rw [World.size_alloc] at this
 exact this
end Go.Proofs.Ytiemhbogbaamlaa
/-
 A part.
-/
namespace Go.Proofs.Ytiemhbogbaamlaa
open Go.RowKit
structure Frm (B:Nat) (T1 T2:TypeId) (w w':World):Prop where
 below:Below B w w'
 keep:∀ (k:Nat) (cs:Array Value) (T:TypeId) (fz:Nat × Nat),T≠T1→T≠T2→w.heap[k]?=some (Obj.cells cs T fz)→w'.heap[k]?=some (Obj.cells cs T fz)
theorem heap_lt {w:World} {k:Nat} {o:Obj} (h:w.heap[k]?=some o):k < w.heap.size:=by
 rcases Nat.lt_or_ge k w.heap.size with hl | hge
 ·exact hl
 ·rw [Array.getElem?_eq_none hge] at h;cases h
section
variable {B:Nat} {T1 T2:TypeId} {w w1 w':World}
theorem Frm.refl (B:Nat) (T1 T2:TypeId) (w:World):Frm B T1 T2 w w:=⟨Below.refl _ _,fun _ _ _ _ _ _ h=>h⟩
theorem Frm.trans (h:Frm B T1 T2 w w1) (k:Frm B T1 T2 w1 w'):Frm B T1 T2 w w':=⟨h.below.trans k.below,fun b cs T fz h1 h2 hh=>k.keep b cs T fz h1 h2 (h.keep b cs T fz h1 h2 hh)⟩
theorem Frm.drewN (h:Frm B T1 T2 w w1) (n:Nat):Frm B T1 T2 w (w1.drewN n):=⟨below_drewN h.below n,h.keep⟩
theorem Frm.alloc (h:Frm B T1 T2 w w1) (hB:B≤w1.heap.size) (o:Obj):Frm B T1 T2 w (w1.alloc o):=
 ⟨h.below.alloc hB o,fun b cs T fz h1 h2 hh=>by
  have:=h.keep b cs T fz h1 h2 hh
  rw [Below.heap_alloc w1 o b (heap_lt this)];exact this⟩
theorem Frm.set {xs:List Value} {p:Addr} (h:Frm B T1 T2 w w1) (hr:Row w1 p.block T1 xs) (hB:B≤p.block) (u:Value):Frm B T1 T2 w (w1.setCell p u):=
 ⟨h.below.setCell hB u,fun b cs T fz h1 h2 hh=>by
  have:=h.keep b cs T fz h1 h2 hh
  rw [Below.heap_setCell w1 p u b (fun e=>by
   subst e
   unfold Row at hr
   rw [hr] at this
   injection this with this
   injection this with _ ht
   exact h1 ht.symm)]
  exact this⟩
theorem own_block_type {base sz n:Nat} {e:TypeId} {v:Value} {xs:List Value} {k:Nat} (h:w.ownsRow base e sz v n xs) (hk:v.ownBlock=some k):∃ cur,w.heap[k]?=some (Obj.cells cur e (0,0))∧base≤k:=by
 rcases h.2 with ⟨rfl,_⟩ | ⟨g,cap,cur,rfl,hb,hg,_⟩
 ·cases hk
 ·obtain rfl:g=k:=by simpa [Value.ownBlock] using hk
  exact ⟨cur,hg,hb⟩
theorem Frm.grown2 {base sz n:Nat} {v:Value} {xs:List Value} (h:Frm B T1 T2 w w1) (ho:w1.ownsRow base T2 sz v n xs) (hB:B≤base) (hS:B≤w1.heap.size) (hg:w1.grownBy w' v.ownBlock):Frm B T1 T2 w w':=by
 refine ⟨h.below.grown hg hS (fun k hk=>Nat.le_trans hB (own_block_type ho hk).choose_spec.2),fun b cs T fz h1 h2 hh=>?_⟩
 have:=h.keep b cs T fz h1 h2 hh
 rw [hg.block b (heap_lt this) (fun e=>by
  obtain ⟨cur,hc,_⟩:=own_block_type ho e.symm
  rw [hc] at this
  injection this with this
  injection this with _ ht
  exact h2 ht.symm)]
 exact this
theorem Frm.grownNew {row:Option Nat} (h:Frm B T1 T2 w w1) (hg:w1.grownBy w' row) (hrow:∀ k,row=some k→w.heap.size≤k) (hB:B≤w.heap.size):Frm B T1 T2 w w':=by
 refine ⟨h.below.grown hg (Nat.le_trans hB h.below.size) (fun k hk=>Nat.le_trans hB (hrow k hk)),fun b cs T fz h1 h2 hh=>?_⟩
 have hlt:=heap_lt hh
 have:=h.keep b cs T fz h1 h2 hh
 rw [hg.block b (heap_lt this) (fun e=>by have:=hrow b e.symm;omega)]
 exact this
theorem Frm.ofBelow (h:Below w.heap.size w w') (hB:B≤w.heap.size):Frm B T1 T2 w w':=
 ⟨h.mono hB,fun b cs T fz _ _ hh=>by rw [h.block b (heap_lt hh)];exact hh⟩
theorem Frm.own {base sz n:Nat} {e:TypeId} {v:Value} {xs:List Value} (h:Frm B T1 T2 w w') (ho:w.ownsRow base e sz v n xs) (h1:e≠T1) (h2:e≠T2):w'.ownsRow base e sz v n xs:=
 ⟨ho.1,ho.2.imp id (fun ⟨g,cap,cur,a,b,c,d⟩=>⟨g,cap,cur,a,b,h.keep g cur e (0,0) h1 h2 c,d⟩)⟩
theorem Frm.row {g:Nat} {T:TypeId} {xs:List Value} (h:Frm B T1 T2 w w') (hr:Row w g T xs) (h1:T≠T1) (h2:T≠T2):Row w' g T xs:=h.keep g _ T (0,0) h1 h2 hr
theorem own_grown {base sz n:Nat} {e:TypeId} {v:Value} {xs:List Value} {row:Option Nat} (ho:w.ownsRow base e sz v n xs) (hg:w.grownBy w' row) (hne:∀ k,v.ownBlock=some k→row≠some k):w'.ownsRow base e sz v n xs:=by
 refine ⟨ho.1,ho.2.imp id (fun ⟨g,cap,cur,a,b,c,d⟩=>⟨g,cap,cur,a,b,?_,d⟩)⟩
 subst a
 rw [hg.block g (heap_lt c) (fun e=>hne g rfl e.symm)]
 exact c
theorem own_old {base sz n:Nat} {e:TypeId} {v:Value} {xs:List Value} {row:Option Nat} {S:Nat} (ho:w.ownsRow base e sz v n xs) (hb:∀ k,v.ownBlock=some k→k < S) (hg:w.grownBy w' row) (hr:∀ k,row=some k→S≤k):w'.ownsRow base e sz v n xs:=
 own_grown ho hg (fun k hk e=>by have:=hb k hk;have:=hr k e;omega)
theorem own_lt {base sz n:Nat} {e:TypeId} {v:Value} {xs:List Value} (ho:w.ownsRow base e sz v n xs):∀ k,v.ownBlock=some k→k < w.heap.size:=fun k hk=>by
 obtain ⟨cur,hc,_⟩:=own_block_type ho hk
 exact heap_lt hc
theorem own_set {base sz n:Nat} {e T:TypeId} {v:Value} {xs cs:List Value} {p:Addr} (ho:w.ownsRow base e sz v n xs) (hr:Row w p.block T cs) (hne:e≠T) (u:Value):(w.setCell p u).ownsRow base e sz v n xs:=
 own_far ho (own_ne_row ho hr hne) u
end
def Rows2At (w:World) (base:Nat) (E I:TypeId) (v:Value) (rows:List (List Int)):Prop:=
 ∃ vs:List Value,w.ownsRow base E 1 v rows.length vs∧vs.length=rows.length∧∀ i,i < rows.length→w.ownsRow base I 1 (vs.getD i undef) (rows.getD i []).length (ints (rows.getD i []))
section
variable {w w':World} {base:Nat} {E I:TypeId} {v:Value} {rows:List (List Int)}
theorem Rows2At.nil (w:World) (base:Nat) (E I:TypeId):Rows2At w base E I (.slice none 0 0) []:=⟨[],World.ownsRow_nil _ _ _ _,rfl,fun i hi=>absurd hi (Nat.not_lt_zero _)⟩
theorem Rows2At.frm {B:Nat} {T1 T2:TypeId} (h:Rows2At w base E I v rows) (f:Frm B T1 T2 w w') (e1:E≠T1) (e2:E≠T2) (i1:I≠T1) (i2:I≠T2):Rows2At w' base E I v rows:=by
 obtain ⟨vs,h1,h2,h3⟩:=h
 exact ⟨vs,f.own h1 e1 e2,h2,fun i hi=>f.own (h3 i hi) i1 i2⟩
theorem Rows2At.grown {row:Option Nat} (h:Rows2At w base E I v rows) (hg:w.grownBy w' row) (hr:∀ k,row=some k→w.heap.size≤k):Rows2At w' base E I v rows:=by
 obtain ⟨vs,h1,h2,h3⟩:=h
 exact ⟨vs,own_old h1 (own_lt h1) hg hr,h2,fun i hi=>own_old (h3 i hi) (own_lt (h3 i hi)) hg hr⟩
theorem Rows2At.below {B:Nat} (h:Rows2At w base E I v rows) (hb:Below B w w') (hB:w.heap.size≤B):Rows2At w' base E I v rows:=by
 obtain ⟨vs,h1,h2,h3⟩:=h
 exact ⟨vs,own_below h1 hb hB,h2,fun i hi=>own_below (h3 i hi) hb hB⟩
end
end Go.Proofs.Ytiemhbogbaamlaa
