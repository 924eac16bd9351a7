/-
 A part.
-/
import Derived.Test.YtiemhbogbaamlaaYF7
import Derived.Test.YtiemhbogbaamlaaYF24
import Derived.Test.YtiemhbogbaamlaaYF2
import Derived.Test.YtiemhbogbaamlaaYF22
import Derived.Test.YtiemhbogbaamlaaYF11
import Derived.Deep.QuietTactic
import Derived.BigQuiet
import Derived.Deep.Light
import Derived.StillTailTactics
import Derived.BigRegion
set_option linter.unusedSimpArgs false
set_option linter.unusedVariables false
namespace Go.Proofs.Ytiemhbogbaamlaa
open Go.RowKit
theorem getD_app_lt {α:Type} (l m:List α) (d:α) {i:Nat} (h:i < l.length):(l ++ m).getD i d=l.getD i d:=by
 rw [List.getD_eq_getElem?_getD,List.getElem?_append_left h,← List.getD_eq_getElem?_getD]
theorem getD_app_ge {α:Type} (l m:List α) (d:α) {i:Nat} (h:l.length≤i):(l ++ m).getD i d=m.getD (i - l.length) d:=by
 rw [List.getD_eq_getElem?_getD,List.getElem?_append_right h,← List.getD_eq_getElem?_getD]
theorem POwn.app {w w2:World} {base b' M:Nat} {v v' v2:Value} {gs gs':List Nat} {rows rows':List (List (BitVec 64))} (h:POwn w base v M gs rows) (h':POwn w b' v' M gs' rows') (hb:base≤b') (hlt:∀ i,i < rows.length→gs.getD i 0 < b')
 (hg:w.grownBy w2 v.ownBlock) (ho:w2.ownsRow base 67 1 v2 (rows.length+rows'.length) (gs.map (gcell M) ++ gs'.map (gcell M))):POwn w2 base v2 M (gs ++ gs') (rows ++ rows'):=by
 have hl:=h.len
 have hl':=h'.len
 have hne:∀ {g:Nat} {xs:List Value},Row w g 66 xs→Row w2 g 66 xs:=fun hr=>hr.grown hg (fun e=>own_ne_row h.own hr (by decide) e.symm)
 refine ⟨by simp [hl,hl'],by rw [List.length_append,List.map_append];exact ho,fun i hi=>?_,fun i hi=>?_,fun i hi=>?_,fun i j hi hj e=>?_⟩
 all_goals rw [List.length_append] at hi
 ·by_cases c:i < rows.length
  ·rw [getD_app_lt _ _ _ (by omega),getD_app_lt _ _ _ c];exact hne (h.row i c)
  ·rw [getD_app_ge _ _ _ (by omega),getD_app_ge _ _ _ (by omega),hl];exact hne (h'.row _ (by omega))
 ·by_cases c:i < rows.length
  ·rw [getD_app_lt _ _ _ c];exact h.wid i c
  ·rw [getD_app_ge _ _ _ (by omega)];exact h'.wid _ (by omega)
 ·by_cases c:i < rows.length
  ·rw [getD_app_lt _ _ _ (by omega)];exact h.bas i c
  ·rw [getD_app_ge _ _ _ (by omega)];exact Nat.le_trans hb (h'.bas _ (by omega))
 ·rw [List.length_append] at hj
  by_cases c:i < rows.length
  ·by_cases d:j < rows.length
   ·rw [getD_app_lt _ _ _ (by omega),getD_app_lt _ _ _ (by omega)] at e
    exact h.inj i j c d e
   ·rw [getD_app_lt _ _ _ (by omega),getD_app_ge _ _ _ (by omega)] at e
    have:=hlt i c
    have:=h'.bas (j - gs.length) (by omega)
    omega
  ·by_cases d:j < rows.length
   ·rw [getD_app_ge _ _ _ (by omega),getD_app_lt _ _ _ (by omega)] at e
    have:=hlt j d
    have:=h'.bas (i - gs.length) (by omega)
    omega
   ·rw [getD_app_ge _ _ _ (by omega),getD_app_ge _ _ _ (by omega)] at e
    have:=h'.inj _ _ (by omega) (by omega) e
    omega
def rowsTo (t:Tre) (p:Pln) (k:Nat):List (List (BitVec 64)):=(t.hood.take k).flatMap (fun o=>(moveP p o.x o.y).words)
theorem rowsTo_zero (t:Tre) (p:Pln):rowsTo t p 0=[]:=rfl
theorem rowsTo_succ (t:Tre) (p:Pln) (k:Nat) (h:k < t.hood.length):rowsTo t p (k+1)=rowsTo t p k ++ (moveP p (t.hood.getD k default).x (t.hood.getD k default).y).words:=by
 unfold rowsTo
 rw [List.take_succ_eq_append_getElem h,List.flatMap_append,List.getD_eq_getElem?_getD,List.getElem?_eq_getElem h]
 simp
theorem rowsTo_all (t:Tre) (p:Pln):rowsTo t p t.hood.length=inRows t p:=by unfold rowsTo inRows;rw [List.take_length]
theorem rowsTo_len {t:Tre} {p:Pln} (k:Nat) (h:k≤t.hood.length):(rowsTo t p k).length=k * p.words.length:=by
 induction k with
 | zero=>rw [rowsTo_zero,Nat.zero_mul];rfl
 | succ k ih=>rw [rowsTo_succ _ _ _ (by omega),List.length_append,ih (by omega),moveP,pack_len,Nat.add_mul,Nat.one_mul]
structure PPart (w:World) (base ow M n:Nat) (gs:List Nat):Prop where
 le:gs.length≤n
 own:Row w ow 67 (gs.map (gcell M) ++ List.replicate (n - gs.length) (.slice none 0 0))
 row:∀ i,i < gs.length→Row w (gs.getD i 0) 66 (w64s (List.replicate M 0#64))
 bas:∀ i,i < gs.length→base≤gs.getD i 0
 inj:∀ i j,i < gs.length→j < gs.length→gs.getD i 0=gs.getD j 0→i=j
theorem PPart.up {w w':World} {base ow M n:Nat} {gs:List Nat} (h:PPart w base ow M n gs) (hb:Below w.heap.size w w'):PPart w' base ow M n gs:=
 ⟨h.le,rowCells h.own hb,fun i hi=>rowCells (h.row i hi) hb,h.bas,h.inj⟩
theorem PPart.drew {w:World} {base ow M n:Nat} {gs:List Nat} (h:PPart w base ow M n gs):PPart w.drew base ow M n gs:=⟨h.le,h.own,h.row,h.bas,h.inj⟩
theorem PPart.put {w:World} {base ow M n g k:Nat} {gs:List Nat} (h:PPart w base ow M n gs) (hk:gs.length=k) (hlt:k < n) (hr:Row w g 66 (w64s (List.replicate M 0#64))) (hb:base≤g) (hg:∀ i,i < gs.length→gs.getD i 0 < g) (hog:ow≠g):
 PPart (w.setCell ⟨ow,k,none⟩ (gcell M g)) base ow M n (gs ++ [g]):=by
 subst hk
 have hset:(gs.map (gcell M) ++ List.replicate (n - gs.length) (Value.slice none 0 0)).set gs.length (gcell M g)=(gs ++ [g]).map (gcell M) ++ List.replicate (n - (gs ++ [g]).length) (.slice none 0 0):=by
  rw [List.set_append_right _ _ (by simp),List.length_map,Nat.sub_self]
  obtain ⟨d,hd⟩:∃ d,n - gs.length=d+1:=⟨n - gs.length - 1,by omega⟩
  rw [hd,List.replicate_succ,List.set_cons_zero,List.map_append,List.length_append,List.length_singleton,show n - (gs.length+1)=d by omega]
  simp
 refine ⟨by simp;omega,by rw [← hset];exact h.own.set _ _,fun i hi=>?_,fun i hi=>?_,fun i j hi hj e=>?_⟩
 all_goals rw [List.length_append,List.length_singleton] at hi
 ·by_cases c:i < gs.length
  ·rw [getD_app_lt _ _ _ c]
   have h2:=h.row i c
   refine h2.far (p:=⟨ow,gs.length,none⟩) (fun e=>?_) _
   have e:gs.getD i 0=ow:=e
   have h3:=h.own
   unfold Row at h2 h3
   rw [e,h3] at h2
   injection h2 with h2
   injection h2 with _ ht
   exact absurd ht (by decide)
  ·obtain rfl:i=gs.length:=by omega
   rw [getD_app_ge _ _ _ (Nat.le_refl _),Nat.sub_self]
   exact hr.far (p:=⟨ow,gs.length,none⟩) (fun e=>hog (by have e:g=ow:=e;exact e.symm)) _
 ·by_cases c:i < gs.length
  ·rw [getD_app_lt _ _ _ c];exact h.bas i c
  ·obtain rfl:i=gs.length:=by omega
   rw [getD_app_ge _ _ _ (Nat.le_refl _),Nat.sub_self];exact hb
 ·rw [List.length_append,List.length_singleton] at hj
  by_cases c:i < gs.length
  ·have:=hg i c
   by_cases d:j < gs.length
   ·rw [getD_app_lt _ _ _ c,getD_app_lt _ _ _ d] at e;exact h.inj i j c d e
   ·obtain rfl:j=gs.length:=by omega
    rw [getD_app_lt _ _ _ c,getD_app_ge _ _ _ (Nat.le_refl _),Nat.sub_self] at e
    have e:gs.getD i 0=g:=e
    omega
  ·obtain rfl:i=gs.length:=by omega
   by_cases d:j < gs.length
   ·have:=hg j d
    rw [getD_app_lt _ _ _ d,getD_app_ge _ _ _ (Nat.le_refl _),Nat.sub_self] at e
    have e:g=gs.getD j 0:=e
    omega
   ·omega
theorem PPart.cell {w:World} {base ow M n k:Nat} {gs:List Nat} (h:PPart w base ow M n gs) (hk:gs.length=k) (hlt:k < n):w.cell? ⟨ow,k,none⟩=some (.slice none 0 0):=by
 subst hk
 rw [h.own.cell,List.getElem?_append_right (by simp),List.length_map,Nat.sub_self,List.getElem?_replicate,if_pos (by omega)]
theorem getD_rep {α:Type} (n:Nat) (x d:α) {i:Nat} (h:i < n):(List.replicate n x).getD i d=x:=by
 rw [List.getD_eq_getElem?_getD,List.getElem?_replicate,if_pos h];rfl
theorem PPart.all {w:World} {base ow M n:Nat} {gs:List Nat} (h:PPart w base ow M n gs) (hl:gs.length=n) (hb:base≤ow) (hn:n≤maxLen):POwn w base (.slice (some ⟨ow,0,none⟩) n n) M gs (List.replicate n (List.replicate M 0#64)):=by
 have ho:=h.own
 rw [hl,Nat.sub_self,List.replicate_zero,List.append_nil] at ho
 refine ⟨by rw [List.length_replicate];exact hl,?_,fun i hi=>?_,fun i hi=>?_,fun i hi=>?_,fun i j hi hj e=>?_⟩
 ·rw [List.length_replicate]
  exact ho.own hb (by rw [List.length_map,hl,Nat.mul_one]) hn
 all_goals rw [List.length_replicate] at hi
 ·rw [getD_rep _ _ _ hi];exact h.row i (by omega)
 ·rw [getD_rep _ _ _ hi,List.length_replicate]
 ·exact h.bas i (by omega)
 ·rw [List.length_replicate] at hj
  exact h.inj i j (by omega) (by omega) e
def outRow (t:Tre) (p:Pln) (M k b j:Nat):List (BitVec 64):=(List.range M).map (fun i=>if i < k∨(i=k∧j < b) then nextWord t p j i else 0#64)
def outK (t:Tre) (p:Pln) (n M k b:Nat):List (List (BitVec 64)):=(List.range n).map (outRow t p M k b)
theorem outK_len (t:Tre) (p:Pln) (n M k b:Nat):(outK t p n M k b).length=n:=by simp [outK]
theorem outK_get (t:Tre) (p:Pln) (n M k b:Nat) {j:Nat} (hj:j < n):(outK t p n M k b).getD j []=outRow t p M k b j:=by
 unfold outK
 rw [List.getD_eq_getElem?_getD,List.getElem?_map,List.getElem?_range hj];rfl
theorem outK_zero (t:Tre) (p:Pln) (n M:Nat):outK t p n M 0 0=List.replicate n (List.replicate M 0#64):=by
 unfold outK
 rw [List.eq_replicate_iff]
 refine ⟨by simp,fun l hl=>?_⟩
 obtain ⟨j,_,rfl⟩:=List.mem_map.1 hl
 unfold outRow
 rw [List.eq_replicate_iff]
 refine ⟨by simp,fun x hx=>?_⟩
 obtain ⟨i,_,rfl⟩:=List.mem_map.1 hx
 rw [if_neg (by omega)]
theorem outK_next (t:Tre) (p:Pln) (n M k:Nat):outK t p n M k n=outK t p n M (k+1) 0:=by
 unfold outK
 apply List.map_congr_left
 intro j hj
 have:=List.mem_range.1 hj
 unfold outRow
 apply List.map_congr_left
 intro i _
 by_cases h:i < k∨(i=k∧j < n)
 ·rw [if_pos h,if_pos (by omega)]
 ·rw [if_neg h,if_neg (by omega)]
theorem outK_put (t:Tre) (p:Pln) (n M k b:Nat) (hb:b < n) (hk:k < M):(outK t p n M k b).set b (((outK t p n M k b).getD b []).set k (nextWord t p b k))=outK t p n M k (b+1):=by
 rw [outK_get _ _ _ _ _ _ hb]
 apply List.ext_getElem
 ·simp [outK]
 intro j h1 h2
 have hj:j < n:=by rw [outK_len] at h2;exact h2
 rw [List.getElem_set]
 have e2:(outK t p n M k (b+1))[j]=outRow t p M k (b+1) j:=by simp [outK]
 rw [e2]
 by_cases e:b=j
 ·subst e
  rw [if_pos rfl]
  apply List.ext_getElem
  ·simp [outRow]
  intro i h3 h4
  rw [List.getElem_set]
  have hi:i < M:=by simpa [outRow] using h4
  have e4:(outRow t p M k (b+1) b)[i]=if i < k∨(i=k∧b < b+1) then nextWord t p b i else 0#64:=by simp [outRow]
  have e3:(outRow t p M k b b)[i]'(by simpa [outRow] using hi)=if i < k∨(i=k∧b < b) then nextWord t p b i else 0#64:=by simp [outRow]
  rw [e4,e3]
  by_cases c:k=i
  ·subst c
   rw [if_pos rfl,if_pos (by omega)]
  ·rw [if_neg c]
   by_cases d:i < k
   ·rw [if_pos (.inl d),if_pos (.inl d)]
   ·rw [if_neg (by omega),if_neg (by omega)]
 ·rw [if_neg e]
  have e3:(outK t p n M k b)[j]'(by rw [outK_len];exact hj)=outRow t p M k b j:=by simp [outK]
  rw [e3]
  unfold outRow
  apply List.map_congr_left
  intro i _
  by_cases h:i < k∨(i=k∧j < b)
  ·rw [if_pos h,if_pos (by omega)]
  ·rw [if_neg h,if_neg (by omega)]
theorem outK_all (t:Tre) (p:Pln) (M:Nat) (hM:M=wpr p.w.toNat * p.h.toNat):outK t p p.words.length M M 0=(nextPl t p).words:=by
 show _=(List.range p.words.length).map (nextRow t p)
 unfold outK
 apply List.map_congr_left
 intro j _
 unfold outRow nextRow
 rw [← hM]
 apply List.map_congr_left
 intro i hi
 rw [if_pos (.inl (List.mem_range.1 hi))]
theorem moved_wid {t:Tre} {p:Pln} (dx dy:Int) {i:Nat} (hi:i < (moveP p dx dy).words.length):((moveP p dx dy).words.getD i []).length=p.h.toNat * wpr p.w.toNat:=by
 unfold moveP at hi ⊢
 rw [pack_len] at hi
 rw [pack_get _ _ _ hi,planeF_length];rfl
theorem in_at_len (rows:List (List (BitVec 64))) (k:Nat):(inAt rows k).length=rows.length:=by simp [inAt]
theorem in_at_get (rows:List (List (BitVec 64))) (k:Nat) {i:Nat} (h:i < rows.length):(inAt rows k).getD i 0#64=(rows.getD i []).getD k 0#64:=by
 have e:rows.getD i []=rows[i]:=by rw [List.getD_eq_getElem?_getD,List.getElem?_eq_getElem h];rfl
 unfold inAt
 rw [e,List.getD_eq_getElem?_getD,List.getElem?_map,List.getElem?_eq_getElem h];rfl
def inMix (rows:List (List (BitVec 64))) (k:Nat) (inL:List (BitVec 64)) (i:Nat):List (BitVec 64):=(inAt rows k).take i ++ inL.drop i
theorem inMix_len (rows:List (List (BitVec 64))) (k:Nat) (inL:List (BitVec 64)) (i:Nat) (hl:inL.length=rows.length) (hi:i≤rows.length):(inMix rows k inL i).length=rows.length:=by
 unfold inMix
 rw [List.length_append,List.length_take,List.length_drop,in_at_len];omega
theorem inMix_zero (rows:List (List (BitVec 64))) (k:Nat) (inL:List (BitVec 64)):inMix rows k inL 0=inL:=by simp [inMix]
theorem inMix_all (rows:List (List (BitVec 64))) (k:Nat) (inL:List (BitVec 64)) (hl:inL.length=rows.length):inMix rows k inL rows.length=inAt rows k:=by
 unfold inMix
 rw [List.take_of_length_le (by rw [in_at_len];exact Nat.le_refl _),List.drop_of_length_le (by omega),List.append_nil]
theorem inMix_set (rows:List (List (BitVec 64))) (k:Nat) (inL:List (BitVec 64)) {i:Nat} (hl:inL.length=rows.length) (hi:i < rows.length):(inMix rows k inL i).set i ((rows.getD i []).getD k 0#64)=inMix rows k inL (i+1):=by
 have hlen:(inAt rows k).length=rows.length:=in_at_len _ _
 rw [← in_at_get rows k hi]
 unfold inMix
 have h1:((inAt rows k).take i).length=i:=by rw [List.length_take];omega
 rw [List.set_append_right _ _ (by omega),h1,Nat.sub_self,List.drop_eq_getElem_cons (by omega),List.set_cons_zero,List.take_succ_eq_append_getElem (by omega),List.append_assoc,List.getD_eq_getElem?_getD,List.getElem?_eq_getElem (by omega)]
 rfl
theorem POwn.farW {w:World} {base M:Nat} {v:Value} {gs:List Nat} {rows:List (List (BitVec 64))} {p:Addr} {xs:List Value} (h:POwn w base v M gs rows) (hr:Row w p.block 66 xs) (hne:∀ i,i < rows.length→gs.getD i 0≠p.block) (u:Value):POwn (w.setCell p u) base v M gs rows:=
 ⟨h.len,own_set h.own hr (by decide) u,fun i hi=>(h.row i hi).far (hne i hi) u,h.wid,h.bas,h.inj⟩
theorem mask_all (W k:Nat) (h:¬ (k % wpr W=wpr W - 1∧0 < W % 64)) (x:BitVec 64):Value.int .u64 (bits .and .u64 (x.toNat:Int) 18446744073709551615)=w64 (x &&& maskF W k):=by
 unfold maskF
 rw [if_neg h]
 have e:(18446744073709551615:Int)=(((BitVec.allOnes 64).toNat:Nat):Int):=by decide
 rw [e,u64_and_nat _ _ x.isLt (BitVec.allOnes 64).isLt,← BitVec.toNat_and];rfl
end Go.Proofs.Ytiemhbogbaamlaa
/-
 A part.
-/
namespace Go.Proofs.Ytiemhbogbaamlaa
open Go.RowKit
def rbit (row:List (BitVec 64)) (j:Int):Bool:=decide (0≤j) && (row.getD (j.toNat / 64) 0#64).getLsbD (j.toNat % 64)
def shA (row:List (BitVec 64)) (step:Int) (rest i:Nat):BitVec 64:=
 if 0≤(i:Int)+step∧(i:Int)+step < row.length then row.getD ((i:Int)+step).toNat 0#64 >>> rest else 0#64
def shB (row:List (BitVec 64)) (step:Int) (rest i:Nat):BitVec 64:=
 if 0 < rest∧0≤(i:Int)+step+1∧(i:Int)+step+1 < row.length then row.getD ((i:Int)+step+1).toNat 0#64 <<< (64 - rest) else 0#64
theorem getD_out (row:List (BitVec 64)) (k:Nat) (h:row.length≤k):row.getD k 0#64=0#64:=by
 rw [List.getD_eq_getElem?_getD,List.getElem?_eq_none h];rfl
theorem shA_eq (row:List (BitVec 64)) (step:Int) (rest i:Nat):shA row step rest i=if 0≤(i:Int)+step then row.getD ((i:Int)+step).toNat 0#64 >>> rest else 0#64:=by
 unfold shA
 by_cases h:0≤(i:Int)+step
 ·rw [if_pos h]
  by_cases h2:(i:Int)+step < row.length
  ·rw [if_pos ⟨h,h2⟩]
  ·rw [if_neg (fun x=>h2 x.2),getD_out _ _ (by omega)];simp
 ·rw [if_neg h,if_neg (fun x=>h x.1)]
theorem shB_eq (row:List (BitVec 64)) (step:Int) (rest i:Nat):shB row step rest i=if 0 < rest∧0≤(i:Int)+step+1 then row.getD ((i:Int)+step+1).toNat 0#64 <<< (64 - rest) else 0#64:=by
 unfold shB
 by_cases h:0 < rest∧0≤(i:Int)+step+1
 ·rw [if_pos h]
  by_cases h2:(i:Int)+step+1 < row.length
  ·rw [if_pos ⟨h.1,h.2,h2⟩]
  ·rw [if_neg (fun x=>h2 x.2.2),getD_out _ _ (by omega)];simp
 ·rw [if_neg h,if_neg (fun x=>h ⟨x.1,x.2.1⟩)]
theorem shAB_bit (row:List (BitVec 64)) (step:Int) (rest i t:Nat) (ht:t < 64) (hr:rest < 64):
 (shA row step rest i ||| shB row step rest i).getLsbD t=rbit row (((64 * i+t:Nat):Int)+(64 * step+rest)):=by
 rw [shA_eq,shB_eq,BitVec.getLsbD_or]
 unfold rbit
 by_cases h1:t+rest < 64
 ·have hB:(if 0 < rest∧0≤(i:Int)+step+1 then row.getD ((i:Int)+step+1).toNat 0#64 <<< (64 - rest) else 0#64).getLsbD t=false:=by
   split
   ·rw [BitVec.getLsbD_shiftLeft]
    have:t < 64 - rest:=by omega
    simp [this]
   ·simp
  rw [hB,Bool.or_false]
  by_cases h2:0≤(i:Int)+step
  ·obtain ⟨k,hk⟩:∃ k:Nat,(i:Int)+step=(k:Int):=⟨_,(Int.toNat_of_nonneg h2).symm⟩
   have e:((64 * i+t:Nat):Int)+(64 * step+rest)=((64 * k+(t+rest):Nat):Int):=by omega
   rw [if_pos h2,hk,Int.toNat_natCast,e,decide_eq_true (by omega),Bool.true_and,Int.toNat_natCast,show (64 * k+(t+rest)) / 64=k by omega,show (64 * k+(t+rest)) % 64=t+rest by omega,BitVec.getLsbD_ushiftRight,Nat.add_comm]
  ·rw [if_neg h2,decide_eq_false (by omega)];simp
 ·have hA:(if 0≤(i:Int)+step then row.getD ((i:Int)+step).toNat 0#64 >>> rest else 0#64).getLsbD t=false:=by
   split
   ·rw [BitVec.getLsbD_ushiftRight]
    exact BitVec.getLsbD_of_ge _ _ (by omega)
   ·simp
  rw [hA,Bool.false_or]
  by_cases h2:0≤(i:Int)+step+1
  ·obtain ⟨k,hk⟩:∃ k:Nat,(i:Int)+step+1=(k:Int):=⟨_,(Int.toNat_of_nonneg h2).symm⟩
   have e:((64 * i+t:Nat):Int)+(64 * step+rest)=((64 * k+(t+rest - 64):Nat):Int):=by omega
   rw [if_pos ⟨by omega,h2⟩,hk,Int.toNat_natCast,e,decide_eq_true (by omega),Bool.true_and,Int.toNat_natCast,show (64 * k+(t+rest - 64)) / 64=k by omega,show (64 * k+(t+rest - 64)) % 64=t+rest - 64 by omega,BitVec.getLsbD_shiftLeft]
   have h3:¬ t < 64 - rest:=by omega
   rw [show t - (64 - rest)=t+rest - 64 by omega]
   simp [ht,h3]
  ·rw [if_neg (fun x=>h2 x.2),decide_eq_false (by omega)];simp
def tgtB (row:List (BitVec 64)) (W:Nat) (dx:Int) (e:Int) (x:Nat):Bool:=decide (0≤atF ((x:Int)+dx) W e) && rbit row (atF ((x:Int)+dx) W e)
theorem tgt_in (row:List (BitVec 64)) (W:Nat) (dx e:Int) (x:Nat) (h:0≤(x:Int)+dx∧(x:Int)+dx < W):tgtB row W dx e x=rbit row ((x:Int)+dx):=by
 unfold tgtB atF
 rw [if_pos h,decide_eq_true h.1,Bool.true_and]
def shW (row:List (BitVec 64)) (W:Nat) (dx e:Int) (x0 i:Nat):BitVec 64:=mkW (fun t=>if 64 * i+t < x0 then tgtB row W dx e (64 * i+t) else rbit row (((64 * i+t:Nat):Int)+dx))
def shTo (row:List (BitVec 64)) (W:Nat) (dx e:Int) (x0:Nat):List (BitVec 64):=(List.range row.length).map (shW row W dx e x0)
def shF (row:List (BitVec 64)) (W:Nat) (dx e:Int):List (BitVec 64):=(List.range row.length).map (fun i=>mkW (fun t=>decide (64 * i+t < W) && tgtB row W dx e (64 * i+t)))
def shGo (row:List (BitVec 64)) (step:Int) (rest i:Nat):List (BitVec 64):=(List.range row.length).map (fun j=>if j < i then shA row step rest j ||| shB row step rest j else 0#64)
theorem shTo_length (row:List (BitVec 64)) (W:Nat) (dx e:Int) (x0:Nat):(shTo row W dx e x0).length=row.length:=by simp [shTo]
theorem shGo_length (row:List (BitVec 64)) (step:Int) (rest i:Nat):(shGo row step rest i).length=row.length:=by simp [shGo]
theorem shF_length (row:List (BitVec 64)) (W:Nat) (dx e:Int):(shF row W dx e).length=row.length:=by simp [shF]
theorem shGo_zero (row:List (BitVec 64)) (step:Int) (rest:Nat):shGo row step rest 0=List.replicate row.length 0#64:=by
 unfold shGo
 apply List.ext_getElem (by simp)
 intro j h1 h2
 simp
theorem map_set_range {α} (n i:Nat) (f g:Nat→α) (x:α) (hi:i < n) (h1:∀ j,j < n→j≠i→f j=g j) (h2:x=g i):((List.range n).map f).set i x=(List.range n).map g:=by
 apply List.ext_getElem (by simp)
 intro j hj hj'
 rw [List.getElem_set]
 simp only [List.getElem_map,List.getElem_range]
 split
 ·rename_i e;subst e;exact h2
 ·rename_i e;exact h1 j (by simpa using hj') (fun h=>e h.symm)
theorem shGo_set (row:List (BitVec 64)) (step:Int) (rest i:Nat) (x:BitVec 64) (hi:i < row.length) (hx:x=shA row step rest i ||| shB row step rest i):(shGo row step rest i).set i x=shGo row step rest (i+1):=by
 refine map_set_range _ _ _ _ _ hi (fun j _ hj=>?_) ?_
 ·by_cases h:j < i
  ·rw [if_pos h,if_pos (by omega)]
  ·rw [if_neg h,if_neg (by omega)]
 ·rw [if_pos (by omega)];exact hx
theorem shGo_get (row:List (BitVec 64)) (step:Int) (rest i:Nat) (hi:i < row.length):(shGo row step rest i).getD i 0#64=0#64:=by
 unfold shGo
 rw [List.getD_eq_getElem?_getD,List.getElem?_map,List.getElem?_range hi,Option.map_some,Option.getD_some,if_neg (Nat.lt_irrefl i)]
theorem shGo_all (row:List (BitVec 64)) (W:Nat) (step:Int) (rest:Nat) (dx e:Int) (hr:rest < 64) (hd:dx=64 * step+rest):shGo row step rest row.length=shTo row W dx e 0:=by
 unfold shGo shTo
 apply List.map_congr_left
 intro j hj
 rw [if_pos (List.mem_range.1 hj)]
 apply word_ext
 intro t ht
 rw [shAB_bit _ _ _ _ _ ht hr,shW,mkW_get,decide_eq_true ht,Bool.true_and,if_neg (Nat.not_lt_zero _),hd]
theorem shTo_get (row:List (BitVec 64)) (W:Nat) (dx e:Int) (x0 i:Nat) (hi:i < row.length):(shTo row W dx e x0).getD i 0#64=shW row W dx e x0 i:=by
 unfold shTo
 rw [List.getD_eq_getElem?_getD,List.getElem?_map,List.getElem?_range hi];rfl
theorem shTo_in (row:List (BitVec 64)) (W:Nat) (dx e:Int) (x:Nat) (h:0≤(x:Int)+dx∧(x:Int)+dx < W):shTo row W dx e (x+1)=shTo row W dx e x:=by
 unfold shTo
 apply List.map_congr_left
 intro i _
 unfold shW
 congr 1
 funext t
 by_cases h1:64 * i+t < x
 ·rw [if_pos h1,if_pos (by omega)]
 ·by_cases h2:64 * i+t=x
  ·rw [if_neg h1,if_pos (by omega),h2,tgt_in _ _ _ _ _ h]
  ·rw [if_neg h1,if_neg (by omega)]
theorem shW_next (row:List (BitVec 64)) (W:Nat) (dx e:Int) (x:Nat):
 (shW row W dx e x (x / 64) &&& ~~~(1#64 <<< (x % 64))) ||| (if tgtB row W dx e x=true then 1#64 <<< (x % 64) else 0#64)=shW row W dx e (x+1) (x / 64):=by
 have hr:x % 64 < 64:=Nat.mod_lt _ (by omega)
 apply word_ext
 intro t ht
 rw [BitVec.getLsbD_or,BitVec.getLsbD_and,BitVec.getLsbD_not,shW,shW,mkW_get,mkW_get,decide_eq_true ht,Bool.true_and,Bool.true_and]
 by_cases e1:t=x % 64
 ·subst e1
  have e2:64 * (x / 64)+x % 64=x:=by omega
  rw [e2,if_neg (Nat.lt_irrefl x),if_pos (Nat.lt_succ_self x)]
  generalize tgtB row W dx e x=v
  cases v <;> simp [hr]
 ·have hz:(1#64 <<< (x % 64)).getLsbD t=false:=by
   rw [BitVec.getLsbD_shiftLeft,BitVec.getLsbD_one]
   by_cases h3:t < x % 64
   ·simp [h3]
   ·have:¬ (t - x % 64=0):=by omega
    simp [this]
  have hz2:(if tgtB row W dx e x=true then 1#64 <<< (x % 64) else 0#64).getLsbD t=false:=by
   split
   ·exact hz
   ·simp
  rw [hz,hz2,Bool.or_false]
  have hne:64 * (x / 64)+t≠x:=by omega
  by_cases h1:64 * (x / 64)+t < x
  ·rw [if_pos h1,if_pos (by omega)];simp [ht]
  ·rw [if_neg h1,if_neg (by omega)];simp [ht]
theorem shTo_next (row:List (BitVec 64)) (W:Nat) (dx e:Int) (x:Nat) (hx:x / 64 < row.length) (u:BitVec 64)
 (hu:u=(shW row W dx e x (x / 64) &&& ~~~(1#64 <<< (x % 64))) ||| (if tgtB row W dx e x=true then 1#64 <<< (x % 64) else 0#64)):(shTo row W dx e x).set (x / 64) u=shTo row W dx e (x+1):=by
 refine map_set_range _ _ _ _ _ hx (fun j _ hj=>?_) (hu.trans (shW_next row W dx e x))
 apply word_ext
 intro t ht
 rw [shW,shW,mkW_get,mkW_get]
 by_cases h1:64 * j+t < x
 ·rw [if_pos h1,if_pos (by omega)]
 ·rw [if_neg h1,if_neg (by omega)]
theorem shTo_end (row:List (BitVec 64)) (W:Nat) (dx e:Int) (h0:W % 64=0) (hn:row.length=wpr W):shTo row W dx e W=shF row W dx e:=by
 unfold shTo shF
 apply List.map_congr_left
 intro i hi
 have hi:=List.mem_range.1 hi
 rw [hn] at hi
 unfold wpr at hi
 apply word_ext
 intro t ht
 rw [shW,mkW_get,mkW_get,decide_eq_true ht,Bool.true_and,Bool.true_and,if_pos (by omega),decide_eq_true (by omega),Bool.true_and]
theorem mask_bit (r t:Nat) (hr:r < 64) (ht:t < 64):((1#64 <<< r) - 1#64).getLsbD t=decide (t < r):=by
 have h2:(1#64 <<< r - 1#64).toNat=2 ^ r - 1:=by
  have h3:2 ^ r < 2 ^ 64:=Nat.pow_lt_pow_right (by decide) hr
  have h4:0 < 2 ^ r:=Nat.pow_pos (by decide)
  rw [BitVec.toNat_sub,BitVec.toNat_shiftLeft]
  simp only [BitVec.toNat_ofNat,Nat.shiftLeft_eq]
  omega
 rw [← BitVec.testBit_toNat,h2,Nat.testBit_two_pow_sub_one]
theorem shTo_last (row:List (BitVec 64)) (W:Nat) (dx e:Int) (h0:W % 64≠0) (hn:row.length=wpr W) (u:BitVec 64) (hu:u=shW row W dx e W (row.length - 1) &&& ((1#64 <<< (W % 64)) - 1#64)):
 (shTo row W dx e W).set (row.length - 1) u=shF row W dx e:=by
 have hl:1≤row.length:=by rw [hn];unfold wpr;omega
 have hr:W % 64 < 64:=Nat.mod_lt _ (by omega)
 refine map_set_range _ _ _ _ _ (by omega) (fun j hj hjn=>?_) ?_
 ·apply word_ext
  intro t ht
  unfold wpr at hn
  rw [shW,mkW_get,mkW_get,decide_eq_true ht,Bool.true_and,Bool.true_and,if_pos (by omega),decide_eq_true (by omega),Bool.true_and]
 ·rw [hu]
  apply word_ext
  intro t ht
  unfold wpr at hn
  rw [BitVec.getLsbD_and,mask_bit _ _ hr ht,shW,mkW_get,mkW_get,decide_eq_true ht,Bool.true_and,Bool.true_and]
  by_cases h1:t < W % 64
  ·rw [if_pos (by omega),decide_eq_true h1,decide_eq_true (by omega)];simp
  ·rw [decide_eq_false h1,decide_eq_false (by omega)];simp
end Go.Proofs.Ytiemhbogbaamlaa
/-
 A part.
-/
namespace Go.Proofs.Ytiemhbogbaamlaa
open Go.RowKit
def inPair (v:Int):Value:=.tuple #[.int .i64 (if 0≤v then v else 0),.bool (decide (0≤v))]
theorem inPair_in {v:Int} (h:0≤v):inPair v=.tuple #[.int .i64 v,.bool true]:=by unfold inPair;rw [if_pos h,decide_eq_true h]
theorem inPair_out:inPair (-1)=.tuple #[.int .i64 0,.bool false]:=rfl
set_option maxHeartbeats 1000000 in
theorem pInside_any (x s e:Int) (w:World) (h1:1≤s) (h2:s≤256) (hx1:-100000≤x) (hx2:x≤100000):
 Calls Try.prog 100 #[.int .i64 x,.int .i64 s,.int .i64 e] w fun en w'=>en=.returned (inPair (atF x s e))∧w=w':=by
 by_cases hx:0≤x∧x < s
 ·have hV:atF x s e=x:=by unfold atF;rw [if_pos hx]
  obtain ⟨hx1,hx2⟩:=hx
  rw [hV,inPair_in hx1]
  clear hV
  go_enter Try.func100,Try.ntmps100
  go_wp2
  go_ret2
  exact ⟨rfl,rfl⟩
 ·by_cases e1:e=1
  ·subst e1
   have hV:atF x s 1=x % s:=by unfold atF;rw [if_neg hx,if_pos rfl]
   have hb:=tmod_bd x s (by omega)
   have hm:=mod_walk2 x s (by omega)
   have hm2:Hid (Int.tmod x s % s=x % s):=by rw [Int.add_emod_right] at hm;exact hm
   obtain ⟨hb1,hb2⟩:=hb
   have hmb:=mod_bd x s (by omega)
   rw [hV,inPair_in hmb.1]
   clear hV hm
   by_cases hx0:0≤x
   ·generalize hk:x % s=k at hmb ⊢
    have hmb1:=hmb.1
    have hmb2:=hmb.2
    have hkk:k % s=k:=Int.emod_eq_of_lt hmb1 hmb2
    clear hmb hm2 hb1 hb2
    go_enter Try.func100,Try.ntmps100
    go_wp2
    all_goals first | (exfalso;omega) | (go_ret2;exact ⟨ret_ib (by first | rfl | exact hkk | (rw [Int.add_emod_right];exact hkk)) rfl,rfl⟩)
   ·clear hmb
    go_enter Try.func100,Try.ntmps100
    go_wp2
    all_goals first | (exfalso;omega) | (go_ret2;exact ⟨ret_ib hm2.out rfl,rfl⟩)
  ·by_cases e2:e=2
   ·subst e2
    have hV:atF x s 2=foldF x s:=by unfold atF;rw [if_neg hx,if_neg (by omega),if_pos rfl]
    have hb:=tmod_bd x (2 * s) (by omega)
    have hm:(Int.tmod x (2 * s)+2 * s) % (2 * s)=x % (2 * s):=mod_walk2 x (2 * s) (by omega)
    obtain ⟨hb1,hb2⟩:=hb
    have hfb:=foldF_bd x s (by omega)
    have hf:foldF x s=min (x % (2 * s)) (2 * s - 1 - x % (2 * s)):=by unfold foldF;split <;> omega
    have hmb:=mod_bd x (2 * s) (by omega)
    rw [hV,inPair_in hfb.1,hf]
    have hm2:=hm
    rw [Int.add_emod_right] at hm2
    generalize hk:x % (2 * s)=k at hm hm2 hmb ⊢
    have hmb1:=hmb.1
    have hmb2:=hmb.2
    clear hV hfb hf hmb
    by_cases hx0:0≤x
    ·have hkk:k % (2 * s)=k:=Int.emod_eq_of_lt hmb1 hmb2
     clear hm hm2 hb1 hb2
     go_enter Try.func100,Try.ntmps100
     go_wp2
     all_goals first | (exfalso;omega) | (go_ret2;refine ⟨ret_ib ?_ rfl,rfl⟩;omega)
    ·clear hk
     go_enter Try.func100,Try.ntmps100
     go_wp2
     all_goals first | (exfalso;omega) | (go_ret2;refine ⟨ret_ib ?_ rfl,rfl⟩;omega)
   ·have hV:atF x s e=-1:=by unfold atF;rw [if_neg hx,if_neg e1,if_neg e2]
    rw [hV,inPair_out]
    clear hV
    go_enter Try.func100,Try.ntmps100
    go_wp2
    all_goals first | (exfalso;omega) | (go_ret2;exact ⟨rfl,rfl⟩)
end Go.Proofs.Ytiemhbogbaamlaa
/-
 A part.
-/
namespace Go.Proofs.Ytiemhbogbaamlaa
open Go.RowKit
end Go.Proofs.Ytiemhbogbaamlaa
/-
 A part.
-/
namespace Go.Proofs.Ytiemhbogbaamlaa
open Go.RowKit
end Go.Proofs.Ytiemhbogbaamlaa
/-
 A part.
-/
namespace Go.Proofs.Ytiemhbogbaamlaa
open Go.RowKit
def PPost (r:Pln) (k:Int) (w:World) (e:Ending) (w':World):Prop:=
 ∃ (A:Option Addr) (n c M:Nat) (gs:List Nat),e=.returned (.tuple #[.agg #[.int .i64 r.w,.int .i64 r.h,.int .i64 r.edge,.slice A n c],.int .i64 k])∧POwn w' w.heap.size (.slice A n c) M gs r.words∧(r.words.length=n∧n≤3∧M≤1024)∧Below w.heap.size w w'
theorem ppost_err {r:Pln} {k k':Int} {w w':World} (hr:r=noPln) (hk:k'=k) (hb:Below w.heap.size w w'):PPost r k' w (.returned (.tuple #[.agg #[.int .i64 0,.int .i64 0,.int .i64 0,.slice none 0 0],.int .i64 k])) w':=by
 subst hr hk
 exact ⟨none,0,0,0,[],rfl,POwn.nil _ _ _,⟨rfl,by omega,by omega⟩,hb⟩
end Go.Proofs.Ytiemhbogbaamlaa
/-
 A part.
-/
namespace Go.Proofs.Ytiemhbogbaamlaa
open Go.RowKit
theorem shl_word (t:Bool) (r:Nat) (hr:r < 64):IntKind.u64.wrap (IntKind.u64.wrap (b01 t) * 2 ^ r)=(((if t=true then 1#64 <<< r else 0#64:BitVec 64).toNat:Nat):Int):=by
 have h1:IntKind.u64.wrap (b01 t)=b01 t:=by cases t <;> rfl
 rw [h1]
 cases t
 ·simp [b01];rfl
 ·simp only [b01,if_true,Int.one_mul]
  rw [BitVec.toNat_shiftLeft]
  have h2:(1#64:BitVec 64).toNat <<< r=2 ^ r:=by rw [Nat.shiftLeft_eq];simp
  have h3:2 ^ r < 2 ^ 64:=Nat.pow_lt_pow_right (by decide) hr
  rw [h2,Nat.mod_eq_of_lt h3]
  have h4:((2 ^ r:Nat):Int)=(2:Int) ^ r:=by simp
  rw [← h4]
  show ((2 ^ r:Nat):Int) % 18446744073709551616=_
  rw [Int.emod_eq_of_lt (Int.natCast_nonneg _) (Int.lt_of_lt_of_le (Int.ofNat_lt.2 h3) (by decide))]
theorem POwn.elem {w:World} {base M n c i:Nat} {A:Option Addr} {gs:List Nat} {rows:List (List (BitVec 64))} (h:POwn w base (.slice A n c) M gs rows) (hn:rows.length=n) (hi:i < n):
 ∃ ad,A=some ad∧ad.block < w.heap.size∧w.cell? (ad.add i)=some (.slice (some ⟨gs.getD i 0,0,none⟩) M M):=by
 have ho:=h.own
 rw [hn] at ho
 obtain ⟨ad,u,e,hb,hu,hc⟩:=(Rd.of_own ho).get1 hi
 rw [List.getElem?_map,List.getElem?_eq_getElem (by rw [h.len,hn];exact hi)] at hu
 refine ⟨ad,e,hb,?_⟩
 rw [hc,← hu,List.getD_eq_getElem?_getD,List.getElem?_eq_getElem (by rw [h.len,hn];exact hi)];rfl
end Go.Proofs.Ytiemhbogbaamlaa
