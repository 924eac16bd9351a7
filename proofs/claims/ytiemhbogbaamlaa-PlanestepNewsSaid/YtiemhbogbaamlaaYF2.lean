/-
 A part.
-/
import Derived.Test.YtiemhbogbaamlaaYF1
set_option linter.unusedSimpArgs false
set_option linter.unusedVariables false
namespace Go.Proofs.Ytiemhbogbaamlaa
open Go.RowKit
structure Gt where
 op:Int
 a:Int
 b:Int
instance:Inhabited Gt:=⟨⟨0,0,0⟩⟩
structure Circ where
 inputs:Int
 gates:List Gt
 outs:List Int
def gtEq (x y:Gt):Bool:=x.op == y.op && (x.a == y.a && x.b == y.b)
theorem gtEq_iff (x y:Gt):gtEq x y=true ↔ x=y:=by
 cases x;cases y;simp [gtEq]
instance:DecidableEq Gt:=fun x y=>if h:gtEq x y=true then isTrue ((gtEq_iff x y).1 h) else isFalse (fun e=>h ((gtEq_iff x y).2 e))
def gtCells (g:Gt):List Value:=[.int .i64 g.op,.int .i64 g.a,.int .i64 g.b]
def gatesCells (gs:List Gt):List Value:=gs.flatMap gtCells
theorem gatesCells_length (gs:List Gt):(gatesCells gs).length=gs.length * 3:=by
 induction gs with
 | nil=>rfl
 | cons g l ih=>simp only [gatesCells,List.flatMap_cons,List.length_append,List.length_cons] at *;rw [ih];simp [gtCells];omega
theorem gatesCells_get (gs:List Gt) (k:Nat) (h:k < gs.length):(gatesCells gs)[k * 3]?=some (.int .i64 (gs.getD k default).op)∧(gatesCells gs)[k * 3+1]?=some (.int .i64 (gs.getD k default).a)∧(gatesCells gs)[k * 3+2]?=some (.int .i64 (gs.getD k default).b):=by
 induction gs generalizing k with
 | nil=>simp at h
 | cons g l ih=>
  cases k with
  | zero=>simp [gatesCells,gtCells]
  | succ k=>
   have:=ih k (by simpa using h)
   have e:(k+1) * 3=k * 3+3:=by omega
   have hh:∀ j,(gatesCells (g :: l))[k * 3+3+j]?=(gatesCells l)[k * 3+j]?:=fun j=>by
    simp only [gatesCells,List.flatMap_cons]
    rw [List.getElem?_append_right (by simp [gtCells];omega)]
    congr 1
    simp [gtCells];omega
   rw [e]
   refine ⟨(hh 0).trans ?_,(hh 1).trans ?_,(hh 2).trans ?_⟩
   ·simpa using this.1
   ·simpa using this.2.1
   ·simpa using this.2.2
theorem Rd.gate {w:World} {B n:Nat} {A:Option Addr} {gs:List Gt} (h:Rd w B 3 A n (gatesCells gs)) {k:Nat} (hk:k < n):
 ∃ ad,A=some ad∧ad.block < B∧w.cell? (ad.add (k * 3))=some (.int .i64 (gs.getD k default).op)∧w.cell? ⟨(ad.add (k * 3)).block,(ad.add (k * 3)).off+1,none⟩=some (.int .i64 (gs.getD k default).a)∧w.cell? ⟨(ad.add (k * 3)).block,(ad.add (k * 3)).off+2,none⟩=some (.int .i64 (gs.getD k default).b):=by
 have hl:k < gs.length:=by have:=h.1;rw [gatesCells_length] at this;omega
 obtain ⟨h0,h1,h2⟩:=gatesCells_get gs k hl
 exact h.row3 hk h0 h1 h2
def sameC (c d:Circ):Bool:=c.inputs == d.inputs && (decide (c.gates=d.gates) && decide (c.outs=d.outs))
def operandsF (op:Int):Int:=if op=0∨op=1 then 0 else if op=2 then 1 else if op=3∨op=4∨op=5 then 2 else -1
theorem operandsF_bd (op:Int):-1≤operandsF op∧operandsF op≤2:=by unfold operandsF;split <;> (try split) <;> (try split) <;> omega
def wireOk (n w k lim:Int):Bool:=decide (n < k∧w=0∨k≤n∧0≤w∧w < lim)
def gateOk (lim:Int) (g:Gt):Bool:=decide (0≤operandsF g.op) && wireOk (operandsF g.op) g.a 1 lim && wireOk (operandsF g.op) g.b 2 lim
def outOk (lim w:Int):Bool:=decide (0≤w∧w < lim)
def gatesOk (inputs:Int) (gs:List Gt):Bool:=decide (∀ i,i < gs.length→gateOk (inputs+i) (gs.getD i default)=true)
def rightC (c:Circ):Bool:=
 decide (0≤c.inputs∧c.inputs≤1000∧c.gates.length≤20000∧c.outs.length≤1000) && gatesOk c.inputs c.gates && c.outs.all (outOk (c.inputs+c.gates.length))
theorem right_false_gate (c:Circ) (k:Nat) (hk:k < c.gates.length) (h:gateOk (c.inputs+k) (c.gates.getD k default)=false):rightC c=false:=by
 have hg:gatesOk c.inputs c.gates=false:=decide_eq_false (fun hh=>by have:=hh k hk;rw [h] at this;cases this)
 simp [rightC,hg]
theorem right_true_gates (c:Circ) (hs:0≤c.inputs∧c.inputs≤1000∧c.gates.length≤20000∧c.outs.length≤1000) (h:∀ k,k < c.gates.length→gateOk (c.inputs+k) (c.gates.getD k default)=true):
 rightC c=c.outs.all (outOk (c.inputs+c.gates.length)):=by
 have hg:gatesOk c.inputs c.gates=true:=decide_eq_true h
 simp [rightC,hg,hs]
theorem all_false_at (p:Int→Bool) (zs:List Int) (k:Nat) (hk:k < zs.length) (h:p (zs.getD k 0)=false):zs.all p=false:=by
 rw [List.all_eq_false]
 refine ⟨zs[k],List.getElem_mem hk,?_⟩
 simp [List.getD_eq_getElem?_getD,List.getElem?_eq_getElem hk] at h
 simp [h]
theorem all_true_at (p:Int→Bool) (zs:List Int) (h:∀ k,k < zs.length→p (zs.getD k 0)=true):zs.all p=true:=by
 rw [List.all_eq_true]
 intro x hx
 obtain ⟨j,hj,rfl⟩:=List.getElem_of_mem hx
 have:=h j hj
 simpa [List.getD_eq_getElem?_getD,List.getElem?_eq_getElem hj] using this
structure CAt (w:World) (c:Circ) (GA OA:Option Addr) (gn on:Nat):Prop where
 gates:Rd w w.heap.size 3 GA gn (gatesCells c.gates)
 outs:Rd w w.heap.size 1 OA on (ints c.outs)
 g63:gn≤maxLen
 o63:on≤maxLen
theorem CAt.up {w w':World} {c:Circ} {GA OA:Option Addr} {gn on:Nat} (h:CAt w c GA OA gn on) (hb:Below w.heap.size w w'):CAt w' c GA OA gn on:=
 ⟨h.gates.up hb,h.outs.up hb,h.g63,h.o63⟩
theorem CAt.gl {w:World} {c:Circ} {GA OA:Option Addr} {gn on:Nat} (h:CAt w c GA OA gn on):c.gates.length=gn:=by have:=h.gates.1;rw [gatesCells_length] at this;omega
theorem CAt.ol {w:World} {c:Circ} {GA OA:Option Addr} {gn on:Nat} (h:CAt w c GA OA gn on):c.outs.length=on:=by have:=h.outs.1;simp at this;omega
def okC (c:Circ) (n:Nat):Bool:=rightC c && decide ((n:Int)=c.inputs)
theorem outOk_at {lim:Int} {os:List Int} (h:os.all (outOk lim)=true) {k:Nat} (hk:k < os.length):0≤os.getD k 0∧os.getD k 0 < lim:=by
 rw [List.all_eq_true] at h
 have:=h _ (List.getElem_mem hk)
 rw [List.getD_eq_getElem?_getD,List.getElem?_eq_getElem hk]
 simpa [outOk] using this
end Go.Proofs.Ytiemhbogbaamlaa
/-
 A part.
-/
namespace Go.Proofs.Ytiemhbogbaamlaa
open Go.RowKit
structure Grd where
 w:Int
 h:Int
 edge:Int
 cells:List Int
def sizedF (w h edge:Int):Bool:=decide ((1≤w∧w≤256)∧(1≤h∧h≤256)∧w * h≤4096∧0≤edge∧edge≤2)
def stateOk (s:Int):Bool:=decide (0≤s∧s < 8)
def rightG (g:Grd):Bool:=sizedF g.w g.h g.edge && (decide ((g.cells.length:Int)=g.w * g.h) && g.cells.all stateOk)
def noGrd:Grd:=⟨0,0,0,[]⟩
def zeros (n:Nat):List Int:=List.replicate n 0
structure GAt (w:World) (g:Grd) (A:Option Addr) (n:Nat):Prop where
 cells:Rd w w.heap.size 1 A n (ints g.cells)
 c63:n≤maxLen
theorem GAt.up {w w':World} {g:Grd} {A:Option Addr} {n:Nat} (h:GAt w g A n) (hb:Below w.heap.size w w'):GAt w' g A n:=⟨h.cells.up hb,h.c63⟩
theorem GAt.cl {w:World} {g:Grd} {A:Option Addr} {n:Nat} (h:GAt w g A n):g.cells.length=n:=by have:=h.cells.1;simp at this;omega
theorem noGrd_at (w:World):GAt w noGrd none 0:=⟨Rd.empty none,by unfold maxLen;omega⟩
theorem sizedF_parts {w h e:Int} (hs:sizedF w h e=true):(1≤w∧w≤256)∧(1≤h∧h≤256)∧w * h≤4096∧0≤e∧e≤2:=by simpa [sizedF] using hs
theorem prod_bd {w h:Int} (hw:1≤w∧w≤256) (hh:1≤h∧h≤256):1≤w * h∧w * h≤65536:=by
 have h1:1 * 1≤w * h:=Int.mul_le_mul hw.1 hh.1 (by omega) (by omega)
 have h2:w * h≤256 * 256:=Int.mul_le_mul hw.2 hh.2 (by omega) (by omega)
 omega
theorem rightG_parts {g:Grd} (h:rightG g=true):sizedF g.w g.h g.edge=true∧(g.cells.length:Int)=g.w * g.h∧g.cells.all stateOk=true:=by
 simpa [rightG] using h
theorem stateOk_at {zs:List Int} (h:zs.all stateOk=true) {k:Nat} (hk:k < zs.length):0≤zs.getD k 0∧zs.getD k 0 < 8:=by
 rw [List.all_eq_true] at h
 have:=h _ (List.getElem_mem hk)
 rw [List.getD_eq_getElem?_getD,List.getElem?_eq_getElem hk]
 simpa [stateOk] using this
theorem mod_walk (n m:Int) (hm:0 < m):Int.tmod (Int.tmod n m+m) m=n % m:=by
 have h1:0≤Int.tmod n m+m:=by
  have:=Int.lt_tmod_of_pos n hm
  omega
 rw [Int.tmod_eq_emod_of_nonneg h1,Int.add_emod_right]
 have h2:Int.tmod n m=n - m * Int.tdiv n m:=Int.tmod_def n m
 rw [h2,Int.sub_mul_emod_self_left]
theorem tmod_bd (n m:Int) (hm:0 < m):-m < Int.tmod n m∧Int.tmod n m < m:=⟨Int.lt_tmod_of_pos n hm,Int.tmod_lt_of_pos n hm⟩
def foldF (n m:Int):Int:=if m≤n % (2 * m) then 2 * m - 1 - n % (2 * m) else n % (2 * m)
def atF (x w edge:Int):Int:=if 0≤x∧x < w then x else if edge=1 then x % w else if edge=2 then foldF x w else -1
theorem foldF_bd (n m:Int) (hm:0 < m):0≤foldF n m∧foldF n m < m:=by
 have h0:=Int.emod_nonneg n (show (2 * m)≠0 by omega)
 have h1:=Int.emod_lt_of_pos n (show 0 < 2 * m by omega)
 unfold foldF;split <;> omega
theorem mod_bd (n m:Int) (hm:0 < m):0≤n % m∧n % m < m:=⟨Int.emod_nonneg n (by omega),Int.emod_lt_of_pos n hm⟩
theorem atF_bd (x w edge:Int) (hw:1≤w):-1≤atF x w edge∧atF x w edge < w:=by
 have h1:=mod_bd x w (by omega)
 have h2:=foldF_bd x w (by omega)
 unfold atF
 split
 ·omega
 ·split
  ·omega
  ·split <;> omega
def getF (g:Grd) (x y:Int):Int:=if rightG g=true then (if atF x g.w g.edge < 0∨atF y g.h g.edge < 0 then 0 else g.cells.getD (atF y g.h g.edge * g.w+atF x g.w g.edge).toNat 0) else 0
theorem place_bd {w h x y:Int} (hx:0≤x∧x < w) (hy:0≤y∧y < h):0≤y * w+x∧y * w+x < w * h:=by
 have h1:y * w≤(h - 1) * w:=Int.mul_le_mul_of_nonneg_right (by omega) (by omega)
 have h2:0≤y * w:=Int.mul_nonneg hy.1 (by omega)
 rw [Int.sub_mul,Int.mul_comm h w] at h1
 omega
end Go.Proofs.Ytiemhbogbaamlaa
/-
 A part.
-/
namespace Go.Proofs.Ytiemhbogbaamlaa
open Go.RowKit
structure Pln where
 w:Int
 h:Int
 edge:Int
 words:List (List (BitVec 64))
def noPln:Pln:=⟨0,0,0,[]⟩
def mkB (f:Nat→Bool):Nat→BitVec 64
 | 0=>0#64
 | k+1=>mkB f k ||| (if f k=true then BitVec.twoPow 64 k else 0#64)
def mkW (f:Nat→Bool):BitVec 64:=mkB f 64
theorem mkB_get (f:Nat→Bool) (k i:Nat) (hk:k≤64):(mkB f k).getLsbD i=(decide (i < k) && f i):=by
 induction k with
 | zero=>simp [mkB]
 | succ k ih=>
  rw [mkB,BitVec.getLsbD_or,ih (by omega)]
  by_cases h:i=k
  ·subst h
   cases hf:f i
   ·simp
   ·simp [BitVec.getLsbD_twoPow];omega
  ·by_cases hik:i < k
   ·have:i < k+1:=by omega
    cases hf:f k
    ·simp [hik,this]
    ·simp [hik,this,BitVec.getLsbD_twoPow]
     cases f i <;> simp
     omega
   ·have:¬ i < k+1:=by omega
    cases hf:f k
    ·simp [hik,this]
    ·simp [hik,this,BitVec.getLsbD_twoPow]
     omega
theorem mkW_get (f:Nat→Bool) (i:Nat):(mkW f).getLsbD i=(decide (i < 64) && f i):=mkB_get f 64 i (Nat.le_refl _)
theorem word_ext {a b:BitVec 64} (h:∀ i,i < 64→a.getLsbD i=b.getLsbD i):a=b:=BitVec.eq_of_getLsbD_eq (fun i hi=>h i hi)
def wpr (W:Nat):Nat:=(W+63) / 64
theorem wpr_bd {W:Nat} (h:1≤W):1≤wpr W∧64 * (wpr W - 1) < W∧W≤64 * wpr W:=by unfold wpr;omega
def bitW (n:Nat) (l:List (BitVec 64)) (x y:Nat):Bool:=(l.getD (y * n+x / 64) 0#64).getLsbD (x % 64)
def padOk (W n:Nat) (l:List (BitVec 64)) (y:Nat):Bool:=(List.range 64).all (fun j=>decide (W≤64 * (n - 1)+j→(l.getD (y * n+(n - 1)) 0#64).getLsbD j=false))
theorem padOk_iff (W n:Nat) (l:List (BitVec 64)) (y:Nat):padOk W n l y=true ↔ ∀ j,j < 64→W≤64 * (n - 1)+j→(l.getD (y * n+(n - 1)) 0#64).getLsbD j=false:=by
 unfold padOk
 rw [List.all_eq_true]
 constructor
 ·intro h j hj
  exact of_decide_eq_true (h j (List.mem_range.2 hj))
 ·intro h j hj
  exact decide_eq_true (h j (List.mem_range.1 hj))
def planeOk (W H:Nat) (l:List (BitVec 64)):Bool:=decide (l.length=H * wpr W) && decide (∀ y,y < H→padOk W (wpr W) l y=true)
theorem planeOk_parts {W H:Nat} {l:List (BitVec 64)} (h:planeOk W H l=true):l.length=H * wpr W∧∀ y,y < H→∀ j,j < 64→W≤64 * (wpr W - 1)+j→(l.getD (y * wpr W+(wpr W - 1)) 0#64).getLsbD j=false:=by
 simp only [planeOk,Bool.and_eq_true,decide_eq_true_eq] at h
 exact ⟨h.1,fun y hy j hj hw=>(padOk_iff _ _ _ _).1 (h.2 y hy) j hj hw⟩
theorem planeOk_mk {W H:Nat} {l:List (BitVec 64)} (h1:l.length=H * wpr W) (h2:∀ y,y < H→∀ j,j < 64→W≤64 * (wpr W - 1)+j→(l.getD (y * wpr W+(wpr W - 1)) 0#64).getLsbD j=false):planeOk W H l=true:=by
 simp only [planeOk,Bool.and_eq_true,decide_eq_true_eq]
 exact ⟨h1,fun y hy=>(padOk_iff _ _ _ _).2 (fun j hj hw=>h2 y hy j hj hw)⟩
def rightPl (p:Pln):Bool:=sizedF p.w p.h p.edge && (decide (1≤p.words.length∧p.words.length≤3) && p.words.all (planeOk p.w.toNat p.h.toNat))
theorem rightPl_parts {p:Pln} (h:rightPl p=true):sizedF p.w p.h p.edge=true∧(1≤p.words.length∧p.words.length≤3)∧∀ b,b < p.words.length→planeOk p.w.toNat p.h.toNat (p.words.getD b [])=true:=by
 simp only [rightPl,Bool.and_eq_true,decide_eq_true_eq,List.all_eq_true] at h
 refine ⟨h.1,h.2.1,fun b hb=>h.2.2 _ ?_⟩
 rw [List.getD_eq_getElem?_getD,List.getElem?_eq_getElem hb]
 exact List.getElem_mem hb
def tbit (s:Int) (b:Nat):Bool:=decide (s / 2 ^ b % 2=1)
def planeF (W H:Nat) (cs:List Int) (b:Nat):List (BitVec 64):=
 (List.range (H * wpr W)).map (fun k=>mkW (fun j=>decide (64 * (k % wpr W)+j < W) && tbit (cs.getD (k / wpr W * W+(64 * (k % wpr W)+j)) 0) b))
def packErr (g:Grd) (bits:Int):Int:=if rightG g=true∧1≤bits∧bits≤3 then (if g.cells.all (fun s=>decide (s < 2 ^ bits.toNat))=true then 0 else 10) else 2
def packP (g:Grd) (nb:Nat):Pln:=⟨g.w,g.h,g.edge,(List.range nb).map (planeF g.w.toNat g.h.toNat g.cells)⟩
theorem planeF_length (W H:Nat) (cs:List Int) (b:Nat):(planeF W H cs b).length=H * wpr W:=by simp [planeF]
theorem planeF_get (W H:Nat) (cs:List Int) (b k:Nat) (hk:k < H * wpr W):(planeF W H cs b).getD k 0#64=mkW (fun j=>decide (64 * (k % wpr W)+j < W) && tbit (cs.getD (k / wpr W * W+(64 * (k % wpr W)+j)) 0) b):=by
 unfold planeF
 rw [List.getD_eq_getElem?_getD,List.getElem?_map,List.getElem?_range hk];rfl
theorem row_at {n y i:Nat} (hi:i < n):(y * n+i) / n=y∧(y * n+i) % n=i:=by
 constructor
 ·rw [Nat.mul_comm,Nat.mul_add_div (by omega),Nat.div_eq_of_lt hi,Nat.add_zero]
 ·rw [Nat.mul_comm,Nat.mul_add_mod,Nat.mod_eq_of_lt hi]
theorem row_ltP {n H y i:Nat} (hi:i < n) (hy:y < H):y * n+i < H * n:=by
 have:=Nat.mul_le_mul_right n (show y+1≤H by omega)
 rw [Nat.add_mul,Nat.one_mul] at this
 omega
theorem planeF_bit {W H:Nat} (cs:List Int) (b x y:Nat) (hW:1≤W) (hx:x < W) (hy:y < H):bitW (wpr W) (planeF W H cs b) x y=tbit (cs.getD (y * W+x) 0) b:=by
 obtain ⟨n1,n2,n3⟩:=wpr_bd hW
 have hi:x / 64 < wpr W:=by omega
 obtain ⟨e1,e2⟩:=row_at (y:=y) hi
 rw [bitW,planeF_get _ _ _ _ _ (row_ltP hi hy),mkW_get,e1,e2,show 64 * (x / 64)+x % 64=x by omega]
 simp [hx];omega
theorem planeF_ok {W H:Nat} (cs:List Int) (b:Nat) (hW:1≤W):planeOk W H (planeF W H cs b)=true:=by
 obtain ⟨n1,n2,n3⟩:=wpr_bd hW
 refine planeOk_mk (planeF_length _ _ _ _) (fun y hy j hj hw=>?_)
 obtain ⟨e1,e2⟩:=row_at (n:=wpr W) (y:=y) (i:=wpr W - 1) (by omega)
 rw [planeF_get _ _ _ _ _ (row_ltP (by omega) hy),mkW_get,e1,e2]
 simp;omega
def stateTo (n:Nat) (ws:List (List (BitVec 64))) (x y:Nat):Nat→Int
 | 0=>0
 | b+1=>stateTo n ws x y b+(if bitW n (ws.getD b []) x y=true then 2 ^ b else 0)
theorem stateTo_bd (n:Nat) (ws:List (List (BitVec 64))) (x y b:Nat):0≤stateTo n ws x y b∧stateTo n ws x y b < 2 ^ b:=by
 induction b with
 | zero=>simp [stateTo]
 | succ b ih=>
  simp only [stateTo,Int.pow_succ]
  split <;> omega
theorem stateTo_bit (n:Nat) (ws:List (List (BitVec 64))) (x y m b:Nat) (hb:b < m):tbit (stateTo n ws x y m) b=bitW n (ws.getD b []) x y:=by
 induction m with
 | zero=>omega
 | succ m ih=>
  have hbd:=stateTo_bd n ws x y m
  simp only [stateTo]
  by_cases e:b=m
  ·subst e
   unfold tbit
   have hp:(0:Int) < 2 ^ b:=Int.pow_pos (by omega)
   cases hc:bitW n (ws.getD b []) x y
   ·simp [Int.ediv_eq_zero_of_lt hbd.1 hbd.2]
   ·simp only [if_true]
    rw [Int.add_ediv_of_dvd_right (Int.dvd_refl _),Int.ediv_eq_zero_of_lt hbd.1 hbd.2,Int.ediv_self (by omega)]
    decide
  ·rw [← ih (by omega)]
   cases hc:bitW n (ws.getD m []) x y
   ·simp
   ·simp only [if_true]
    unfold tbit
    have h2:(2:Int) ^ m=2 ^ b * (2 * 2 ^ (m - b - 1)):=by
     rw [← Int.mul_assoc,← Int.pow_succ,← Int.pow_add,show b+1+(m - b - 1)=m by omega]
    have hp:(2:Int) ^ b≠0:=by have:(0:Int) < 2 ^ b:=Int.pow_pos (by omega);omega
    rw [h2,Int.add_mul_ediv_left _ _ hp]
    have:∀ a c:Int,(a+2 * c) % 2=a % 2:=fun a c=>by omega
    rw [this]
def cellsP (p:Pln):List Int:=(List.range (p.h.toNat * p.w.toNat)).map (fun i=>stateTo (wpr p.w.toNat) p.words (i % p.w.toNat) (i / p.w.toNat) p.words.length)
def unpackG (p:Pln):Grd:=⟨p.w,p.h,p.edge,cellsP p⟩
def unpackErr (p:Pln):Int:=if rightPl p=true then 0 else 2
def unpackR (p:Pln):Grd:=if rightPl p=true then unpackG p else noGrd
theorem cellsP_length (p:Pln):(cellsP p).length=p.h.toNat * p.w.toNat:=by simp [cellsP]
theorem cellsP_get (p:Pln) (x y:Nat) (hx:x < p.w.toNat) (hy:y < p.h.toNat):(cellsP p).getD (y * p.w.toNat+x) 0=stateTo (wpr p.w.toNat) p.words x y p.words.length:=by
 unfold cellsP
 obtain ⟨e1,e2⟩:=row_at (y:=y) hx
 rw [List.getD_eq_getElem?_getD,List.getElem?_map,List.getElem?_range (row_ltP hx hy),Option.map_some,Option.getD_some,e1,e2]
theorem unpack_right {p:Pln} (h:rightPl p=true):rightG (unpackG p)=true:=by
 obtain ⟨hs,hn,_⟩:=rightPl_parts h
 obtain ⟨h1,h2,_⟩:=sizedF_parts hs
 simp only [rightG,Bool.and_eq_true,decide_eq_true_eq,List.all_eq_true]
 refine ⟨hs,?_,?_⟩
 ·show ((cellsP p).length:Int)=p.w * p.h
  rw [cellsP_length,Int.natCast_mul,Int.toNat_of_nonneg (by omega),Int.toNat_of_nonneg (by omega),Int.mul_comm]
 ·intro s hs
  obtain ⟨i,_,rfl⟩:=List.mem_map.1 hs
  have hb:=stateTo_bd (wpr p.w.toNat) p.words (i % p.w.toNat) (i / p.w.toNat) p.words.length
  have:(2:Int) ^ p.words.length≤8:=by
   have hc:p.words.length=1∨p.words.length=2∨p.words.length=3:=by omega
   rcases hc with e | e | e <;> rw [e] <;> decide
  exact decide_eq_true (by omega)
end Go.Proofs.Ytiemhbogbaamlaa
/-
 A part.
-/
namespace Go.Proofs.Ytiemhbogbaamlaa
open Go.RowKit
theorem tbit_nat (s b:Nat):tbit (s:Int) b=decide (s / 2 ^ b % 2=1):=by
 unfold tbit
 have:((s:Int) / 2 ^ b % 2)=((s / 2 ^ b % 2:Nat):Int):=by simp
 rw [this]
 rw [Bool.eq_iff_iff,decide_eq_true_iff,decide_eq_true_iff]
 omega
theorem stateTo_of (n:Nat) (ws:List (List (BitVec 64))) (x y m:Nat) (s:Nat) (h:∀ b,b < m→bitW n (ws.getD b []) x y=tbit (s:Int) b):stateTo n ws x y m=((s % 2 ^ m:Nat):Int):=by
 induction m with
 | zero=>simp [stateTo,Nat.mod_one]
 | succ m ih=>
  rw [stateTo,ih (fun b hb=>h b (by omega)),h m (by omega),tbit_nat,Nat.pow_succ,Nat.mod_mul]
  have h2:=Nat.mod_two_eq_zero_or_one (s / 2 ^ m)
  rcases h2 with e | e
  ·rw [e];simp
  ·rw [e];simp
theorem packErr_parts {g:Grd} {bits:Int} (h:packErr g bits=0):rightG g=true∧1≤bits∧bits≤3∧∀ i,i < g.cells.length→0≤g.cells.getD i 0∧g.cells.getD i 0 < 2 ^ bits.toNat:=by
 unfold packErr at h
 split at h
 ·rename_i h1
  split at h
  ·rename_i h2
   refine ⟨h1.1,h1.2.1,h1.2.2,fun i hi=>⟨(stateOk_at (rightG_parts h1.1).2.2 hi).1,?_⟩⟩
   rw [List.all_eq_true] at h2
   have:=h2 _ (List.getElem_mem hi)
   rw [List.getD_eq_getElem?_getD,List.getElem?_eq_getElem hi]
   exact of_decide_eq_true this
  ·omega
 ·omega
theorem pack_get (g:Grd) (nb b:Nat) (hb:b < nb):(packP g nb).words.getD b []=planeF g.w.toNat g.h.toNat g.cells b:=by
 show ((List.range nb).map _).getD b []=_
 rw [List.getD_eq_getElem?_getD,List.getElem?_map,List.getElem?_range hb];rfl
theorem pack_len (g:Grd) (nb:Nat):(packP g nb).words.length=nb:=by show ((List.range nb).map _).length=nb;simp
theorem pack_right {g:Grd} {bits:Int} (h:packErr g bits=0):rightPl (packP g bits.toNat)=true:=by
 obtain ⟨h1,h2,h3,h4⟩:=packErr_parts h
 obtain ⟨hs,_,_⟩:=rightG_parts h1
 obtain ⟨s1,s2,_⟩:=sizedF_parts hs
 simp only [rightPl,Bool.and_eq_true,decide_eq_true_eq,List.all_eq_true]
 refine ⟨hs,by rw [pack_len];omega,fun l hl=>?_⟩
 obtain ⟨b,hb,rfl⟩:=List.mem_map.1 hl
 exact planeF_ok _ _ (by show 1≤g.w.toNat;omega)
theorem unpack_pack {g:Grd} {bits:Int} (h:packErr g bits=0):unpackG (packP g bits.toNat)=g:=by
 obtain ⟨h1,h2,h3,h4⟩:=packErr_parts h
 obtain ⟨hs,hl,_⟩:=rightG_parts h1
 obtain ⟨s1,s2,_⟩:=sizedF_parts hs
 have hW:1≤g.w.toNat:=by omega
 have hlen:g.cells.length=g.h.toNat * g.w.toNat:=by
  have:((g.h.toNat * g.w.toNat:Nat):Int)=g.w * g.h:=by rw [Int.natCast_mul,Int.toNat_of_nonneg (by omega),Int.toNat_of_nonneg (by omega),Int.mul_comm]
  omega
 have hc:cellsP (packP g bits.toNat)=g.cells:=by
  apply List.ext_getElem (by rw [cellsP_length];exact hlen.symm)
  intro i hi hi'
  have hi2:i < g.h.toNat * g.w.toNat:=by omega
  have hy:i / g.w.toNat < g.h.toNat:=Nat.div_lt_of_lt_mul (by rw [Nat.mul_comm];exact hi2)
  have hx:i % g.w.toNat < g.w.toNat:=Nat.mod_lt _ (by omega)
  have hdm:i / g.w.toNat * g.w.toNat+i % g.w.toNat=i:=Nat.div_add_mod' i _
  have e1:=cellsP_get (packP g bits.toNat) (i % g.w.toNat) (i / g.w.toNat) hx hy
  have e0:(packP g bits.toNat).w.toNat=g.w.toNat:=rfl
  rw [e0,hdm] at e1
  have g1:(cellsP (packP g bits.toNat)).getD i 0=(cellsP (packP g bits.toNat))[i]:=by rw [List.getD_eq_getElem?_getD,List.getElem?_eq_getElem hi];rfl
  have g2:g.cells.getD i 0=g.cells[i]:=by rw [List.getD_eq_getElem?_getD,List.getElem?_eq_getElem hi'];rfl
  rw [← g1,e1,← g2,pack_len]
  obtain ⟨c1,c2⟩:=h4 i hi'
  obtain ⟨s,hs'⟩:∃ s:Nat,g.cells.getD i 0=(s:Int):=⟨_,(Int.toNat_of_nonneg c1).symm⟩
  rw [stateTo_of _ _ _ _ _ s (fun b hb=>by rw [pack_get _ _ _ hb,planeF_bit _ _ _ _ hW hx hy,hdm,hs'])]
  rw [hs'] at c2 ⊢
  have:s < 2 ^ bits.toNat:=by
   have h5:((2 ^ bits.toNat:Nat):Int)=(2:Int) ^ bits.toNat:=by simp
   omega
  rw [Nat.mod_eq_of_lt this]
 show (⟨g.w,g.h,g.edge,cellsP (packP g bits.toNat)⟩:Grd)=g
 rw [hc]
def movedG (p:Pln) (dx dy:Int):Grd:=⟨p.w,p.h,p.edge,(List.range (p.h.toNat * p.w.toNat)).map (fun i=>getF (unpackG p) (((i % p.w.toNat:Nat):Int)+dx) (((i / p.w.toNat:Nat):Int)+dy))⟩
def offOk (dx dy:Int):Bool:=decide ((-256≤dx∧dx≤256)∧(-256≤dy∧dy≤256))
def moveErr (p:Pln) (dx dy:Int):Int:=if rightPl p=true∧offOk dx dy=true then 0 else 2
def moveP (p:Pln) (dx dy:Int):Pln:=packP (movedG p dx dy) p.words.length
def moveR (p:Pln) (dx dy:Int):Pln:=if moveErr p dx dy=0 then moveP p dx dy else noPln
theorem movedG_get (p:Pln) (dx dy:Int) (x y:Nat) (hx:x < p.w.toNat) (hy:y < p.h.toNat):(movedG p dx dy).cells.getD (y * p.w.toNat+x) 0=getF (unpackG p) ((x:Int)+dx) ((y:Int)+dy):=by
 obtain ⟨e1,e2⟩:=row_at (y:=y) hx
 show ((List.range _).map _).getD _ 0=_
 rw [List.getD_eq_getElem?_getD,List.getElem?_map,List.getElem?_range (row_ltP hx hy),Option.map_some,Option.getD_some,e1,e2]
theorem getF_unpack {p:Pln} (h:rightPl p=true) (x y:Int):getF (unpackG p) x y=if 0≤atF x p.w p.edge∧0≤atF y p.h p.edge then stateTo (wpr p.w.toNat) p.words (atF x p.w p.edge).toNat (atF y p.h p.edge).toNat p.words.length else 0:=by
 obtain ⟨hs,_,_⟩:=rightPl_parts h
 obtain ⟨s1,s2,_⟩:=sizedF_parts hs
 have bx:=atF_bd x p.w p.edge (by omega)
 have byy:=atF_bd y p.h p.edge (by omega)
 unfold getF
 rw [if_pos (unpack_right h)]
 show (if atF x p.w p.edge < 0∨atF y p.h p.edge < 0 then (0:Int) else (cellsP p).getD (atF y p.h p.edge * p.w+atF x p.w p.edge).toNat 0)=_
 generalize atF x p.w p.edge=kx at bx
 generalize atF y p.h p.edge=ky at byy
 by_cases hk:0≤kx∧0≤ky
 ·rw [if_neg (by omega),if_pos hk]
  have hx:kx.toNat < p.w.toNat:=by omega
  have hy:ky.toNat < p.h.toNat:=by omega
  rw [← cellsP_get p kx.toNat ky.toNat hx hy]
  congr 1
  have h1:ky * p.w+kx=((ky.toNat * p.w.toNat+kx.toNat:Nat):Int):=by
   rw [Int.natCast_add,Int.natCast_mul,Int.toNat_of_nonneg hk.2,Int.toNat_of_nonneg (by omega),Int.toNat_of_nonneg hk.1]
  rw [h1,Int.toNat_natCast]
 ·rw [if_pos (by omega),if_neg hk]
theorem move_bit {p:Pln} (h:rightPl p=true) (dx dy:Int) (b x y:Nat) (hb:b < p.words.length) (hx:x < p.w.toNat) (hy:y < p.h.toNat):
 bitW (wpr p.w.toNat) ((moveP p dx dy).words.getD b []) x y=(decide (0≤atF ((x:Int)+dx) p.w p.edge∧0≤atF ((y:Int)+dy) p.h p.edge) && bitW (wpr p.w.toNat) (p.words.getD b []) (atF ((x:Int)+dx) p.w p.edge).toNat (atF ((y:Int)+dy) p.h p.edge).toNat):=by
 rw [moveP,pack_get _ _ _ hb]
 show bitW (wpr p.w.toNat) (planeF p.w.toNat p.h.toNat (movedG p dx dy).cells b) x y=_
 rw [planeF_bit _ _ _ _ (by omega) hx hy,movedG_get p dx dy x y hx hy,getF_unpack h]
 split
 ·rename_i h1
  rw [stateTo_bit _ _ _ _ _ _ hb,decide_eq_true h1,Bool.true_and]
 ·rename_i h1
  rw [decide_eq_false h1,Bool.false_and]
  unfold tbit
  simp
theorem move_len (p:Pln) (dx dy:Int):(moveP p dx dy).words.length=p.words.length:=pack_len _ _
end Go.Proofs.Ytiemhbogbaamlaa
/-
 A part.
-/
namespace Go.Proofs.Ytiemhbogbaamlaa
open Go.RowKit
structure Pt where
 x:Int
 y:Int
instance:Inhabited Pt:=⟨⟨0,0⟩⟩
structure Nd where
 level:Int
 next:List Int
instance:Inhabited Nd:=⟨⟨0,[]⟩⟩
structure Tre where
 states:Int
 hood:List Pt
 nodes:List Nd
structure Sl where
 at_:Option Addr
 len:Nat
 cap:Nat
instance:Inhabited Sl:=⟨⟨none,0,0⟩⟩
def ptCells (p:Pt):List Value:=[.int .i64 p.x,.int .i64 p.y]
def hoodCells (l:List Pt):List Value:=l.flatMap ptCells
def ndCells (p:Nd × Sl):List Value:=[.int .i64 p.1.level,.slice p.2.at_ p.2.len p.2.cap]
def nodesCells (ns:List Nd) (sl:List Sl):List Value:=(ns.zip sl).flatMap ndCells
theorem flat2_length {α:Type} (f:α→List Value) (hf:∀ x,(f x).length=2) (l:List α):(l.flatMap f).length=l.length * 2:=by
 induction l with
 | nil=>rfl
 | cons x l ih=>simp only [List.flatMap_cons,List.length_append,List.length_cons,hf,ih];omega
theorem flat2_get {α:Type} [Inhabited α] (f:α→List Value) (hf:∀ x,(f x).length=2) (l:List α) (k:Nat) (hk:k < l.length):
 (l.flatMap f)[k * 2]?=(f (l.getD k default))[0]?∧(l.flatMap f)[k * 2+1]?=(f (l.getD k default))[1]?:=by
 induction l generalizing k with
 | nil=>simp at hk
 | cons x l ih=>
  cases k with
  | zero=>
   simp only [List.flatMap_cons,Nat.zero_mul,Nat.zero_add,List.getD_cons_zero]
   rw [List.getElem?_append_left (by rw [hf];omega),List.getElem?_append_left (by rw [hf];omega)]
   exact ⟨rfl,rfl⟩
  | succ k=>
   have:=ih k (by simpa using hk)
   simp only [List.flatMap_cons,List.getD_cons_succ]
   rw [List.getElem?_append_right (by rw [hf];omega),List.getElem?_append_right (by rw [hf];omega),hf]
   rw [show (k+1) * 2 - 2=k * 2 by omega,show (k+1) * 2+1 - 2=k * 2+1 by omega]
   exact this
theorem Rd.row2 {w:World} {B n:Nat} {A:Option Addr} {xs:List Value} (h:Rd w B 2 A n xs) {k:Nat} (hk:k < n) {x0 x1:Value}
 (h0:xs[k * 2]?=some x0) (h1:xs[k * 2+1]?=some x1):
 ∃ ad,A=some ad∧ad.block < B∧w.cell? (ad.add (k * 2))=some x0∧w.cell? ⟨(ad.add (k * 2)).block,(ad.add (k * 2)).off+1,none⟩=some x1:=by
 obtain ⟨ad,e,hb,hc⟩:=h.2 (by omega)
 exact ⟨ad,e,hb,hc _ _ h0,(congrArg w.cell? (add_add' ad (k * 2) 1)).trans (hc _ _ h1)⟩
structure TAt (w:World) (t:Tre) (HA NA:Option Addr) (hn nn:Nat) (sl:List Sl):Prop where
 hood:Rd w w.heap.size 2 HA hn (hoodCells t.hood)
 nodes:Rd w w.heap.size 2 NA nn (nodesCells t.nodes sl)
 sll:sl.length=t.nodes.length
 next:∀ i,i < t.nodes.length→Rd w w.heap.size 1 (sl.getD i default).at_ (sl.getD i default).len (ints (t.nodes.getD i default).next)∧(sl.getD i default).len≤maxLen
 h63:hn≤maxLen
 n63:nn≤maxLen
theorem TAt.up {w w':World} {t:Tre} {HA NA:Option Addr} {hn nn:Nat} {sl:List Sl} (h:TAt w t HA NA hn nn sl) (hb:Below w.heap.size w w'):TAt w' t HA NA hn nn sl:=
 ⟨h.hood.up hb,h.nodes.up hb,h.sll,fun i hi=>⟨(h.next i hi).1.up hb,(h.next i hi).2⟩,h.h63,h.n63⟩
theorem TAt.hl {w:World} {t:Tre} {HA NA:Option Addr} {hn nn:Nat} {sl:List Sl} (h:TAt w t HA NA hn nn sl):t.hood.length=hn:=by
 have:=h.hood.1;rw [hoodCells,flat2_length _ (fun _=>rfl)] at this;omega
theorem TAt.nl {w:World} {t:Tre} {HA NA:Option Addr} {hn nn:Nat} {sl:List Sl} (h:TAt w t HA NA hn nn sl):t.nodes.length=nn:=by
 have h1:=h.nodes.1
 have h2:=h.sll
 rw [nodesCells,flat2_length _ (fun _=>rfl),List.length_zip] at h1;omega
theorem TAt.node {w:World} {t:Tre} {HA NA:Option Addr} {hn nn:Nat} {sl:List Sl} (h:TAt w t HA NA hn nn sl) {k:Nat} (hk:k < nn):
 ∃ ad,NA=some ad∧ad.block < w.heap.size∧w.cell? (ad.add (k * 2))=some (.int .i64 (t.nodes.getD k default).level) ∧
  w.cell? ⟨(ad.add (k * 2)).block,(ad.add (k * 2)).off+1,none⟩=some (.slice (sl.getD k default).at_ (sl.getD k default).len (sl.getD k default).cap):=by
 have hl:=h.nl
 have hs:=h.sll
 have hz:k < (t.nodes.zip sl).length:=by rw [List.length_zip];omega
 have hg:(t.nodes.zip sl).getD k default=(t.nodes.getD k default,sl.getD k default):=by
  simp only [List.getD_eq_getElem?_getD,List.getElem?_eq_getElem hz,List.getElem?_eq_getElem (show k < t.nodes.length by omega),List.getElem?_eq_getElem (show k < sl.length by omega),Option.getD_some,List.getElem_zip]
 obtain ⟨h0,h1⟩:=flat2_get ndCells (fun _=>rfl) (t.nodes.zip sl) k hz
 rw [hg] at h0 h1
 exact h.nodes.row2 hk h0 h1
theorem TAt.point {w:World} {t:Tre} {HA NA:Option Addr} {hn nn:Nat} {sl:List Sl} (h:TAt w t HA NA hn nn sl) {k:Nat} (hk:k < hn):
 ∃ ad,HA=some ad∧ad.block < w.heap.size∧w.cell? (ad.add (k * 2))=some (.int .i64 (t.hood.getD k default).x) ∧
  w.cell? ⟨(ad.add (k * 2)).block,(ad.add (k * 2)).off+1,none⟩=some (.int .i64 (t.hood.getD k default).y):=by
 have hl:=h.hl
 obtain ⟨h0,h1⟩:=flat2_get ptCells (fun _=>rfl) t.hood k (by omega)
 exact h.hood.row2 hk h0 h1
end Go.Proofs.Ytiemhbogbaamlaa
/-
 A part.
-/
namespace Go.Proofs.Ytiemhbogbaamlaa
open Go.RowKit
def radius:Int:=2
def ptOk (p:Pt):Bool:=decide ((-radius≤p.x∧p.x≤radius)∧(-radius≤p.y∧p.y≤radius))
def beforeP (a b:Pt):Bool:=decide (a.y < b.y∨a.y=b.y∧a.x < b.x)
def hoodPts (l:List Pt):Bool:=decide (∀ k,k < l.length→ptOk (l.getD k default)=true∧(k=0∨beforeP (l.getD (k - 1) default) (l.getD k default)=true))
def hoodOk (l:List Pt):Bool:=decide (1≤l.length∧l.length≤25) && hoodPts l
def linkOk (t:Tre) (i:Nat) (x:Nd) (k:Int):Bool:=decide (0≤k∧(x.level=1→k < t.states)∧(1 < x.level→k < i∧(t.nodes.getD k.toNat default).level=x.level - 1))
def nodeOk (t:Tre) (i:Nat):Bool:=
 decide (1≤(t.nodes.getD i default).level∧(t.nodes.getD i default).level≤t.hood.length∧((t.nodes.getD i default).next.length:Int)=t.states) && (t.nodes.getD i default).next.all (linkOk t i (t.nodes.getD i default))
def nodesOk (t:Tre):Bool:=decide (∀ i,i < t.nodes.length→nodeOk t i=true)
def headOk (t:Tre):Bool:=decide ((2≤t.states∧t.states≤8)∧1≤t.nodes.length∧t.nodes.length≤4096∧(t.nodes.getD (t.nodes.length - 1) default).level=t.hood.length)
def rightT (t:Tre):Bool:=hoodOk t.hood && (headOk t && nodesOk t)
theorem rightT_parts {t:Tre} (h:rightT t=true):hoodOk t.hood=true∧((2≤t.states∧t.states≤8)∧1≤t.nodes.length∧t.nodes.length≤4096∧(t.nodes.getD (t.nodes.length - 1) default).level=t.hood.length)∧(∀ i,i < t.nodes.length→nodeOk t i=true):=by
 simpa [rightT,headOk,nodesOk] using h
theorem nodeOk_parts {t:Tre} {i:Nat} (h:nodeOk t i=true):(1≤(t.nodes.getD i default).level∧(t.nodes.getD i default).level≤t.hood.length∧((t.nodes.getD i default).next.length:Int)=t.states) ∧
 ∀ s,s < (t.nodes.getD i default).next.length→linkOk t i (t.nodes.getD i default) ((t.nodes.getD i default).next.getD s 0)=true:=by
 simp only [nodeOk,Bool.and_eq_true,decide_eq_true_eq] at h
 refine ⟨h.1,fun s hs=>?_⟩
 have h2:=h.2
 rw [List.all_eq_true] at h2
 have:=h2 _ (List.getElem_mem hs)
 generalize (t.nodes.getD i default)=x at hs this ⊢
 rw [List.getD_eq_getElem?_getD,List.getElem?_eq_getElem hs]
 exact this
def stepT (t:Tre) (k s:Int):Int:=(t.nodes.getD k.toNat default).next.getD s.toNat 0
def walkT (t:Tre) (k:Int) (ins:List Int):Int:=ins.foldl (stepT t) k
def valueT (t:Tre) (ins:List Int):Int:=walkT t ((t.nodes.length:Int) - 1) ins
def stateIn (t:Tre) (s:Int):Bool:=decide (0≤s∧s < t.states)
def evalErr (t:Tre) (ins:List Int):Int:=if rightT t=true then (if ins.length=t.hood.length then (if ins.all (stateIn t)=true then 0 else 10) else 2) else 11
theorem walkT_snoc (t:Tre) (k:Int) (l:List Int) (s:Int):walkT t k (l ++ [s])=stepT t (walkT t k l) s:=by simp [walkT,List.foldl_append]
theorem walkT_at {t:Tre} (hr:rightT t=true) (ins:List Int) (hl:ins.length=t.hood.length) (hs:∀ j,j < ins.length→0≤ins.getD j 0∧ins.getD j 0 < t.states) (j:Nat) (hj:j≤ins.length):
 (j < ins.length→0≤walkT t ((t.nodes.length:Int) - 1) (ins.take j)∧walkT t ((t.nodes.length:Int) - 1) (ins.take j) < t.nodes.length∧(t.nodes.getD (walkT t ((t.nodes.length:Int) - 1) (ins.take j)).toNat default).level=(t.hood.length:Int) - j) ∧
 (j=ins.length→0 < j→0≤walkT t ((t.nodes.length:Int) - 1) (ins.take j)∧walkT t ((t.nodes.length:Int) - 1) (ins.take j) < t.states):=by
 obtain ⟨_,⟨h1,h2,h3,h4⟩,hn⟩:=rightT_parts hr
 induction j with
 | zero=>
  refine ⟨fun _=>?_,fun _ h=>absurd h (by omega)⟩
  simp only [List.take_zero,walkT,List.foldl_nil]
  rw [show ((t.nodes.length:Int) - 1).toNat=t.nodes.length - 1 by omega,h4]
  omega
 | succ j ih=>
  have hjl:j < ins.length:=by omega
  obtain ⟨i1,i2,i3⟩:=(ih (by omega)).1 hjl
  have hsj:=hs j hjl
  rw [show ins.take (j+1)=ins.take j ++ [ins.getD j 0] from by rw [List.take_succ_eq_append_getElem hjl,List.getD_eq_getElem?_getD,List.getElem?_eq_getElem hjl];rfl,walkT_snoc]
  generalize walkT t ((t.nodes.length:Int) - 1) (ins.take j)=k at i1 i2 i3
  generalize ins.getD j 0=s at hsj
  have hk:k.toNat < t.nodes.length:=by omega
  obtain ⟨⟨n1,n2,n3⟩,n4⟩:=nodeOk_parts (hn _ hk)
  have hlk:=n4 s.toNat (by omega)
  simp only [linkOk,decide_eq_true_eq] at hlk
  unfold stepT
  generalize (t.nodes.getD k.toNat default).next.getD s.toNat 0=u at hlk
  obtain ⟨l1,l2,l3⟩:=hlk
  refine ⟨fun hlt=>?_,fun he _=>?_⟩
  ·have hlev:1 < (t.nodes.getD k.toNat default).level:=by omega
   obtain ⟨a1,a2⟩:=l3 hlev
   refine ⟨l1,by omega,?_⟩
   rw [a2];omega
  ·exact ⟨l1,l2 (by omega)⟩
theorem stateIn_at {t:Tre} {ins:List Int} (h:ins.all (stateIn t)=true) {j:Nat} (hj:j < ins.length):0≤ins.getD j 0∧ins.getD j 0 < t.states:=by
 rw [List.all_eq_true] at h
 have:=h _ (List.getElem_mem hj)
 rw [List.getD_eq_getElem?_getD,List.getElem?_eq_getElem hj]
 simpa [stateIn] using this
end Go.Proofs.Ytiemhbogbaamlaa
/-
 A part.
-/
namespace Go.Proofs.Ytiemhbogbaamlaa
open Go.RowKit
def ltStates (t:Tre) (s:Int):Bool:=decide (s < t.states)
def hoodIn (g:Grd) (l:List Pt) (x y:Int):List Int:=l.map (fun p=>getF g (x+p.x) (y+p.y))
def nextAt (t:Tre) (g:Grd) (x y:Int):Int:=valueT t (hoodIn g t.hood x y)
def nextTo (t:Tre) (g:Grd) (W k:Nat):List Int:=(List.range k).map (fun i=>nextAt t g ((i % W:Nat):Int) ((i / W:Nat):Int))
def nextG (t:Tre) (g:Grd):Grd:=⟨g.w,g.h,g.edge,nextTo t g g.w.toNat g.cells.length⟩
def genG (t:Tre) (g:Grd):Nat→Grd
 | 0=>g
 | k+1=>nextG t (genG t g k)
structure OkTG (t:Tre) (g:Grd):Prop where
 rt:rightT t=true
 rg:rightG g=true
 lt:g.cells.all (ltStates t)=true
theorem ltStates_at {t:Tre} {l:List Int} (h:l.all (ltStates t)=true) {k:Nat} (hk:k < l.length):l.getD k 0 < t.states:=by
 rw [List.all_eq_true] at h
 have:=h _ (List.getElem_mem hk)
 rw [List.getD_eq_getElem?_getD,List.getElem?_eq_getElem hk]
 simpa [ltStates] using this
theorem states_bd {t:Tre} (h:rightT t=true):2≤t.states∧t.states≤8:=(rightT_parts h).2.1.1
theorem getF_bd {t:Tre} {g:Grd} (h:OkTG t g) (x y:Int):0≤getF g x y∧getF g x y < t.states:=by
 have hs:=states_bd h.rt
 obtain ⟨h1,h2,h3⟩:=rightG_parts h.rg
 obtain ⟨⟨s1,s2⟩,⟨s3,s4⟩,_⟩:=sizedF_parts h1
 unfold getF
 rw [if_pos h.rg]
 split
 ·omega
 ·rename_i hn
  have a1:=atF_bd x g.w g.edge s1
  have a2:=atF_bd y g.h g.edge s3
  have hp:=place_bd (w:=g.w) (h:=g.h) (x:=atF x g.w g.edge) (y:=atF y g.h g.edge) (by omega) (by omega)
  have hk:(atF y g.h g.edge * g.w+atF x g.w g.edge).toNat < g.cells.length:=by omega
  exact ⟨(stateOk_at h3 hk).1,ltStates_at h.lt hk⟩
theorem hoodIn_length (g:Grd) (l:List Pt) (x y:Int):(hoodIn g l x y).length=l.length:=by simp [hoodIn]
theorem hoodIn_all {t:Tre} {g:Grd} (h:OkTG t g) (l:List Pt) (x y:Int):(hoodIn g l x y).all (stateIn t)=true:=by
 rw [List.all_eq_true]
 intro s hs
 simp only [hoodIn,List.mem_map] at hs
 obtain ⟨p,_,rfl⟩:=hs
 exact decide_eq_true (getF_bd h _ _)
theorem hood_pos {t:Tre} (h:rightT t=true):1≤t.hood.length∧t.hood.length≤25:=by
 have:=(rightT_parts h).1
 simp only [hoodOk,Bool.and_eq_true,decide_eq_true_eq] at this
 exact this.1
theorem nextAt_bd {t:Tre} {g:Grd} (h:OkTG t g) (x y:Int):0≤nextAt t g x y∧nextAt t g x y < t.states:=by
 have hl:=hoodIn_length g t.hood x y
 have hp:=hood_pos h.rt
 have:=(walkT_at h.rt (hoodIn g t.hood x y) hl (fun j hj=>stateIn_at (hoodIn_all h _ _ _) hj) (hoodIn g t.hood x y).length (Nat.le_refl _)).2 rfl (by omega)
 rw [List.take_length] at this
 exact this
theorem nextTo_length (t:Tre) (g:Grd) (W k:Nat):(nextTo t g W k).length=k:=by simp [nextTo]
theorem OkTG.next {t:Tre} {g:Grd} (h:OkTG t g):OkTG t (nextG t g):=by
 have hs:=states_bd h.rt
 obtain ⟨h1,h2,h3⟩:=rightG_parts h.rg
 have hm:∀ s ∈ (nextG t g).cells,0≤s∧s < t.states:=by
  intro s hs
  simp only [nextG,nextTo,List.mem_map] at hs
  obtain ⟨i,_,rfl⟩:=hs
  exact nextAt_bd h _ _
 refine ⟨h.rt,?_,?_⟩
 ·unfold rightG
  rw [show sizedF (nextG t g).w (nextG t g).h (nextG t g).edge=true from h1,decide_eq_true (show ((nextG t g).cells.length:Int)=(nextG t g).w * (nextG t g).h by show ((nextTo t g _ _).length:Int)=_;rw [nextTo_length];exact h2),Bool.true_and,Bool.true_and,List.all_eq_true]
  intro s hs'
  have:=hm s hs'
  simp [stateOk];omega
 ·rw [List.all_eq_true]
  intro s hs'
  exact decide_eq_true (hm s hs').2
theorem OkTG.gen {t:Tre} {g:Grd} (h:OkTG t g) (k:Nat):OkTG t (genG t g k):=by
 induction k with
 | zero=>exact h
 | succ k ih=>exact ih.next
end Go.Proofs.Ytiemhbogbaamlaa
