/-
  Lemmas for the law TopCircuits.
-/
import Derived.Handy
import Derived.Deep.LoopGhost
import Derived.Deep.Draws
import Derived.Deep.AppendLies
import Derived.Laws.OwnMore
import Derived.Lib.Hide
import Derived.OrdersHeld
import Derived.StillTail
import Derived.Deep.RegionHeld
set_option linter.unusedSimpArgs false
set_option linter.unusedVariables false
namespace Go.Proofs.YtbijfnbelkbofaaGreatDoor
open Go.RowKit
theorem add_block (a:Addr) (n:Nat):(a.add n).block=a.block:=by unfold Addr.add;split <;> rfl
theorem add_add' (a:Addr) (i j:Nat):(a.add i).add j=a.add (i+j):=by
 unfold Addr.add;by_cases hi:i=0 <;> by_cases hj:j=0 <;> simp [hi,hj,Nat.add_assoc]
def Rd (w:World) (B sz:Nat) (A:Option Addr) (n:Nat) (xs:List Value):Prop:=
 xs.length=n * sz∧(0 < n→∃ ad,A=some ad∧ad.block < B∧∀ j u,xs[j]?=some u→w.cell? (ad.add j)=some u)
section
variable {w w':World} {B B' sz n:Nat} {A:Option Addr} {xs:List Value}
theorem Rd.empty (A:Option Addr):Rd w B sz A 0 []:=⟨by simp,fun h=>absurd h (by omega)⟩
theorem Rd.len (h:Rd w B sz A n xs):xs.length=n * sz:=h.1
theorem Rd.ex (h:Rd w B sz A n xs) (hn:0 < n):∃ ad,A=some ad∧ad.block < B∧∀ j u,xs[j]?=some u→w.cell? (ad.add j)=some u:=h.2 hn
theorem Rd.keep (h:Rd w B sz A n xs) (hk:∀ p:Addr,p.block < B→w'.cell? p=w.cell? p):Rd w' B sz A n xs:=
 ⟨h.1,fun hn=>let ⟨ad,e,hb,hc⟩:=h.2 hn;⟨ad,e,hb,fun j u hu=>(hk _ (by rw [add_block];exact hb)).trans (hc j u hu)⟩⟩
theorem Rd.more (h:Rd w B sz A n xs) (hB:B≤B'):Rd w B' sz A n xs:=
 ⟨h.1,fun hn=>let ⟨ad,e,hb,hc⟩:=h.2 hn;⟨ad,e,by omega,hc⟩⟩
theorem Rd.below (h:Rd w B sz A n xs) {C:Nat} (hb:Below C w w') (hB:B≤C):Rd w' B sz A n xs:=h.keep fun _ hp=>hb.cell (by omega)
theorem Rd.up (h:Rd w w.heap.size sz A n xs) (hb:Below w.heap.size w w'):Rd w' w'.heap.size sz A n xs:=(h.below hb (Nat.le_refl _)).more hb.size
theorem Rd.drew (h:Rd w B sz A n xs):Rd w.drew B sz A n xs:=h
theorem Rd.drewN (h:Rd w B sz A n xs) (k:Nat):Rd (w.drewN k) B sz A n xs:=h
theorem Rd.alloc (h:Rd w B sz A n xs) (hB:B≤w.heap.size) (o:Obj):Rd (w.alloc o) B sz A n xs:=h.keep fun p hp=>World.cell?_alloc_lt w o p (by omega)
theorem Rd.setCell (h:Rd w B sz A n xs) {p:Addr} (hB:B≤p.block) (u:Value):Rd (w.setCell p u) B sz A n xs:=
 h.keep fun q hq=>World.cell?_setCell_other w p q u (fun e=>by subst e;omega)
theorem Rd.of_own {base:Nat} {e:TypeId} {c:Nat} (h:w.ownsRow base e sz (.slice A n c) n xs):Rd w w.heap.size sz A n xs:=by
 refine ⟨h.1,fun hn=>?_⟩;obtain ⟨g,cap,hv,_,hlt⟩:=h.form hn;have hA:A=some ⟨g,0,none⟩:=by injection hv
 subst hA;exact ⟨_,rfl,hlt,h.cells (g:=g) rfl⟩
theorem Rd.get1 (h:Rd w B 1 A n xs) {k:Nat} (hk:k < n):∃ ad u,A=some ad∧ad.block < B∧xs[k]?=some u∧w.cell? (ad.add k)=some u:=by
 obtain ⟨ad,e,hb,hc⟩:=h.2 (by omega);have hl:k < xs.length:=by have:=h.1;omega
 exact ⟨ad,xs[k],e,hb,List.getElem?_eq_getElem hl,hc k _ (List.getElem?_eq_getElem hl)⟩
end
theorem below_box {w w':World} {o:Obj} {k:Nat} (h:Below (w.heap.size+k) (w.alloc o) w'):Below w.heap.size w w':=
 ((Below.refl _ _).alloc (Nat.le_refl _) o).trans (h.mono (by omega))
theorem enters {P : Program} {f : FuncId} {fn : Func} {c : Code} (hf : P.funcs[f]? = some fn) (hn : (fn.name == "runtime.NumGoroutine") = false) (hb : fn.body = some c) (args : Array Value) (w : World) :
 (callFunc f args).run P w=.ok (.enter f args) w:=by
 have h1 : fn.name ≠ "runtime.NumGoroutine" := by simpa using hn
 simp [callFunc,hf,h1,hb,mark]
theorem below_drewN {B:Nat} {a w:World} (h:Below B a w) (n:Nat):Below B a (w.drewN n):=⟨h.os,h.tape,h.output,h.size,h.block⟩
theorem ret_bool {a b:Bool} (h:a=b):Ending.returned (.bool a)=.returned (.bool b):=by rw [h]
theorem ret_i64 {a b:Int} (h:a=b):Ending.returned (.int .i64 a)=.returned (.int .i64 b):=by rw [h]
theorem Rd.row3 {w:World} {B n:Nat} {A:Option Addr} {xs:List Value} (h:Rd w B 3 A n xs) {k:Nat} (hk:k < n) {x0 x1 x2:Value}
 (h0:xs[k * 3]?=some x0) (h1:xs[k * 3+1]?=some x1) (h2:xs[k * 3+2]?=some x2):
 ∃ ad,A=some ad∧ad.block < B∧w.cell? (ad.add (k * 3))=some x0∧w.cell? ⟨(ad.add (k * 3)).block,(ad.add (k * 3)).off+1,none⟩=some x1∧w.cell? ⟨(ad.add (k * 3)).block,(ad.add (k * 3)).off+2,none⟩=some x2:=by
 obtain ⟨ad,e,hb,hc⟩:=h.2 (by omega);refine ⟨ad,e,hb,hc _ _ h0,?_,?_⟩
 ·exact (congrArg w.cell? (add_add' ad (k * 3) 1)).trans (hc _ _ h1)
 ·exact (congrArg w.cell? (add_add' ad (k * 3) 2)).trans (hc _ _ h2)
def ints (zs:List Int):List Value:=zs.map (Value.int .i64)
def w64 (x:BitVec 64):Value:=.int .u64 (x.toNat:Int)
def w64s (xs:List (BitVec 64)):List Value:=xs.map w64
def bools (bs:List Bool):List Value:=bs.map Value.bool
@[simp] theorem ints_length (zs:List Int):(ints zs).length=zs.length:=by simp [ints]
theorem ints_get (zs:List Int) (k:Nat) (h:k < zs.length):(ints zs)[k]?=some (.int .i64 (zs.getD k 0)):=by
 simp [ints,List.getElem?_map,List.getElem?_eq_getElem h,List.getD_eq_getElem?_getD]
theorem Rd.int {w:World} {B n:Nat} {A:Option Addr} {zs:List Int} (h:Rd w B 1 A n (ints zs)) {k:Nat} (hk:k < n):
 ∃ ad,A=some ad∧ad.block < B∧w.cell? (ad.add k)=some (.int .i64 (zs.getD k 0)):=by
 obtain ⟨ad,u,e,hb,hu,hc⟩:=h.get1 hk;have hl:k < zs.length:=by have:=h.1;simp at this;omega
 rw [ints_get zs k hl] at hu;injection hu with hu;exact ⟨ad,e,hb,by rw [hc,hu]⟩
def Row (w:World) (g:Nat) (T:TypeId) (xs:List Value):Prop:=w.heap[g]?=some (.cells xs.toArray T (0,0))
section
variable {w w':World} {g:Nat} {T:TypeId} {xs:List Value}
theorem Row.lt (h:Row w g T xs):g < w.heap.size:=by
 rcases Nat.lt_or_ge g w.heap.size with hl | hge
 ·exact hl
 ·unfold Row at h;rw [Array.getElem?_eq_none hge] at h;cases h
theorem Row.cell (h:Row w g T xs) (i:Nat):w.cell? ⟨g,i,none⟩=xs[i]?:=by
 rw [cell_of_row w g i xs.toArray T (0,0) h];simp
theorem Row.frozen (h:Row w g T xs) (i:Nat):w.frozen? ⟨g,i,none⟩=false:=by
 unfold Row at h
 simp [World.frozen?,h]
theorem Row.new (w:World) (T:TypeId) (xs:List Value):Row (w.alloc (.cells xs.toArray T)) w.heap.size T xs:=heap_alloc_new w _
theorem Row.drew (h:Row w g T xs):Row w.drew g T xs:=h
theorem Row.drewN (h:Row w g T xs) (n:Nat):Row (w.drewN n) g T xs:=h
theorem Row.alloc (h:Row w g T xs) (o:Obj):Row (w.alloc o) g T xs:=(Below.heap_alloc w o g h.lt).trans h
theorem Row.set (h:Row w g T xs) (i:Nat) (u:Value):Row (w.setCell ⟨g,i,none⟩ u) g T (xs.set i u):=by
 unfold Row at h ⊢
 simp [World.setCell,Array.getElem?_modify,h]
theorem Row.far (h:Row w g T xs) {p:Addr} (hp:g≠p.block) (u:Value):Row (w.setCell p u) g T xs:=(Below.heap_setCell w p u g hp).trans h
theorem Row.below {B:Nat} (h:Row w g T xs) (hb:Below B w w') (hg:g < B):Row w' g T xs:=(hb.block g hg).trans h
theorem Row.grown {row:Option Nat} (h:Row w g T xs) (hb:w.grownBy w' row) (hg:some g≠row):Row w' g T xs:=(hb.block g h.lt hg).trans h
theorem add_zero_off (g j:Nat):(⟨g,0,none⟩:Addr).add j=⟨g,j,none⟩:=by
 unfold Addr.add;split
 ·rename_i h;rw [h]
 ·simp
theorem Row.rd (h:Row w g T xs) {sz n:Nat} (hn:xs.length=n * sz):Rd w w.heap.size sz (some ⟨g,0,none⟩) n xs:=
 ⟨hn,fun _=>⟨_,rfl,h.lt,fun j u hu=>by rw [add_zero_off,h.cell];exact hu⟩⟩
theorem Row.own (h:Row w g T xs) {base sz n:Nat} (hb:base≤g) (hn:xs.length=n * sz) (hm:n≤maxLen):w.ownsRow base T sz (.slice (some ⟨g,0,none⟩) n n) n xs:=
 ⟨hn,.inr ⟨g,n,xs.toArray,rfl,hb,h,Nat.le_refl _,hm,by simpa using hn,by simp [← hn]⟩⟩
end
def likeRow (z:Value) (n:Nat):Array Value:=(List.replicate n z).toArray
theorem madeCells_one (z:Value) (n:Nat):madeCells #[z] n=likeRow z n:=by
 apply Array.ext
 ·simp [madeCells,likeRow]
 ·intro i h1 h2
  simp [madeCells,likeRow,Nat.mod_one]
theorem make_like {P:Program} {t e:TypeId} {z:Value} {bytes:Nat} (ht:P.underlying t=some (.slice e)) (hi:(P.info? e).map (fun i=>(i.zero,i.size,i.bytes))=some (some z,1,bytes)) (hz:z.cells=#[z])
 (n:Nat) (x:Int) (hx:x=n) (hb:bytes * n≤281474976710656) (hn:n≤9223372036854775807) (W:World):
 (Instr.makeSlice t (.int .i64 x) (.int .i64 x)).run P W=.ok (.slice (some ⟨W.heap.size,0,none⟩) n n) (W.alloc (.cells (likeRow z n) e)):=by
 obtain ⟨i,h1,h2,h3,h4⟩:=info_parts hi;subst hx
 have hb':(i.bytes:Int) * (n:Int)≤281474976710656:=by
  rw [h4,← Int.natCast_mul];omega
 have hr:=run_make (P:=P) W t e i z ht h1 h2 .i64 .i64 (n:Int) (n:Int) (by omega) (by omega) hb' (by omega);simp only [Int.toNat_natCast,h3,Nat.mul_one,hz,madeCells_one] at hr;exact hr
section
variable {w:World} {g:Nat} {T:TypeId} {x0 x1 x2 x3 x4 x5 x6 x7 x8 x9 x10 x11 x12 x13 x14 x15 x16 x17 x18 x19:Value}
theorem Row.cells1 (z:Row w g T [x0]):w.cell? ⟨g,0,none⟩=some x0∧g < w.heap.size:=⟨z.cell 0,z.lt⟩
theorem Row.cells2 (z:Row w g T [x0,x1]):w.cell? ⟨g,0,none⟩=some x0∧w.cell? ⟨g,1,none⟩=some x1∧g < w.heap.size:=⟨z.cell 0,z.cell 1,z.lt⟩
theorem Row.cells3 (z:Row w g T [x0,x1,x2]):w.cell? ⟨g,0,none⟩=some x0∧w.cell? ⟨g,1,none⟩=some x1∧w.cell? ⟨g,2,none⟩=some x2∧g < w.heap.size:=⟨z.cell 0,z.cell 1,z.cell 2,z.lt⟩
theorem Row.cells4 (z:Row w g T [x0,x1,x2,x3]):w.cell? ⟨g,0,none⟩=some x0∧w.cell? ⟨g,1,none⟩=some x1∧w.cell? ⟨g,2,none⟩=some x2∧w.cell? ⟨g,3,none⟩=some x3∧g < w.heap.size:=⟨z.cell 0,z.cell 1,z.cell 2,z.cell 3,z.lt⟩
theorem Row.cells5 (z:Row w g T [x0,x1,x2,x3,x4]):w.cell? ⟨g,0,none⟩=some x0∧w.cell? ⟨g,1,none⟩=some x1∧w.cell? ⟨g,2,none⟩=some x2∧w.cell? ⟨g,3,none⟩=some x3∧w.cell? ⟨g,4,none⟩=some x4∧g < w.heap.size:=⟨z.cell 0,z.cell 1,z.cell 2,z.cell 3,z.cell 4,z.lt⟩
theorem Row.cells6 (z:Row w g T [x0,x1,x2,x3,x4,x5]):w.cell? ⟨g,0,none⟩=some x0∧w.cell? ⟨g,1,none⟩=some x1∧w.cell? ⟨g,2,none⟩=some x2∧w.cell? ⟨g,3,none⟩=some x3∧w.cell? ⟨g,4,none⟩=some x4∧w.cell? ⟨g,5,none⟩=some x5∧g < w.heap.size:=⟨z.cell 0,z.cell 1,z.cell 2,z.cell 3,z.cell 4,z.cell 5,z.lt⟩
theorem Row.cells7 (z:Row w g T [x0,x1,x2,x3,x4,x5,x6]):w.cell? ⟨g,0,none⟩=some x0∧w.cell? ⟨g,1,none⟩=some x1∧w.cell? ⟨g,2,none⟩=some x2∧w.cell? ⟨g,3,none⟩=some x3∧w.cell? ⟨g,4,none⟩=some x4∧w.cell? ⟨g,5,none⟩=some x5∧w.cell? ⟨g,6,none⟩=some x6∧g < w.heap.size:=⟨z.cell 0,z.cell 1,z.cell 2,z.cell 3,z.cell 4,z.cell 5,z.cell 6,z.lt⟩
theorem Row.cells8 (z:Row w g T [x0,x1,x2,x3,x4,x5,x6,x7]):w.cell? ⟨g,0,none⟩=some x0∧w.cell? ⟨g,1,none⟩=some x1∧w.cell? ⟨g,2,none⟩=some x2∧w.cell? ⟨g,3,none⟩=some x3∧w.cell? ⟨g,4,none⟩=some x4∧w.cell? ⟨g,5,none⟩=some x5∧w.cell? ⟨g,6,none⟩=some x6∧w.cell? ⟨g,7,none⟩=some x7∧g < w.heap.size:=⟨z.cell 0,z.cell 1,z.cell 2,z.cell 3,z.cell 4,z.cell 5,z.cell 6,z.cell 7,z.lt⟩
theorem Row.cells10 (z:Row w g T [x0,x1,x2,x3,x4,x5,x6,x7,x8,x9]):w.cell? ⟨g,0,none⟩=some x0∧w.cell? ⟨g,1,none⟩=some x1∧w.cell? ⟨g,2,none⟩=some x2∧w.cell? ⟨g,3,none⟩=some x3∧w.cell? ⟨g,4,none⟩=some x4∧w.cell? ⟨g,5,none⟩=some x5∧w.cell? ⟨g,6,none⟩=some x6∧w.cell? ⟨g,7,none⟩=some x7∧w.cell? ⟨g,8,none⟩=some x8∧w.cell? ⟨g,9,none⟩=some x9∧g < w.heap.size:=⟨z.cell 0,z.cell 1,z.cell 2,z.cell 3,z.cell 4,z.cell 5,z.cell 6,z.cell 7,z.cell 8,z.cell 9,z.lt⟩
end
section
variable {w:World} {g:Nat} {T:TypeId} {x0 x1 x2 x3 x4:Value}
theorem hiD {p:Prop} (h:p):Hid p:=h
theorem hiU {p:Prop} (h:p):Hid (∀ _:Unit,p):=fun _=>h
theorem naM {α:Sort _} (x:α):∃ q,Hid (∀ _:Unit,x=q):=⟨_,fun _=>rfl⟩
theorem Row.froz2 (z:Row w g T [x0,x1]):w.frozen? ⟨g,0,none⟩=false∧w.frozen? ⟨g,1,none⟩=false:=⟨z.frozen 0,z.frozen 1⟩
theorem Row.froz5 (z:Row w g T [x0,x1,x2,x3,x4]):w.frozen? ⟨g,0,none⟩=false∧w.frozen? ⟨g,1,none⟩=false∧w.frozen? ⟨g,2,none⟩=false∧w.frozen? ⟨g,3,none⟩=false∧w.frozen? ⟨g,4,none⟩=false:=⟨z.frozen 0,z.frozen 1,z.frozen 2,z.frozen 3,z.frozen 4⟩
theorem Row.froz3 (z:Row w g T [x0,x1,x2]):w.frozen? ⟨g,0,none⟩=false∧w.frozen? ⟨g,1,none⟩=false∧w.frozen? ⟨g,2,none⟩=false:=⟨z.frozen 0,z.frozen 1,z.frozen 2⟩
theorem Row.froz4 (z:Row w g T [x0,x1,x2,x3]):w.frozen? ⟨g,0,none⟩=false∧w.frozen? ⟨g,1,none⟩=false∧w.frozen? ⟨g,2,none⟩=false∧w.frozen? ⟨g,3,none⟩=false:=⟨z.frozen 0,z.frozen 1,z.frozen 2,z.frozen 3⟩
theorem Row.set3 (z:Row w g T [x0,x1,x2]) (a b c:Value):Row (World.setCell (World.setCell (World.setCell w ⟨g,0,none⟩ a) ⟨g,1,none⟩ b) ⟨g,2,none⟩ c) g T [a,b,c]:=((z.set 0 a).set 1 b).set 2 c
theorem bSet3 {B:Nat} {w0:World} (z:Below B w0 w) (g:Nat) (h:B≤g) (a b c:Value):Below B w0 (World.setCell (World.setCell (World.setCell w ⟨g,0,none⟩ a) ⟨g,1,none⟩ b) ⟨g,2,none⟩ c):=((z.setCell (p:=⟨g,0,none⟩) h a).setCell (p:=⟨g,1,none⟩) h b).setCell (p:=⟨g,2,none⟩) h c
theorem laid1 (w:World) (c:List Value) (T:TypeId):∃ W,World.alloc w (.cells c.toArray T)=W∧Hid (Row W w.heap.size T c)∧Below w.heap.size w W:=⟨_,rfl,Row.new w T c,(Below.refl _ _).alloc (Nat.le_refl _) _⟩
theorem laid2 (w:World) (c:List Value) (T:TypeId) (d:List Value) (U:TypeId):∃ W,World.alloc (World.alloc w (.cells c.toArray T)) (.cells d.toArray U)=W∧Hid (Row W w.heap.size T c)∧Hid (Row W (w.heap.size+1) U d)∧Below w.heap.size w W:=by
  have h:=Row.new (World.alloc w (.cells c.toArray T)) U d;simp only [World.size_alloc] at h;exact ⟨_,rfl,(Row.new w T c).alloc _,h,by go_grown⟩
end
end Go.Proofs.YtbijfnbelkbofaaGreatDoor
namespace Go.Proofs.YtbijfnbelkbofaaGreatDoor
open Go.RowKit
section
variable {P:Program} {ops:Array Oper} {Q:Exit→Act→World→Prop} {md:Region.Mode} {S:World→Prop} {W:List Nat}
def closedL (md:Region.Mode) (ops:Array Oper) (lst:Array Bool):Prop:=
 ∀ k ok,ops[k]?=some ok→lst.getD k false=true→∀ e ∈ ok.after,Region.binds md e=true→lst.getD e.on false=true
def anyL (P:Program) (md:Region.Mode) (ops:Array Oper) (Q:Exit→Act→World→Prop) (S:World→Prop) (W:List Nat):Nat→Array Bool→Act→World→Prop
 | 0,lst,a,w=>Region.ready md ops lst=[]∧Q .normal a w
 | f+1,lst,a,w=>(Region.ready md ops lst=[]→Q .normal a w) ∧
  ∀ i,i ∈ Region.ready md ops lst→wpOp P ops Q i (fun b u=>(W.contains i=false→S w→S u)∧anyL P md ops Q S W f (lst.setIfInBounds i true) b u) a w
theorem anyL_any (f:Nat):∀ (lst:Array Bool) (a:Act) (w:World),anyL P md ops Q S W f lst a w→wpAny P md ops Q f lst a w:=by
 induction f with
 | zero=>exact fun _ _ _ h=>h
 | succ f ih=>exact fun lst a w h=>⟨h.1,fun i hi=>wpOp_mono (fun b u hb=>ih _ b u hb.2) (h.2 i hi)⟩
theorem un_not {lst:Array Bool} {k:Nat} (h:lst.getD k true=false):¬ lst.getD k false=true:=by
 rw [Array.getD_eq_getD_getElem?] at h ⊢
 cases h':lst[k]? with
 | none=>simp
 | some b=>rw [h'] at h;simp only [Option.getD_some] at h ⊢;rw [h];simp
theorem closedL.none {n:Nat}:closedL md ops (Array.replicate n false):=by
 intro k ok _ hk;rw [Array.getD_eq_getD_getElem?,Array.getElem?_replicate] at hk;split at hk <;> simp at hk
theorem closedL.set {lst:Array Bool} {j:Nat} (h:closedL md ops lst) (hj:j ∈ Region.ready md ops lst):closedL md ops (lst.setIfInBounds j true):=by
 intro k ok hok hk e he hb;by_cases ejk:j=k
 ·subst ejk;obtain ⟨_,o2,ho2,hall⟩:=mem_ready.1 hj;obtain rfl:o2=ok:=Option.some.inj (ho2.symm.trans hok);exact getD_set_true (hall e he hb)
 ·rw [getD_set_ne false ejk] at hk;exact getD_set_true (h k ok hok hk e he hb)
def chainTo (md:Region.Mode) (ops:Array Oper) (i:Nat):List Nat→Bool
 | []=>false
 | [a]=>Region.waitsFor md ops a i
 | a :: b :: r=>Region.waitsFor md ops a b && chainTo md ops i (b :: r)
theorem chainTo_spec {lst:Array Bool} {i:Nat} (hc:closedL md ops lst) (hi:¬ lst.getD i false=true):∀ (r:List Nat) (j:Nat),chainTo md ops i (j :: r)=true→∃ k,Region.waitsFor md ops j k=true∧¬ lst.getD k false=true
 | [],j,h=>⟨i,h,hi⟩
 | b :: r,j,h=>by
  simp only [chainTo,Bool.and_eq_true] at h;obtain ⟨k,h1,h2⟩:=chainTo_spec hc hi r b h.2;refine ⟨b,h.1,fun hb=>h2 ?_⟩;obtain ⟨ob,hob,e,he,hbi,rfl⟩:=Region.waitsFor_spec h1;exact hc b ob hob hb e he hbi
theorem not_ready {lst:Array Bool} {i j:Nat} (hw:Region.waitsFor md ops j i=true) (hun:¬ lst.getD i false=true):j ∉ Region.ready md ops lst:=by
 intro hj;obtain ⟨oj,hoj,e,he,hb,rfl⟩:=Region.waitsFor_spec hw;obtain ⟨_,ok,hok,hall⟩:=mem_ready.1 hj;obtain rfl:ok=oj:=Option.some.inj (hok.symm.trans hoj);exact hun (hall e he hb)
def waitAll (md:Region.Mode) (ops:Array Oper) (i:Nat) (W:List Nat) (ps:List (List Nat)):Bool:=
 W.all fun l=>ps.any fun p=>p.head? == some l && chainTo md ops i p
theorem waitAll_spec {lst:Array Bool} {i:Nat} {ps:List (List Nat)} (h:waitAll md ops i W ps=true) (hc:closedL md ops lst) (hi:¬ lst.getD i false=true) {l:Nat} (hl:l ∈ W):l ∉ Region.ready md ops lst:=by
 unfold waitAll at h;rw [List.all_eq_true] at h;have h1:=h l hl;rw [List.any_eq_true] at h1;obtain ⟨p,_,hp⟩:=h1;rw [Bool.and_eq_true,beq_iff_eq] at hp
 cases p with
 | nil=>cases hp.1
 | cons a r=>
  obtain rfl:a=l:=Option.some.inj hp.1;obtain ⟨k,h2,h3⟩:=chainTo_spec hc hi r a hp.2;exact not_ready h2 h3
theorem anyL_first {i:Nat} {oi:Oper} {v:Value} {ps:List (List Nat)} (hi:ops[i]?=some oi) (hsel:∀ (j:Nat) (o:Oper) cs b,ops[j]?=some o→o.op≠.select cs b)
 (hQ:∀ c a w,Q (.panic c) (a.put oi.dst v) w→Q (.panic c) a w) (hL:waitAll md ops i W ps=true) (f:Nat):
 ∀ (lst:Array Bool) (a:Act) (w:World),closedL md ops lst →
  (∀ j oj,ops[j]?=some oj→j≠i→lst.getD j true=false→(∀ e ∈ oj.after,Region.binds md e=true→e.on≠i)→oi.apart ops oj=true) →
  i ∈ Region.ready md ops lst→YieldsIf P ops S oi v a→S w →
  anyL P md ops Q S W f (lst.setIfInBounds i true) (a.put oi.dst v) w→anyL P md ops Q S W (f+1) lst a w:=by
 induction f with
 | zero=>
  intro lst a w _ _ hr hy hS H
  constructor
  ·intro h0;rw [h0] at hr;cases hr
  ·intro j hj;by_cases e:j=i
   ·rw [e];exact hy.wpOp hi hS ⟨fun _ _=>hS,H⟩
   ·have h1:=ready_mono hj e;rw [H.1] at h1;cases h1
 | succ f ih=>
  intro lst a w hcl hfree hr hy hS H
  constructor
  ·intro h0;rw [h0] at hr;cases hr
  ·intro j hj;by_cases e:j=i
   ·rw [e];exact hy.wpOp hi hS ⟨fun _ _=>hS,H⟩
   ·have hiun:=un_not (mem_ready.1 hr).1
    have hjL:W.contains j=false:=by
     rw [Bool.eq_false_iff];intro hc;exact waitAll_spec hL hcl hiun (List.contains_iff_mem.1 hc) hj
    obtain ⟨hun,oj,hoj,hall⟩:=mem_ready.1 hj;have hno:∀ e' ∈ oj.after,Region.binds md e'=true→e'.on≠i:=fun e' he hb heq=>hiun (heq ▸ hall e' he hb)
    refine wpOp_mono (fun b u h3=>?_) (wpOp_putIf hoj (hfree j oj hoj e hun hno) (fun cs b=>hsel i oi cs b hi) (fun cs b=>hsel j oj cs b hoj) hQ hy (H.2 j (ready_mono hj e)));obtain ⟨hy',hS',hrest⟩:=h3;refine ⟨hS',ih (lst.setIfInBounds j true) b u (hcl.set hj) (fun k ok hok hki hkun hkno=>?_) (ready_mono hr (Ne.symm e)) hy' (hS' hjL hS) ?_⟩
    ·refine hfree k ok hok hki ?_ hkno;by_cases hjk:j=k
     ·subst hjk;exact hun
     ·rw [getD_set_ne true hjk] at hkun;exact hkun
    ·rw [Array.setIfInBounds_comm _ _ e];exact hrest
theorem anyL_pure {i:Nat} {oi:Oper} {v:Value} (hi:ops[i]?=some oi) (hsel:∀ (j:Nat) (o:Oper) cs b,ops[j]?=some o→o.op≠.select cs b)
 (hQ:∀ c a w,Q (.panic c) (a.put oi.dst v) w→Q (.panic c) a w) (f:Nat):
 ∀ (lst:Array Bool) (a:Act) (w:World),closedL md ops lst →
  (∀ j oj,ops[j]?=some oj→j≠i→lst.getD j true=false→(∀ e ∈ oj.after,Region.binds md e=true→e.on≠i)→oi.apart ops oj=true) →
  i ∈ Region.ready md ops lst→YieldsIf P ops (fun _=>True) oi v a →
  anyL P md ops Q S W f (lst.setIfInBounds i true) (a.put oi.dst v) w→anyL P md ops Q S W (f+1) lst a w:=by
 induction f with
 | zero=>
  intro lst a w _ _ hr hy H
  constructor
  ·intro h0;rw [h0] at hr;cases hr
  ·intro j hj;by_cases e:j=i
   ·rw [e];exact hy.wpOp hi trivial ⟨fun _ h=>h,H⟩
   ·have h1:=ready_mono hj e;rw [H.1] at h1;cases h1
 | succ f ih=>
  intro lst a w hcl hfree hr hy H
  constructor
  ·intro h0;rw [h0] at hr;cases hr
  ·intro j hj;by_cases e:j=i
   ·rw [e];exact hy.wpOp hi trivial ⟨fun _ h=>h,H⟩
   ·have hiun:=un_not (mem_ready.1 hr).1;obtain ⟨hun,oj,hoj,hall⟩:=mem_ready.1 hj;have hno:∀ e' ∈ oj.after,Region.binds md e'=true→e'.on≠i:=fun e' he hb heq=>hiun (heq ▸ hall e' he hb)
    refine wpOp_mono (fun b u h3=>?_) (wpOp_putIf hoj (hfree j oj hoj e hun hno) (fun cs b=>hsel i oi cs b hi) (fun cs b=>hsel j oj cs b hoj) hQ hy (H.2 j (ready_mono hj e)));obtain ⟨hy',hS',hrest⟩:=h3;refine ⟨hS',ih (lst.setIfInBounds j true) b u (hcl.set hj) (fun k ok hok hki hkun hkno=>?_) (ready_mono hr (Ne.symm e)) hy' ?_⟩
    ·refine hfree k ok hok hki ?_ hkno;by_cases hjk:j=k
     ·subst hjk;exact hun
     ·rw [getD_set_ne true hjk] at hkun;exact hkun
    ·rw [Array.setIfInBounds_comm _ _ e];exact hrest
def restL (P:Program) (md:Region.Mode) (ops:Array Oper) (Q:Exit→Act→World→Prop) (S:World→Prop) (W:List Nat) (f:Nat) (lst:Array Bool) (a:Act) (w:World):Prop:=
 closedL md ops lst→anyL P md ops Q S W f lst a w
theorem restL_take {i:Nat} {oi:Oper} {v:Value} {f:Nat} {lst:Array Bool} {a:Act} {w:World} (ps:List (List Nat)) (hi:ops[i]?=some oi)
 (hs:Region.noSelect ops=true) (hf:Region.free md ops lst i=true) (hr:(Region.ready md ops lst).contains i=true) (hL:waitAll md ops i W ps=true)
 (hQ:∀ c a w,Q (.panic c) (a.put oi.dst v) w→Q (.panic c) a w) (hy:YieldsIf P ops S oi v a) (hS:S w)
 (h:restL P md ops Q S W f (lst.setIfInBounds i true) (a.put oi.dst v) w):restL P md ops Q S W (f+1) lst a w:=by
 intro hc;have hr':i ∈ Region.ready md ops lst:=by simpa using hr
 exact anyL_first hi (Region.noSelect_spec hs) hQ hL f lst a w hc (Region.free_spec hi hf) hr' hy hS (h (hc.set hr'))
theorem restL_pure {i:Nat} {oi:Oper} {v:Value} {f:Nat} {lst:Array Bool} {a:Act} {w:World} (hi:ops[i]?=some oi)
 (hs:Region.noSelect ops=true) (hf:Region.free md ops lst i=true) (hr:(Region.ready md ops lst).contains i=true)
 (hQ:∀ c a w,Q (.panic c) (a.put oi.dst v) w→Q (.panic c) a w) (hy:YieldsIf P ops (fun _=>True) oi v a)
 (h:restL P md ops Q S W f (lst.setIfInBounds i true) (a.put oi.dst v) w):restL P md ops Q S W (f+1) lst a w:=by
 intro hc;have hr':i ∈ Region.ready md ops lst:=by simpa using hr
 exact anyL_pure hi (Region.noSelect_spec hs) hQ f lst a w hc (Region.free_spec hi hf) hr' hy (h (hc.set hr'))
theorem restL_one {i:Nat} {o:Oper} {f:Nat} {lst:Array Bool} {a:Act} {w:World} (hr:Region.ready md ops lst=[i]) (ho:ops[i]?=some o)
 (h:∀ K':Act→World→Prop,Shut (∀ b u,(W.contains i=false→S u)→((W.contains i=false→S u)→restL P md ops Q S W f (lst.setIfInBounds i true) b u)→K' b u)→if Region.wanted o (yielded ops a.tmps)=true then Oper.wp P o a w K' Q else K' (a.put o.dst undef) w):
 restL P md ops Q S W (f+1) lst a w:=by
 intro hc;refine And.intro (fun h0=>absurd (hr.symm.trans h0) (by simp)) (fun j hj=>?_);have hc':=hc.set hj;rw [hr] at hj;obtain rfl:=List.mem_singleton.1 hj;exact wpOp_step ho (fun K' hK=>h K' (fun b u hS hW=>hK b u ⟨fun e _=>hS e,hW hS hc'⟩))
theorem restL_done {lst:Array Bool} {a:Act} {w:World} (hr:Region.ready md ops lst=[]) (h:Q .normal a w):∀ f,restL P md ops Q S W f lst a w
 | 0=>fun _=>⟨hr,h⟩
 | _+1=>fun _=>And.intro (fun _=>h) (fun i hi=>by rw [hr] at hi;cases hi)
theorem wp_region_L {id:Nat} {a:Act} {w:World} (S:World→Prop) (W:List Nat) (hm:P.follows .mixedOrders=true) (hS:S w.drew)
 (h:S w.drew→restL P .any ops Q S W ops.size (Array.replicate ops.size false) a w.drew):(Code.region id ops true).wp P Q a w:=
 wp_region_any hm (anyL_any _ _ _ _ (h hS closedL.none))
end
end Go.Proofs.YtbijfnbelkbofaaGreatDoor
namespace Go.Proofs.YtbijfnbelkbofaaGreatDoor
open Go.RowKit
section
variable {P:Program} {ops:Array Oper} {Q:Exit→Act→World→Prop} {md:Region.Mode} {S:World→Prop} {W:List Nat} {oi:Oper} {fuel:Nat} {lst:Array Bool} {a:Act} {w:World}
theorem lTakeW (i:Nat) (v:Value) (ps:List (List Nat)) (hi:ops[i]?=some oi) (hg:Region.wanted oi (yielded ops a.tmps)=true) (hy:∀ w,S w→(execOp a.eval oi).run P w=.ok (.value v) w) (hS:S w)
    (h:restL P md ops Q S W fuel (lst.setIfInBounds i true) (a.put oi.dst v) w)
    (hs:Region.noSelect ops=true:=by kernel_rfl) (hf:Region.free md ops lst i=true:=by kernel_rfl) (hr:(Region.ready md ops lst).contains i=true:=by kernel_rfl) (hL:waitAll md ops i W ps=true:=by kernel_rfl)
    (hQ:∀ c a w,Q (.panic c) (a.put oi.dst v) w→Q (.panic c) a w:=by exact fun _ _ _ h=>h):restL P md ops Q S W (fuel+1) lst a w:=
  restL_take ps hi hs hf hr hL hQ (Or.inl ⟨hg,hy⟩) hS h
theorem lTakeU (i:Nat) (ps:List (List Nat)) (hi:ops[i]?=some oi) (hg:Region.wanted oi (yielded ops a.tmps)=false) (hS:S w)
    (h:restL P md ops Q S W fuel (lst.setIfInBounds i true) (a.put oi.dst undef) w)
    (hs:Region.noSelect ops=true:=by kernel_rfl) (hf:Region.free md ops lst i=true:=by kernel_rfl) (hr:(Region.ready md ops lst).contains i=true:=by kernel_rfl) (hL:waitAll md ops i W ps=true:=by kernel_rfl)
    (hQ:∀ c a w,Q (.panic c) (a.put oi.dst undef) w→Q (.panic c) a w:=by exact fun _ _ _ h=>h):restL P md ops Q S W (fuel+1) lst a w:=
  restL_take ps hi hs hf hr hL hQ (Or.inr ⟨hg,rfl⟩) hS h
end
end Go.Proofs.YtbijfnbelkbofaaGreatDoor
namespace Go.Proofs.YtbijfnbelkbofaaGreatDoor
open Go.RowKit
section
variable {P:Program} {ops:Array Oper} {Q:Exit→Act→World→Prop} {md:Region.Mode} {S:World→Prop} {W:List Nat} {oi:Oper} {fuel:Nat} {lst:Array Bool} {a:Act} {w:World} {v:Value}
theorem tW (i:Nat) (h:wpAnyH P md ops Q S fuel (lst.setIfInBounds i true) (a.put oi.dst v) w) (hi:ops[i]?=some oi:=by rfl) (hg:Region.wanted oi (yielded ops a.tmps)=true:=by first | rfl | (go_simp;done))
    (hy:∀ w,S w→(execOp a.eval oi).run P w=.ok (.value v) w:=by intro w' hSw;(try dsimp only at hSw);go_simp;try (with_reducible rfl)) (hS:S w:=by assumption)
    (hs:Region.noSelect ops=true:=by kernel_rfl) (hf:Region.free md ops lst i=true:=by kernel_rfl) (hr:(Region.ready md ops lst).contains i=true:=by kernel_rfl)
    (hQ:∀ c a w,Q (.panic c) (a.put oi.dst v) w→Q (.panic c) a w:=by exact fun _ _ _ h=>h):wpAnyH P md ops Q S (fuel+1) lst a w:=
  wpAnyH_take hi hs hf hr hQ (Or.inl ⟨hg,hy⟩) hS h
theorem tU (i:Nat) (h:wpAnyH P md ops Q S fuel (lst.setIfInBounds i true) (a.put oi.dst undef) w) (hi:ops[i]?=some oi:=by rfl) (hg:Region.wanted oi (yielded ops a.tmps)=false:=by go_simp) (hS:S w:=by assumption)
    (hs:Region.noSelect ops=true:=by kernel_rfl) (hf:Region.free md ops lst i=true:=by kernel_rfl) (hr:(Region.ready md ops lst).contains i=true:=by kernel_rfl)
    (hQ:∀ c a w,Q (.panic c) (a.put oi.dst undef) w→Q (.panic c) a w:=by exact fun _ _ _ h=>h):wpAnyH P md ops Q S (fuel+1) lst a w:=
  wpAnyH_take hi hs hf hr hQ (Or.inr ⟨hg,rfl⟩) hS h
theorem lP (i:Nat) (h:restL P md ops Q S W fuel (lst.setIfInBounds i true) (a.put oi.dst v) w) (hi:ops[i]?=some oi:=by rfl) (hg:Region.wanted oi (yielded ops a.tmps)=true:=by first | rfl | (go_simp;done))
    (hy:∀ w,True→(execOp a.eval oi).run P w=.ok (.value v) w:=by intro w' hSw;clear hSw;go_simp;try (with_reducible rfl))
    (hs:Region.noSelect ops=true:=by kernel_rfl) (hf:Region.free md ops lst i=true:=by kernel_rfl) (hr:(Region.ready md ops lst).contains i=true:=by kernel_rfl)
    (hQ:∀ c a w,Q (.panic c) (a.put oi.dst v) w→Q (.panic c) a w:=by exact fun _ _ _ h=>h):restL P md ops Q S W (fuel+1) lst a w:=
  restL_pure hi hs hf hr hQ (Or.inl ⟨hg,hy⟩) h
theorem lN (i:Nat) (h:restL P md ops Q S W fuel (lst.setIfInBounds i true) (a.put oi.dst undef) w) (hi:ops[i]?=some oi:=by rfl) (hg:Region.wanted oi (yielded ops a.tmps)=false:=by go_simp)
    (hs:Region.noSelect ops=true:=by kernel_rfl) (hf:Region.free md ops lst i=true:=by kernel_rfl) (hr:(Region.ready md ops lst).contains i=true:=by kernel_rfl)
    (hQ:∀ c a w,Q (.panic c) (a.put oi.dst undef) w→Q (.panic c) a w:=by exact fun _ _ _ h=>h):restL P md ops Q S W (fuel+1) lst a w:=
  restL_pure hi hs hf hr hQ (Or.inr ⟨hg,rfl⟩) h
end
end Go.Proofs.YtbijfnbelkbofaaGreatDoor
namespace Go.Proofs.YtbijfnbelkbofaaGreatDoor
open Go.RowKit
structure Gt where
 op:Int
 a:Int
 b:Int
instance:Inhabited Gt:=⟨⟨0,0,0⟩⟩
structure Circ where
 inputs:Int
 gates:List Gt
 outs:List Int
def gtEq (x y:Gt):Bool:=x.op == y.op && (x.a == y.a && x.b == y.b)
theorem gtEq_iff (x y:Gt):gtEq x y=true ↔ x=y:=by
 cases x;cases y;simp [gtEq]
instance:DecidableEq Gt:=fun x y=>if h:gtEq x y=true then isTrue ((gtEq_iff x y).1 h) else isFalse (fun e=>h ((gtEq_iff x y).2 e))
def gtCells (g:Gt):List Value:=[.int .i64 g.op,.int .i64 g.a,.int .i64 g.b]
def gatesCells (gs:List Gt):List Value:=gs.flatMap gtCells
theorem gatesCells_length (gs:List Gt):(gatesCells gs).length=gs.length * 3:=by
 induction gs with
 | nil=>rfl
 | cons g l ih=>simp only [gatesCells,List.flatMap_cons,List.length_append,List.length_cons] at *;rw [ih];simp [gtCells];omega
theorem gatesCells_get (gs:List Gt) (k:Nat) (h:k < gs.length):(gatesCells gs)[k * 3]?=some (.int .i64 (gs.getD k default).op)∧(gatesCells gs)[k * 3+1]?=some (.int .i64 (gs.getD k default).a)∧(gatesCells gs)[k * 3+2]?=some (.int .i64 (gs.getD k default).b):=by
 induction gs generalizing k with
 | nil=>simp at h
 | cons g l ih=>
  cases k with
  | zero=>simp [gatesCells,gtCells]
  | succ k=>
   have:=ih k (by simpa using h);have e:(k+1) * 3=k * 3+3:=by omega
   have hh:∀ j,(gatesCells (g :: l))[k * 3+3+j]?=(gatesCells l)[k * 3+j]?:=fun j=>by
    simp only [gatesCells,List.flatMap_cons];rw [List.getElem?_append_right (by simp [gtCells];omega)];congr 1
    simp [gtCells];omega
   rw [e];refine ⟨(hh 0).trans ?_,(hh 1).trans ?_,(hh 2).trans ?_⟩
   ·simpa using this.1
   ·simpa using this.2.1
   ·simpa using this.2.2
theorem Rd.gate {w:World} {B n:Nat} {A:Option Addr} {gs:List Gt} (h:Rd w B 3 A n (gatesCells gs)) {k:Nat} (hk:k < n):
 ∃ ad,A=some ad∧ad.block < B∧w.cell? (ad.add (k * 3))=some (.int .i64 (gs.getD k default).op)∧w.cell? ⟨(ad.add (k * 3)).block,(ad.add (k * 3)).off+1,none⟩=some (.int .i64 (gs.getD k default).a)∧w.cell? ⟨(ad.add (k * 3)).block,(ad.add (k * 3)).off+2,none⟩=some (.int .i64 (gs.getD k default).b):=by
 have hl:k < gs.length:=by have:=h.1;rw [gatesCells_length] at this;omega
 obtain ⟨h0,h1,h2⟩:=gatesCells_get gs k hl;exact h.row3 hk h0 h1 h2
def sameC (c d:Circ):Bool:=c.inputs == d.inputs && (decide (c.gates=d.gates) && decide (c.outs=d.outs))
def operandsF (op:Int):Int:=if op=0∨op=1 then 0 else if op=2 then 1 else if op=3∨op=4∨op=5 then 2 else -1
theorem operandsF_bd (op:Int):-1≤operandsF op∧operandsF op≤2:=by unfold operandsF;split <;> (try split) <;> (try split) <;> omega
def wireOk (n w k lim:Int):Bool:=decide (n < k∧w=0∨k≤n∧0≤w∧w < lim)
def gateOk (lim:Int) (g:Gt):Bool:=decide (0≤operandsF g.op) && wireOk (operandsF g.op) g.a 1 lim && wireOk (operandsF g.op) g.b 2 lim
def outOk (lim w:Int):Bool:=decide (0≤w∧w < lim)
def gatesOk (inputs:Int) (gs:List Gt):Bool:=decide (∀ i,i < gs.length→gateOk (inputs+i) (gs.getD i default)=true)
def rightC (c:Circ):Bool:=
 decide (0≤c.inputs∧c.inputs≤1000∧c.gates.length≤20000∧c.outs.length≤1000) && gatesOk c.inputs c.gates && c.outs.all (outOk (c.inputs+c.gates.length))
theorem right_false_gate (c:Circ) (k:Nat) (hk:k < c.gates.length) (h:gateOk (c.inputs+k) (c.gates.getD k default)=false):rightC c=false:=by
 have hg:gatesOk c.inputs c.gates=false:=decide_eq_false (fun hh=>by have:=hh k hk;rw [h] at this;cases this)
 simp [rightC,hg]
theorem right_true_gates (c:Circ) (hs:0≤c.inputs∧c.inputs≤1000∧c.gates.length≤20000∧c.outs.length≤1000) (h:∀ k,k < c.gates.length→gateOk (c.inputs+k) (c.gates.getD k default)=true):
 rightC c=c.outs.all (outOk (c.inputs+c.gates.length)):=by
 have hg:gatesOk c.inputs c.gates=true:=decide_eq_true h
 simp [rightC,hg,hs]
theorem all_false_at (p:Int→Bool) (zs:List Int) (k:Nat) (hk:k < zs.length) (h:p (zs.getD k 0)=false):zs.all p=false:=by
 rw [List.all_eq_false];refine ⟨zs[k],List.getElem_mem hk,?_⟩
 simp [List.getD_eq_getElem?_getD,List.getElem?_eq_getElem hk] at h
 simp [h]
theorem all_true_at (p:Int→Bool) (zs:List Int) (h:∀ k,k < zs.length→p (zs.getD k 0)=true):zs.all p=true:=by
 rw [List.all_eq_true];intro x hx;obtain ⟨j,hj,rfl⟩:=List.getElem_of_mem hx;have:=h j hj
 simpa [List.getD_eq_getElem?_getD,List.getElem?_eq_getElem hj] using this
structure CAt (w:World) (c:Circ) (GA OA:Option Addr) (gn on:Nat):Prop where
 gates:Rd w w.heap.size 3 GA gn (gatesCells c.gates)
 outs:Rd w w.heap.size 1 OA on (ints c.outs)
 g63:gn≤maxLen
 o63:on≤maxLen
theorem CAt.up {w w':World} {c:Circ} {GA OA:Option Addr} {gn on:Nat} (h:CAt w c GA OA gn on) (hb:Below w.heap.size w w'):CAt w' c GA OA gn on:=
 ⟨h.gates.up hb,h.outs.up hb,h.g63,h.o63⟩
theorem CAt.gl {w:World} {c:Circ} {GA OA:Option Addr} {gn on:Nat} (h:CAt w c GA OA gn on):c.gates.length=gn:=by have:=h.gates.1;rw [gatesCells_length] at this;omega
theorem CAt.ol {w:World} {c:Circ} {GA OA:Option Addr} {gn on:Nat} (h:CAt w c GA OA gn on):c.outs.length=on:=by have:=h.outs.1;simp at this;omega
def okC (c:Circ) (n:Nat):Bool:=rightC c && decide ((n:Int)=c.inputs)
theorem outOk_at {lim:Int} {os:List Int} (h:os.all (outOk lim)=true) {k:Nat} (hk:k < os.length):0≤os.getD k 0∧os.getD k 0 < lim:=by
 rw [List.all_eq_true] at h;have:=h _ (List.getElem_mem hk);rw [List.getD_eq_getElem?_getD,List.getElem?_eq_getElem hk]
 simpa [outOk] using this
end Go.Proofs.YtbijfnbelkbofaaGreatDoor
namespace Go.Proofs.YtbijfnbelkbofaaGreatDoor
open Go.RowKit
def runG {α:Type} (f:Int→α→α→α) (d:α) (gs:List Gt) (vs:List α):List α:=
 gs.foldl (fun v g=>v ++ [f g.op (v.getD g.a.toNat d) (v.getD g.b.toNat d)]) vs
section
variable {α:Type} (f:Int→α→α→α) (d:α)
theorem runG_snoc (gs:List Gt) (g:Gt) (vs:List α):runG f d (gs ++ [g]) vs=runG f d gs vs ++ [f g.op ((runG f d gs vs).getD g.a.toNat d) ((runG f d gs vs).getD g.b.toNat d)]:=by
 simp [runG,List.foldl_append]
theorem runG_length (gs:List Gt) (vs:List α):(runG f d gs vs).length=vs.length+gs.length:=by
 induction gs generalizing vs with
 | nil=>simp [runG]
 | cons g l ih=>
  have:=ih (vs ++ [f g.op (vs.getD g.a.toNat d) (vs.getD g.b.toNat d)]);simp only [runG,List.foldl_cons,List.length_append,List.length_cons,List.length_nil] at *;omega
theorem take_snoc_getD {β:Type} [Inhabited β] (l:List β) (k:Nat) (h:k < l.length):l.take (k+1)=l.take k ++ [l.getD k default]:=by
 rw [List.take_succ_eq_append_getElem h,List.getD_eq_getElem?_getD,List.getElem?_eq_getElem h];rfl
theorem runG_take (gs:List Gt) (vs:List α) (k:Nat) (h:k < gs.length):
 runG f d (gs.take (k+1)) vs=runG f d (gs.take k) vs ++ [f (gs.getD k default).op ((runG f d (gs.take k) vs).getD (gs.getD k default).a.toNat d) ((runG f d (gs.take k) vs).getD (gs.getD k default).b.toNat d)]:=by
 rw [take_snoc_getD gs k h,runG_snoc]
end
def evalW (op:Int) (x y:BitVec 64):BitVec 64:=if op=1 then BitVec.allOnes 64 else if op=2 then ~~~x else if op=3 then x &&& y else if op=4 then x ||| y else if op=5 then x ^^^ y else 0
def evalB (op:Int) (x y:Bool):Bool:=if op=1 then true else if op=2 then !x else if op=3 then x && y else if op=4 then x || y else if op=5 then x != y else false
theorem rightC_parts {c:Circ} (h:rightC c=true):(0≤c.inputs∧c.inputs≤1000∧c.gates.length≤20000∧c.outs.length≤1000)∧(∀ k,k < c.gates.length→gateOk (c.inputs+k) (c.gates.getD k default)=true)∧c.outs.all (outOk (c.inputs+c.gates.length))=true:=by
 simp only [rightC,gatesOk,Bool.and_eq_true,decide_eq_true_eq] at h;exact ⟨h.1.1,h.1.2,h.2⟩
theorem gateOk_parts {lim:Int} {g:Gt} (h:gateOk lim g=true):
 (g.op=0∨g.op=1∨g.op=2∨g.op=3∨g.op=4∨g.op=5)∧(2≤g.op→0≤g.a∧g.a < lim)∧(3≤g.op→0≤g.b∧g.b < lim)∧(g.op < 2→g.a=0)∧(g.op < 3→g.b=0):=by
 simp only [gateOk,wireOk,Bool.and_eq_true,decide_eq_true_eq] at h;obtain ⟨⟨h1,h2⟩,h3⟩:=h
 have ho:g.op=0∨g.op=1∨g.op=2∨g.op=3∨g.op=4∨g.op=5:=by
  unfold operandsF at h1;split at h1
  ·omega
  ·split at h1
   ·omega
   ·split at h1 <;> omega
 have hop:operandsF g.op=if g.op < 2 then 0 else if g.op < 3 then 1 else 2:=by
  rcases ho with e | e | e | e | e | e <;> rw [e] <;> rfl
 rw [hop] at h2 h3;refine ⟨ho,fun h=>?_,fun h=>?_,fun h=>?_,fun h=>?_⟩
 ·rw [if_neg (by omega)] at h2;split at h2 <;> omega
 ·rw [if_neg (by omega),if_neg (by omega)] at h3;omega
 ·rw [if_pos h] at h2;omega
 ·split at h3
  ·omega
  ·omega
def outsG {α:Type} (f:Int→α→α→α) (d:α) (c:Circ) (vs:List α):List α:=c.outs.map (fun o=>(runG f d c.gates vs).getD o.toNat d)
theorem map_take_snoc {β:Type} (f:Int→β) (os:List Int) (k:Nat) (h:k < os.length):(os.take (k+1)).map f=(os.take k).map f ++ [f (os.getD k 0)]:=by
 rw [List.take_succ_eq_append_getElem h,List.map_append,List.getD_eq_getElem?_getD,List.getElem?_eq_getElem h];rfl
end Go.Proofs.YtbijfnbelkbofaaGreatDoor
namespace Go.Proofs.YtbijfnbelkbofaaGreatDoor
open Go.RowKit
def noCirc:Circ:=⟨0,[],[]⟩
theorem gatesCells_append (xs ys:List Gt):gatesCells (xs ++ ys)=gatesCells xs ++ gatesCells ys:=by simp [gatesCells]
theorem gatesCells_one (g:Gt):gatesCells [g]=gtCells g:=by simp [gatesCells]
theorem noCirc_at (w:World):CAt w noCirc none none 0 0:=⟨Rd.empty none,Rd.empty none,by unfold maxLen;omega,by unfold maxLen;omega⟩
end Go.Proofs.YtbijfnbelkbofaaGreatDoor
