/-
  Lemmas for the law TopCircuits.
-/
import Derived.Test.YtbijfnbelkbofaaGreatDoorJZ16
import Derived.Test.YtbijfnbelkbofaaGreatDoorJZ43
import Derived.Test.YtbijfnbelkbofaaGreatDoorJZ44
import Derived.Test.YtbijfnbelkbofaaGreatDoorJZ47
import Derived.Test.YtbijfnbelkbofaaGreatDoorRows
import Derived.ProofKit
import Derived.JoinedOf
import Derived.LaidLaws
import Derived.HandedShaped
import Derived.Shelf.Vars
import Derived.Stop.LaidErr
import Derived.ChangeMaps5
set_option linter.unusedSimpArgs false
set_option linter.unusedVariables false
namespace Go.Proofs.YtbijfnbelkbofaaGreatDoor
open Go.RowKit Go.ChangeShapes Go.WideShapes Go.ChangeAt Go.Joins
theorem handed_both {H:Type} {enc:TypeId × Value→H} {a:Assume} {C:Checked} {os:Os} {f:FuncId} {fn:Func} {s:ChangeSpec} {conds:List PathCond} {apart fresh handsOn again:Bool} {X:World→Array Value→Prop}
 (hX:∀ (w w':World) (args:Array Value),w.heap=w'.heap→X w args→X w' args)
 (own:ownKnob C.prog.godebug=none) (started:os.Started) (noInit:C.prog.inits.idxOf? f=none) (hfn:C.prog.funcs[f]?=some fn)
 (witness:∃ (w:World) (tape:Tape) (i:Input),w.os=os∧(w.forCall tape i).Shaped C.prog∧i.vars=[]∧Input.okWide C.prog (w.forCall tape i) .any w.heap.size f i ∧
  ((s.pre enc C.prog fn conds apart (w.forCall tape i).memory i.args∧X (w.forCall tape i).memory i.args)∧sizedMet enc C.prog fn (OpenSpec.ofChange s) apart (w.forCall tape i).memory i.args)∧a.holds C.prog (lone (Frame.enter C.prog f i.args .normal) [] (w.forCall tape i)))
 (contract:∀ (W:World) (base:Nat) (args:Array Value) (ds gs:List (DataW H)) (before:List MemPlace),
  (∀ (j:Nat) t v,fn.params[j]?=some t→args[j]?=some v→Value.okWide C.prog W .any base t v) →
  DataW.Whole enc C.prog fn.params.toList s.vars apart W args.toList ds gs before→X W args→W.ShapedOpen C.prog →
  Calls C.prog f args W fun e W'=>∃ v,e=.returned v∧s.post enc C.prog fn apart fresh handsOn again W args v W'):
 ReturnsInHanded a C os f .any (fun w args=>(s.pre enc C.prog fn conds apart w args∧X w args)∧sizedMet enc C.prog fn (OpenSpec.ofChange s) apart w args) (s.post enc C.prog fn apart fresh handsOn again):=by
 refine returnsInHanded_of_calls own started noInit witness ?_;intro w tape i _ hsh _ hok hpre _;obtain ⟨_,_,_,fn',hfn',_,_,_,_,hval⟩:=hok;obtain rfl:fn'=fn:=Option.some.inj (hfn'.symm.trans hfn);obtain ⟨⟨⟨ds,gs,before,hw,_⟩,hx⟩,_⟩:=hpre;refine (contract (w.forCall tape i) w.heap.size i.args ds gs before hval (DataW.Whole.of_heap (w':=w.forCall tape i) (by rfl) hw) (hX _ _ _ (by rfl) hx) hsh).mono fun e W' ⟨v,he,hp⟩=>?_
 subst he;exact ChangeSpec.post_blind hp
set_option maxRecDepth 100000 in
theorem tab_of_laid {W : World} (h : laidMetH Tryz.prog Rows.topCircuitsRow.laid W) : Lib.TabIs Tryz.prog W "internal/strconv.uint64pow10" .u64 Lib.pow10Tab := by
 have h1 := laidMetH.filter (fun x => x.1 == "internal/strconv.uint64pow10") h;have e : (Rows.topCircuitsRow.laid.filter fun x => x.1 == "internal/strconv.uint64pow10") = [("internal/strconv.uint64pow10", Lib.tabData .u64 Lib.pow10Tab)] := by kernel_rfl
 rw [e,MakeChecks.laidMetH_plain _ _ _ (by kernel_rfl)] at h1;exact Lib.tabIs_of_head (g:=5) (by kernel_rfl) (t:=253) (by kernel_rfl) Tryz.underlying253 Tryz.underlying79 (by kernel_rfl) (by kernel_rfl) h1
set_option maxRecDepth 100000 in
theorem mat_of_laid {W:World} (h:laidMetH Tryz.prog Rows.topCircuitsRow.laid W):MatAt W:=by
 have h1 := laidMetH.filter (fun x => x.1 == "cellular/symmetry.matrices") h;have e : (Rows.topCircuitsRow.laid.filter fun x => x.1 == "cellular/symmetry.matrices") = [("cellular/symmetry.matrices", DataW.agg (KT.matL.map (Lib.tabData .i64)))] := by kernel_rfl
 rw [e,MakeChecks.laidMetH_plain _ _ _ (by kernel_rfl)] at h1;obtain ⟨ps,⟨g,t,cs,fuel,p,q,hg,ht,hv,hd,_,_⟩,_⟩:=h1;have g0 : Tryz.prog.globalNamed "cellular/symmetry.matrices" = some 4 := by kernel_rfl
 have t0:(Tryz.prog.globals[4]?).map (·.type)=some 249:=by kernel_rfl
 obtain rfl:=Option.some.inj (g0.symm.trans hg);obtain rfl:=Option.some.inj (t0.symm.trans ht);have hc:=cells_of_tab2 (n:=8) (m:=4) (zss:=KT.matL) Tryz.underlying249 Tryz.underlying248 Tryz.underlying3 (by kernel_rfl) (by kernel_rfl) (by kernel_rfl) (by omega) hd
 have hcell:∀ i,i < 32→W.cell? ⟨4,i,none⟩=some (.int .i64 (KT.matL.flatten.getD i 0)):=fun i hi=>by
  have h2:=World.var?_cell hg hv i;rw [h2];have h3:=hc i (by omega);rw [Array.getElem?_toList] at h3;rw [h3];have key:∀ i,i < 32→(KT.matL.getD (i / 4) [])[i % 4]?=some (KT.matL.flatten.getD i 0):=by decide
  rw [key i hi];rfl
 exact ⟨hcell,World.block_lt_of_cell? W ⟨4,0,none⟩ (hcell 0 (by omega))⟩
theorem ba_of_list {s:ByteArray} {l:List UInt8} (h:s.data.toList=l):s=⟨l.toArray⟩:=by
 cases s with
 | mk d=>subst h;simp
set_option maxRecDepth 100000 in
theorem sym_of_laid {W:World} (h:laidMetH Tryz.prog Rows.topCircuitsRow.laid W):∀ i,i < 4→W.cell? ⟨0,i,none⟩=some (.string (symL.getD i ByteArray.empty)):=by
 have h1 := laidMetH.filter (fun x => x.1 == "cellular/ruletable.symNames") h;have e : (Rows.topCircuitsRow.laid.filter fun x => x.1 == "cellular/ruletable.symNames") = [("cellular/ruletable.symNames", DataW.agg (symL.map (fun s => DataW.lit (Lit.string s.data.toList))))] := by kernel_rfl
 rw [e,MakeChecks.laidMetH_plain _ _ _ (by kernel_rfl)] at h1;obtain ⟨ps,⟨g,t,cs,fuel,p,q,hg,ht,hv,hd,_,_⟩,_⟩:=h1;have g0 : Tryz.prog.globalNamed "cellular/ruletable.symNames" = some 0 := by kernel_rfl
 have t0:(Tryz.prog.globals[0]?).map (·.type)=some 176:=by kernel_rfl
 obtain rfl:=Option.some.inj (g0.symm.trans hg);obtain rfl:=Option.some.inj (t0.symm.trans ht);obtain ⟨xs,mm,_,hx,hl,hn,hat⟩:=DataW.trod_array Tryz.underlying176 hd;simp only [Prod.mk.injEq,DataW.agg.injEq] at hx;intro i hi;have hc1:Tryz.prog.cellsOf 9=1:=by kernel_rfl
 have h2:=hat i hi;rw [List.getElem?_eq_getElem (by omega),hc1] at h2;obtain ⟨s,hs1,hs2,_⟩:=DataW.trod_string Tryz.underlying9 h2;have h3:(xs.map (·.1))[i]?=some (xs[i]'(by omega)).1:=by rw [List.getElem?_map,List.getElem?_eq_getElem (by omega)];rfl
 rw [← hx.1,List.getElem?_map,List.getElem?_eq_getElem (by exact hi),hs2] at h3;simp only [Option.map_some,Option.some.injEq,DataW.lit.injEq,Lit.string.injEq] at h3
 have h4:s=symL.getD i ByteArray.empty:=by
  rw [List.getD_eq_getElem?_getD,List.getElem?_eq_getElem (by exact hi),Option.getD_some];exact (ba_of_list h3.symm).trans (by simp)
 rw [World.var?_cell hg hv i,← h4];have h5:=congrArg (·[0]?) hs1;simp only [Nat.mul_one,List.getElem?_take,List.getElem?_drop,Nat.add_zero] at h5;rw [if_pos (by omega)] at h5;rw [← Array.getElem?_toList];exact h5
set_option maxRecDepth 100000 in
theorem err_of_laid {W:World} (h:laidMetH Tryz.prog Rows.topCircuitsRow.laid W):(∃ t p,W.cell? ⟨2,0,none⟩=some (.iface t p))∧∃ t p,W.cell? ⟨3,0,none⟩=some (.iface t p):=by
 have hrow : ∀ u, Tryz.prog.typeName? 3 u = some "*errors.errorString" → u = 243 := fun u hu => by
  have star : "*" ++ "errors.errorString" = "*errors.errorString" := by decide
  exact typeName_ptr_named (nm := "errors.errorString") (by rw [star]; kernel_rfl) (by kernel_rfl) (by decide) u (by rw [star]; exact hu)
 constructor
 ·have h1 := laidMetH.filter (fun x => x.1 == "strconv.ErrSyntax") h;have e : (Rows.topCircuitsRow.laid.filter fun x => x.1 == "strconv.ErrSyntax") = [("strconv.ErrSyntax", Rows.laid_strconv_ErrSyntax)] := by kernel_rfl
  rw [e,MakeChecks.laidMetH_plain _ _ _ (by kernel_rfl)] at h1;have g0 : Tryz.prog.globalNamed "strconv.ErrSyntax" = some 2 := by kernel_rfl
  obtain ⟨a0,s0,hv0,-,-,-⟩:=laid_sentinel h1 g0 (by kernel_rfl) Tryz.underlying102 hrow Tryz.underlying243 Tryz.underlying245 rfl rfl Tryz.underlying9 (by kernel_rfl) (by kernel_rfl);exact ⟨_,_,by have h0:=World.var?_cell g0 hv0 0;simpa using h0⟩
 ·have h1 := laidMetH.filter (fun x => x.1 == "strconv.ErrRange") h;have e : (Rows.topCircuitsRow.laid.filter fun x => x.1 == "strconv.ErrRange") = [("strconv.ErrRange", Rows.laid_strconv_ErrRange)] := by kernel_rfl
  rw [e,MakeChecks.laidMetH_plain _ _ _ (by kernel_rfl)] at h1;have g0 : Tryz.prog.globalNamed "strconv.ErrRange" = some 3 := by kernel_rfl
  obtain ⟨a0,s0,hv0,-,-,-⟩:=laid_sentinel h1 g0 (by kernel_rfl) Tryz.underlying102 hrow Tryz.underlying243 Tryz.underlying245 rfl rfl Tryz.underlying9 (by kernel_rfl) (by kernel_rfl);exact ⟨_,_,by have h0:=World.var?_cell g0 hv0 0;simpa using h0⟩
set_option maxRecDepth 100000 in
theorem genv_of {W:World} (h:laidMetH Tryz.prog Rows.topCircuitsRow.laid W) (hsh:W.ShapedOpen Tryz.prog):GEnv W:=
 ⟨mat_of_laid h,cell_of_shapedOpen_int (zero:=#[.int .i64 0]) (t:=3) hsh (by decide) (by kernel_rfl) rfl (by kernel_rfl) (by kernel_rfl) Tryz.underlying3,(err_of_laid h).1,(err_of_laid h).2,sym_of_laid h,Lib.tabBelow_of_tabIs (tab_of_laid h)⟩
set_option maxRecDepth 100000 in
theorem topCircuits_lifted (os:Os) (started:os.Started) (H:Type) (enc:TypeId × Value→H):
 ReturnsInHanded {} Tryz.checked os 3 .any (fun w args=>(Rows.topCircuitsSpec.pre enc Tryz.prog Tryz.f3 Rows.topCircuitsRow.domain false w args∧laidMetH Tryz.prog Rows.topCircuitsRow.laid w)∧sizedMet enc Tryz.prog Tryz.f3 (OpenSpec.ofChange Rows.topCircuitsSpec) false w args)
  (Rows.topCircuitsSpec.post enc Tryz.prog Tryz.f3 false true false false):=by
 refine handed_both (C:=Tryz.checked) (X:=fun w _=>laidMetH Tryz.prog Rows.topCircuitsRow.laid w) (fun _ _ _ hh h=>h.of_heap hh) Tryz.own' started (by kernel_rfl) Tryz.func3
  (ChangeSpec.witness_shaped (enc:=enc) (C:=Tryz.checked) (os:=os) (X:=fun w _=>laidMetH Tryz.prog Rows.topCircuitsRow.laid w) false (World.laidAll Tryz.prog os Rows.topCircuitsRow.laid) #[.string ⟨#[]⟩,.slice none 0 0] 8 (World.laidAll_os _ _ _)
   (World.shaped_of_ZipB (by kernel_rfl) (by kernel_rfl)) (by kernel_rfl) (by kernel_rfl) (by kernel_rfl)
   (by rw [MakeChecks.laidMetH_plain _ _ _ (by kernel_rfl)];exact laidMet_laidAll _ (by kernel_rfl) (by kernel_rfl))) ?_
 intro W base args ds gs before hval0 hW hL hsh;have hval:∀ (j:Nat) t v,Tryz.f3.params[j]?=some t→args[j]?=some v→Value.okWide Tryz.prog W .any base t v:=hval0;have hW':=hW;obtain ⟨p,q,hA0,hV,rfl,hfz,hnd⟩:=hW;have hA:DataW.TrodAll enc Tryz.prog W 0 (fun _=>true) true Tryz.f3.params.toList args.toList ds p:=hA0;rw [Tryz.params3] at hA hval;obtain ⟨v0,v1,d0,d1,p0,p1,rfl,rfl,rfl,h0,h1⟩:=trodAll_two hA;obtain ⟨rfl,rfl⟩:=trodVars_none hV;have h0k:=h0;have hlt0:∀ x ∈ p0,x.block < W.heap.size:=fun x hx=>hW'.lt x (by simp [hx])
 have h1k:=h1;have hlt1:∀ x ∈ p1,x.block < W.heap.size:=fun x hx=>hW'.lt x (by simp [hx])
 obtain ⟨s,rfl,_,_,hs⟩:=Go.ChangeMaps.open_string Tryz.underlying9 (hval 0 9 v0 rfl rfl) h0;obtain ⟨A1,n1,ac1,xs1,rfl,hm1,hn1⟩:=open_ints_arg (hval 1 22 v1 rfl rfl) h1;clear hA0 hval0;refine (topCircuits_walk s xs1 A1 n1 ac1 W hs hm1 hn1 (genv_of hL hsh) (fun h2 W G=>gParse_any s (by omega) W G) (fun h2 W G=>rParse_any s h2 W G)).mono fun e W' ⟨he,hb⟩=>?_
 subst he;exact ⟨_,rfl,law_post (pa:=p0 ++ p1) (pv:=[]) hW' (fun _ _ _=>trodAll_mk1 (shut_bool Tryz.underlying4 true)) (trodAll_mk2 (Below.trod Tryz.laidOut' (by kernel_rfl) (of_decide_eq_true (by kernel_rfl)) h0k hb hlt0) (Below.trod Tryz.laidOut' (by kernel_rfl) (of_decide_eq_true (by kernel_rfl)) h1k hb hlt1)) rfl hb⟩
theorem topCircuits_row:Rows.TopCircuitsSaid:=
 OpenClaim.holds_of_wide 3 Tryz.f3 rfl rfl rfl rfl rfl rfl rfl ⟨rfl,rfl,rfl,rfl,rfl⟩ rfl rfl rfl rfl rfl (by kernel_rfl) Tryz.func3 (by kernel_rfl)
  (of_decide_eq_true (by kernel_rfl)) (by unfold Func.isWrapper;first | (rw [if_pos (by decide +kernel)];kernel_rfl) | (rw [if_neg (by decide +kernel)];exact ⟨rfl,rfl⟩))
  (fun os started H enc _=>topCircuits_lifted os started H enc)
end Go.Proofs.YtbijfnbelkbofaaGreatDoor
