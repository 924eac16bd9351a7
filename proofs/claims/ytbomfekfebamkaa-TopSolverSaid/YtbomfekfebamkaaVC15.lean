/-
  The prover's search, one side of a decision at a time, in plain terms.
-/
import Derived.Test.YtbomfekfebamkaaVC3
import Derived.Test.YtbomfekfebamkaaVC14
import Derived.Test.YtbomfekfebamkaaVC11
set_option linter.unusedVariables false
set_option linter.unusedSimpArgs false
namespace Go.Proofs.Ytbomfekfebamkaa
namespace V
section
variable {n : Nat} {F : List (List Int)} {s s1 : En} {D units : List Int} {pf pf1 : List (List Int)} {f v j : Nat}
def litJ (v j : Nat) : Int := if j = 0 then -(v : Int) else (v : Int)
/-- What is left of a search from the j-th side on. -/
def restJ (n f v : Nat) (D : List Int) : Nat → En → List (List Int) → En × List (List Int) × Nat
  | 0, s, pf =>
    let b1 := branchP n (searchP n f) (-(v : Int)) s D pf
    if b1.2.2 = 0 then
      let b2 := branchP n (searchP n f) (v : Int) b1.1 D b1.2.1
      if b2.2.2 = 0 then exclP b2.1 D b2.2.1 else b2
    else b1
  | 1, s, pf =>
    let b2 := branchP n (searchP n f) (v : Int) s D pf
    if b2.2.2 = 0 then exclP b2.1 D b2.2.1 else b2
  | _, s, pf => exclP s D pf
theorem restJ_step (hj : j < 2) : restJ n f v D j s pf = if (branchP n (searchP n f) (litJ v j) s D pf).2.2 = 0 then restJ n f v D (j + 1) (branchP n (searchP n f) (litJ v j) s D pf).1 (branchP n (searchP n f) (litJ v j) s D pf).2.1 else branchP n (searchP n f) (litJ v j) s D pf := by
  match j, hj with
  | 0, _ => rfl
  | 1, _ => rfl
theorem search_some (hv : leastU s.va n = some v) : searchP n (f + 1) s D pf = restJ n f v D 0 s pf := by
  conv => lhs; unfold searchP
  rw [hv]; rfl
theorem search_none (hv : leastU s.va n = none) : searchP n (f + 1) s D pf = (s, pf, 1) := by
  conv => lhs; unfold searchP
  rw [hv]
theorem mem_snoc {x : Int} (hD : ∀ d ∈ D, lit n d) (hx : lit n x) : ∀ d ∈ D ++ [x], lit n d := fun d hd => by
  rcases List.mem_append.1 hd with hd | hd
  · exact hD d hd
  · simp at hd; exact hd ▸ hx
/-- What holds at the head of the search's loop over both sides. -/
structure SL (n : Nat) (F : List (List Int)) (units D : List Int) (f v : Nat) (s : En) (pf : List (List Int)) (j : Nat) (s1 : En) (pf1 : List (List Int)) : Prop where
  run : searchP n (f + 1) s D pf = restJ n f v D j s1 pf1
  inv : PInv n F units D s1
  tr : s1.tr = s.tr
  len : pf1.length + (2 - j) * 2 ^ (f + 1) ≤ maxC
  v1 : 1 ≤ v
  vn : v ≤ n
/-- One side. -/
structure SO (n : Nat) (F : List (List Int)) (units D : List Int) (f v : Nat) (s : En) (pf : List (List Int)) (j : Nat) (s1 : En) (pf1 : List (List Int)) (x : Int) (p : En × Bool) : Prop where
  lx : lit n x
  val : valL s1.va x = 0
  wput : WF n F (s1.put x)
  inv2 : Inv2 (s1.put x) (s1.put x).hd
  wp : WF n F p.1
  ptr : s1.tr.length ≤ p.1.tr.length
  good : p.2 = true → PInv n F units (D ++ [x]) p.1 ∧ n + 1 < f + p.1.tr.length
  len : pf1.length + 2 ^ (f + 1) ≤ maxC
  out : ∀ r, r = (if p.2 then searchP n f p.1 (D ++ [x]) pf1 else exclP p.1 (D ++ [x]) pf1) → WF n F r.1 ∧ s1.tr.length ≤ r.1.tr.length ∧
    (r.2.2 = 0 → SL n F units D f v s pf (j + 1) (r.1.cut s1.tr.length) r.2.1) ∧ (r.2.2 ≠ 0 → searchP n (f + 1) s D pf = (r.1.cut s1.tr.length, r.2))
theorem SL.side {nrm : List Int → List Int} (hn : ∀ c x, x ∈ nrm c ↔ x ∈ c) (hul : ∀ u ∈ units, lit n u) (hD : ∀ d ∈ D, lit n d) (h : SL n F units D f v s pf j s1 pf1) (hj : j < 2) (hval : valL s1.va (v : Int) = 0) (hf : n + 1 < f + 1 + s.tr.length) :
    SO n F units D f v s pf j s1 pf1 (litJ v j) (propF (n + 2) (s1.put (litJ v j))) := by
  have hlv' : lit n (v : Int) := ⟨by have := h.v1; omega, by have := h.vn; omega, by have := h.vn; omega⟩
  have hx : lit n (litJ v j) := by
    unfold litJ; split
    · exact hlv'.neg
    · exact hlv'
  have h0 : valL s1.va (litJ v j) = 0 := by
    unfold litJ; split
    · rw [val_neg _ hlv', hval]; rfl
    · exact hval
  have hlen : pf1.length + 2 ^ (f + 1) ≤ maxC := by
    have h1 := h.len
    have h2 : 1 * 2 ^ (f + 1) ≤ (2 - j) * 2 ^ (f + 1) := Nat.mul_le_mul_right _ (by omega)
    omega
  have hpos : 1 < 2 ^ (f + 1) := Nat.one_lt_two_pow (by omega)
  obtain ⟨x, hxj⟩ : ∃ x, litJ v j = x := ⟨_, rfl⟩
  rw [hxj] at hx h0 ⊢
  have hput : WF n F (s1.put x) := h.inv.wf.put hx h0
  have hI2 : Inv2 (s1.put x) (s1.put x).hd := by
    have : (s1.put x).hd = s1.tr.length := h.inv.hd
    rw [this]; exact (h.inv.inv.put (Nat.le_refl _)).two
  have hp := prop_spec (n := n) (F := F) (n + 2) (s1.put x) hput hI2 (by omega)
  obtain ⟨ex, hex⟩ := hp.ext
  have hex' : (propF (n + 2) (s1.put x)).1.tr = s1.tr ++ (x :: ex) := by rw [hex]; show s1.tr ++ [x] ++ ex = _; simp
  have hder : Der (fun l => l ∈ D ++ [x] ∨ l ∈ units) F (propF (n + 2) (s1.put x)).1.tr := by
    refine hp.der _ ?_
    refine Der.push ?_ (.inl (.inl (by simp)))
    intro i l hl
    rcases h.inv.der i l hl with q | q
    · exact .inl (q.imp (fun q => by simp [q]) id)
    · exact .inr q
  have hgood : (propF (n + 2) (s1.put x)).2 = true → PInv n F units (D ++ [x]) (propF (n + 2) (s1.put x)).1 ∧ n + 1 < f + (propF (n + 2) (s1.put x)).1.tr.length := fun h2 => by
    obtain ⟨g1, g2⟩ := hp.good h2
    refine ⟨⟨hp.wf, g1, g2, fun d hd => ?_, fun u hu => by rw [hex']; simp [h.inv.un u hu], hder⟩, ?_⟩
    · rw [hex']
      rcases List.mem_append.1 hd with hd | hd
      · simp [h.inv.dec d hd]
      · simp at hd; simp [hd]
    · rw [hex', h.tr]; simp; omega
  refine ⟨hx, h0, hput, hI2, hp.wf, by rw [hex']; simp, hgood, hlen, fun r hr => ?_⟩
  have hrun := h.run
  rw [restJ_step hj, hxj] at hrun
  have hb : branchP n (searchP n f) x s1 D pf1 = (r.1.cut s1.tr.length, r.2) := by unfold branchP; simp only; rw [← hr]
  have hrec : ∀ s' : En, s1.tr.length < s'.tr.length → PInv n F units (D ++ [x]) s' → PPost n nrm F units (D ++ [x]) s' pf1 (2 ^ (f + 1)) (searchP n f s' (D ++ [x]) pf1) := fun s' hl hP =>
    psearch_spec hn hul f s' _ pf1 hP (mem_snoc hD hx) (by have := h.tr; rw [this] at hl; omega) hlen
  obtain ⟨b1, t1, u1⟩ := branch_spec (n := n) (F := F) (nrm := nrm) (units := units) (D := D) (rec := searchP n f) (k := 2 ^ (f + 1)) (x := x) (pf := pf1) hrec h.inv hD hul hx h0 hpos (by omega)
  rw [hb] at b1 t1 u1 hrun
  have hw : WF n F r.1 ∧ s1.tr.length ≤ r.1.tr.length := by
    cases h2 : (propF (n + 2) (s1.put x)).2 with
    | true =>
      rw [h2, if_pos rfl] at hr
      have hq := hrec _ (by rw [hex']; simp) (hgood h2).1
      obtain ⟨ex2, he2⟩ := hq.ext
      rw [← hr] at hq he2
      exact ⟨hq.wf, by rw [he2, hex']; simp⟩
    | false =>
      rw [h2, if_neg (by decide)] at hr
      have : r.1 = (propF (n + 2) (s1.put x)).1 := by rw [hr]; unfold exclP; split <;> rfl
      rw [this]
      exact ⟨hp.wf, by rw [hex']; simp⟩
  refine ⟨hw.1, hw.2, fun e => ?_, fun e => ?_⟩
  · rw [if_pos e] at hrun
    rcases b1.res with ⟨e1, _⟩ | ⟨e1, _, new1, hp1, hl1, _⟩
    · rw [e] at e1; cases e1
    · have hlp1 : r.2.1.length = pf1.length + (new1.length + 1) := by
        have : r.2.1 = pf1 ++ (new1 ++ [negs (D ++ [x])]) := hp1
        rw [this]; simp
      refine ⟨hrun, ⟨b1.wf, by rw [u1, t1], by rw [t1]; exact b1.inv _ (Nat.le_refl _) h.inv.inv, by rw [t1]; exact h.inv.dec, by rw [t1]; exact h.inv.un, by rw [t1]; exact h.inv.der⟩, t1.trans h.tr, ?_, h.v1, h.vn⟩
      have h1 := h.len
      have h2 : (2 - j) * 2 ^ (f + 1) = (2 - (j + 1)) * 2 ^ (f + 1) + 2 ^ (f + 1) := by
        rw [show 2 - j = (2 - (j + 1)) + 1 by omega, Nat.succ_mul]
      omega
  · rw [if_neg e] at hrun
    exact hrun
/-- The variable is free at the head of each round. -/
theorem SL.free (h : SL n F units D f v s pf j s1 pf1) (hW : WF n F s) (h0 : valL s.va (v : Int) = 0) : valL s1.va (v : Int) = 0 := by
  have hlv' : lit n (v : Int) := ⟨by have := h.v1; omega, by have := h.vn; omega, by have := h.vn; omega⟩
  rcases h.inv.wf.tk.rng _ hlv' with q | q | q
  · exact q
  · have := (h.inv.wf.tk.pos _ hlv').1 q
    rw [h.tr] at this
    have := (hW.tk.pos _ hlv').2 this; omega
  · have := (h.inv.wf.tk.neg hlv').1 q
    rw [h.tr] at this
    have := (hW.tk.neg hlv').2 this; omega
end
end V
end Go.Proofs.Ytbomfekfebamkaa

/-
  refute's prover in memory; exclude, walked.
-/
namespace Go.Proofs.Ytbomfekfebamkaa
open Go.RowKit Go.Maps
set_option linter.unusedSimpArgs false
set_option linter.unusedVariables false
/-- The prover: its engine, its box, its list of clauses. -/
structure PrAt (w : World) (B bp b : Nat) (s : V.En) (us : List Int) (em : Bool) (G : EG) (US : Value) (pf : List (List Int)) (PV : Value) (hs : List Value) : Prop where
  eng : EngR w B b s (fun _ => False) us em G US
  row : Row w bp 49 [.pointer (some ⟨b, 0, none⟩), PV]
  hbp : B ≤ bp
  obp : G.O bp = .decs
  pv : Hd w G.O B .decs 26 1 PV hs.length hs
  pvn : PV.ownBlock ≠ some bp
  hl : hs.length = pf.length
  cs : ∀ k, k < pf.length → Hd w G.O B .none 3 1 (hs.getD k undef) (pf.getD k []).length (ints (pf.getD k []))
/-- What a step on the prover keeps. -/
structure KeepP (B : Nat) (w w' : World) (G G' : EG) : Prop where
  below : Below B w w'
  own : ∀ g, g < w.heap.size → G'.O g = G.O g
  non : ∀ g, g < w.heap.size → G.O g = .none → w'.heap[g]? = w.heap[g]?
theorem KeepP.refl (B : Nat) (w : World) (G : EG) : KeepP B w w G G := ⟨Below.refl _ _, fun _ _ => rfl, fun _ _ _ => rfl⟩
theorem KeepP.trans {B : Nat} {w w1 w' : World} {G G1 G' : EG} (h : KeepP B w w1 G G1) (k : KeepP B w1 w' G1 G') : KeepP B w w' G G' :=
  ⟨h.below.trans k.below, fun g hg => (k.own g (Nat.lt_of_lt_of_le hg h.below.size)).trans (h.own g hg), fun g hg h1 => (k.non g (Nat.lt_of_lt_of_le hg h.below.size) (by rw [h.own g hg]; exact h1)).trans (h.non g hg h1)⟩
theorem KeepN.toP {B : Nat} {w w' : World} {G G' : EG} (h : KeepN B w w' G G') : KeepP B w w' G G' := ⟨h.below, h.own, fun g hg h1 => h.non g hg (by rw [h1]; trivial)⟩
/-- What a call on the prover leaves. -/
def PPo (w w' : World) (B bp b : Nat) (us : List Int) (em : Bool) (G : EG) (US : Value) (s : V.En) (pf : List (List Int)) : Prop :=
  ∃ (G' : EG) (PV' : Value) (hs' : List Value), PrAt w' B bp b s us em G' US pf PV' hs' ∧ KeepP B w w' G G'
section
variable {w w' : World} {B bp b : Nat} {s : V.En} {us : List Int} {em : Bool} {G : EG} {US : Value} {pf : List (List Int)} {PV : Value} {hs : List Value}
/-- A block that stays keeps an owned row. -/
theorem Hd.stay {O O' : Nat → Ow} {t : Ow} {T : TypeId} {sz n : Nat} {v : Value} {xs : List Value} (h : Hd w O B t T sz v n xs) (hk : ∀ g, g < w.heap.size → O g = t → w'.heap[g]? = w.heap[g]?) (ho : ∀ g, g < w.heap.size → O' g = O g) : Hd w' O' B t T sz v n xs := by
  refine ⟨⟨h.1.1, ?_⟩, fun g hg => (ho g (own_lt h.1 g hg)).trans (h.2 g hg)⟩
  rcases h.1.2 with e | ⟨g, cap, cur, e, hb, hg, r⟩
  · exact .inl e
  · have hlt := (h.1.lt g (by rw [e]; rfl)).2
    exact .inr ⟨g, cap, cur, e, hb, (hk g hlt (h.2 g (by rw [e]; rfl))).trans hg, r⟩
/-- A step on the engine alone. -/
theorem PrAt.engine (h : PrAt w B bp b s us em G US pf PV hs) {s' : V.En} {G' : EG} (E : EngR w' B b s' (fun _ => False) us em G' US) (K : KeepN B w w' G G') : PrAt w' B bp b s' us em G' US pf PV hs :=
  ⟨E, (K.non bp h.row.lt (by rw [h.obp]; trivial)).trans h.row, h.hbp, (K.own bp h.row.lt).trans h.obp, h.pv.stay (fun g hg e => K.non g hg (by rw [e]; trivial)) K.own, h.pvn, h.hl, fun k hk => (h.cs k hk).stay (fun g hg e => K.non g hg (by rw [e]; trivial)) K.own⟩
theorem EngR.growF {X : Int → Prop} {row : Option Nat} (h : EngR w B b s X us em G US) (hg : w.grownBy w' row) (hr : ∀ k, row = some k → fre (G.O k)) : EngR w' B b s X us em G US := by
  have hf : ∀ o, fre o → foreign o := fun o ho => by cases o <;> first | exact ho | trivial
  refine ⟨h.core.grow hg (fun k e => hf _ (hr k e)), h.row.grown hg (fun e => ?_), h.hb, h.ob, h.us.grow hg (fun k e he => ?_)⟩
  · have := hr b e.symm; rw [h.ob] at this; exact this
  · have := hr k e; rw [he] at this; exact this
theorem EngR.setF {X : Int → Prop} (h : EngR w B b s X us em G US) {p : Addr} (hp : fre (G.O p.block)) (u : Value) : EngR (w.setCell p u) B b s X us em G US := by
  have hf : ∀ o, fre o → foreign o := fun o ho => by cases o <;> first | exact ho | trivial
  refine ⟨h.core.set (hf _ hp) u, h.row.far (fun e => ?_) u, h.hb, h.ob, h.us.far (fun e => ?_) u⟩
  · have := h.ob; rw [e] at this; rw [this] at hp; exact hp
  · rw [e] at hp; exact hp
/-- Blocks laid since are nobody's. -/
theorem PrAt.newer (h : PrAt w B bp b s us em G US pf PV hs) (hb : Below w.heap.size w w') : PrAt w' B bp b s us em { G with O := newO G.O w.heap.size .none } US pf PV hs :=
  ⟨(h.eng.reNew .none).below hb, rowCells h.row hb, h.hbp, (newO_old h.row.lt).trans h.obp, (h.pv.reNew .none).below hb, h.pvn, h.hl, fun k hk => ((h.cs k hk).reNew .none).below hb⟩
theorem KeepP.newer (hb : Below w.heap.size w w') (hB : B ≤ w.heap.size) : KeepP B w w' G { G with O := newO G.O w.heap.size .none } :=
  ⟨hb.mono hB, fun g hg => newO_old hg, fun g hg _ => hb.block g hg⟩
/-- A clause is put behind the proof. -/
theorem PrAt.addProof {w1 w2 : World} (h : PrAt w1 B bp b s us em G US pf PV hs) {c : List Int} {cv v' : Value} (hc : Hd w1 G.O B .none 3 1 cv c.length (ints c)) {o : Obj}
    (hown : w2.ownsRow B 26 1 v' (hs.length + 1) (hs ++ [cv])) (hg : (w1.alloc o).grownBy w2 PV.ownBlock) (hat : v'.ownBlock = PV.ownBlock ∨ v'.ownBlock = some (w1.alloc o).heap.size) :
    PrAt (w2.setCell ⟨bp, 1, none⟩ v') B bp b s us em { G with O := newO G.O (w1.alloc o).heap.size .decs } US (pf ++ [c]) v' (hs ++ [cv]) ∧ Row w2 bp 49 [.pointer (some ⟨b, 0, none⟩), PV] ∧
    KeepP B w1 (w2.setCell ⟨bp, 1, none⟩ v') G { G with O := newO G.O (w1.alloc o).heap.size .decs } := by
  have hlt := h.row.lt
  have hsz : w1.heap.size < (w1.alloc o).heap.size := by simp
  have hB : B ≤ w1.heap.size := by have := h.hbp; omega
  have hp1 : ∀ k, PV.ownBlock = some k → k < w1.heap.size ∧ G.O k = .decs := fun k e => ⟨own_lt h.pv.1 k e, h.pv.2 k e⟩
  have hold : ∀ g, g < w1.heap.size → newO G.O (w1.alloc o).heap.size .decs g = G.O g := fun g hgg => newO_old (by omega)
  have hE := ((h.eng.alloc o).reNew .decs).growF hg (fun k e => by
    show fre (newO G.O _ .decs k); rw [hold k (hp1 k e).1, (hp1 k e).2]; trivial)
  have hr : Row w2 bp 49 [.pointer (some ⟨b, 0, none⟩), PV] := (h.row.alloc o).grown hg (fun e => h.pvn e.symm)
  have hobp : newO G.O (w1.alloc o).heap.size .decs bp = .decs := (hold bp hlt).trans h.obp
  have hcs : ∀ {k : Nat} {v : Value} {n : Nat} {xs : List Value}, Hd w1 G.O B .none 3 1 v n xs → Hd (w2.setCell ⟨bp, 1, none⟩ v') (newO G.O (w1.alloc o).heap.size .decs) B .none 3 1 v n xs := fun {k v n xs} hh => by
    refine hh.stay (fun g hgg e => ?_) hold
    have e1 : g ≠ bp := fun e2 => by rw [e2, h.obp] at e; cases e
    refine (Below.heap_setCell _ _ _ _ e1).trans ((hg.block g (by omega) (fun e2 => ?_)).trans (Below.heap_alloc _ _ _ hgg))
    have := (hp1 g e2.symm).2; rw [e] at this; cases this
  refine ⟨⟨hE.setF (p := ⟨bp, 1, none⟩) (by show fre (newO G.O _ .decs bp); rw [hobp]; trivial) _, hr.set 1 _, h.hbp, hobp, ?_, ?_, by simp [h.hl], fun k hk => ?_⟩, hr, ?_, hold, fun g hgg e => ?_⟩
  · have h2 := (h.pv.alloc o).app hown hat
    have hn : v'.ownBlock ≠ some bp := fun e => by
      rcases hat with q | q
      · exact h.pvn (q.symm.trans e)
      · rw [q] at e; injection e with e; omega
    refine ⟨own_far (by simpa using h2.1) hn _, h2.2⟩
  · intro e
    rcases hat with q | q
    · exact h.pvn (q.symm.trans e)
    · rw [q] at e; injection e with e; omega
  · simp only [List.length_append, List.length_singleton] at hk
    rcases Nat.lt_or_ge k pf.length with hl | hge
    · have e1 : (hs ++ [cv]).getD k undef = hs.getD k undef := by
        simp only [List.getD_eq_getElem?_getD]; rw [List.getElem?_append_left (by rw [h.hl]; exact hl)]
      have e2 : (pf ++ [c]).getD k [] = pf.getD k [] := by
        simp only [List.getD_eq_getElem?_getD]; rw [List.getElem?_append_left hl]
      rw [e1, e2]
      exact hcs (k := k) (h.cs k hl)
    · obtain rfl : k = pf.length := by omega
      have e1 : (hs ++ [cv]).getD pf.length undef = cv := by rw [← h.hl]; simp [List.getD_eq_getElem?_getD]
      have e2 : (pf ++ [c]).getD pf.length [] = c := by simp [List.getD_eq_getElem?_getD]
      rw [e1, e2]
      exact hcs (k := pf.length) hc
  · exact (((Below.refl B w1).alloc hB o).grown hg (by omega) (fun k e => (h.pv.1.lt k e).1)).setCell h.hbp _
  · have e1 : g ≠ bp := fun e2 => by rw [e2, h.obp] at e; cases e
    refine (Below.heap_setCell _ _ _ _ e1).trans ((hg.block g (by omega) (fun e2 => ?_)).trans (Below.heap_alloc _ _ _ hgg))
    have := (hp1 g e2.symm).2; rw [e] at this; cases this
end
set_option maxRecDepth 100000 in
set_option maxHeartbeats 4000000 in
theorem pExcl_any (B bp b n : Nat) (s : V.En) (us : List Int) (em : Bool) (G : EG) (US : Value) (pf : List (List Int)) (PV : Value) (hs : List Value) (A : Option Addr) (m c : Nat) (D : List Int) (w : World) (h : PrAt w B bp b s us em G US pf PV hs) (hn : n ≤ 1000000) (hm : m ≤ 1000000) (hr : Rd w w.heap.size 1 A m (ints D)) (hl : ∀ x ∈ D, V.lit n x) :
    Calls Try.prog 34 #[.pointer (some ⟨bp, 0, none⟩), .slice A m c] w fun e w' => e = .returned (.int .i64 ((V.exclP s D pf).2.2 : Nat)) ∧ PPo w w' B bp b us em G US (V.exclP s D pf).1 (V.exclP s D pf).2.1 := by
  have H := Lib.hid h
  have HRD := Lib.hid hr
  have HDX := Lib.hid hl
  have hdl : D.length = m := by have := hr.1; simpa using this
  have HDL := Lib.hid (show D.length = m from hdl)
  have hBw : B ≤ w.heap.size := by have := h.row.lt; have := h.hbp; omega
  clear h hr hl hdl
  obtain ⟨q, hq⟩ : ∃ q, V.exclP s D pf = q := ⟨_, rfl⟩
  have HQ : Hid (∀ _ : Unit, V.exclP s D pf = q) := fun _ => hq
  rw [hq]
  clear hq
  go_enter Try.func34, Try.ntmps34
  go_wp2_with fail
  have hE0 : Hid ((World.alloc w (.cells #[] 3)).ownsRow w.heap.size 3 1 (.slice (some ⟨w.heap.size, 0, none⟩) 0 0) 0 []) := Row.own (xs := []) (Row.new _ _ _) (Nat.le_refl _) rfl (by unfold maxLen; omega)
  have hB0 : Hid (Below w.heap.size w (World.alloc w (.cells #[] 3))) := (show Below _ _ _ by go_grown)
  go_loopg [5, 7, 11] m (fun gg s5 _ s11 wr => ∃ (i cc : Nat) (CA : Option Addr), i ≤ m ∧ m - i ≤ gg ∧ s11 = .int .i64 (i : Int) ∧ s5 = .slice CA i cc ∧ Aside (wr.ownsRow w.heap.size 3 1 (.slice CA i cc) i (ints (V.negs (D.take i))) ∧ Below w.heap.size w wr))
  case atStart => exact ⟨0, 0, _, Nat.zero_le _, by omega, rfl, rfl, hE0.out, hB0.out⟩
  case round =>
    obtain ⟨i, cc, CA, hi, hgg, rfl, rfl, hv⟩ := hrel
    have HO := Lib.hid hv.out.1
    have HB := Lib.hid hv.out.2
    clear hv
    by_cases hlt : i < m
    · have hltz : (i : Int) < (m : Int) := by omega
      have hiD : i < D.length := by have := HDL.out; omega
      obtain ⟨ad, rfl, hb, hcell0⟩ := HRD.out.int hlt
      have hcell : wr.cell? (ad.add i) = some (.int .i64 (D.getD i 0)) := (HB.out.cell (by rw [add_block]; exact hb)).trans hcell0
      obtain ⟨x, hx⟩ : ∃ x, D.getD i 0 = x := ⟨_, rfl⟩
      have hxl : V.lit n x := HDX.out x (by rw [← hx, List.getD_eq_getElem?_getD, List.getElem?_eq_getElem hiD]; exact List.getElem_mem _)
      have x1 := hxl.2.1
      have x2 := hxl.2.2
      have hwx : IntKind.i64.wrap (-x) = -x := IntWalk.i64_in _ (by omega)
      have htk : V.negs (D.take (i + 1)) = V.negs (D.take i) ++ [-x] := by
        have e : D[i] = x := by rw [← hx, List.getD_eq_getElem?_getD, List.getElem?_eq_getElem hiD]; rfl
        unfold V.negs
        rw [List.take_succ_eq_append_getElem hiD, e, List.map_append]; rfl
      have HTK := Lib.hid (show V.negs (D.take (i + 1)) = V.negs (D.take i) ++ [-x] from htk)
      rw [hx] at hcell
      have hsz := HB.out.size
      clear hx hxl hcell0 htk x1 x2 hb
      go_wp2_with (at_builtin; refine wpList_app rfl (.tmp 15) (.tmp 18) 26 rfl w.heap.size 3 (.int .i64 0) 1 8 Try.underlying26 int_infoV rfl (by decide) (by decide) (.slice CA i cc) i (ints (V.negs (D.take i))) rfl ?own (wr.heap.size + 1) (some ⟨wr.heap.size, 0, none⟩) 1 1 [.int .i64 (-x)] rfl ?rd ?one ?hb ?hbase ?_)
      case own => exact HO.out.alloc _
      case rd => exact Rd.lit wr #[.int .i64 (-x)] 3 (sz := 1) (m := 1) rfl
      case one => first | (intro u hu; simp at hu; subst hu; rfl) | rfl
      case hb => omega
      case hbase => first | (simp; omega) | omega
      intro v' w8 hown' hgrow' hat'
      obtain ⟨A8, c8, rfl, _⟩ := Rd.own hown'
      have HO8 : Hid (w8.ownsRow w.heap.size 3 1 (.slice A8 (i + 1) c8) (i + 1) (ints (V.negs (D.take (i + 1))))) := by
        show World.ownsRow _ _ _ _ _ _ _
        rw [HTK.out, ints_snoc]; exact hown'
      have HB8 : Hid (Below w.heap.size w w8) := (HB.out.alloc hsz _).grown hgrow' (by simp; omega) (fun k e => (HO.out.lt k e).1)
      clear hown' hgrow' hat' hcell
      go_wp2
      go_roundg (m - (i + 1))
      case measure => omega
      case rel => exact ⟨i + 1, c8, A8, by omega, by omega, by go_num, rfl, HO8.out, HB8.out⟩
    · have hltz : ¬ (i : Int) < (m : Int) := by omega
      have him : m = i := by omega
      subst him
      have hO : wr.ownsRow w.heap.size 3 1 (.slice CA m cc) m (ints (V.negs D)) := by
        have := HO.out; rw [List.take_of_length_le (by have := HDL.out; omega)] at this; exact this
      have HO2 := Lib.hid hO
      have HP := Lib.hid (H.out.newer HB.out)
      have HK := Lib.hid (KeepP.newer (G := G) HB.out hBw)
      have HC : Hid (Hd wr ({ G with O := newO G.O w.heap.size .none } : EG).O B .none 3 1 (.slice CA m cc) m (ints (V.negs D))) := Hd.new0 hO hBw
      have hnl : (V.negs D).length = m := by simp [V.negs]; exact HDL.out
      have HNL := Lib.hid (show (V.negs D).length = m from hnl)
      clear hO HO hnl
      revert HP HK HC
      generalize ({ G with O := newO G.O w.heap.size .none } : EG) = G1
      intro HP HK HC
      have RP : Hid (Row wr bp 49 [.pointer (some ⟨b, 0, none⟩), PV]) := HP.out.row
      have k0 := RP.out.cell 0
      have k1 := RP.out.cell 1
      have kl := RP.out.lt
      simp only [List.getElem?_cons_zero, List.getElem?_cons_succ] at k0 k1
      obtain ⟨PA, pc, hPV, _⟩ := HP.out.pv.rd
      have HPV : Hid (∀ _ : Unit, PV = .slice PA hs.length pc) := fun _ => hPV
      rw [hPV] at k1
      have HHL : Hid (∀ _ : Unit, hs.length = pf.length) := fun _ => HP.out.hl
      clear hPV
      by_cases hbig : 262144 ≤ hs.length
      · have hbz : (262144 : Int) ≤ (hs.length : Int) := by omega
        have hq2 : q = (s, pf, 2) := by rw [← HQ.out ()]; unfold V.exclP V.maxC; rw [if_pos (by rw [← HHL.out ()]; exact hbig)]
        have HQ2 := Lib.hid (show Hid (∀ _ : Unit, q = (s, pf, 2)) from fun _ => hq2)
        clear hq2
        go_wp2
        go_ret
        rw [HQ2.out.out ()]
        exact ⟨rfl, G1, PV, hs, HP.out, HK.out⟩
      · have hbz : ¬ (262144 : Int) ≤ (hs.length : Int) := by omega
        have hq2 : q = (s, pf ++ [V.negs D], 0) := by rw [← HQ.out ()]; unfold V.exclP V.maxC; rw [if_neg (by rw [← HHL.out ()]; exact hbig)]
        have HQ2 := Lib.hid (show Hid (∀ _ : Unit, q = (s, pf ++ [V.negs D], 0)) from fun _ => hq2)
        clear hq2
        have hBr : B ≤ wr.heap.size := Nat.le_trans hBw HB.out.size
        go_wp2_with (at_builtin; refine wpList_app rfl (.tmp 31) (.tmp 33) 22 rfl B 26 (.slice none 0 0) 1 24 Try.underlying22 row_infoV rfl (by decide) (by decide) (.slice PA hs.length pc) hs.length hs rfl ?own (wr.heap.size + 1) (some ⟨wr.heap.size, 0, none⟩) 1 1 [.slice CA m cc] rfl ?rd ?one ?hb ?hbase ?_)
        case own => exact (by have := HP.out.pv.1; rw [HPV.out ()] at this; exact this.alloc _)
        case rd => exact Rd.lit wr #[.slice CA m cc] 26 (sz := 1) (m := 1) rfl
        case one => first | (intro u hu; simp at hu; subst hu; rfl) | rfl
        case hb => omega
        case hbase => first | (simp; omega) | omega
        intro v' w8 hown' hgrow' hat'
        obtain ⟨A8, c8, rfl, _⟩ := Rd.own hown'
        have hgr : (World.alloc wr (.cells #[.slice CA m cc] 26)).grownBy w8 PV.ownBlock := by rw [HPV.out ()]; exact hgrow'
        have hat : (Value.slice A8 (hs.length + 1) c8).ownBlock = PV.ownBlock ∨ (Value.slice A8 (hs.length + 1) c8).ownBlock = some (World.alloc wr (.cells #[.slice CA m cc] 26)).heap.size := by rw [HPV.out (), World.size_alloc]; exact hat'
        obtain ⟨hP8, hR8, hK8⟩ := HP.out.addProof (c := V.negs D) (cv := .slice CA m cc) (by rw [HNL.out]; exact HC.out) hown' hgr hat
        have HP8 := Lib.hid hP8
        have HK8 := Lib.hid hK8
        have R8 := Lib.hid hR8
        clear hP8 hR8 hK8 hgr hat hown' hgrow' hat' k0 k1 kl RP
        have k0 := R8.out.cell 0
        have k1 := R8.out.cell 1
        have kl := R8.out.lt
        simp only [List.getElem?_cons_zero, List.getElem?_cons_succ] at k0 k1
        have kf0 := R8.out.frozen 0
        have kf1 := R8.out.frozen 1
        go_wp2
        go_ret
        rw [HQ2.out.out ()]
        exact ⟨rfl, _, _, _, HP8.out, HK.out.trans HK8.out⟩
end Go.Proofs.Ytbomfekfebamkaa

/-
  refute's prover: the method search, walked.
-/
namespace Go.Proofs.Ytbomfekfebamkaa
open Go.RowKit Go.Maps
set_option linter.unusedSimpArgs false
set_option linter.unusedVariables false
theorem Hd.rdS {w : World} {O : Nat → Ow} {B : Nat} {t : Ow} {T : TypeId} {sz n c : Nat} {A : Option Addr} {xs : List Value} (h : Hd w O B t T sz (.slice A n c) n xs) : Rd w w.heap.size sz A n xs := Rd.of_own h.1
/-- What the loop over both sides knows of the memory. -/
structure SW (n : Nat) (F : List (List Int)) (us D : List Int) (f v : Nat) (s : V.En) (pf : List (List Int)) (j : Nat) (s1 : V.En) (pf1 : List (List Int)) (B bp b : Nat) (em : Bool) (G G1 : EG) (US PV : Value) (hs : List Value) (w wr : World) : Prop where
  sl : V.SL n F us D f v s pf j s1 pf1
  pr : PrAt wr B bp b s1 us em G1 US pf1 PV hs
  keep : KeepP B w wr G G1
set_option maxRecDepth 100000 in
set_option maxHeartbeats 8000000 in
theorem pSearch_any (B bp b n : Nat) (F : List (List Int)) (us : List Int) (em : Bool) (US : Value) (hn : n ≤ 1000000) (hF : F.length ≤ 1000000) (hul : ∀ u ∈ us, V.lit n u) : ∀ (f : Nat) (s : V.En) (D : List Int) (pf : List (List Int)) (G : EG) (PV : Value) (hs : List Value) (A : Option Addr) (m c : Nat) (w : World),
    PrAt w B bp b s us em G US pf PV hs → V.PInv n F us D s → (∀ d ∈ D, V.lit n d) → n + 1 < f + s.tr.length → pf.length + 2 ^ (f + 1) ≤ V.maxC → Hd w G.O B .none 3 1 (.slice A m c) m (ints D) → m + f ≤ 1000000 →
    Calls Try.prog 17 #[.pointer (some ⟨bp, 0, none⟩), .slice A m c] w fun e w' => e = .returned (.int .i64 ((V.searchP n f s D pf).2.2 : Nat)) ∧ PPo w w' B bp b us em G US (V.searchP n f s D pf).1 (V.searchP n f s D pf).2.1 := by
  intro f
  induction f with
  | zero =>
    intro s D pf G PV hs A m c w h hI hD hf hpf hd hm
    have := hI.wf.tk.le; omega
  | succ f ih =>
    intro s D pf G PV hs A m c w h hI hD hf hpf hd hm
    have H := Lib.hid h
    have HI := Lib.hid hI
    have HDL := Lib.hid hD
    have HD := Lib.hid hd
    have HLEN := Lib.hid hpf
    have hvl := hI.wf.tk.len
    obtain ⟨gv, cv, hVA, _, _, _, hcv, hcellv, _⟩ := h.eng.core.va.at_ (i := 0) (by omega)
    rw [hvl] at hVA
    obtain ⟨AT, ct, hTR, _⟩ := h.eng.core.tr.rd
    have RP : Hid (Row w bp 49 [.pointer (some ⟨b, 0, none⟩), PV]) := h.row
    have RE : Hid (Row w b 46 [G.CL, .map (some G.mb), US, .bool em, G.VA, G.TR, .int .i64 (s.hd : Int)]) := h.eng.row
    have HCV := Lib.hid hcellv
    have HVL : Hid (∀ _ : Unit, s.va.length = n + 1) := fun _ => hvl
    have k0 := RP.out.cell 0
    have k1 := RP.out.cell 1
    have kl := RP.out.lt
    simp only [List.getElem?_cons_zero, List.getElem?_cons_succ] at k0 k1
    have e0 := RE.out.cell 0
    have e1 := RE.out.cell 1
    have e2 := RE.out.cell 2
    have e3 := RE.out.cell 3
    have e4 := RE.out.cell 4
    have e5 := RE.out.cell 5
    have e6 := RE.out.cell 6
    have el := RE.out.lt
    simp only [List.getElem?_cons_zero, List.getElem?_cons_succ] at e0 e1 e2 e3 e4 e5 e6
    rw [hVA] at e4
    rw [hTR] at e5
    clear h hI hD hd hpf hVA hTR hcellv hvl hcv
    obtain ⟨q, hq⟩ : ∃ q, V.searchP n (f + 1) s D pf = q := ⟨_, rfl⟩
    have HQ : Hid (∀ _ : Unit, V.searchP n (f + 1) s D pf = q) := fun _ => hq
    rw [hq]
    clear hq
    go_enter Try.func17, Try.ntmps17
    go_wp2_with fail
    go_loopg [5] (n + 1) (fun gg s5 wr => ∃ v : Nat, 1 ≤ v ∧ v ≤ n + 1 ∧ n + 1 - v ≤ gg ∧ s5 = .int .i64 (v : Int) ∧ w = wr ∧ Aside (∀ u, 1 ≤ u → u < v → s.va.getD u 0 ≠ 0))
    case atStart => exact ⟨1, Nat.le_refl _, by omega, by omega, rfl, rfl, fun u h1 h2 => absurd h1 (by omega)⟩
    case round =>
      obtain ⟨v, hv1, hvn, hgg, rfl, rfl, hno⟩ := hrel
      have HNO := Lib.hid (show ∀ u, 1 ≤ u → u < v → s.va.getD u 0 ≠ 0 from hno)
      clear hno
      by_cases hlt : v ≤ n
      · have hltz : (v : Int) < (n : Int) + 1 := by omega
        have hne : ¬ (v : Int) = (n : Int) + 1 := by omega
        have hnb : ((v : Int) == (n : Int) + 1) = false := by simpa using hne
        have hv0 : (0 : Int) ≤ (v : Int) := by omega
        obtain ⟨u, hu⟩ : ∃ u, s.va.getD v 0 = u := ⟨_, rfl⟩
        have HU : Hid (∀ _ : Unit, s.va.getD v 0 = u) := fun _ => hu
        have vc : w.cell? ⟨gv, v, none⟩ = some (.int .i8 u) := by
          rw [← hu]; exact HCV.out _ _ (i8s_get _ _ (by rw [HVL.out ()]; omega))
        clear hu
        by_cases hu0 : u = 0
        · subst hu0
          have hL : V.leastU s.va n = some v := least_hit hv1 hlt (HU.out ()) HNO.out
          have HV0 : Hid (∀ _ : Unit, V.valL s.va (v : Int) = 0) := fun _ => by rw [V.val_nat]; exact HU.out ()
          have hln : pf.length + (2 - 0) * 2 ^ (f + 1) ≤ V.maxC := by
            have h1 := HLEN.out
            have h2 : 2 ^ (f + 1 + 1) = 2 ^ (f + 1) + 2 ^ (f + 1) := by rw [Nat.pow_succ]; omega
            omega
          have HSL : Hid (SW n F us D f v s pf 0 s pf B bp b em G G US PV hs w w) := ⟨⟨V.search_some hL, HI.out, rfl, hln, hv1, hlt⟩, H.out, KeepP.refl _ _ _⟩
          clear hln
          have hwv : IntKind.i64.wrap (-(v : Int)) = -(v : Int) := IntWalk.i64_in _ (by omega)
          clear hL HNO HCV
          go_wp2_with fail
          clear k0 k1 kl e0 e1 e2 e3 e4 e5 e6 el vc RP RE hwv
          go_loopg [8, 9, 10, 58] 2 (fun gg _ _ _ s58 wr => ∃ (j : Nat) (s1 : V.En) (pf1 : List (List Int)) (G1 : EG) (PV1 : Value) (hs1 : List Value), j ≤ 2 ∧ 2 - j ≤ gg ∧ s58 = .int .i64 (j : Int) ∧ Aside (SW n F us D f v s pf j s1 pf1 B bp b em G G1 US PV1 hs1 w wr))
          case atStart => exact ⟨0, s, pf, G, PV, hs, by omega, by omega, rfl, HSL.out⟩
          case round =>
            rename World => wr
            obtain ⟨j, s1, pf1, G1, PV1, hs1, hj, hgj, rfl, hv⟩ := hrel
            have HV : Hid (SW n F us D f v s pf j s1 pf1 B bp b em G G1 US PV1 hs1 w wr) := hv
            clear hv HSL
            by_cases hj2 : j < 2
            · rcases (show j = 0 ∨ j = 1 by omega) with rfl | rfl
              · skip
                have hso : V.SO n F us D f v s pf 0 s1 pf1 (-(v : Int)) (V.propF (n + 2) (s1.put (-(v : Int)))) := HV.out.sl.side nrm_mem hul HDL.out (by omega) (HV.out.sl.free HI.out.wf (HV0.out ())) hf
                have HSO := Lib.hid hso
                obtain ⟨x, hx⟩ : ∃ x, (-(v : Int)) = x := ⟨_, rfl⟩
                rw [hx] at HSO
                have hix : ∀ W, (Instr.index 69 (.agg #[.int .i64 (-(v : Int)), .int .i64 (v : Int)]) (.int .i64 0)).run Try.prog W = .ok (.int .i64 x) W := fun W => by rw [← hx]; kernel_rfl
                have HXX : Hid (∀ _ : Unit, (-(v : Int)) = x) := fun _ => hx
                have HDr : Hid (Hd wr G1.O B .none 3 1 (.slice A m c) m (ints D)) := HD.out.stay HV.out.keep.non HV.out.keep.own
                have HCL := Lib.hid (clone_ints A m c D wr HDr.out.rdS (by omega))
                clear hso hx
                go_wp2_with fail
                with_reducible refine HCL.out.mono ?_
                rintro e w5 ⟨A5, c5, rfl, hown5, hb5⟩
                have HO5 := Lib.hid hown5
                have HB5 := Lib.hid hb5
                clear hown5 hb5 HCL
                have hsz5 := HB5.out.size
                go_wp2_with (at_builtin; refine wpList_app rfl (.tmp 62) (.tmp 64) 26 rfl wr.heap.size 3 (.int .i64 0) 1 8 Try.underlying26 int_infoV rfl (by decide) (by decide) (.slice A5 m c5) m (ints D) rfl ?own (w5.heap.size + 1) (some ⟨w5.heap.size, 0, none⟩) 1 1 [.int .i64 x] rfl ?rd ?one ?hb ?hbase ?_)
                case own => exact HO5.out.alloc _
                case rd => exact Rd.lit w5 #[.int .i64 x] 3 (sz := 1) (m := 1) rfl
                case one => first | (intro u hu; simp at hu; subst hu; rfl) | rfl
                case hb => omega
                case hbase => first | (simp; omega) | omega
                intro v' w6 hown' hgrow' hat'
                obtain ⟨A6, c6, rfl, _⟩ := Rd.own hown'
                have hB6 : Below wr.heap.size wr w6 := (HB5.out.alloc hsz5 _).grown hgrow' (by simp; omega) (fun k e => (HO5.out.lt k e).1)
                have hBr : B ≤ wr.heap.size := by have h1 := HV.out.pr.row.lt; have h2 := HV.out.pr.hbp; omega
                have HP6 := Lib.hid (HV.out.pr.newer hB6)
                have HK6 := Lib.hid (HV.out.keep.trans (KeepP.newer (G := G1) hB6 hBr))
                have HM6 : Hid (Hd w6 ({ G1 with O := newO G1.O wr.heap.size .none } : EG).O B .none 3 1 (.slice A6 (m + 1) c6) (m + 1) (ints (D ++ [x]))) := by
                  show Hd _ _ _ _ _ _ _ _ _
                  rw [ints_snoc]; exact Hd.new0 hown' hBr
                clear hown' hgrow' hat' hB6 hsz5 HO5 HB5 HDr
                revert HP6 HK6 HM6
                generalize ({ G1 with O := newO G1.O wr.heap.size .none } : EG) = G6
                intro HP6 HK6 HM6
                have RP6 : Hid (Row w6 bp 49 [.pointer (some ⟨b, 0, none⟩), PV1]) := HP6.out.row
                have HST := pSet_any B b n s1 (fun _ => False) us em G6 US x w6 HP6.out.eng hn HSO.out.lx HV.out.sl.inv.wf.tk (by have := HV.out.sl.inv.wf.tk.le; omega)
                have e1 : setB s1 x = true := by unfold setB; rw [HSO.out.val]; rfl
                have e2 : setP s1 x = s1.put x := by unfold setP; rw [if_pos HSO.out.val]
                rw [e1, e2] at HST
                have HST := Lib.hid HST
                clear e1 e2
                have k0 := RP6.out.cell 0
                have k1 := RP6.out.cell 1
                have kl := RP6.out.lt
                simp only [List.getElem?_cons_zero, List.getElem?_cons_succ] at k0 k1
                go_wp2_with fail
                refine HST.out.mono ?_
                rintro e w7 ⟨G7, rfl, hE7, hK7⟩
                have HP7 := Lib.hid (HP6.out.engine hE7 hK7.toN)
                have HK7 := Lib.hid (HK6.out.trans hK7.toN.toP)
                have HM7 : Hid (Hd w7 G7.O B .none 3 1 (.slice A6 (m + 1) c6) (m + 1) (ints (D ++ [x]))) := HM6.out.stay hK7.toN.toP.non hK7.own
                have HPR := Lib.hid (pProp_any B b n F (s1.put x) us em G7 US w7 hE7 HSO.out.wput HSO.out.inv2 hn hF)
                have RP7 : Hid (Row w7 bp 49 [.pointer (some ⟨b, 0, none⟩), PV1]) := HP7.out.row
                clear hE7 hK7 HST k0 k1 kl RP6 HP6 HK6 HM6
                revert HSO HPR
                generalize V.propF (n + 2) (s1.put x) = p
                intro HSO HPR
                obtain ⟨p1, p2⟩ := p
                have k0 := RP7.out.cell 0
                have k1 := RP7.out.cell 1
                have kl := RP7.out.lt
                simp only [List.getElem?_cons_zero, List.getElem?_cons_succ] at k0 k1
                go_wp2_with fail
                refine HPR.out.mono ?_
                rintro e w8 ⟨rfl, G8, hE8, hK8⟩
                have HP8 := Lib.hid (HP7.out.engine hE8 hK8)
                have HK8 := Lib.hid (HK7.out.trans hK8.toP)
                have HM8 : Hid (Hd w8 G8.O B .none 3 1 (.slice A6 (m + 1) c6) (m + 1) (ints (D ++ [x]))) := HM7.out.stay hK8.toP.non hK8.own
                clear hE8 hK8 HPR k0 k1 kl RP7 HP7 HK7 HM7
                cases p2 with
                | true =>
                  have HCA := ih p1 (D ++ [x]) pf1 G8 PV1 hs1 A6 (m + 1) c6 w8 HP8.out (HSO.out.good rfl).1 (V.mem_snoc HDL.out HSO.out.lx) (HSO.out.good rfl).2 HSO.out.len HM8.out (by omega)
                  have HOUT := Lib.hid (HSO.out.out _ rfl)
                  simp only [if_true] at HOUT
                  revert HCA HOUT
                  generalize V.searchP n f p1 (D ++ [x]) pf1 = r
                  intro HCA HOUT
                  have HCA := Lib.hid HCA
                  go_wp2_with fail
                  refine HCA.out.mono ?_
                  clear HCA
                  rintro e w9 ⟨rfl, G9, PV9, hs9, hP9, hK9⟩
                  have HP9 := Lib.hid hP9
                  have HK9 := Lib.hid (HK8.out.trans hK9)
                  have RP9 : Hid (Row w9 bp 49 [.pointer (some ⟨b, 0, none⟩), PV9]) := hP9.row
                  have HUN := Lib.hid (pUndo_any B b n s.tr.length r.1 (fun _ => False) us em G9 US w9 hP9.eng HOUT.out.1.tk hn (by have := HOUT.out.2.1; rw [HV.out.sl.tr] at this; exact this))
                  clear hP9 hK9 HP8 HK8 HM8
                  have k0 := RP9.out.cell 0
                  have k1 := RP9.out.cell 1
                  have kl := RP9.out.lt
                  simp only [List.getElem?_cons_zero, List.getElem?_cons_succ] at k0 k1
                  go_wp2_with fail
                  refine HUN.out.mono ?_
                  rintro e wd ⟨rfl, Gd, hEd, hKd⟩
                  have HPd := Lib.hid (HP9.out.engine hEd hKd)
                  have HKd := Lib.hid (HK9.out.trans hKd.toP)
                  clear hEd hKd HUN k0 k1 kl RP9 HP9 HK9
                  have hoc := HOUT.out.2.2
                  rw [HV.out.sl.tr] at hoc
                  have HOC := Lib.hid hoc
                  clear hoc HOUT
                  obtain ⟨r1, r2, k⟩ := r
                  by_cases hk0 : k = 0
                  · subst hk0
                    have HN := Lib.hid (HOC.out.1 rfl)
                    clear HOC
                    go_wp2_with fail
                    go_roundg (2 - (0 + 1))
                    case measure => omega
                    case rel => exact ⟨0 + 1, _, _, _, _, _, by omega, by omega, by go_num, HN.out, HPd.out, HKd.out⟩
                  · have hkz : ((k : Int) != 0) = true := by simpa using hk0
                    have hkd : decide ((k : Int) = 0) = false := by simpa using hk0
                    have HRES := Lib.hid (show Hid (∀ _ : Unit, _) from fun _ => HOC.out.2 hk0)
                    have HK0 : Hid (∀ _ : Unit, ¬ k = 0) := fun _ => hk0
                    clear HOC hk0
                    go_wp2_with fail
                    refine bodyPost_ret (v := .int .i64 (k : Nat)) (by simp [results, Try.results17, go_sem]) rfl ?_
                    rw [← HQ.out (), HRES.out.out ()]
                    exact ⟨rfl, Gd, _, _, HPd.out, HKd.out⟩
                | false =>
                  have HCA := pExcl_any B bp b n p1 us em G8 US pf1 PV1 hs1 A6 (m + 1) c6 (D ++ [x]) w8 HP8.out hn (by omega) HM8.out.rdS (V.mem_snoc HDL.out HSO.out.lx)
                  have HOUT := Lib.hid (HSO.out.out _ rfl)
                  simp only [Bool.false_eq_true, if_false] at HOUT
                  revert HCA HOUT
                  generalize V.exclP p1 (D ++ [x]) pf1 = r
                  intro HCA HOUT
                  have HCA := Lib.hid HCA
                  go_wp2_with fail
                  refine HCA.out.mono ?_
                  clear HCA
                  rintro e w9 ⟨rfl, G9, PV9, hs9, hP9, hK9⟩
                  have HP9 := Lib.hid hP9
                  have HK9 := Lib.hid (HK8.out.trans hK9)
                  have RP9 : Hid (Row w9 bp 49 [.pointer (some ⟨b, 0, none⟩), PV9]) := hP9.row
                  have HUN := Lib.hid (pUndo_any B b n s.tr.length r.1 (fun _ => False) us em G9 US w9 hP9.eng HOUT.out.1.tk hn (by have := HOUT.out.2.1; rw [HV.out.sl.tr] at this; exact this))
                  clear hP9 hK9 HP8 HK8 HM8
                  have k0 := RP9.out.cell 0
                  have k1 := RP9.out.cell 1
                  have kl := RP9.out.lt
                  simp only [List.getElem?_cons_zero, List.getElem?_cons_succ] at k0 k1
                  go_wp2_with fail
                  refine HUN.out.mono ?_
                  rintro e wd ⟨rfl, Gd, hEd, hKd⟩
                  have HPd := Lib.hid (HP9.out.engine hEd hKd)
                  have HKd := Lib.hid (HK9.out.trans hKd.toP)
                  clear hEd hKd HUN k0 k1 kl RP9 HP9 HK9
                  have hoc := HOUT.out.2.2
                  rw [HV.out.sl.tr] at hoc
                  have HOC := Lib.hid hoc
                  clear hoc HOUT
                  obtain ⟨r1, r2, k⟩ := r
                  by_cases hk0 : k = 0
                  · subst hk0
                    have HN := Lib.hid (HOC.out.1 rfl)
                    clear HOC
                    go_wp2_with fail
                    go_roundg (2 - (0 + 1))
                    case measure => omega
                    case rel => exact ⟨0 + 1, _, _, _, _, _, by omega, by omega, by go_num, HN.out, HPd.out, HKd.out⟩
                  · have hkz : ((k : Int) != 0) = true := by simpa using hk0
                    have hkd : decide ((k : Int) = 0) = false := by simpa using hk0
                    have HRES := Lib.hid (show Hid (∀ _ : Unit, _) from fun _ => HOC.out.2 hk0)
                    have HK0 : Hid (∀ _ : Unit, ¬ k = 0) := fun _ => hk0
                    clear HOC hk0
                    go_wp2_with fail
                    refine bodyPost_ret (v := .int .i64 (k : Nat)) (by simp [results, Try.results17, go_sem]) rfl ?_
                    rw [← HQ.out (), HRES.out.out ()]
                    exact ⟨rfl, Gd, _, _, HPd.out, HKd.out⟩
              · skip
                have hso : V.SO n F us D f v s pf 1 s1 pf1 (v : Int) (V.propF (n + 2) (s1.put (v : Int))) := HV.out.sl.side nrm_mem hul HDL.out (by omega) (HV.out.sl.free HI.out.wf (HV0.out ())) hf
                have HSO := Lib.hid hso
                obtain ⟨x, hx⟩ : ∃ x, (v : Int) = x := ⟨_, rfl⟩
                rw [hx] at HSO
                have hix : ∀ W, (Instr.index 69 (.agg #[.int .i64 (-(v : Int)), .int .i64 (v : Int)]) (.int .i64 1)).run Try.prog W = .ok (.int .i64 x) W := fun W => by rw [← hx]; kernel_rfl
                have HXX : Hid (∀ _ : Unit, (v : Int) = x) := fun _ => hx
                have HDr : Hid (Hd wr G1.O B .none 3 1 (.slice A m c) m (ints D)) := HD.out.stay HV.out.keep.non HV.out.keep.own
                have HCL := Lib.hid (clone_ints A m c D wr HDr.out.rdS (by omega))
                clear hso hx
                go_wp2_with fail
                with_reducible refine HCL.out.mono ?_
                rintro e w5 ⟨A5, c5, rfl, hown5, hb5⟩
                have HO5 := Lib.hid hown5
                have HB5 := Lib.hid hb5
                clear hown5 hb5 HCL
                have hsz5 := HB5.out.size
                go_wp2_with (at_builtin; refine wpList_app rfl (.tmp 62) (.tmp 64) 26 rfl wr.heap.size 3 (.int .i64 0) 1 8 Try.underlying26 int_infoV rfl (by decide) (by decide) (.slice A5 m c5) m (ints D) rfl ?own (w5.heap.size + 1) (some ⟨w5.heap.size, 0, none⟩) 1 1 [.int .i64 x] rfl ?rd ?one ?hb ?hbase ?_)
                case own => exact HO5.out.alloc _
                case rd => exact Rd.lit w5 #[.int .i64 x] 3 (sz := 1) (m := 1) rfl
                case one => first | (intro u hu; simp at hu; subst hu; rfl) | rfl
                case hb => omega
                case hbase => first | (simp; omega) | omega
                intro v' w6 hown' hgrow' hat'
                obtain ⟨A6, c6, rfl, _⟩ := Rd.own hown'
                have hB6 : Below wr.heap.size wr w6 := (HB5.out.alloc hsz5 _).grown hgrow' (by simp; omega) (fun k e => (HO5.out.lt k e).1)
                have hBr : B ≤ wr.heap.size := by have h1 := HV.out.pr.row.lt; have h2 := HV.out.pr.hbp; omega
                have HP6 := Lib.hid (HV.out.pr.newer hB6)
                have HK6 := Lib.hid (HV.out.keep.trans (KeepP.newer (G := G1) hB6 hBr))
                have HM6 : Hid (Hd w6 ({ G1 with O := newO G1.O wr.heap.size .none } : EG).O B .none 3 1 (.slice A6 (m + 1) c6) (m + 1) (ints (D ++ [x]))) := by
                  show Hd _ _ _ _ _ _ _ _ _
                  rw [ints_snoc]; exact Hd.new0 hown' hBr
                clear hown' hgrow' hat' hB6 hsz5 HO5 HB5 HDr
                revert HP6 HK6 HM6
                generalize ({ G1 with O := newO G1.O wr.heap.size .none } : EG) = G6
                intro HP6 HK6 HM6
                have RP6 : Hid (Row w6 bp 49 [.pointer (some ⟨b, 0, none⟩), PV1]) := HP6.out.row
                have HST := pSet_any B b n s1 (fun _ => False) us em G6 US x w6 HP6.out.eng hn HSO.out.lx HV.out.sl.inv.wf.tk (by have := HV.out.sl.inv.wf.tk.le; omega)
                have e1 : setB s1 x = true := by unfold setB; rw [HSO.out.val]; rfl
                have e2 : setP s1 x = s1.put x := by unfold setP; rw [if_pos HSO.out.val]
                rw [e1, e2] at HST
                have HST := Lib.hid HST
                clear e1 e2
                have k0 := RP6.out.cell 0
                have k1 := RP6.out.cell 1
                have kl := RP6.out.lt
                simp only [List.getElem?_cons_zero, List.getElem?_cons_succ] at k0 k1
                go_wp2_with fail
                refine HST.out.mono ?_
                rintro e w7 ⟨G7, rfl, hE7, hK7⟩
                have HP7 := Lib.hid (HP6.out.engine hE7 hK7.toN)
                have HK7 := Lib.hid (HK6.out.trans hK7.toN.toP)
                have HM7 : Hid (Hd w7 G7.O B .none 3 1 (.slice A6 (m + 1) c6) (m + 1) (ints (D ++ [x]))) := HM6.out.stay hK7.toN.toP.non hK7.own
                have HPR := Lib.hid (pProp_any B b n F (s1.put x) us em G7 US w7 hE7 HSO.out.wput HSO.out.inv2 hn hF)
                have RP7 : Hid (Row w7 bp 49 [.pointer (some ⟨b, 0, none⟩), PV1]) := HP7.out.row
                clear hE7 hK7 HST k0 k1 kl RP6 HP6 HK6 HM6
                revert HSO HPR
                generalize V.propF (n + 2) (s1.put x) = p
                intro HSO HPR
                obtain ⟨p1, p2⟩ := p
                have k0 := RP7.out.cell 0
                have k1 := RP7.out.cell 1
                have kl := RP7.out.lt
                simp only [List.getElem?_cons_zero, List.getElem?_cons_succ] at k0 k1
                go_wp2_with fail
                refine HPR.out.mono ?_
                rintro e w8 ⟨rfl, G8, hE8, hK8⟩
                have HP8 := Lib.hid (HP7.out.engine hE8 hK8)
                have HK8 := Lib.hid (HK7.out.trans hK8.toP)
                have HM8 : Hid (Hd w8 G8.O B .none 3 1 (.slice A6 (m + 1) c6) (m + 1) (ints (D ++ [x]))) := HM7.out.stay hK8.toP.non hK8.own
                clear hE8 hK8 HPR k0 k1 kl RP7 HP7 HK7 HM7
                cases p2 with
                | true =>
                  have HCA := ih p1 (D ++ [x]) pf1 G8 PV1 hs1 A6 (m + 1) c6 w8 HP8.out (HSO.out.good rfl).1 (V.mem_snoc HDL.out HSO.out.lx) (HSO.out.good rfl).2 HSO.out.len HM8.out (by omega)
                  have HOUT := Lib.hid (HSO.out.out _ rfl)
                  simp only [if_true] at HOUT
                  revert HCA HOUT
                  generalize V.searchP n f p1 (D ++ [x]) pf1 = r
                  intro HCA HOUT
                  have HCA := Lib.hid HCA
                  go_wp2_with fail
                  refine HCA.out.mono ?_
                  clear HCA
                  rintro e w9 ⟨rfl, G9, PV9, hs9, hP9, hK9⟩
                  have HP9 := Lib.hid hP9
                  have HK9 := Lib.hid (HK8.out.trans hK9)
                  have RP9 : Hid (Row w9 bp 49 [.pointer (some ⟨b, 0, none⟩), PV9]) := hP9.row
                  have HUN := Lib.hid (pUndo_any B b n s.tr.length r.1 (fun _ => False) us em G9 US w9 hP9.eng HOUT.out.1.tk hn (by have := HOUT.out.2.1; rw [HV.out.sl.tr] at this; exact this))
                  clear hP9 hK9 HP8 HK8 HM8
                  have k0 := RP9.out.cell 0
                  have k1 := RP9.out.cell 1
                  have kl := RP9.out.lt
                  simp only [List.getElem?_cons_zero, List.getElem?_cons_succ] at k0 k1
                  go_wp2_with fail
                  refine HUN.out.mono ?_
                  rintro e wd ⟨rfl, Gd, hEd, hKd⟩
                  have HPd := Lib.hid (HP9.out.engine hEd hKd)
                  have HKd := Lib.hid (HK9.out.trans hKd.toP)
                  clear hEd hKd HUN k0 k1 kl RP9 HP9 HK9
                  have hoc := HOUT.out.2.2
                  rw [HV.out.sl.tr] at hoc
                  have HOC := Lib.hid hoc
                  clear hoc HOUT
                  obtain ⟨r1, r2, k⟩ := r
                  by_cases hk0 : k = 0
                  · subst hk0
                    have HN := Lib.hid (HOC.out.1 rfl)
                    clear HOC
                    go_wp2_with fail
                    go_roundg (2 - (1 + 1))
                    case measure => omega
                    case rel => exact ⟨1 + 1, _, _, _, _, _, by omega, by omega, by go_num, HN.out, HPd.out, HKd.out⟩
                  · have hkz : ((k : Int) != 0) = true := by simpa using hk0
                    have hkd : decide ((k : Int) = 0) = false := by simpa using hk0
                    have HRES := Lib.hid (show Hid (∀ _ : Unit, _) from fun _ => HOC.out.2 hk0)
                    have HK0 : Hid (∀ _ : Unit, ¬ k = 0) := fun _ => hk0
                    clear HOC hk0
                    go_wp2_with fail
                    refine bodyPost_ret (v := .int .i64 (k : Nat)) (by simp [results, Try.results17, go_sem]) rfl ?_
                    rw [← HQ.out (), HRES.out.out ()]
                    exact ⟨rfl, Gd, _, _, HPd.out, HKd.out⟩
                | false =>
                  have HCA := pExcl_any B bp b n p1 us em G8 US pf1 PV1 hs1 A6 (m + 1) c6 (D ++ [x]) w8 HP8.out hn (by omega) HM8.out.rdS (V.mem_snoc HDL.out HSO.out.lx)
                  have HOUT := Lib.hid (HSO.out.out _ rfl)
                  simp only [Bool.false_eq_true, if_false] at HOUT
                  revert HCA HOUT
                  generalize V.exclP p1 (D ++ [x]) pf1 = r
                  intro HCA HOUT
                  have HCA := Lib.hid HCA
                  go_wp2_with fail
                  refine HCA.out.mono ?_
                  clear HCA
                  rintro e w9 ⟨rfl, G9, PV9, hs9, hP9, hK9⟩
                  have HP9 := Lib.hid hP9
                  have HK9 := Lib.hid (HK8.out.trans hK9)
                  have RP9 : Hid (Row w9 bp 49 [.pointer (some ⟨b, 0, none⟩), PV9]) := hP9.row
                  have HUN := Lib.hid (pUndo_any B b n s.tr.length r.1 (fun _ => False) us em G9 US w9 hP9.eng HOUT.out.1.tk hn (by have := HOUT.out.2.1; rw [HV.out.sl.tr] at this; exact this))
                  clear hP9 hK9 HP8 HK8 HM8
                  have k0 := RP9.out.cell 0
                  have k1 := RP9.out.cell 1
                  have kl := RP9.out.lt
                  simp only [List.getElem?_cons_zero, List.getElem?_cons_succ] at k0 k1
                  go_wp2_with fail
                  refine HUN.out.mono ?_
                  rintro e wd ⟨rfl, Gd, hEd, hKd⟩
                  have HPd := Lib.hid (HP9.out.engine hEd hKd)
                  have HKd := Lib.hid (HK9.out.trans hKd.toP)
                  clear hEd hKd HUN k0 k1 kl RP9 HP9 HK9
                  have hoc := HOUT.out.2.2
                  rw [HV.out.sl.tr] at hoc
                  have HOC := Lib.hid hoc
                  clear hoc HOUT
                  obtain ⟨r1, r2, k⟩ := r
                  by_cases hk0 : k = 0
                  · subst hk0
                    have HN := Lib.hid (HOC.out.1 rfl)
                    clear HOC
                    go_wp2_with fail
                    go_roundg (2 - (1 + 1))
                    case measure => omega
                    case rel => exact ⟨1 + 1, _, _, _, _, _, by omega, by omega, by go_num, HN.out, HPd.out, HKd.out⟩
                  · have hkz : ((k : Int) != 0) = true := by simpa using hk0
                    have hkd : decide ((k : Int) = 0) = false := by simpa using hk0
                    have HRES := Lib.hid (show Hid (∀ _ : Unit, _) from fun _ => HOC.out.2 hk0)
                    have HK0 : Hid (∀ _ : Unit, ¬ k = 0) := fun _ => hk0
                    clear HOC hk0
                    go_wp2_with fail
                    refine bodyPost_ret (v := .int .i64 (k : Nat)) (by simp [results, Try.results17, go_sem]) rfl ?_
                    rw [← HQ.out (), HRES.out.out ()]
                    exact ⟨rfl, Gd, _, _, HPd.out, HKd.out⟩
            · obtain rfl : j = 2 := by omega
              have HEX := pExcl_any B bp b n s1 us em G1 US pf1 PV1 hs1 A m c D wr HV.out.pr hn (by omega) (HD.out.stay HV.out.keep.non HV.out.keep.own).rdS HDL.out
              have hrun : q = V.exclP s1 D pf1 := (HQ.out ()).symm.trans HV.out.sl.run
              rw [← hrun] at HEX
              have HEX := Lib.hid HEX
              clear hrun
              go_wp2_with fail
              refine HEX.out.mono ?_
              rintro e w9 ⟨rfl, G9, PV9, hs9, hP9, hK9⟩
              have HP9 := Lib.hid hP9
              have HK9 := Lib.hid (HV.out.keep.trans hK9)
              clear hP9 hK9
              go_wp2
              go_ret
              exact ⟨rfl, G9, PV9, hs9, HP9.out, HK9.out⟩
        · have hub : (u != 0) = true := by simpa using hu0
          have hud : decide (u = 0) = false := decide_eq_false hu0
          have HU0 : Hid (∀ _ : Unit, ¬ u = 0) := fun _ => hu0
          clear hu0
          go_wp2_with fail
          go_roundg (n + 1 - (v + 1))
          case measure => omega
          case rel =>
            refine ⟨v + 1, by omega, by omega, by omega, by go_num, rfl, fun t h1 h2 => ?_⟩
            by_cases e : t = v
            · subst e; rw [HU.out ()]; exact HU0.out ()
            · exact HNO.out t h1 (by omega)
      · have hve : v = n + 1 := by omega
        have hL : V.leastU s.va n = none := least_miss (fun u h1 h2 => HNO.out u h1 (by omega))
        have hq2 : q = (s, pf, 1) := (HQ.out ()).symm.trans (V.search_none hL)
        have HQ2 := Lib.hid (show Hid (∀ _ : Unit, q = (s, pf, 1)) from fun _ => hq2)
        subst hve
        have hltz : ¬ ((n + 1 : Nat) : Int) < (n : Int) + 1 := by omega
        have heq : ((n + 1 : Nat) : Int) = (n : Int) + 1 := by omega
        clear hL hq2
        go_wp2_with fail
        go_ret
        rw [HQ2.out.out ()]
        exact ⟨rfl, G, PV, hs, H.out, KeepP.refl _ _ _⟩
end Go.Proofs.Ytbomfekfebamkaa

/-
  What Prove's search starts from, in plain terms.
-/
set_option linter.unusedVariables false
set_option linter.unusedSimpArgs false
namespace Go.Proofs.Ytbomfekfebamkaa
namespace V
theorem prove_start {n : Nat} {D F' : List (List Int)} {g0 : RE} (hG : GInv n D F' g0) (hq : (followsR n g0 []).2 = false) :
    GInv n D F' (followsR n g0 []).1 ∧ PInv n F' (followsR n g0 []).1.units [] (propF (n + 2) (setEach (followsR n g0 []).1.units (followsR n g0 []).1.s)).1 := by
  obtain ⟨f1, f2, f3⟩ := follows_spec hG (c := []) (by simp)
  obtain ⟨T, hT, _⟩ := f3 hq
  revert f1 f2
  generalize (followsR n g0 []).1 = g
  intro f1 f2
  have h2 := set_spec (n := n) (F := F') g.units g.s f1.wf f1.ulit
  have hund : Der (fun l => l ∈ g.units) F' g.s.tr := by rw [f1.tr0]; intro i l hl; simp at hl
  have hTu : ∀ l, l ∈ g.units → T l := fun l hl => closed_unit hT (f1.uin l hl)
  have hset : (setAll g.units g.s).2 = true := by
    cases hb : (setAll g.units g.s).2 with
    | true => rfl
    | false =>
      obtain ⟨x, hx, hnx⟩ := h2.bad hb
      have := closed_has hT f1.fin hTu (h2.der _ hund (fun _ q => q)) _ hnx
      exact absurd this (hT.con x (hTu x hx))
  rw [setEach_eq g.units g.s f1.wf f1.ulit hset]
  have hhd : (setAll g.units g.s).1.hd = 0 := by rw [h2.hd, f1.hd0]
  have h3 := prop_spec (n := n) (F := F') (n + 2) (setAll g.units g.s).1 h2.wf (by rw [hhd]; exact Inv2.zero _) (by omega)
  have d3 := h3.der _ (h2.der _ hund (fun _ q => q))
  have hgood : (propF (n + 2) (setAll g.units g.s).1).2 = true := by
    cases hb : (propF (n + 2) (setAll g.units g.s).1).2 with
    | true => rfl
    | false => exact absurd (h3.bad hb) (closed_noFals hT f1.fin hTu d3)
  obtain ⟨g1, g2⟩ := h3.good hgood
  obtain ⟨ex3, e3⟩ := h3.ext
  exact ⟨f1, h3.wf, g1, g2, by simp, fun u hu => by rw [e3]; exact List.mem_append.2 (.inl (h2.good hset u hu)), by
    intro i l hl
    rcases d3 i l hl with q | q
    · exact .inl (.inr q)
    · exact .inr q⟩
theorem proveR_eq {n : Nat} {N : List (List Int)} {g : RE} (hg : (followsR n (withR n N) []).1 = g) (hq : (followsR n (withR n N) []).2 = false) {q : En × List (List Int) × Nat} (hs : searchP n (n + 2) (propF (n + 2) (setEach g.units g.s)).1 [] [] = q) :
    proveR n N = if q.2.2 = 1 then ([], 13) else if q.2.2 = 2 then ([], 14) else (q.2.1, 0) := by
  unfold proveR
  simp only [hq, Bool.false_eq_true, if_false]
  rw [hg, hs]
theorem proveR_nil {n : Nat} {N : List (List Int)} (hq : (followsR n (withR n N) []).2 = true) : proveR n N = ([[]], 0) := by
  unfold proveR
  simp only [hq, if_true]
end V
end Go.Proofs.Ytbomfekfebamkaa
