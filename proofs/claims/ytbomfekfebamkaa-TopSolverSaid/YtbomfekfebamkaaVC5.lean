/-
  solve's engine: what steps in memory do to it.
-/
import Derived.Test.YtbomfekfebamkaaVC4
import Derived.Test.YtbomfekfebamkaaVC3
import Derived.Test.YtbomfekfebamkaaVC1
import Derived.Test.YtbomfekfebamkaaVC2
namespace Go.Proofs.Ytbomfekfebamkaa
open Go.RowKit Go.Maps
set_option linter.unusedSimpArgs false
set_option linter.unusedVariables false
section
variable {w w' : World} {B b : Nat} {s : V.En} {X X' : Int → Prop} {de : List V.Dec} {bad : Bool} {G : EG} {DE : Value}
theorem EngS.alloc (h : EngS w B b s X de bad G DE) (o : Obj) : EngS (w.alloc o) B b s X de bad G DE := ⟨h.core.alloc o, h.row.alloc o, h.hb, h.ob, h.de.alloc o⟩
theorem EngS.drew (h : EngS w B b s X de bad G DE) : EngS w.drew B b s X de bad G DE := ⟨h.core.drew, h.row, h.hb, h.ob, h.de⟩
theorem EngS.drewN (h : EngS w B b s X de bad G DE) (n : Nat) : EngS (w.drewN n) B b s X de bad G DE := ⟨h.core.drewN n, h.row, h.hb, h.ob, h.de⟩
theorem EngS.below (h : EngS w B b s X de bad G DE) (hb : Below w.heap.size w w') : EngS w' B b s X de bad G DE := ⟨h.core.below hb, rowCells h.row hb, h.hb, h.ob, h.de.below hb⟩
theorem EngS.weak (h : EngS w B b s X de bad G DE) (hx : ∀ z, X z → X' z) : EngS w B b s X' de bad G DE := ⟨h.core.weak hx, h.row, h.hb, h.ob, h.de⟩
theorem EngS.reNew (h : EngS w B b s X de bad G DE) (t : Ow) : EngS w B b s X de bad { G with O := newO G.O w.heap.size t } DE :=
  ⟨h.core.reNew t, h.row, h.hb, (newO_old h.row.lt).trans h.ob, h.de.reNew t⟩
theorem EngS.putClause (h : EngS w B b s X de bad G DE) {k g n c i : Nat} (hk : k < s.cl.length) (hv : G.hs.getD k undef = .slice (some ⟨g, 0, none⟩) n c) (hi : i < n) (z : Int) :
    EngS (w.setCell ⟨g, i, none⟩ (.int .i64 z)) B b { s with cl := s.cl.set k ((s.cl.getD k []).set i z) } X de bad G DE := by
  have hO : G.O g = .clause k := (h.core.cs k hk).2 g (by rw [hv]; rfl)
  refine ⟨h.core.putClause hk hv hi z, h.row.far (fun e => ?_) _, h.hb, h.ob, h.de.far (fun e => ?_) _⟩
  · have := h.ob; rw [e] at this; exact absurd (hO.symm.trans this) nofun
  · exact absurd (hO.symm.trans e) nofun
theorem Core.growW {TV : TypeId} {x : Int} {g : Nat} (h : Core TV w B s X G) (hg : w.grownBy w' (some g)) (hO : G.O g = .watch x) (hX : X x) : Core TV w' B s X G := by
  have ne : ∀ t, t ≠ Ow.watch x → ∀ k, some g = some k → G.O k ≠ t := fun t ht k e he => by cases e; exact ht (he.symm.trans hO)
  refine ⟨h.mp.kept hg (fun e => by injection e with e; have := h.om; rw [← e, hO] at this; cases this), h.hmb, h.om, h.cl.grow hg (ne _ nofun), h.hl, fun j hj => (h.cs j hj).grow hg (ne _ nofun), h.va.grow hg (ne _ nofun), h.tr.grow hg (ne _ nofun), fun y hy => (h.wt y hy).grow hg (ne _ (fun e => ?_))⟩
  injection e with e; exact hy (e ▸ hX)
theorem EngS.growW {x : Int} {g : Nat} (h : EngS w B b s X de bad G DE) (hg : w.grownBy w' (some g)) (hO : G.O g = .watch x) (hX : X x) : EngS w' B b s X de bad G DE := by
  refine ⟨h.core.growW hg hO hX, h.row.grown hg (fun e => ?_), h.hb, h.ob, h.de.grow hg (fun k e he => ?_)⟩
  · injection e with e; have := h.ob; rw [e, hO] at this; cases this
  · cases e; rw [hO] at he; cases he
/-- A block that is nobody's of the engine's parts stays when another's is written. -/
theorem far_of {O : Nat → Ow} {g : Nat} {p : Addr} {T : TypeId} {xs : List Value} {t t' : Ow} (hr : Row w g T xs) (h1 : O g = t) (h2 : O p.block = t') (hne : t ≠ t') (u : Value) : Row (w.setCell p u) g T xs :=
  hr.far (fun e => hne (by rw [← h1, ← h2, e])) u
theorem EngS.watchApp (h : EngS w B b s X de bad G DE) {y : Int} (hy : ¬ X y) {k : Nat} {v' : Value} (hown : w'.ownsRow B 3 1 v' ((s.wa y).length + 1) (nats (s.wa y) ++ [.int .i64 k])) (hg : w.grownBy w' (G.fn y).ownBlock) (hat : v'.ownBlock = (G.fn y).ownBlock ∨ v'.ownBlock = some w.heap.size) :
    EngS w' B b s (fun z => X z ∨ z = y) de bad { G with O := newO G.O w.heap.size (.watch y) } DE ∧ Hd w' (newO G.O w.heap.size (.watch y)) B (.watch y) 3 1 v' (s.wa y ++ [k]).length (nats (s.wa y ++ [k])) := by
  have hH := h.core.wt y hy
  obtain ⟨h1, h2⟩ := h.core.watchApp hy hown hg hat
  have ne : ∀ t, t ≠ Ow.watch y → ∀ k, (G.fn y).ownBlock = some k → newO G.O w.heap.size (.watch y) k ≠ t := fun t ht k hk e => by
    rw [newO_old (own_lt hH.1 k hk)] at e
    exact ht (e.symm.trans (hH.2 k hk))
  refine ⟨⟨h1, h.row.grown hg (fun e => ?_), h.hb, (newO_old h.row.lt).trans h.ob, (h.de.reNew _).grow hg (ne _ nofun)⟩, h2⟩
  have := hH.2 b e.symm; rw [h.ob] at this; cases this
theorem EngS.mapUpd (h : EngS w B b s X de bad G DE) {y : Int} {l : List Nat} {v : Value} (hv : Hd w G.O B (.watch y) 3 1 v l.length (nats l)) (hm : MI w' Try.prog 3 G.mb (updV G.fn y v) (.slice none 0 0)) (hg : w.grownBy w' (some G.mb)) :
    EngS w' B b { s with wa := V.upd s.wa y l } (fun z => X z ∧ z ≠ y) de bad { G with fn := updV G.fn y v } DE := by
  refine ⟨h.core.mapUpd hv hm hg, h.row.grown hg (fun e => ?_), h.hb, h.ob, h.de.grow hg (fun k e => ?_)⟩
  · injection e with e; have := h.core.om; rw [← e, h.ob] at this; cases this
  · cases e; rw [h.core.om]; nofun
end
end Go.Proofs.Ytbomfekfebamkaa

/-
  The engines grow: a clause is put behind the clauses; the empty engine.
-/
namespace Go.Proofs.Ytbomfekfebamkaa
open Go.RowKit Go.Maps
set_option linter.unusedSimpArgs false
set_option linter.unusedVariables false
section
variable {TV : TypeId} {w w' : World} {B b : Nat} {s : V.En} {X : Int → Prop} {de : List V.Dec} {bad : Bool} {G : EG} {DE : Value}
theorem Core.addCl (h : Core TV w B s X G) {l : List Int} {lv v' : Value} (hL : Hd w G.O B (.clause s.cl.length) 3 1 lv l.length (ints l)) (hown : w'.ownsRow B 26 1 v' (G.hs.length + 1) (G.hs ++ [lv])) (hg : w.grownBy w' G.CL.ownBlock) (hat : v'.ownBlock = G.CL.ownBlock ∨ v'.ownBlock = some w.heap.size) :
    Core TV w' B { s with cl := s.cl ++ [l] } X { G with O := newO G.O w.heap.size .cls, CL := v', hs := G.hs ++ [lv] } := by
  have ne : ∀ t, t ≠ Ow.cls → ∀ k, G.CL.ownBlock = some k → newO G.O w.heap.size .cls k ≠ t := fun t ht k hk e => by
    rw [newO_old (own_lt h.cl.1 k hk)] at e
    exact ht (e.symm.trans (h.cl.2 k hk))
  have om : newO G.O w.heap.size .cls G.mb = .map := (newO_old h.mp.lt).trans h.om
  refine ⟨h.mp.kept hg (fun e => ?_), h.hmb, om, ?_, by simp [h.hl], fun j hj => ?_, (h.va.reNew _).grow hg (ne _ nofun), (h.tr.reNew _).grow hg (ne _ nofun), fun y hy => ((h.wt y hy).reNew _).grow hg (ne _ nofun)⟩
  · have := h.cl.2 _ e; rw [h.om] at this; cases this
  · have := h.cl.app hown hat
    simpa using this
  · simp only [List.length_append, List.length_cons, List.length_nil] at hj
    rcases Nat.lt_or_ge j s.cl.length with hlt | hge
    · have e1 : (G.hs ++ [lv]).getD j undef = G.hs.getD j undef := by
        simp only [List.getD_eq_getElem?_getD]; rw [List.getElem?_append_left (by rw [h.hl]; exact hlt)]
      have e2 : (s.cl ++ [l]).getD j [] = s.cl.getD j [] := by
        simp only [List.getD_eq_getElem?_getD]; rw [List.getElem?_append_left hlt]
      show Hd w' _ B (.clause j) _ 1 ((G.hs ++ [lv]).getD j undef) ((s.cl ++ [l]).getD j []).length (ints ((s.cl ++ [l]).getD j []))
      rw [e1, e2]
      exact ((h.cs j hlt).reNew _).grow hg (ne _ nofun)
    · obtain rfl : j = s.cl.length := by omega
      have e1 : (G.hs ++ [lv]).getD s.cl.length undef = lv := by
        rw [← h.hl]; simp [List.getD_eq_getElem?_getD]
      have e2 : (s.cl ++ [l]).getD s.cl.length [] = l := by simp [List.getD_eq_getElem?_getD]
      show Hd w' _ B (.clause s.cl.length) _ 1 ((G.hs ++ [lv]).getD s.cl.length undef) ((s.cl ++ [l]).getD s.cl.length []).length (ints ((s.cl ++ [l]).getD s.cl.length []))
      rw [e1, e2]
      exact (hL.reNew _).grow hg (ne _ nofun)
theorem EngS.addCl (h : EngS w B b s X de bad G DE) {l : List Int} {lv v' : Value} (hL : Hd w G.O B (.clause s.cl.length) 3 1 lv l.length (ints l)) (hown : w'.ownsRow B 26 1 v' (G.hs.length + 1) (G.hs ++ [lv])) (hg : w.grownBy w' G.CL.ownBlock) (hat : v'.ownBlock = G.CL.ownBlock ∨ v'.ownBlock = some w.heap.size) :
    EngS (w'.setCell ⟨b, 0, none⟩ v') B b { s with cl := s.cl ++ [l] } X de bad { G with O := newO G.O w.heap.size .cls, CL := v', hs := G.hs ++ [lv] } DE ∧ Row w' b 56 [G.CL, .map (some G.mb), G.VA, G.TR, .int .i64 (s.hd : Int), DE, .bool bad] ∧ Below B w (w'.setCell ⟨b, 0, none⟩ v') := by
  have hlt := h.row.lt
  have hc := h.core.addCl hL hown hg hat
  have hne : ∀ k, G.CL.ownBlock = some k → G.O k = .cls := h.core.cl.2
  have hr : Row w' b 56 [G.CL, .map (some G.mb), G.VA, G.TR, .int .i64 (s.hd : Int), DE, .bool bad] := h.row.grown hg (fun e => by
    have := hne b e.symm; rw [h.ob] at this; cases this)
  have hob : newO G.O w.heap.size .cls b = .box := (newO_old hlt).trans h.ob
  refine ⟨⟨hc.set (p := ⟨b, 0, none⟩) (by show foreign (newO G.O _ .cls b); rw [hob]; trivial) _, hr.set 0 _, h.hb, hob, ?_⟩, hr, ?_⟩
  · refine Hd.far ?_ (by show newO G.O _ .cls b ≠ _; rw [hob]; nofun) _
    refine Hd.grow (h.de.reNew .cls) hg (fun k e he => ?_)
    change newO G.O _ .cls k = Ow.decs at he
    rw [newO_old (own_lt h.core.cl.1 k e), hne k e] at he; cases he
  · refine Below.setCell ?_ h.hb _
    have hB : B ≤ w.heap.size := Nat.le_trans h.hb (Nat.le_of_lt hlt)
    exact (Below.refl B w).grown hg hB (fun k e => (h.core.cl.1.lt k e).1)
/-- The flag is raised. -/
theorem EngS.raise (h : EngS w B b s X de bad G DE) : EngS (w.setCell ⟨b, 6, none⟩ (.bool true)) B b s X de true G DE ∧ Below B w (w.setCell ⟨b, 6, none⟩ (.bool true)) :=
  ⟨⟨h.core.set (p := ⟨b, 6, none⟩) (by show foreign (G.O b); rw [h.ob]; trivial) _, h.row.set 6 _, h.hb, h.ob, h.de.far (by show G.O b ≠ _; rw [h.ob]; nofun) _⟩, (Below.refl _ _).setCell h.hb _⟩
/-- A block of the caller's own becomes a clause's: what was laid since the engine's world is the clause's. -/
theorem EngS.tag (h : EngS w B b s X de bad G DE) (t : Ow) (hb : Below w.heap.size w w') : EngS w' B b s X de bad { G with O := newO G.O w.heap.size t } DE := (h.reNew t).below hb
/-- The empty engine. -/
theorem EngS.start (n : Nat) {gm b : Nat} {O : Nat → Ow} {VA : Value} (hm : MI w Try.prog 3 gm (fun _ => .slice none 0 0) (.slice none 0 0)) (h1 : B ≤ gm) (h2 : O gm = .map) (hv : Hd w O B .vals 60 1 VA (n + 1) (i8s (List.replicate (n + 1) 0)))
    (hr : Row w b 56 [.slice none 0 0, .map (some gm), VA, .slice none 0 0, .int .i64 0, .slice none 0 0, .bool false]) (h3 : B ≤ b) (h4 : O b = .box) :
    EngS w B b (V.startE n) (fun _ => False) [] false { O := O, mb := gm, CL := .slice none 0 0, VA := VA, TR := .slice none 0 0, hs := [], fn := fun _ => .slice none 0 0 } (.slice none 0 0) :=
  ⟨⟨hm, h1, h2, Hd.nil, rfl, fun k hk => absurd hk (Nat.not_lt_zero _), by simpa [V.startE] using hv, Hd.nil, fun y _ => Hd.nil⟩, hr, h3, h4, Hd.nil⟩
end
end Go.Proofs.Ytbomfekfebamkaa

/-
  refute's engine in memory: what steps do to it (printed from VEng and VAdd).
-/
namespace Go.Proofs.Ytbomfekfebamkaa
open Go.RowKit Go.Maps
set_option linter.unusedSimpArgs false
set_option linter.unusedVariables false
/-- refute's engine: the shared parts, the units, the flag of the empty clause. -/
structure EngR (w : World) (B b : Nat) (s : V.En) (X : Int → Prop) (us : List Int) (em : Bool) (G : EG) (US : Value) : Prop where
  core : Core 59 w B s X G
  row : Row w b 46 [G.CL, .map (some G.mb), US, .bool em, G.VA, G.TR, .int .i64 (s.hd : Int)]
  hb : B ≤ b
  ob : G.O b = .box
  us : Hd w G.O B .units 3 1 US us.length (ints us)
section
variable {w w' : World} {B b : Nat} {s : V.En} {X X' : Int → Prop} {us : List Int} {em : Bool} {G : EG} {US : Value}
theorem EngR.alloc (h : EngR w B b s X us em G US) (o : Obj) : EngR (w.alloc o) B b s X us em G US := ⟨h.core.alloc o, h.row.alloc o, h.hb, h.ob, h.us.alloc o⟩
theorem EngR.drew (h : EngR w B b s X us em G US) : EngR w.drew B b s X us em G US := ⟨h.core.drew, h.row, h.hb, h.ob, h.us⟩
theorem EngR.drewN (h : EngR w B b s X us em G US) (n : Nat) : EngR (w.drewN n) B b s X us em G US := ⟨h.core.drewN n, h.row, h.hb, h.ob, h.us⟩
theorem EngR.below (h : EngR w B b s X us em G US) (hb : Below w.heap.size w w') : EngR w' B b s X us em G US := ⟨h.core.below hb, rowCells h.row hb, h.hb, h.ob, h.us.below hb⟩
theorem EngR.weak (h : EngR w B b s X us em G US) (hx : ∀ z, X z → X' z) : EngR w B b s X' us em G US := ⟨h.core.weak hx, h.row, h.hb, h.ob, h.us⟩
theorem EngR.reNew (h : EngR w B b s X us em G US) (t : Ow) : EngR w B b s X us em { G with O := newO G.O w.heap.size t } US :=
  ⟨h.core.reNew t, h.row, h.hb, (newO_old h.row.lt).trans h.ob, h.us.reNew t⟩
theorem EngR.putClause (h : EngR w B b s X us em G US) {k g n c i : Nat} (hk : k < s.cl.length) (hv : G.hs.getD k undef = .slice (some ⟨g, 0, none⟩) n c) (hi : i < n) (z : Int) :
    EngR (w.setCell ⟨g, i, none⟩ (.int .i64 z)) B b { s with cl := s.cl.set k ((s.cl.getD k []).set i z) } X us em G US := by
  have hO : G.O g = .clause k := (h.core.cs k hk).2 g (by rw [hv]; rfl)
  refine ⟨h.core.putClause hk hv hi z, h.row.far (fun e => ?_) _, h.hb, h.ob, h.us.far (fun e => ?_) _⟩
  · have := h.ob; rw [e] at this; exact absurd (hO.symm.trans this) nofun
  · exact absurd (hO.symm.trans e) nofun
theorem EngR.growW {x : Int} {g : Nat} (h : EngR w B b s X us em G US) (hg : w.grownBy w' (some g)) (hO : G.O g = .watch x) (hX : X x) : EngR w' B b s X us em G US := by
  refine ⟨h.core.growW hg hO hX, h.row.grown hg (fun e => ?_), h.hb, h.ob, h.us.grow hg (fun k e he => ?_)⟩
  · injection e with e; have := h.ob; rw [e, hO] at this; cases this
  · cases e; rw [hO] at he; cases he
theorem EngR.watchApp (h : EngR w B b s X us em G US) {y : Int} (hy : ¬ X y) {k : Nat} {v' : Value} (hown : w'.ownsRow B 3 1 v' ((s.wa y).length + 1) (nats (s.wa y) ++ [.int .i64 k])) (hg : w.grownBy w' (G.fn y).ownBlock) (hat : v'.ownBlock = (G.fn y).ownBlock ∨ v'.ownBlock = some w.heap.size) :
    EngR w' B b s (fun z => X z ∨ z = y) us em { G with O := newO G.O w.heap.size (.watch y) } US ∧ Hd w' (newO G.O w.heap.size (.watch y)) B (.watch y) 3 1 v' (s.wa y ++ [k]).length (nats (s.wa y ++ [k])) := by
  have hH := h.core.wt y hy
  obtain ⟨h1, h2⟩ := h.core.watchApp hy hown hg hat
  have ne : ∀ t, t ≠ Ow.watch y → ∀ k, (G.fn y).ownBlock = some k → newO G.O w.heap.size (.watch y) k ≠ t := fun t ht k hk e => by
    rw [newO_old (own_lt hH.1 k hk)] at e
    exact ht (e.symm.trans (hH.2 k hk))
  refine ⟨⟨h1, h.row.grown hg (fun e => ?_), h.hb, (newO_old h.row.lt).trans h.ob, (h.us.reNew _).grow hg (ne _ nofun)⟩, h2⟩
  have := hH.2 b e.symm; rw [h.ob] at this; cases this
theorem EngR.mapUpd (h : EngR w B b s X us em G US) {y : Int} {l : List Nat} {v : Value} (hv : Hd w G.O B (.watch y) 3 1 v l.length (nats l)) (hm : MI w' Try.prog 3 G.mb (updV G.fn y v) (.slice none 0 0)) (hg : w.grownBy w' (some G.mb)) :
    EngR w' B b { s with wa := V.upd s.wa y l } (fun z => X z ∧ z ≠ y) us em { G with fn := updV G.fn y v } US := by
  refine ⟨h.core.mapUpd hv hm hg, h.row.grown hg (fun e => ?_), h.hb, h.ob, h.us.grow hg (fun k e => ?_)⟩
  · injection e with e; have := h.core.om; rw [← e, h.ob] at this; cases this
  · cases e; rw [h.core.om]; nofun
theorem EngR.addCl (h : EngR w B b s X us em G US) {l : List Int} {lv v' : Value} (hL : Hd w G.O B (.clause s.cl.length) 3 1 lv l.length (ints l)) (hown : w'.ownsRow B 26 1 v' (G.hs.length + 1) (G.hs ++ [lv])) (hg : w.grownBy w' G.CL.ownBlock) (hat : v'.ownBlock = G.CL.ownBlock ∨ v'.ownBlock = some w.heap.size) :
    EngR (w'.setCell ⟨b, 0, none⟩ v') B b { s with cl := s.cl ++ [l] } X us em { G with O := newO G.O w.heap.size .cls, CL := v', hs := G.hs ++ [lv] } US ∧ Row w' b 46 [G.CL, .map (some G.mb), US, .bool em, G.VA, G.TR, .int .i64 (s.hd : Int)] ∧ Below B w (w'.setCell ⟨b, 0, none⟩ v') := by
  have hlt := h.row.lt
  have hc := h.core.addCl hL hown hg hat
  have hne : ∀ k, G.CL.ownBlock = some k → G.O k = .cls := h.core.cl.2
  have hr : Row w' b 46 [G.CL, .map (some G.mb), US, .bool em, G.VA, G.TR, .int .i64 (s.hd : Int)] := h.row.grown hg (fun e => by
    have := hne b e.symm; rw [h.ob] at this; cases this)
  have hob : newO G.O w.heap.size .cls b = .box := (newO_old hlt).trans h.ob
  refine ⟨⟨hc.set (p := ⟨b, 0, none⟩) (by show foreign (newO G.O _ .cls b); rw [hob]; trivial) _, hr.set 0 _, h.hb, hob, ?_⟩, hr, ?_⟩
  · refine Hd.far ?_ (by show newO G.O _ .cls b ≠ _; rw [hob]; nofun) _
    refine Hd.grow (h.us.reNew .cls) hg (fun k e he => ?_)
    change newO G.O _ .cls k = Ow.units at he
    rw [newO_old (own_lt h.core.cl.1 k e), hne k e] at he; cases he
  · refine Below.setCell ?_ h.hb _
    have hB : B ≤ w.heap.size := Nat.le_trans h.hb (Nat.le_of_lt hlt)
    exact (Below.refl B w).grown hg hB (fun k e => (h.core.cl.1.lt k e).1)
/-- A block of the caller's own becomes a clause's: what was laid since the engine's world is the clause's. -/
theorem EngR.tag (h : EngR w B b s X us em G US) (t : Ow) (hb : Below w.heap.size w w') : EngR w' B b s X us em { G with O := newO G.O w.heap.size t } US := (h.reNew t).below hb
/-- The flag is raised. -/
theorem EngR.raise (h : EngR w B b s X us em G US) : EngR (w.setCell ⟨b, 3, none⟩ (.bool true)) B b s X us true G US ∧ Below B w (w.setCell ⟨b, 3, none⟩ (.bool true)) :=
  ⟨⟨h.core.set (p := ⟨b, 3, none⟩) (by show foreign (G.O b); rw [h.ob]; trivial) _, h.row.set 3 _, h.hb, h.ob, h.us.far (by show G.O b ≠ _; rw [h.ob]; nofun) _⟩, (Below.refl _ _).setCell h.hb _⟩
/-- The empty engine. -/
theorem EngR.start (n : Nat) {gm b : Nat} {O : Nat → Ow} {VA : Value} (hm : MI w Try.prog 3 gm (fun _ => .slice none 0 0) (.slice none 0 0)) (h1 : B ≤ gm) (h2 : O gm = .map) (hv : Hd w O B .vals 59 1 VA (n + 1) (i8s (List.replicate (n + 1) 0)))
    (hr : Row w b 46 [.slice none 0 0, .map (some gm), .slice none 0 0, .bool false, VA, .slice none 0 0, .int .i64 0]) (h3 : B ≤ b) (h4 : O b = .box) :
    EngR w B b (V.startE n) (fun _ => False) [] false { O := O, mb := gm, CL := .slice none 0 0, VA := VA, TR := .slice none 0 0, hs := [], fn := fun _ => .slice none 0 0 } (.slice none 0 0) :=
  ⟨⟨hm, h1, h2, Hd.nil, rfl, fun k hk => absurd hk (Nat.not_lt_zero _), by simpa [V.startE] using hv, Hd.nil, fun y _ => Hd.nil⟩, hr, h3, h4, Hd.nil⟩
end
end Go.Proofs.Ytbomfekfebamkaa

/-
  refute's engine: value and newEngine, walked.
-/
namespace Go.Proofs.Ytbomfekfebamkaa
open Go.RowKit Go.Maps
set_option linter.unusedSimpArgs false
set_option linter.unusedVariables false
set_option maxRecDepth 100000 in
set_option maxHeartbeats 1000000 in
theorem pVal_any (B b n : Nat) (s : V.En) (X : Int → Prop) (us : List Int) (em : Bool) (G : EG) (US : Value) (x : Int) (w : World) (h : EngR w B b s X us em G US) (hn : n ≤ 1000000) (hx : V.lit n x) (htk : V.TrOk n s.va s.tr) :
    Calls Try.prog 32 #[.pointer (some ⟨b, 0, none⟩), .int .i64 x] w fun e w' => e = .returned (.int .i8 (V.valL s.va x)) ∧ w' = w := by
  have c2 : w.cell? ⟨b, 4, none⟩ = some G.VA := h.row.cell 4
  obtain ⟨p1, p2⟩ := val_lt htk.len hx
  have hr := htk.rng x hx
  have hl := htk.len
  obtain ⟨_, x1, x2⟩ := hx
  obtain ⟨g, c, hva, _, _, _, hc, hcell, _⟩ := h.core.va.at_ (i := 0) (by omega)
  rw [hva] at c2
  have hvl : s.va.length = n + 1 := hl
  clear h htk hva
  generalize hS : s.va.length = m at *
  clear hl
  by_cases hneg : x < 0
  · have hi := p1 hneg
    have vc : w.cell? ⟨g, (-x).toNat, none⟩ = some (.int .i8 (s.va.getD (-x).toNat 0)) := hcell _ _ (i8s_get _ _ (by omega))
    have hv : V.valL s.va x = -(s.va.getD (-x).toNat 0) := by unfold V.valL; rw [if_pos hneg]
    rw [hv] at hr ⊢
    generalize s.va.getD (-x).toNat 0 = u at *
    have hw : IntKind.i8.wrap (-u) = -u := by rcases hr with e | e | e <;> (have : u = -(-u) := by omega) <;> rw [e] <;> decide
    clear hcell p1 p2 hv hr hS
    go_enter Try.func32, Try.ntmps32
    go_wp2
    go_ret
    exact ⟨rfl, rfl⟩
  · have hi := p2 hneg
    have vc : w.cell? ⟨g, x.toNat, none⟩ = some (.int .i8 (s.va.getD x.toNat 0)) := hcell _ _ (i8s_get _ _ (by omega))
    have hv : V.valL s.va x = s.va.getD x.toNat 0 := by unfold V.valL; rw [if_neg hneg]
    rw [hv]
    generalize s.va.getD x.toNat 0 = u at *
    have hge : 0 ≤ x := by omega
    clear hcell p1 p2 hv hr hS
    go_enter Try.func32, Try.ntmps32
    go_wp2
    go_ret
    exact ⟨rfl, rfl⟩
theorem i8_infoR : (Try.prog.info? 59).map (fun i => (i.zero, i.size, i.bytes)) = some (some (.int .i8 0), 1, 1) := by kernel_rfl
set_option maxRecDepth 100000 in
set_option maxHeartbeats 1000000 in
theorem pNew_any (n : Nat) (w : World) (hn : n ≤ 1000000) :
    Calls Try.prog 29 #[.int .i64 (n : Int)] w fun e w' => ∃ G, e = .returned (.pointer (some ⟨w.heap.size + 1 + 1, 0, none⟩)) ∧ Below w.heap.size w w' ∧ EngR w' w.heap.size (w.heap.size + 1 + 1) (V.startE n) (fun _ => False) [] false G (.slice none 0 0) := by
  have hmm := @run_makeMap Try.prog
  have hmk := fun W => make_like (P := Try.prog) Try.underlying44 i8_infoR rfl (n + 1) ((n : Int) + 1) (by omega) (by omega) (by omega) W
  go_enter Try.func29, Try.ntmps29
  go_wp2
  go_ret
  have hm := ((MI.made (P := Try.prog) (k := 3) w (.slice none 0 0)).alloc (.cells (likeRow (.int .i8 0) (n + 1)) 59)).alloc (.cells #[.slice none 0 0, .map (some w.heap.size), .slice none 0 0, .bool false, .slice (some ⟨w.heap.size + 1, 0, none⟩) (n + 1) (n + 1), .slice none 0 0, .int .i64 0] 46)
  have hv := (Row.new (w.alloc (.map #[] 0)) 59 (List.replicate (n + 1) (.int .i8 0))).alloc (.cells #[.slice none 0 0, .map (some w.heap.size), .slice none 0 0, .bool false, .slice (some ⟨w.heap.size + 1, 0, none⟩) (n + 1) (n + 1), .slice none 0 0, .int .i64 0] 46)
  have hr := Row.new ((w.alloc (.map #[] 0)).alloc (.cells (likeRow (.int .i8 0) (n + 1)) 59)) 46 [.slice none 0 0, .map (some w.heap.size), .slice none 0 0, .bool false, .slice (some ⟨w.heap.size + 1, 0, none⟩) (n + 1) (n + 1), .slice none 0 0, .int .i64 0]
  simp only [World.size_alloc] at hm hv hr
  have hown := hv.own (base := w.heap.size) (sz := 1) (n := n + 1) (by omega) (by simp) (by unfold maxLen; omega)
  refine ⟨_, rfl, by go_grown, EngR.start (b := w.heap.size + 1 + 1) (O := fun g => if g = w.heap.size then .map else if g = w.heap.size + 1 then .vals else .box) n hm (by omega) (by simp) ⟨?_, fun g hg => ?_⟩ hr (by omega) (by show (if _ then _ else _) = _; rw [if_neg (by omega), if_neg (by omega)])⟩
  · rw [show i8s (List.replicate (n + 1) 0) = List.replicate (n + 1) (.int .i8 0) by simp [i8s]]
    exact hown
  · have : w.heap.size + 1 = g := by simpa [Value.ownBlock] using hg
    subst this
    simp
end Go.Proofs.Ytbomfekfebamkaa

/-
  refute's engine: the end of set, and a value written (printed from VSet).
-/
namespace Go.Proofs.Ytbomfekfebamkaa
open Go.RowKit Go.Maps
set_option linter.unusedSimpArgs false
set_option linter.unusedVariables false
/-- The end of set: the literal behind the trail, in a world in which the value is written. -/
theorem EngR.pushed {w1 w2 : World} {B b : Nat} {s : V.En} {X : Int → Prop} {us : List Int} {em : Bool} {G : EG} {US v' : Value} {x : Int} (h : EngR w1 B b s X us em G US)
    (hown : w2.ownsRow B 3 1 v' (s.tr.length + 1) (ints s.tr ++ [.int .i64 x])) (hg : (w1.alloc (.cells #[.int .i64 x] 3)).grownBy w2 G.TR.ownBlock) (hat : v'.ownBlock = G.TR.ownBlock ∨ v'.ownBlock = some (w1.alloc (.cells #[.int .i64 x] 3)).heap.size) :
    EngR (w2.setCell ⟨b, 5, none⟩ v') B b { s with tr := s.tr ++ [x] } X us em { G with O := newO G.O (w1.alloc (.cells #[.int .i64 x] 3)).heap.size .trail, TR := v' } US ∧ Row w2 b 46 [G.CL, .map (some G.mb), US, .bool em, G.VA, G.TR, .int .i64 (s.hd : Int)] ∧
    KeepW B w1 (w2.setCell ⟨b, 5, none⟩ v') G { G with O := newO G.O (w1.alloc (.cells #[.int .i64 x] 3)).heap.size .trail, TR := v' } := by
  have hlt := h.row.lt
  have hc := (h.core.alloc (.cells #[.int .i64 x] 3)).push hown hg hat
  have hne : ∀ k, G.TR.ownBlock = some k → G.O k = .trail := h.core.tr.2
  have hr : Row w2 b 46 [G.CL, .map (some G.mb), US, .bool em, G.VA, G.TR, .int .i64 (s.hd : Int)] := (h.row.alloc _).grown hg (fun e => by
    have := hne b e.symm; rw [h.ob] at this; cases this)
  have hob : newO G.O (w1.alloc (.cells #[.int .i64 x] 3)).heap.size .trail b = .box := (newO_old (by simp; omega)).trans h.ob
  have hSz : w1.heap.size ≤ w2.heap.size := by have := hg.size; simp at this; omega
  refine ⟨⟨hc.set (p := ⟨b, 5, none⟩) (by show foreign (newO G.O _ .trail b); rw [hob]; trivial) _, hr.set 5 _, h.hb, hob, ?_⟩, hr, ?_, rfl, rfl, fun g hgg => newO_old (by simp; omega), fun g hgg q1 q2 q3 => ?_⟩
  · refine Hd.far ?_ (by show newO G.O _ .trail b ≠ _; rw [hob]; nofun) _
    refine Hd.grow ((h.us.alloc _).reNew .trail) hg (fun k e he => ?_)
    change newO G.O _ .trail k = Ow.units at he
    rw [newO_old (by have := own_lt (h.core.tr.1.alloc (.cells #[.int .i64 x] 3)) k e; exact this), hne k e] at he; cases he
  · refine Below.setCell ?_ h.hb _
    have hB : B ≤ w1.heap.size := Nat.le_trans h.hb (Nat.le_of_lt hlt)
    exact ((Below.refl B w1).alloc hB _).grown hg (by simp; omega) (fun k e => (h.core.tr.1.lt k e).1)
  · have hgb : g ≠ b := fun e => q1 (e ▸ h.ob)
    rw [Below.heap_setCell _ _ _ _ hgb, hg.block g (by simp; omega) (fun e => q3 (hne g e.symm))]
    exact Below.heap_alloc _ _ _ hgg
theorem EngR.valued {w : World} {B b : Nat} {s : V.En} {X : Int → Prop} {us : List Int} {em : Bool} {G : EG} {US : Value} (h : EngR w B b s X us em G US) {g n c i : Nat} (hv : G.VA = .slice (some ⟨g, 0, none⟩) n c) (hi : i < s.va.length) (z : Int) :
    EngR (w.setCell ⟨g, i, none⟩ (.int .i8 z)) B b { s with va := s.va.set i z } X us em G US ∧ KeepW B w (w.setCell ⟨g, i, none⟩ (.int .i8 z)) G G := by
  have hO : G.O g = .vals := h.core.va.2 g (by rw [hv]; rfl)
  have hB : B ≤ g := (h.core.va.1.lt g (by rw [hv]; rfl)).1
  refine ⟨⟨h.core.putVal hv hi z, h.row.far (fun e => ?_) _, h.hb, h.ob, h.us.far (fun e => ?_) _⟩, (Below.refl _ _).setCell hB _, rfl, rfl, fun _ _ => rfl, fun g' hg' q1 q2 q3 => Below.heap_setCell _ _ _ _ (fun e => ?_)⟩
  · have := h.ob; rw [e] at this; exact absurd (hO.symm.trans this) nofun
  · exact absurd (hO.symm.trans e) nofun
  · have e' : g' = g := e
    exact q2 (e' ▸ hO)
end Go.Proofs.Ytbomfekfebamkaa

/-
  refute's engine: the method set, walked.
-/
namespace Go.Proofs.Ytbomfekfebamkaa
open Go.RowKit Go.Maps
set_option linter.unusedSimpArgs false
set_option linter.unusedVariables false
/-- What set leaves, and what it says. -/
def setP (s : V.En) (x : Int) : V.En := if V.valL s.va x = 0 then s.put x else s
def setB (s : V.En) (x : Int) : Bool := decide (V.valL s.va x ≠ -1)
set_option maxRecDepth 100000 in
set_option maxHeartbeats 2000000 in
theorem pSet_any (B b n : Nat) (s : V.En) (X : Int → Prop) (us : List Int) (em : Bool) (G : EG) (US : Value) (x : Int) (w : World) (h : EngR w B b s X us em G US) (hn : n ≤ 1000000) (hx : V.lit n x) (htk : V.TrOk n s.va s.tr) (ht : s.tr.length ≤ 2000000) :
    Calls Try.prog 15 #[.pointer (some ⟨b, 0, none⟩), .int .i64 x] w fun e w' => ∃ G', e = .returned (.bool (setB s x)) ∧ EngR w' B b (setP s x) X us em G' US ∧ KeepW B w w' G G' := by
  have hrg := htk.rng x hx
  have hl := htk.len
  have HPV := Lib.hid (pVal_any B b n s X us em G US x w h hn hx htk)
  clear htk
  rcases hrg with e | e | e
  · rw [e] at HPV
    have HV0 : Hid (∀ _ : Unit, V.valL s.va x = 0) := fun _ => e
    clear e
    have R0 : Hid (Row w b 46 [G.CL, .map (some G.mb), US, .bool em, G.VA, G.TR, .int .i64 (s.hd : Int)]) := h.row
    have k0 := R0.out.cell 0
    have k1 := R0.out.cell 1
    have k2 := R0.out.cell 2
    have k3 := R0.out.cell 3
    have k4 := R0.out.cell 4
    have k5 := R0.out.cell 5
    have k6 := R0.out.cell 6
    have kl := R0.out.lt
    simp only [List.getElem?_cons_zero, List.getElem?_cons_succ] at k0 k1 k2 k3 k4 k5 k6
    obtain ⟨x0, x1, x2⟩ := hx
    have H := Lib.hid h
    obtain ⟨g, c, hva, _, hBg, hgl, hc, hcell, hfr⟩ := h.core.va.at_ (i := 0) (by omega)
    have hbsz : B ≤ w.heap.size := by have := h.row.lt; have := h.hb; omega
    rw [hva] at k4
    clear h
    have HVA := Lib.hid hva
    clear hva
    by_cases hp : 0 < x
    · have vc : w.cell? ⟨g, x.toNat, none⟩ = some (.int .i8 (s.va.getD x.toNat 0)) := hcell _ _ (i8s_get _ _ (by omega))
      have vf : w.frozen? ⟨g, x.toNat, none⟩ = false := hfr _
      have hge : 0 ≤ x := by omega
      have hlt : x < (s.va.length : Int) := by omega
      obtain ⟨E1, K1⟩ := H.out.valued HVA.out (i := x.toNat) (by omega) 1
      have HEQ : Hid (({ ({ s with va := s.va.set x.toNat 1 } : V.En) with tr := s.tr ++ [x] } : V.En) = s.put x) := by
        show _ = _
        unfold V.En.put V.setL; rw [if_pos hp]
      have kk3 : (w.setCell ⟨g, x.toNat, none⟩ (.int .i8 1)).cell? ⟨b, 5, none⟩ = some G.TR := E1.row.cell 5
      have T1 : Hid ((w.setCell ⟨g, x.toNat, none⟩ (.int .i8 1)).ownsRow B 3 1 G.TR s.tr.length (ints s.tr)) := E1.core.tr.1
      have HE1 := Lib.hid E1
      have HK1 := Lib.hid K1
      clear E1 K1 hcell hfr
      go_enter Try.func15, Try.ntmps15
      go_wp2_with fail
      refine HPV.out.mono ?_
      rintro e w8 ⟨rfl, hw8⟩
      rw [hw8]
      clear hw8 w8
      go_wp2_with (at_builtin; refine wpList_app rfl (.tmp 31) (.tmp 33) 26 rfl B 3 (.int .i64 0) 1 8 Try.underlying26 int_infoV rfl (by decide) (by decide) G.TR (s.tr.length) (ints s.tr) rfl ?own (w.heap.size + 1) (some ⟨w.heap.size, 0, none⟩) 1 1 [.int .i64 x] rfl ?rd ?one ?hb ?hbase ?_)
      case own => exact (T1.out).alloc _
      case rd => exact lit_at (World.size_setCell _ _ _) <| Rd.lit (w.setCell ⟨g, x.toNat, none⟩ (.int .i8 1)) #[.int .i64 x] 3 (sz := 1) (m := 1) rfl
      case one => first | (intro u hu; simp at hu; subst hu; rfl) | rfl
      case hb => omega
      case hbase => first | (simp; omega) | omega
      intro v' w' hown' hgrow' hat'
      have hat2 : v'.ownBlock = G.TR.ownBlock ∨ v'.ownBlock = some ((w.setCell ⟨g, x.toNat, none⟩ (.int .i8 1)).alloc (.cells #[.int .i64 x] 3)).heap.size := by simpa using hat'
      clear hat'
      revert HE1 HK1 hgrow' hat2
      clear kk3 T1 k0 k1 k2 k3 k4 k5 k6 kl
      generalize (w.setCell ⟨g, x.toNat, none⟩ (.int .i8 1)) = w1
      intro HE1 HK1 hgrow' hat2
      obtain ⟨VA', vc', rfl, -⟩ := Rd.own hown'
      obtain ⟨E2, R2, K2⟩ := HE1.out.pushed hown' hgrow' hat2
      have HE2 := Lib.hid E2
      have HK2 := Lib.hid K2
      have HR2 := Lib.hid R2
      clear E2 K2 R2 hown' hgrow' hat2
      have k0 := HR2.out.cell 0
      have k1 := HR2.out.cell 1
      have k2 := HR2.out.cell 2
      have k3 := HR2.out.cell 3
      have k4 := HR2.out.cell 4
      have k5 := HR2.out.cell 5
      have k6 := HR2.out.cell 6
      have kl := HR2.out.lt
      simp only [List.getElem?_cons_zero, List.getElem?_cons_succ] at k0 k1 k2 k3 k4 k5 k6
      have kf0 := HR2.out.frozen 0
      have kf1 := HR2.out.frozen 1
      have kf2 := HR2.out.frozen 2
      have kf3 := HR2.out.frozen 3
      have kf4 := HR2.out.frozen 4
      have kf5 := HR2.out.frozen 5
      have kf6 := HR2.out.frozen 6
      go_wp2
      go_ret
      have e1 : setB s x = true := by unfold setB; rw [HV0.out ()]; rfl
      have e2 : setP s x = s.put x := by unfold setP; rw [HV0.out (), if_pos rfl]
      rw [e1, e2]
      first | exact ⟨rfl, _, HEQ.out ▸ HE2.out, HK1.out.trans HK2.out⟩ | exact ⟨_, rfl, HEQ.out ▸ HE2.out, HK1.out.trans HK2.out⟩
    · have vc : w.cell? ⟨g, (-x).toNat, none⟩ = some (.int .i8 (s.va.getD (-x).toNat 0)) := hcell _ _ (i8s_get _ _ (by omega))
      have vf : w.frozen? ⟨g, (-x).toNat, none⟩ = false := hfr _
      have hge : 0 ≤ -x := by omega
      have hlt : -x < (s.va.length : Int) := by omega
      obtain ⟨E1, K1⟩ := H.out.valued HVA.out (i := (-x).toNat) (by omega) (-1)
      have HEQ : Hid (({ ({ s with va := s.va.set (-x).toNat (-1) } : V.En) with tr := s.tr ++ [x] } : V.En) = s.put x) := by
        show _ = _
        unfold V.En.put V.setL; rw [if_neg hp]
      have kk3 : (w.setCell ⟨g, (-x).toNat, none⟩ (.int .i8 (-1))).cell? ⟨b, 5, none⟩ = some G.TR := E1.row.cell 5
      have T1 : Hid ((w.setCell ⟨g, (-x).toNat, none⟩ (.int .i8 (-1))).ownsRow B 3 1 G.TR s.tr.length (ints s.tr)) := E1.core.tr.1
      have HE1 := Lib.hid E1
      have HK1 := Lib.hid K1
      clear E1 K1 hcell hfr
      go_enter Try.func15, Try.ntmps15
      go_wp2_with fail
      refine HPV.out.mono ?_
      rintro e w8 ⟨rfl, hw8⟩
      rw [hw8]
      clear hw8 w8
      go_wp2_with (at_builtin; refine wpList_app rfl (.tmp 31) (.tmp 33) 26 rfl B 3 (.int .i64 0) 1 8 Try.underlying26 int_infoV rfl (by decide) (by decide) G.TR (s.tr.length) (ints s.tr) rfl ?own (w.heap.size + 1) (some ⟨w.heap.size, 0, none⟩) 1 1 [.int .i64 x] rfl ?rd ?one ?hb ?hbase ?_)
      case own => exact (T1.out).alloc _
      case rd => exact lit_at (World.size_setCell _ _ _) <| Rd.lit (w.setCell ⟨g, (-x).toNat, none⟩ (.int .i8 (-1))) #[.int .i64 x] 3 (sz := 1) (m := 1) rfl
      case one => first | (intro u hu; simp at hu; subst hu; rfl) | rfl
      case hb => omega
      case hbase => first | (simp; omega) | omega
      intro v' w' hown' hgrow' hat'
      have hat2 : v'.ownBlock = G.TR.ownBlock ∨ v'.ownBlock = some ((w.setCell ⟨g, (-x).toNat, none⟩ (.int .i8 (-1))).alloc (.cells #[.int .i64 x] 3)).heap.size := by simpa using hat'
      clear hat'
      revert HE1 HK1 hgrow' hat2
      clear kk3 T1 k0 k1 k2 k3 k4 k5 k6 kl
      generalize (w.setCell ⟨g, (-x).toNat, none⟩ (.int .i8 (-1))) = w1
      intro HE1 HK1 hgrow' hat2
      obtain ⟨VA', vc', rfl, -⟩ := Rd.own hown'
      obtain ⟨E2, R2, K2⟩ := HE1.out.pushed hown' hgrow' hat2
      have HE2 := Lib.hid E2
      have HK2 := Lib.hid K2
      have HR2 := Lib.hid R2
      clear E2 K2 R2 hown' hgrow' hat2
      have k0 := HR2.out.cell 0
      have k1 := HR2.out.cell 1
      have k2 := HR2.out.cell 2
      have k3 := HR2.out.cell 3
      have k4 := HR2.out.cell 4
      have k5 := HR2.out.cell 5
      have k6 := HR2.out.cell 6
      have kl := HR2.out.lt
      simp only [List.getElem?_cons_zero, List.getElem?_cons_succ] at k0 k1 k2 k3 k4 k5 k6
      have kf0 := HR2.out.frozen 0
      have kf1 := HR2.out.frozen 1
      have kf2 := HR2.out.frozen 2
      have kf3 := HR2.out.frozen 3
      have kf4 := HR2.out.frozen 4
      have kf5 := HR2.out.frozen 5
      have kf6 := HR2.out.frozen 6
      go_wp2
      go_ret
      have e1 : setB s x = true := by unfold setB; rw [HV0.out ()]; rfl
      have e2 : setP s x = s.put x := by unfold setP; rw [HV0.out (), if_pos rfl]
      rw [e1, e2]
      first | exact ⟨rfl, _, HEQ.out ▸ HE2.out, HK1.out.trans HK2.out⟩ | exact ⟨_, rfl, HEQ.out ▸ HE2.out, HK1.out.trans HK2.out⟩
  · rw [e] at HPV
    have HV0 : Hid (∀ _ : Unit, V.valL s.va x = 1) := fun _ => e
    have H := Lib.hid h
    clear e h hx
    go_enter Try.func15, Try.ntmps15
    go_wp2_with fail
    refine HPV.out.mono ?_
    rintro e w8 ⟨rfl, hw8⟩
    rw [hw8]
    clear hw8 w8
    go_wp2
    go_ret
    have e1 : setB s x = true := by unfold setB; rw [HV0.out ()]; rfl
    have e2 : setP s x = s := by unfold setP; rw [HV0.out (), if_neg (by decide)]
    rw [e1, e2]
    first | exact ⟨rfl, G, H.out, KeepW.refl _ _ _⟩ | exact ⟨G, rfl, H.out, KeepW.refl _ _ _⟩
  · rw [e] at HPV
    have HV0 : Hid (∀ _ : Unit, V.valL s.va x = -1) := fun _ => e
    have H := Lib.hid h
    clear e h hx
    go_enter Try.func15, Try.ntmps15
    go_wp2_with fail
    refine HPV.out.mono ?_
    rintro e w8 ⟨rfl, hw8⟩
    rw [hw8]
    clear hw8 w8
    go_wp2
    go_ret
    have e1 : setB s x = false := by unfold setB; rw [HV0.out ()]; rfl
    have e2 : setP s x = s := by unfold setP; rw [HV0.out (), if_neg (by decide)]
    rw [e1, e2]
    first | exact ⟨rfl, G, H.out, KeepW.refl _ _ _⟩ | exact ⟨G, rfl, H.out, KeepW.refl _ _ _⟩
end Go.Proofs.Ytbomfekfebamkaa

/-
  One step of a visit, in plain terms.
-/
set_option linter.unusedVariables false
set_option linter.unusedSimpArgs false
namespace Go.Proofs.Ytbomfekfebamkaa
namespace V
section
variable {n : Nat} {F : List (List Int)} {s : En} {x : Int} {kept r : List Nat} {k : Nat}
def notFalse (va : List Int) (y : Int) : Bool := decide (valL va y ≠ -1)
structure StepF (n : Nat) (F : List (List Int)) (s : En) (x : Int) (kept r : List Nat) (k : Nat) (c : List Int) (a : Int) (t : List Int) : Prop where
  at_ : s.cl[k]? = some c
  shape : c = a :: x :: t ∨ c = x :: a :: t
  front : frontC x c = a :: x :: t
  ne : a ≠ x
  la : lit n a
  lx : lit n x
  lt : ∀ y ∈ t, lit n y
  kl : k < s.cl.length
  keep : WF n F { s with cl := s.cl.set k (a :: x :: t), wa := upd s.wa x (kept ++ [k] ++ r) }
  move : ∀ j, t.findIdx? (notFalse s.va) = some j → j < t.length ∧ t.getD j 0 ≠ x ∧ lit n (t.getD j 0) ∧ WF n F { s with cl := s.cl.set k (a :: t.getD j 0 :: t.set j x), wa := upd (upd s.wa (t.getD j 0) (s.wa (t.getD j 0) ++ [k])) x (kept ++ r) }
  put : valL s.va a = 0 → WF n F { ({ s with cl := s.cl.set k (a :: x :: t) } : En).put a with wa := upd s.wa x (kept ++ [k] ++ r) }
  run : visitC x (k :: r) kept s = if valL s.va a = 1 then visitC x r (kept ++ [k]) { s with cl := s.cl.set k (a :: x :: t) }
      else match t.findIdx? (notFalse s.va) with
        | some j => visitC x r kept { s with cl := s.cl.set k (a :: t.getD j 0 :: t.set j x), wa := upd s.wa (t.getD j 0) (s.wa (t.getD j 0) ++ [k]) }
        | none =>
          if valL s.va a = -1 then ({ s with cl := s.cl.set k (a :: x :: t), wa := upd s.wa x (kept ++ [k] ++ r) }, false)
          else visitC x r (kept ++ [k]) ({ s with cl := s.cl.set k (a :: x :: t) }.put a)
theorem step_facts (hW : WF n F { s with wa := upd s.wa x (kept ++ k :: r) }) : ∃ c a t, StepF n F s x kept r k c a t := by
  have hk : k ∈ upd s.wa x (kept ++ k :: r) x := by rw [upd_same]; simp
  obtain ⟨c, hc, hwx⟩ := (hW.wat x k).1 hk
  simp only at hc
  obtain ⟨_, a0, b0, t, hct, hab, hat, hbt, hnt, hlc⟩ := hW.at (s := { s with wa := upd s.wa x (kept ++ k :: r) }) hc
  obtain ⟨a, hfr, hax, hp, hw, hPQ⟩ := frontC_spec (x := x) hct hwx hab
  have hlc' : ∀ y ∈ a :: x :: t, lit n y := fun y hy => hlc y (hp.mem_iff.1 hy)
  have hn' : (a :: x :: t).Nodup := hp.nodup_iff.2 (by rw [hct]; simp [hab, hat, hbt, hnt])
  simp only [List.nodup_cons, List.mem_cons, not_or] at hn'
  obtain ⟨⟨_, hat'⟩, hxt, _⟩ := hn'
  have hkl : k < s.cl.length := (List.getElem?_eq_some_iff.1 hc).1
  have hW1 : WF n F { s with cl := s.cl.set k (a :: x :: t), wa := upd s.wa x (kept ++ k :: r) } := hW.respell hc hp (fun y => by rw [hw y]; simp [isW])
  have hassoc : kept ++ [k] ++ r = kept ++ k :: r := by simp
  refine ⟨c, a, t, hc, ?_, hfr, hax, hlc' a (by simp), hlc' x (by simp), fun y hy => hlc' y (by simp [hy]), hkl, by rw [hassoc]; exact hW1, ?_, ?_, ?_⟩
  · rw [hct] at hfr ⊢
    unfold frontC at hfr
    simp only at hfr
    split at hfr
    · next e => injection hfr with e1 e2; injection e2 with e2 e3; exact .inr (by rw [e, e1])
    · next e => injection hfr with e1 e2; injection e2 with e2 e3; exact .inl (by rw [e1, e2])
  · intro j hf
    obtain ⟨hj, hjv, _⟩ := List.findIdx?_eq_some_iff_getElem.1 hf
    have hyg : t.getD j 0 = t[j] := by simp [List.getD_eq_getElem?_getD, List.getElem?_eq_getElem hj]
    have hym : t[j] ∈ t := List.getElem_mem hj
    have hyx : t[j] ≠ x := fun e => hxt (e ▸ hym)
    have hya : t[j] ≠ a := fun e => hat' (e ▸ hym)
    have hps : (t[j] :: t.set j x).Perm (x :: t) := by have := perm_swap_in 0 x t j hj; rwa [hyg] at this
    rw [hyg]
    exact ⟨hj, hyx, hlc' _ (by simp [hym]), hW.rewatch (a := a) (y := t[j]) (t' := t.set j x) hc hw ((hps.cons a).trans hp) hax hyx hya⟩
  · intro h0
    rw [hassoc]; exact hW1.put (hlc' a (by simp)) h0
  · show visitC x (k :: r) kept s = _
    conv => lhs; unfold visitC
    rw [getD_of_get hc, hfr]
    rfl
/-- No list of watches is longer than the list of clauses. -/
theorem WF.wle (h : WF n F s) (y : Int) : (s.wa y).length ≤ F.length := by
  refine nodup_le _ _ (h.wnd y) fun k hk => ?_
  obtain ⟨c, hc, _⟩ := (h.wat y k).1 hk
  rw [← h.clen]; exact (List.getElem?_eq_some_iff.1 hc).1
/-- One literal of the trail is propagated. -/
theorem prop_step (hW : WF n F s) (hI : Inv2 s s.hd) {l : Int} (hl : s.tr[s.hd]? = some l) : ∀ r, r = visitC (-l) (s.wa (-l)) [] s → WF n F r.1 ∧ r.1.hd = s.hd ∧ (r.2 = true → WF n F { r.1 with hd := s.hd + 1 } ∧ Inv2 { r.1 with hd := s.hd + 1 } (s.hd + 1)) := by
  intro r hr0
  have hhd : s.hd < s.tr.length := (List.getElem?_eq_some_iff.1 hl).1
  have hlm : l ∈ s.tr := List.mem_of_getElem? hl
  have hV := visit_spec (n := n) (F := F) (x := -l) (s.wa (-l)) [] s (by rw [List.nil_append, upd_self]; exact hW) (by simpa using hlm) (fun k hk => absurd hk (by simp)) hI
  rw [← hr0] at hV
  obtain ⟨ex, hex⟩ := hV.ext
  refine ⟨hV.wf, hV.hd, fun hr => ?_⟩
  obtain ⟨g1, g2⟩ := hV.good hr
  refine ⟨⟨hV.wf.tk, by show s.hd + 1 ≤ r.1.tr.length; rw [hex]; simp; omega, hV.wf.clen, hV.wf.cls, hV.wf.good, hV.wf.wat, hV.wf.wnd⟩, ?_⟩
  have htk : r.1.tr.take (s.hd + 1) = r.1.tr.take s.hd ++ [l] := by
    rw [List.take_add_one]
    have : r.1.tr[s.hd]? = some l := by rw [hex, List.getElem?_append_left hhd]; exact hl
    rw [this]; rfl
  intro c hc
  have h1 := g1 c hc
  obtain ⟨k, hk⟩ := List.getElem?_of_mem hc
  have hk' : r.1.cl[k]? = some c := hk
  have h2 : isW c (-l) → Pair (fun a => a = -l) (fun b => b ∈ r.1.tr) c := fun hw => g2 k ((hV.wf.wat (-l) k).2 ⟨c, hk', hw⟩) c hk'
  show Pair (fun a => -a ∈ r.1.tr.take (s.hd + 1)) (fun b => b ∈ r.1.tr) c
  match c, h1, h2 with
  | [], _, _ => trivial
  | [_], _, _ => trivial
  | a :: b :: t, h1, h2 =>
    have e : ∀ z, -z ∈ r.1.tr.take (s.hd + 1) ↔ -z ∈ r.1.tr.take s.hd ∨ z = -l := fun z => by
      rw [htk, List.mem_append, List.mem_singleton]; exact or_congr Iff.rfl ⟨fun q => by omega, fun q => by omega⟩
    refine ⟨fun q => ?_, fun q => ?_⟩
    · rcases (e a).1 q with q | q
      · exact h1.1 q
      · exact (h2 (.inl q)).1 q
    · rcases (e b).1 q with q | q
      · exact h1.2 q
      · exact (h2 (.inr q)).2 q
end
end V
end Go.Proofs.Ytbomfekfebamkaa

/-
  append into the room of a row that is known whole (a slice that is filtered in its own block). Any program.
-/
namespace Go.Proofs.Ytbomfekfebamkaa
open Go.RowKit
set_option linter.unusedSimpArgs false
set_option linter.unusedVariables false
section
variable {P : Program} {w : World} {o : Oper} {a : Act} {Q : Exit → Act → World → Prop}
theorem Row.setRowV {w : World} {g : Nat} {T : TypeId} {xs : List Value} (h : Row w g T xs) (ys : List Value) : Row (w.setRow g ys.toArray) g T ys := setRow_heap w g _ _ T _ h
theorem setRow_grownV (w : World) (g : Nat) (cs : Array Value) : w.grownBy (w.setRow g cs) (some g) := ⟨rfl, rfl, rfl, by simp, fun k _ hk => setRow_other w g k cs (fun e => hk (by rw [e]))⟩
theorem wp_room {K : Act → World → Prop} (s x : Operand) (t : TypeId) (ho : o.op = .call { callee := .builtin .append, args := #[s, x], argTypes := #[t, t] })
    (e : TypeId) (z : Value) (bytes : Nat) (ht : P.underlying t = some (.slice e)) (hi : (P.info? e).map (fun i => (i.zero, i.size, i.bytes)) = some (some z, 1, bytes))
    (g n c : Nat) (cur : List Value) (hs : a.eval s = .slice (some ⟨g, 0, none⟩) n c) (hrow : Row w g e cur) (hcl : cur.length = c)
    (ad : Addr) (m c2 : Nat) (news : List Value) (hx : a.eval x = .slice (some ad) m c2) (hnl : news.length = m) (hnews : ∀ j u, news[j]? = some u → w.cell? (ad.add j) = some u) (h1 : ∀ u ∈ news, u.oneCell' = true) (hn : n + m ≤ c)
    (h : K (a.put o.dst (.slice (some ⟨g, 0, none⟩) (n + m) c)) (w.setRow g (cur.take n ++ news ++ cur.drop (n + m)).toArray)) : o.wp P a w K Q := by
  obtain ⟨i, g1, g2, g3, g4⟩ := info_parts hi
  have hrun := run_append_room (P := P) w t o.type e i ht g1 g n c cur.toArray hrow ad m c2 news (by rw [g3]; omega) hnews h1 hn (by rw [g3]; simp; omega)
  rw [g3, hnl] at hrun
  simp only [Nat.mul_one] at hrun
  unfold Oper.wp execOp
  simp only [ho, resolve, invoke, builtin, Sem.run_bind, Sem.run_pure, Result.andThen_ok, List.map_toArray, List.map_cons, List.map_nil, hs, hx, hrun]
  exact h
theorem wpList_room {ops : Array Oper} {rest : List Oper} (hgd : o.guard = none) (s x : Operand) (t : TypeId) (ho : o.op = .call { callee := .builtin .append, args := #[s, x], argTypes := #[t, t] })
    (e : TypeId) (z : Value) (bytes : Nat) (ht : P.underlying t = some (.slice e)) (hi : (P.info? e).map (fun i => (i.zero, i.size, i.bytes)) = some (some z, 1, bytes))
    (g n c : Nat) (cur : List Value) (hs : a.eval s = .slice (some ⟨g, 0, none⟩) n c) (hrow : Row w g e cur) (hcl : cur.length = c)
    (ad : Addr) (m c2 : Nat) (news : List Value) (hx : a.eval x = .slice (some ad) m c2) (hnl : news.length = m) (hnews : ∀ j u, news[j]? = some u → w.cell? (ad.add j) = some u) (h1 : ∀ u ∈ news, u.oneCell' = true) (hn : n + m ≤ c)
    (h : wpList P ops Q rest (a.put o.dst (.slice (some ⟨g, 0, none⟩) (n + m) c)) (w.setRow g (cur.take n ++ news ++ cur.drop (n + m)).toArray)) : wpList P ops Q (o :: rest) a w :=
  wpList_plain hgd fun _ hK => wp_room s x t ho e z bytes ht hi g n c cur hs hrow hcl ad m c2 news hx hnl hnews h1 hn (hK _ _ h)
theorem step_room {ops : Array Oper} {K : Act → World → Prop} {E : Prop} (hgd : o.guard = none) (s x : Operand) (t : TypeId) (ho : o.op = .call { callee := .builtin .append, args := #[s, x], argTypes := #[t, t] })
    (e : TypeId) (z : Value) (bytes : Nat) (ht : P.underlying t = some (.slice e)) (hi : (P.info? e).map (fun i => (i.zero, i.size, i.bytes)) = some (some z, 1, bytes))
    (g n c : Nat) (cur : List Value) (hs : a.eval s = .slice (some ⟨g, 0, none⟩) n c) (hrow : Row w g e cur) (hcl : cur.length = c)
    (ad : Addr) (m c2 : Nat) (news : List Value) (hx : a.eval x = .slice (some ad) m c2) (hnl : news.length = m) (hnews : ∀ j u, news[j]? = some u → w.cell? (ad.add j) = some u) (h1 : ∀ u ∈ news, u.oneCell' = true) (hn : n + m ≤ c)
    (h : K (a.put o.dst (.slice (some ⟨g, 0, none⟩) (n + m) c)) (w.setRow g (cur.take n ++ news ++ cur.drop (n + m)).toArray)) : if Region.wanted o (yielded ops a.tmps) = true then Oper.wp P o a w K Q else E := by
  rw [if_pos (by simp [Region.wanted, hgd])]
  exact wp_room s x t ho e z bytes ht hi g n c cur hs hrow hcl ad m c2 news hx hnl hnews h1 hn h
end
end Go.Proofs.Ytbomfekfebamkaa

/-
  What a visit's loop knows of the memory.
-/
namespace Go.Proofs.Ytbomfekfebamkaa
open Go.RowKit Go.Maps
set_option linter.unusedSimpArgs false
set_option linter.unusedVariables false
structure VL (w wr : World) (B b n : Nat) (F : List (List Int)) (s s' : V.En) (x : Int) (de : List V.Dec) (bad : Bool) (G G' : EG) (DE : Value) (g c eb : Nat) (i : Nat) (kept : List Nat) (cells : List Value) : Prop where
  eq : V.visitC x (s.wa x) [] s = V.visitC x ((s.wa x).drop i) kept s'
  eng : EngS wr B b s' (fun z => z = x) de bad G' DE
  fn : G'.fn x = .slice (some ⟨g, 0, none⟩) (s.wa x).length c
  og : G'.O g = .watch x
  gB : B ≤ g
  row : Row wr g 3 cells
  clen : cells.length = c
  cmax : c ≤ maxLen
  kc : cells.take kept.length = nats kept
  rc : ∀ j, i ≤ j → j < (s.wa x).length → cells[j]? = some (.int .i64 ((s.wa x).getD j 0 : Nat))
  kl : kept.length ≤ i
  nc : (s.wa x).length ≤ c
  wf : V.WF n F { s' with wa := V.upd s'.wa x (kept ++ (s.wa x).drop i) }
  xt : -x ∈ s'.tr
  ebr : Row wr eb 37 [.pointer (some ⟨b, 0, none⟩)]
  eo : G'.O eb = .none
  bel : Below B w wr
  own : ∀ g, g < w.heap.size → G'.O g = G.O g
section
variable {w wr : World} {B b n : Nat} {F : List (List Int)} {s s' : V.En} {x : Int} {de : List V.Dec} {bad : Bool} {G G' : EG} {DE : Value} {g c eb i : Nat} {kept : List Nat} {cells : List Value}
/-- A watch is kept: its number is written behind those that are kept, in the row's own block. -/
theorem VL.keepRow (h : VL w wr B b n F s s' x de bad G G' DE g c eb i kept cells) (hi : i < (s.wa x).length) (k : Nat) :
    ((cells.take kept.length ++ Value.int .i64 (k : Int) :: cells.drop (kept.length + 1)).take (kept ++ [k]).length = nats (kept ++ [k])) ∧ (cells.take kept.length ++ Value.int .i64 (k : Int) :: cells.drop (kept.length + 1)).length = c ∧
    (∀ j, i + 1 ≤ j → j < (s.wa x).length → (cells.take kept.length ++ Value.int .i64 (k : Int) :: cells.drop (kept.length + 1))[j]? = some (.int .i64 ((s.wa x).getD j 0 : Nat))) := by
  have h1 := h.kl
  have h2 := h.nc
  have h3 := h.clen
  have hk : (cells.take kept.length).length = kept.length := by simp; omega
  have e : cells.take kept.length ++ Value.int .i64 (k : Int) :: cells.drop (kept.length + 1) = (cells.take kept.length ++ [Value.int .i64 (k : Int)]) ++ cells.drop (kept.length + 1) := by simp
  rw [e]
  refine ⟨?_, by simp; omega, fun j hj hjn => ?_⟩
  · rw [List.take_append_of_le_length (by simp; omega), List.take_of_length_le (by simp; omega), h.kc, nats_snoc]
  · rw [List.getElem?_append_right (by simp; omega)]
    simp only [List.length_append, hk, List.length_singleton, List.getElem?_drop]
    rw [show kept.length + 1 + (j - (kept.length + 1)) = j by omega]
    exact h.rc j (by omega) hjn
theorem VL.dropK (h : VL w wr B b n F s s' x de bad G G' DE g c eb i kept cells) (hi : i < (s.wa x).length) : (s.wa x).drop i = (s.wa x).getD i 0 :: (s.wa x).drop (i + 1) := by
  rw [List.drop_eq_getElem_cons hi]
  simp [List.getD_eq_getElem?_getD, List.getElem?_eq_getElem hi]
/-- The watch k is kept, in whatever world its clause has been looked at. -/
theorem VL.onKept (h : VL w wr B b n F s s' x de bad G G' DE g c eb i kept cells) (hi : i < (s.wa x).length) {k : Nat} {s2 : V.En} {G2 : EG} {w2 : World}
    (heq : V.visitC x (s.wa x) [] s = V.visitC x ((s.wa x).drop (i + 1)) (kept ++ [k]) s2) (E2 : EngS w2 B b s2 (fun z => z = x) de bad G2 DE) (hwf : V.WF n F { s2 with wa := V.upd s2.wa x (kept ++ [k] ++ (s.wa x).drop (i + 1)) })
    (hxt : -x ∈ s2.tr) (hrow : Row w2 g 3 cells) (heb : Row w2 eb 37 [.pointer (some ⟨b, 0, none⟩)]) (hbel : Below B w w2) (hfn : G2.fn = G'.fn) (hog : G2.O g = .watch x) (heo : G2.O eb = .none) (hown : ∀ g, g < w.heap.size → G2.O g = G.O g) :
    VL w ((w2.alloc (.cells #[.int .i64 k] 3)).setRow g (cells.take kept.length ++ Value.int .i64 (k : Int) :: cells.drop (kept.length + 1)).toArray) B b n F s s2 x de bad G G2 DE g c eb (i + 1) (kept ++ [k]) (cells.take kept.length ++ Value.int .i64 (k : Int) :: cells.drop (kept.length + 1)) := by
  obtain ⟨q1, q2, q3⟩ := h.keepRow hi k
  have hne : eb ≠ g := fun e => by rw [e, hog] at heo; cases heo
  have hB : B ≤ w2.heap.size := Nat.le_trans h.gB (Nat.le_of_lt hrow.lt)
  exact ⟨heq, (E2.alloc _).growW (setRow_grownV _ _ _) hog rfl, by rw [hfn]; exact h.fn, hog, h.gB, (hrow.alloc _).setRowV _, q2, h.cmax, q1, q3, by have := h.kl; simp; omega, h.nc, hwf, hxt, (setRow_other _ _ _ _ hne).trans (heb.alloc _), heo,
    (hbel.alloc hB _).grown (setRow_grownV _ _ _) (by simp; omega) (fun k e => by cases e; exact h.gB), hown⟩
/-- A watch is moved: the row stays. -/
theorem VL.onMoved (h : VL w wr B b n F s s' x de bad G G' DE g c eb i kept cells) {s2 : V.En} {G2 : EG} {w2 : World}
    (heq : V.visitC x (s.wa x) [] s = V.visitC x ((s.wa x).drop (i + 1)) kept s2) (E2 : EngS w2 B b s2 (fun z => z = x) de bad G2 DE) (hwf : V.WF n F { s2 with wa := V.upd s2.wa x (kept ++ (s.wa x).drop (i + 1)) })
    (hxt : -x ∈ s2.tr) (hrow : Row w2 g 3 cells) (heb : Row w2 eb 37 [.pointer (some ⟨b, 0, none⟩)]) (hbel : Below B w w2) (hfn : G2.fn x = G'.fn x) (hog : G2.O g = .watch x) (heo : G2.O eb = .none) (hown : ∀ g, g < w.heap.size → G2.O g = G.O g) :
    VL w w2 B b n F s s2 x de bad G G2 DE g c eb (i + 1) kept cells :=
  ⟨heq, E2, hfn.trans h.fn, hog, h.gB, hrow, h.clen, h.cmax, h.kc, fun j hj hjn => h.rc j (by omega) hjn, by have := h.kl; omega, h.nc, hwf, hxt, heb, heo, hbel, hown⟩
/-- The end of the loop: the row as it stands is what the map gets. -/
theorem VL.endHd (h : VL w wr B b n F s s' x de bad G G' DE g c eb i kept cells) (l : List Nat) (hl : cells.take l.length = nats l) (hc : l.length ≤ c) : Hd wr G'.O B (.watch x) 3 1 (.slice (some ⟨g, 0, none⟩) l.length c) l.length (nats l) :=
  ⟨⟨by simp, .inr ⟨g, c, cells.toArray, rfl, h.gB, h.row, hc, h.cmax, by simpa using h.clen, by simpa using hl⟩⟩, fun k hk => by
    have : g = k := by simpa [Value.ownBlock] using hk
    exact this ▸ h.og⟩
/-- The map gets the row. -/
theorem eng_fin {W w' : World} {s2 : V.En} {G2 : EG} {cs : List Value} (E : EngS W B b s2 (fun z => z = x) de bad G2 DE) (hrow : Row W g 3 cs) (hB : B ≤ g) (hcl : cs.length = c) (hcm : c ≤ maxLen) (hO : G2.O g = .watch x) (l : List Nat) (hl : cs.take l.length = nats l) (hlc : l.length ≤ c)
    (hm : MI w' Try.prog 3 G2.mb (updV G2.fn x (.slice (some ⟨g, 0, none⟩) l.length c)) (.slice none 0 0)) (hg : W.grownBy w' (some G2.mb)) :
    EngS w' B b { s2 with wa := V.upd s2.wa x l } (fun _ => False) de bad { G2 with fn := updV G2.fn x (.slice (some ⟨g, 0, none⟩) l.length c) } DE :=
  (E.mapUpd ⟨⟨by simp, .inr ⟨g, c, cs.toArray, rfl, hB, hrow, hlc, hcm, by simpa using hcl, by simpa using hl⟩⟩, fun k hk => by
    have : g = k := by simpa [Value.ownBlock] using hk
    exact this ▸ hO⟩ hm hg).weak (fun z q => q.2 q.1)
theorem map_below {W w' : World} {mb : Nat} (hg : W.grownBy w' (some mb)) (hB : B ≤ mb) (hS : B ≤ W.heap.size) {w0 : World} (h : Below B w0 W) : Below B w0 w' := h.grown hg hS (fun k e => by cases e; exact hB)
theorem conf_take {ce : List Value} {l1 l2 : List Nat} {m p : Nat} (h : ce.take l1.length = nats l1) (hl : l1.length ≤ ce.length) (hp : p = l1.length) : (ce.take p ++ nats l2 ++ ce.drop m).take (l1 ++ l2).length = nats (l1 ++ l2) := by
  subst hp
  rw [List.take_append_of_le_length (by simp; omega), List.take_of_length_le (by simp; omega), h]
  simp [nats, ints]
theorem nats_rest (L : List Nat) (i j : Nat) (u : Value) (h : (nats (L.drop (i + 1)))[j]? = some u) : i + 1 + j < L.length ∧ u = .int .i64 (L.getD (i + 1 + j) 0 : Nat) := by
  have hl : j < (L.drop (i + 1)).length := by have := (List.getElem?_eq_some_iff.1 h).1; simpa using this
  rw [nats_get _ _ hl] at h
  simp at hl
  refine ⟨by omega, ?_⟩
  injection h with h
  rw [← h]
  simp [List.getD_eq_getElem?_getD, List.getElem?_drop]
end
end Go.Proofs.Ytbomfekfebamkaa
