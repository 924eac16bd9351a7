/-
  refute's visit of one clause, in plain terms.
-/
import Derived.Test.YtbomfekfebamkaaVC5
import Derived.Test.YtbomfekfebamkaaProg
import Derived.Test.YtbomfekfebamkaaVC1
import Derived.Test.YtbomfekfebamkaaVC4
set_option linter.unusedVariables false
set_option linter.unusedSimpArgs false
namespace Go.Proofs.Ytbomfekfebamkaa
namespace V
section
variable {n : Nat} {F : List (List Int)} {s : En} {x : Int} {kept r : List Nat} {k : Nat} {c : List Int} {a : Int} {t : List Int}
/-- One clause is visited: what is left, whether its watch was moved, whether it is not false. -/
def visit1 (x : Int) (k : Nat) (s : En) : En × Bool × Bool :=
  match frontC x (s.cl.getD k []) with
  | a :: b :: t =>
    if valL s.va a = 1 then ({ s with cl := s.cl.set k (a :: b :: t) }, false, true)
    else match t.findIdx? (notFalse s.va) with
      | some j => ({ s with cl := s.cl.set k (a :: t.getD j 0 :: t.set j b), wa := upd s.wa (t.getD j 0) (s.wa (t.getD j 0) ++ [k]) }, true, true)
      | none => (if valL s.va a = 0 then ({ s with cl := s.cl.set k (a :: b :: t) } : En).put a else { s with cl := s.cl.set k (a :: b :: t) }, false, decide (valL s.va a ≠ -1))
  | _ => (s, false, false)
theorem StepF.one (h : StepF n F s x kept r k c a t) : visit1 x k s =
    if valL s.va a = 1 then ({ s with cl := s.cl.set k (a :: x :: t) }, false, true)
    else match t.findIdx? (notFalse s.va) with
      | some j => ({ s with cl := s.cl.set k (a :: t.getD j 0 :: t.set j x), wa := upd s.wa (t.getD j 0) (s.wa (t.getD j 0) ++ [k]) }, true, true)
      | none => (if valL s.va a = 0 then ({ s with cl := s.cl.set k (a :: x :: t) } : En).put a else { s with cl := s.cl.set k (a :: x :: t) }, false, decide (valL s.va a ≠ -1)) := by
  unfold visit1
  rw [getD_of_get h.at_, h.front]
/-- What a visit of one clause is worth for the visit of all. -/
structure Out1 (n : Nat) (F : List (List Int)) (s : En) (x : Int) (kept r : List Nat) (k : Nat) (v : En × Bool × Bool) : Prop where
  moved : v.2.1 = true → v.2.2 = true ∧ visitC x (k :: r) kept s = visitC x r kept v.1 ∧ WF n F { v.1 with wa := upd v.1.wa x (kept ++ r) }
  kept : v.2.1 = false → WF n F { v.1 with wa := upd v.1.wa x (kept ++ [k] ++ r) } ∧
    (v.2.2 = true → visitC x (k :: r) kept s = visitC x r (kept ++ [k]) v.1) ∧
    (v.2.2 = false → visitC x (k :: r) kept s = ({ v.1 with wa := upd v.1.wa x (kept ++ [k] ++ r) }, false))
  ext : ∀ y ∈ s.tr, y ∈ v.1.tr
  hd : v.1.hd = s.hd
theorem one_out (hr : valL s.va a = 0 ∨ valL s.va a = 1 ∨ valL s.va a = -1) (h : StepF n F s x kept r k c a t) : Out1 n F s x kept r k (visit1 x k s) := by
  rw [h.one]
  have hrun := h.run
  by_cases h1 : valL s.va a = 1
  · rw [if_pos h1] at hrun ⊢
    exact ⟨fun q => by simp at q, fun _ => ⟨h.keep, fun _ => hrun, fun q => by simp at q⟩, fun y hy => hy, rfl⟩
  · rw [if_neg h1] at hrun ⊢
    cases hf : t.findIdx? (notFalse s.va) with
    | some j =>
      rw [hf] at hrun
      exact ⟨fun _ => ⟨rfl, hrun, (h.move j hf).2.2.2⟩, fun q => by simp at q, fun y hy => hy, rfl⟩
    | none =>
      rw [hf] at hrun
      simp only at hrun ⊢
      rcases hr with e | e | e
      · rw [if_pos e]
        rw [if_neg (by omega)] at hrun
        exact ⟨fun q => by simp at q, fun _ => ⟨h.put e, fun _ => hrun, fun q => by simp [e] at q⟩, fun y hy => List.mem_append.2 (.inl hy), rfl⟩
      · exact absurd e h1
      · rw [if_neg (by omega)]
        rw [if_pos e] at hrun
        exact ⟨fun q => by simp at q, fun _ => ⟨h.keep, fun q => by simp [e] at q, fun _ => hrun⟩, fun y hy => hy, rfl⟩
/-- The first literal that is not false. -/
theorem find_first {p : Int → Bool} {t : List Int} {j : Nat} (hj : j < t.length) (hp : p (t.getD j 0) = true) (hb : ∀ i, i < j → p (t.getD i 0) = false) : t.findIdx? p = some j := by
  refine List.findIdx?_eq_some_iff_getElem.2 ⟨hj, ?_, fun i hi => ?_⟩
  · rw [← hp]; simp [List.getD_eq_getElem?_getD, List.getElem?_eq_getElem hj]
  · have := hb i hi
    rw [List.getD_eq_getElem?_getD, List.getElem?_eq_getElem (by omega)] at this
    simp at this; simp [this]
theorem find_no {p : Int → Bool} {t : List Int} (hb : ∀ i, i < t.length → p (t.getD i 0) = false) : t.findIdx? p = none := by
  refine List.findIdx?_eq_none_iff.2 fun y hy => ?_
  obtain ⟨i, hi, e⟩ := List.getElem_of_mem hy
  have := hb i hi
  rw [List.getD_eq_getElem?_getD, List.getElem?_eq_getElem hi] at this
  simpa [e] using this
theorem notFalse_ge {va : List Int} {y : Int} (hr : valL va y = 0 ∨ valL va y = 1 ∨ valL va y = -1) : decide (0 ≤ valL va y) = notFalse va y := by
  unfold notFalse
  rcases hr with e | e | e <;> rw [e] <;> decide
end
end V
end Go.Proofs.Ytbomfekfebamkaa

/-
  refute's propagate: what its inner loop knows of the memory (printed from VVisM).
-/
namespace Go.Proofs.Ytbomfekfebamkaa
open Go.RowKit Go.Maps
set_option linter.unusedSimpArgs false
set_option linter.unusedVariables false
/-- Blocks that no step on an engine touches: nobody's, and the prover's list. -/
def fre : Ow → Prop
  | .none | .decs => True
  | _ => False
structure VR (w wr : World) (B b n : Nat) (F : List (List Int)) (s s' : V.En) (x : Int) (us : List Int) (em : Bool) (G G' : EG) (US : Value) (g c : Nat) (i : Nat) (kept : List Nat) (cells : List Value) : Prop where
  eq : V.visitC x (s.wa x) [] s = V.visitC x ((s.wa x).drop i) kept s'
  eng : EngR wr B b s' (fun z => z = x) us em G' US
  fn : G'.fn x = .slice (some ⟨g, 0, none⟩) (s.wa x).length c
  og : G'.O g = .watch x
  gB : B ≤ g
  row : Row wr g 3 cells
  clen : cells.length = c
  cmax : c ≤ maxLen
  kc : cells.take kept.length = nats kept
  rc : ∀ j, i ≤ j → j < (s.wa x).length → cells[j]? = some (.int .i64 ((s.wa x).getD j 0 : Nat))
  kl : kept.length ≤ i
  nc : (s.wa x).length ≤ c
  wf : V.WF n F { s' with wa := V.upd s'.wa x (kept ++ (s.wa x).drop i) }
  xt : -x ∈ s'.tr
  bel : Below B w wr
  own : ∀ g, g < w.heap.size → G'.O g = G.O g
  non : ∀ g, g < w.heap.size → fre (G.O g) → wr.heap[g]? = w.heap[g]?
/-- What a step on an engine keeps: all below B, whose blocks are, the blocks that are nobody's. -/
structure KeepN (B : Nat) (w w' : World) (G G' : EG) : Prop where
  below : Below B w w'
  own : ∀ g, g < w.heap.size → G'.O g = G.O g
  non : ∀ g, g < w.heap.size → fre (G.O g) → w'.heap[g]? = w.heap[g]?
theorem KeepN.refl (B : Nat) (w : World) (G : EG) : KeepN B w w G G := ⟨Below.refl _ _, fun _ _ => rfl, fun _ _ _ => rfl⟩
theorem KeepN.trans {B : Nat} {w w1 w' : World} {G G1 G' : EG} (h : KeepN B w w1 G G1) (k : KeepN B w1 w' G1 G') : KeepN B w w' G G' :=
  ⟨h.below.trans k.below, fun g hg => (k.own g (Nat.lt_of_lt_of_le hg h.below.size)).trans (h.own g hg), fun g hg h1 => (k.non g (Nat.lt_of_lt_of_le hg h.below.size) (by rw [h.own g hg]; exact h1)).trans (h.non g hg h1)⟩
theorem KeepW.toN {B : Nat} {w w' : World} {G G' : EG} (h : KeepW B w w' G G') : KeepN B w w' G G' := ⟨h.below, h.own, fun g hg h1 => h.oth g hg (fun e => by rw [e] at h1; exact h1) (fun e => by rw [e] at h1; exact h1) (fun e => by rw [e] at h1; exact h1)⟩
section
variable {w wr : World} {B b n : Nat} {F : List (List Int)} {s s' : V.En} {x : Int} {us : List Int} {em : Bool} {G G' : EG} {US : Value} {g c i : Nat} {kept : List Nat} {cells : List Value}
/-- A watch is kept: its number is written behind those that are kept, in the row's own block. -/
theorem VR.keepRow (h : VR w wr B b n F s s' x us em G G' US g c i kept cells) (hi : i < (s.wa x).length) (k : Nat) :
    ((cells.take kept.length ++ Value.int .i64 (k : Int) :: cells.drop (kept.length + 1)).take (kept ++ [k]).length = nats (kept ++ [k])) ∧ (cells.take kept.length ++ Value.int .i64 (k : Int) :: cells.drop (kept.length + 1)).length = c ∧
    (∀ j, i + 1 ≤ j → j < (s.wa x).length → (cells.take kept.length ++ Value.int .i64 (k : Int) :: cells.drop (kept.length + 1))[j]? = some (.int .i64 ((s.wa x).getD j 0 : Nat))) := by
  have h1 := h.kl
  have h2 := h.nc
  have h3 := h.clen
  have hk : (cells.take kept.length).length = kept.length := by simp; omega
  have e : cells.take kept.length ++ Value.int .i64 (k : Int) :: cells.drop (kept.length + 1) = (cells.take kept.length ++ [Value.int .i64 (k : Int)]) ++ cells.drop (kept.length + 1) := by simp
  rw [e]
  refine ⟨?_, by simp; omega, fun j hj hjn => ?_⟩
  · rw [List.take_append_of_le_length (by simp; omega), List.take_of_length_le (by simp; omega), h.kc, nats_snoc]
  · rw [List.getElem?_append_right (by simp; omega)]
    simp only [List.length_append, hk, List.length_singleton, List.getElem?_drop]
    rw [show kept.length + 1 + (j - (kept.length + 1)) = j by omega]
    exact h.rc j (by omega) hjn
theorem VR.dropK (h : VR w wr B b n F s s' x us em G G' US g c i kept cells) (hi : i < (s.wa x).length) : (s.wa x).drop i = (s.wa x).getD i 0 :: (s.wa x).drop (i + 1) := by
  rw [List.drop_eq_getElem_cons hi]
  simp [List.getD_eq_getElem?_getD, List.getElem?_eq_getElem hi]
/-- A watch is moved: the row stays. -/
theorem VR.onMoved (h : VR w wr B b n F s s' x us em G G' US g c i kept cells) {s2 : V.En} {G2 : EG} {w2 : World}
    (heq : V.visitC x (s.wa x) [] s = V.visitC x ((s.wa x).drop (i + 1)) kept s2) (E2 : EngR w2 B b s2 (fun z => z = x) us em G2 US) (hwf : V.WF n F { s2 with wa := V.upd s2.wa x (kept ++ (s.wa x).drop (i + 1)) })
    (hxt : -x ∈ s2.tr) (hrow : Row w2 g 3 cells) (hbel : Below B w w2) (hfn : G2.fn x = G'.fn x) (hog : G2.O g = .watch x) (hown : ∀ g, g < w.heap.size → G2.O g = G.O g) (hnon : ∀ g, g < w.heap.size → fre (G.O g) → w2.heap[g]? = w.heap[g]?) :
    VR w w2 B b n F s s2 x us em G G2 US g c (i + 1) kept cells :=
  ⟨heq, E2, hfn.trans h.fn, hog, h.gB, hrow, h.clen, h.cmax, h.kc, fun j hj hjn => h.rc j (by omega) hjn, by have := h.kl; omega, h.nc, hwf, hxt, hbel, hown, hnon⟩
/-- The end of the loop: the row as it stands is what the map gets. -/
theorem VR.endHd (h : VR w wr B b n F s s' x us em G G' US g c i kept cells) (l : List Nat) (hl : cells.take l.length = nats l) (hc : l.length ≤ c) : Hd wr G'.O B (.watch x) 3 1 (.slice (some ⟨g, 0, none⟩) l.length c) l.length (nats l) :=
  ⟨⟨by simp, .inr ⟨g, c, cells.toArray, rfl, h.gB, h.row, hc, h.cmax, by simpa using h.clen, by simpa using hl⟩⟩, fun k hk => by
    have : g = k := by simpa [Value.ownBlock] using hk
    exact this ▸ h.og⟩
/-- The map gets the row. -/
theorem engR_fin {W w' : World} {s2 : V.En} {G2 : EG} {cs : List Value} (E : EngR W B b s2 (fun z => z = x) us em G2 US) (hrow : Row W g 3 cs) (hB : B ≤ g) (hcl : cs.length = c) (hcm : c ≤ maxLen) (hO : G2.O g = .watch x) (l : List Nat) (hl : cs.take l.length = nats l) (hlc : l.length ≤ c)
    (hm : MI w' Try.prog 3 G2.mb (updV G2.fn x (.slice (some ⟨g, 0, none⟩) l.length c)) (.slice none 0 0)) (hg : W.grownBy w' (some G2.mb)) :
    EngR w' B b { s2 with wa := V.upd s2.wa x l } (fun _ => False) us em { G2 with fn := updV G2.fn x (.slice (some ⟨g, 0, none⟩) l.length c) } US :=
  (E.mapUpd ⟨⟨by simp, .inr ⟨g, c, cs.toArray, rfl, hB, hrow, hlc, hcm, by simpa using hcl, by simpa using hl⟩⟩, fun k hk => by
    have : g = k := by simpa [Value.ownBlock] using hk
    exact this ▸ hO⟩ hm hg).weak (fun z q => q.2 q.1)
end
end Go.Proofs.Ytbomfekfebamkaa

/-
  slices.IndexFunc and slices.ContainsFunc at integers, for whatever predicate.
-/
namespace Go.Proofs.Ytbomfekfebamkaa
open Go.RowKit
set_option linter.unusedSimpArgs false
set_option linter.unusedVariables false

/-- What is asked of a predicate at integers that lies in world w. -/
def PredInts (P : Program) (g : Nat) (lb : Array Value) (p : Int → Bool) (zs : List Int) (w : World) : Prop :=
  ∀ (W : World) (x : Int), x ∈ zs → Below w.heap.size w W → Calls P g (#[.int .i64 x] ++ lb) W fun e w' => e = .returned (.bool (p x)) ∧ Below w.heap.size w w'

/-- The first place at which p holds; -1. -/
def findI (p : Int → Bool) (zs : List Int) : Int := match zs.findIdx? p with | some i => i | none => -1

theorem findI_hit (p : Int → Bool) (zs : List Int) (k : Nat) (hk : k < zs.length) (hp : p (zs.getD k 0) = true) (hno : ∀ j, j < k → p (zs.getD j 0) = false) : findI p zs = k := by
  have hg : zs.getD k 0 = zs[k] := by simp [List.getD_eq_getElem?_getD, List.getElem?_eq_getElem hk]
  have : zs.findIdx? p = some k := by
    rw [List.findIdx?_eq_some_iff_getElem]
    refine ⟨hk, by rw [← hg]; exact hp, fun j hj => ?_⟩
    have := hno j hj
    simp [List.getD_eq_getElem?_getD, List.getElem?_eq_getElem (show j < zs.length by omega)] at this
    simp [this]
  simp [findI, this]
theorem findI_miss (p : Int → Bool) (zs : List Int) (hno : ∀ j, j < zs.length → p (zs.getD j 0) = false) : findI p zs = -1 := by
  have : zs.findIdx? p = none := by
    rw [List.findIdx?_eq_none_iff]
    intro x hx
    obtain ⟨j, hj, rfl⟩ := List.getElem_of_mem hx
    have := hno j hj
    simpa [List.getD_eq_getElem?_getD, List.getElem?_eq_getElem hj] using this
  simp [findI, this]
theorem findI_nonneg (p : Int → Bool) (zs : List Int) : decide (0 ≤ findI p zs) = zs.any p := by
  unfold findI
  cases h : zs.findIdx? p with
  | none => rw [List.findIdx?_eq_none_iff] at h; simp; intro x hx; simpa using h x hx
  | some i => 
    rw [List.findIdx?_eq_some_iff_getElem] at h
    obtain ⟨hi, hp, _⟩ := h
    simp
    exact ⟨_, List.getElem_mem hi, hp⟩

set_option maxHeartbeats 400000 in
theorem indexFunc_ints (A : Option Addr) (n c : Nat) (zs : List Int) (g : Nat) (lb : Array Value) (p : Int → Bool) (w : World)
    (eg : ∀ args w, (callFunc g args).run Try.prog w = .ok (.enter g args) w)
    (hr : Rd w w.heap.size 1 A n (ints zs)) (hbig : n ≤ 9223372036854775807) (hp : PredInts Try.prog g lb p zs w) :
    Calls Try.prog 51 #[.slice A n c, .func (.func g) #[] lb] w fun e w' => e = .returned (.int .i64 (findI p zs)) ∧ Below w.heap.size w w' := by
  have hl : zs.length = n := by have := hr.1; simpa using this
  have HL : Hid (zs.length = n) := hl
  have HR : Hid (Rd w w.heap.size 1 A n (ints zs)) := hr
  have HP : Hid (PredInts Try.prog g lb p zs w) := hp
  clear hl hr hp
  go_enter Try.func51, Try.ntmps51
  go_wp2
  go_loopg [5, 8] n (fun gg _ s8 wr => ∃ kk : Nat, kk ≤ n ∧ n - kk ≤ gg ∧ s8 = .int .i64 kk ∧ Aside (Below w.heap.size w wr) ∧ Aside (∀ j, j < kk → p (zs.getD j 0) = false))
  case atStart => exact ⟨0, Nat.zero_le _, by omega, rfl, Below.refl _ w, fun j hj => absurd hj (Nat.not_lt_zero _)⟩
  case round =>
    obtain ⟨kk, hkk, hg, rfl, BW, AA⟩ := hrel
    by_cases hlt : kk < n
    · have hltz : (kk : Int) < (n : Int) := by omega
      obtain ⟨ad, rfl, hb, hcell0⟩ := HR.out.int hlt
      have hcell : wr.cell? (ad.add kk) = some (.int .i64 (zs.getD kk 0)) := (BW.out.cell (by rw [add_block]; exact hb)).trans hcell0
      clear hcell0
      have hcall := HP.out wr (zs.getD kk 0) (by rw [List.getD_eq_getElem?_getD, List.getElem?_eq_getElem (by rw [HL.out]; exact hlt)]; exact List.getElem_mem _) BW.out
      generalize hy : zs.getD kk 0 = y at hcell hcall
      have HY : Aside (zs.getD kk 0 = y) := hy
      clear hy
      cases hq : p y with
      | true =>
        rw [hq] at hcall
        go_wp2_with fail
        refine hcall.mono ?_
        rintro e w' ⟨rfl, hb'⟩
        go_wp2
        go_ret
        refine ⟨?_, hb'⟩
        rw [findI_hit p zs kk (by rw [HL.out]; exact hlt) (by rw [HY.out]; exact hq) AA.out]
        rfl
      | false =>
        rw [hq] at hcall
        go_wp2_with fail
        refine hcall.mono ?_
        rintro e w' ⟨rfl, hb'⟩
        go_wp2
        go_roundg (n - (kk + 1))
        case measure => omega
        case rel =>
          refine ⟨kk + 1, by omega, by omega, by go_num, hb', (show Aside _ from fun j hj => ?_)⟩
          by_cases e : j = kk
          · subst e
            rw [HY.out]; exact hq
          · exact AA.out j (by omega)
    · have hltz : ¬ (kk : Int) < (n : Int) := by omega
      have : kk = n := by omega
      subst this
      go_wp2
      go_ret
      refine ⟨?_, BW.out⟩
      rw [findI_miss p zs (fun j hj => AA.out j (by rw [HL.out] at hj; exact hj))]
      rfl

end Go.Proofs.Ytbomfekfebamkaa

/-
  A region that draws its order: two operations are ready, each may come first. Any program.
-/
namespace Go.Proofs.Ytbomfekfebamkaa
open Go.RowKit
set_option linter.unusedSimpArgs false
set_option linter.unusedVariables false
section
variable {P : Program} {ops : Array Oper} {Q : Exit → Act → World → Prop} {md : Region.Mode} {S : World → Prop} {W : List Nat}
theorem restL_two {i j : Nat} {o p : Oper} {f : Nat} {lst : Array Bool} {a : Act} {w : World} (hr : Region.ready md ops lst = [i, j]) (ho : ops[i]? = some o) (hp : ops[j]? = some p)
    (h : ∀ K' : Act → World → Prop, Shut (∀ b u, (W.contains i = false → S u) → ((W.contains i = false → S u) → restL P md ops Q S W f (lst.setIfInBounds i true) b u) → K' b u) → if Region.wanted o (yielded ops a.tmps) = true then Oper.wp P o a w K' Q else K' (a.put o.dst undef) w)
    (h2 : ∀ K' : Act → World → Prop, Shut (∀ b u, (W.contains j = false → S u) → ((W.contains j = false → S u) → restL P md ops Q S W f (lst.setIfInBounds j true) b u) → K' b u) → if Region.wanted p (yielded ops a.tmps) = true then Oper.wp P p a w K' Q else K' (a.put p.dst undef) w) :
    restL P md ops Q S W (f + 1) lst a w := by
  intro hc
  refine And.intro (fun h0 => absurd (hr.symm.trans h0) (by simp)) (fun k hk => ?_)
  have hc' := hc.set hk
  rw [hr] at hk
  rcases List.mem_cons.1 hk with e | hk
  · subst e
    exact wpOp_step ho (fun K' hK => h K' (fun b u hS hW => hK b u ⟨fun e _ => hS e, hW hS hc'⟩))
  · obtain rfl := List.mem_singleton.1 hk
    exact wpOp_step hp (fun K' hK => h2 K' (fun b u hS hW => hK b u ⟨fun e _ => hS e, hW hS hc'⟩))
end
end Go.Proofs.Ytbomfekfebamkaa
