/-
  The law TreeLocal: what it does.
-/
import Derived.Test.YtjacgoipfmiaiaaTAwake
import Derived.Test.YtjacgoipfmiaiaaTLawV
namespace Go.Proofs.Ytjacgoipfmiaiaa
open Go.RowKit
set_option linter.unusedSimpArgs false
set_option linter.unusedVariables false

section
variable {w w' w0 : World} {B c b : Nat} {st : Int} {hv : Value} {ns : List Nd}
/-- The tree that is built, at block b, wherever its nodes' row lies (from block B on). -/
def TSu (w : World) (B b : Nat) (st : Int) (hv : Value) (ns : List Nd) : Prop :=
  ∃ (v : Value) (sl : List Sl), Row w b 25 [.int .i64 st, hv, v] ∧ w.ownsRow B 41 2 v ns.length (nodesCells ns sl) ∧ sl.length = ns.length ∧ NextAt w ns sl none
theorem TSu.keepAll (h : TSu w B b st hv ns) (hb : ∀ k, k < w.heap.size → w'.heap[k]? = w.heap[k]?) : TSu w' B b st hv ns := by
  obtain ⟨v, sl, h1, h2, h3, h5⟩ := h
  exact ⟨v, sl, (hb b h1.lt).trans h1, ⟨h2.1, h2.2.imp id (fun ⟨g, cap, cur, a, b', c, d⟩ => ⟨g, cap, cur, a, b', (hb g (heap_lt c)).trans c, d⟩)⟩, h3, h5.keep (fun k cs hk _ _ _ => (hb k (heap_lt hk)).trans hk)⟩
theorem TSu.op (h : TSu w B b st hv ns) : ∃ NA nc sl, Row w b 25 [.int .i64 st, hv, .slice NA ns.length nc] ∧ w.ownsRow B 41 2 (.slice NA ns.length nc) ns.length (nodesCells ns sl) ∧ sl.length = ns.length ∧ NextAt w ns sl none := by
  obtain ⟨v, sl, h1, h2, h3, h5⟩ := h
  obtain ⟨NA, nc, rfl, _⟩ := Rd.own h2
  exact ⟨NA, nc, sl, h1, h2, h3, h5⟩
theorem TSu.push {v v' : Value} {n : Nat} {x : Nd} {s : Sl} {sl : List Sl} (hr : Row w b 25 [.int .i64 st, hv, v]) (ho : w.ownsRow B 41 2 v n (nodesCells ns sl)) (hn : ns.length = n) (hsl : sl.length = ns.length) (hcb : c ≤ b) (hcB : c ≤ B) (hx : NextAt w ns sl none)
    (hs : w.ownsRow 0 3 1 (.slice s.at_ s.len s.cap) s.len (ints x.next)) (hg : w.grownBy w' v.ownBlock)
    (ho' : w'.ownsRow B 41 2 v' (n + 1) (nodesCells ns sl ++ [.int .i64 x.level, .slice s.at_ s.len s.cap])) (hF : TFr B c w0 w) :
    Row w' b 25 [.int .i64 st, hv, v] ∧ TSu (w'.setCell ⟨b, 2, none⟩ v') B b st hv (ns ++ [x]) ∧ TFr B c w0 (w'.setCell ⟨b, 2, none⟩ v') := by
  have hbl := hr.lt
  have r1 : Row w' b 25 [.int .i64 st, hv, v] := hr.grown hg (fun e => (own_ne_row ho hr (by decide)) e.symm)
  have f1 : TFr B c w0 w' := TFr.grownN hF ho hcB (by omega) hg
  have f2 : TFr B c w w' := TFr.grownN (TFr.refl _ _ _) ho hcB (by omega) hg
  have f3 : TFr B c w (w'.setCell ⟨b, 2, none⟩ v') := TFr.set (p := ⟨b, 2, none⟩) f2 r1 hcb _
  refine ⟨r1, ⟨v', sl ++ [s], r1.set 2 v', ?_, ?_, ?_⟩, TFr.set (p := ⟨b, 2, none⟩) f1 r1 hcb _⟩
  · rw [nodesCells_snoc _ _ _ _ hsl, List.length_append, List.length_singleton, hn]
    exact own_set (p := ⟨b, 2, none⟩) ho' r1 (by decide) v'
  · rw [List.length_append, List.length_append, hsl]; rfl
  · intro i hi
    rw [List.length_append, List.length_singleton] at hi
    by_cases e : i < ns.length
    · rw [(prefOf.snoc ns x).get i e, gsl_old sl s i (by omega)]
      exact ⟨f3.own (hx i e).1 (by decide) (by decide), (hx i e).2⟩
    · obtain rfl : i = ns.length := by omega
      rw [gnd_snoc]
      have e2 : (sl ++ [s]).getD ns.length default = s := by rw [← hsl]; exact gsl_snoc sl s
      rw [e2]
      exact ⟨f3.own hs (by decide) (by decide), fun k hk => by cases hk⟩
theorem TSu.tree {HA : Option Addr} {hn hc : Nat} {hood : List Pt} (h : TSu w B b st (.slice HA hn hc) ns) (hh : Rd w w.heap.size 2 HA hn (hoodCells hood)) (h63 : hn ≤ maxLen) (hl : ns.length ≤ 5000) (hx : ∀ x ∈ ns, x.next.length ≤ 20) :
    ∃ NA nc sl, Row w b 25 [.int .i64 st, .slice HA hn hc, .slice NA ns.length nc] ∧ TAt w ⟨st, hood, ns⟩ HA NA hn ns.length sl := by
  obtain ⟨NA, nc, sl, h1, h2, h3, h5⟩ := h.op
  exact ⟨NA, nc, sl, h1, TSl.at_ ⟨own_base h2 (Nat.zero_le _), h3, h5⟩ hh h63 hl hx⟩
end
theorem shift_take (l : List Nd) (k : Nat) (h : k < l.length) : (l.take (k + 1)).map shiftNd = (l.take k).map shiftNd ++ [shiftNd (l.getD k default)] := by
  rw [nd_snoc l k h, List.map_append]; rfl
theorem shiftI_take (lev : Int) (l : List Int) (k : Nat) (h : k < l.length) : (l.take (k + 1)).map (shiftI lev) = (l.take k).map (shiftI lev) ++ [shiftI lev (l.getD k 0)] := by
  rw [il_snoc l k h, List.map_append]; rfl
theorem ints_snocL (l : List Int) (x : Int) : ints (l ++ [x]) = ints l ++ [.int .i64 x] := by simp [ints]

set_option maxRecDepth 100000 in
set_option maxHeartbeats 8000000 in
theorem lawTLocal_any (t : Tre) (HA NA IA : Option Addr) (hn hc nn nc n ic : Nat) (sl : List Sl) (ins : List Int) (w : World) (h : TAt w t HA NA hn nn sl) (hI : Rd w w.heap.size 1 IA n (ints ins)) (hm : n ≤ maxLen) :
    Calls Try.prog 8 #[.agg #[.int .i64 t.states, .slice HA hn hc, .slice NA nn nc], .slice IA n ic] w fun e w' => e = .returned (.bool true) ∧ Below w.heap.size w w' := by
  have A0 : Hid (TAt w t HA NA hn nn sl) := h
  have HLN : Hid (t.nodes.length = nn) := h.nl
  have HLH : Hid (t.hood.length = hn) := h.hl
  have HI : Hid (Rd w w.heap.size 1 IA n (ints ins)) := hI
  have HM : Hid (n ≤ maxLen) := hm
  have hmn := h.n63
  unfold maxLen at hm hmn
  clear h hI
  go_enter Try.func8, Try.ntmps8
  go_wp2_with fail
  refine (fewT_any t HA NA hn hc nn nc sl _ (A0.out.up (by go_grown))).mono ?_
  rintro e w1 ⟨rfl, hb⟩
  have RT : Hid (Row w1 w.heap.size 25 [.int .i64 t.states, .slice HA hn hc, .slice NA nn nc]) := rowCells (Row.new w 25 [.int .i64 t.states, .slice HA hn hc, .slice NA nn nc]) hb
  have HB : Hid (Below w.heap.size w w1) := below_next hb (by go_grown)
  clear hb
  cases hf : fewT t
  · clear RT
    go_wp2_with fail
    refine (awake_any _).mono ?_
    rintro e w9 ⟨rfl, hb⟩
    have HBE : Hid (Below w.heap.size w w9) := below_on HB.out (by go_grown) hb
    clear hb
    go_wp2
    go_ret
    exact ⟨rfl, HBE.out⟩
  clear hf
  have k0 := RT.out.cell 0
  have k1 := RT.out.cell 1
  have k2 := RT.out.cell 2
  have kl := RT.out.lt
  simp only [List.getElem?_cons_zero, List.getElem?_cons_succ] at k0 k1 k2
  by_cases h300 : 300 < nn
  · clear RT
    go_wp2_with fail
    refine (awake_any _).mono ?_
    rintro e w9 ⟨rfl, hb⟩
    have HBE : Hid (Below w.heap.size w w9) := below_on HB.out (by go_grown) hb
    clear hb
    go_wp2
    go_ret
    exact ⟨rfl, HBE.out⟩
  by_cases h40 : 40 < n
  · clear RT
    go_wp2_with fail
    refine (awake_any _).mono ?_
    rintro e w9 ⟨rfl, hb⟩
    have HBE : Hid (Below w.heap.size w w9) := below_on HB.out (by go_grown) hb
    clear hb
    go_wp2
    go_ret
    exact ⟨rfl, HBE.out⟩
  have hd300 : decide ((300 : Int) < (nn : Int)) = false := by rw [decide_eq_false_iff_not]; omega
  have hd40 : decide ((40 : Int) < (n : Int)) = false := by rw [decide_eq_false_iff_not]; omega
  have he300 : decide (300 < nn) = false := by rw [decide_eq_false_iff_not]; omega
  have he40 : decide (40 < n) = false := by rw [decide_eq_false_iff_not]; omega
  go_wp2_with fail
  refine (rTreeRight_any t HA NA hn hc nn nc sl _ (A0.out.up HB.out)).mono ?_
  rintro e w2 ⟨rfl, hb⟩
  clear k0 k1 k2 kl
  have hn : Below w1.heap.size w1 w2 := below_next hb (by go_grown)
  have RT := (show Hid (Row _ _ _ _) from rowCells RT.out hn)
  have HB := (show Hid (Below w.heap.size w w2) from below_on2 HB.out hn)
  clear hb hn
  cases hr : rightT t
  · clear RT
    go_wp2_with fail
    refine (awake_any _).mono ?_
    rintro e w9 ⟨rfl, hb⟩
    have HBE : Hid (Below w.heap.size w w9) := below_on HB.out (by go_grown) hb
    clear hb
    go_wp2
    go_ret
    exact ⟨rfl, HBE.out⟩
  have HR : Hid (rightT t = true) := hr
  obtain ⟨hh, ⟨⟨hs2, hs8⟩, hn1, hn4, _⟩, hnode0⟩ := rightT_parts hr
  have HND : Hid (∀ i, i < t.nodes.length → nodeOk t i = true) := hnode0
  obtain ⟨S, hS⟩ : ∃ S : Nat, t.states = (S : Int) := ⟨t.states.toNat, by omega⟩
  have HST : Hid (t.states = (S : Int)) := hS
  have hS8 : S ≤ 8 := by omega
  have hmk := fun W => make_like (P := Try.prog) Try.underlying29 int_infoT rfl S t.states hS (by omega) (by omega) W
  clear hr hh hn1 hn4 hnode0 hS
  have hu : undef = Value.tuple #[] := rfl
  have HN : Hid (Below w2.heap.size w2 w2) := Below.refl _ _
  have HS : ∀ w', Below w2.heap.size w2 w' → w'.cell? ⟨w.heap.size, 0, none⟩ = some (.int .i64 t.states) ∧ w'.cell? ⟨w.heap.size, 1, none⟩ = some (.slice HA hn hc) ∧ w'.cell? ⟨w.heap.size, 2, none⟩ = some (.slice NA nn nc) := fun w' hw => ⟨(rowCells RT.out hw).cell 0, (rowCells RT.out hw).cell 1, (rowCells RT.out hw).cell 2⟩
  have hbox : w.heap.size < w2.heap.size := RT.out.lt
  have C := HS w2 HN.out
  go_wp2_with fail
  clear C
  have hbox2 := hbox
  refine wp_region_held_drew (S := fun w' => w'.cell? ⟨w.heap.size, 0, none⟩ = some (.int .i64 t.states) ∧ w'.cell? ⟨w.heap.size, 1, none⟩ = some (.slice HA hn hc) ∧ w'.cell? ⟨w.heap.size, 2, none⟩ = some (.slice NA nn nc)) (by kernel_rfl) (by (try dsimp only); exact HS _ (by first | exact below_on2 HN.out (by go_grown) | go_grown)) (fun hHeld => ?_)
  refine wpAnyH_take (i := 0) (v := ?va1) rfl (by kernel_rfl) (by kernel_rfl) (by kernel_rfl) (fun _ _ _ h => h) (Or.inl ⟨by rfl, ?ya1⟩) (by assumption) ?ra1
  case ya1 => intro w' hSw; (try dsimp only at hSw); go_simp; try (with_reducible rfl)
  go_simp
  refine wpAnyH_take (i := 1) (v := ?va2) rfl (by kernel_rfl) (by kernel_rfl) (by kernel_rfl) (fun _ _ _ h => h) (Or.inl ⟨by rfl, ?ya2⟩) (by assumption) ?ra2
  case ya2 => intro w' hSw; (try dsimp only at hSw); go_simp; try (with_reducible rfl)
  go_simp
  refine wpAnyH_take (i := 2) (v := ?va3) rfl (by kernel_rfl) (by kernel_rfl) (by kernel_rfl) (fun _ _ _ h => h) (Or.inl ⟨by rfl, ?ya3⟩) (by assumption) ?ra3
  case ya3 => intro w' hSw; (try dsimp only at hSw); go_simp; try (with_reducible rfl)
  go_simp
  refine wpAnyH_take (i := 3) (v := ?va4) rfl (by kernel_rfl) (by kernel_rfl) (by kernel_rfl) (fun _ _ _ h => h) (Or.inl ⟨by rfl, ?ya4⟩) (by assumption) ?ra4
  case ya4 => intro w' hSw; (try dsimp only at hSw); go_simp; try (with_reducible rfl)
  go_simp
  refine wpAnyH_take (i := 4) (v := ?va5) rfl (by kernel_rfl) (by kernel_rfl) (by kernel_rfl) (fun _ _ _ h => h) (Or.inl ⟨by rfl, ?ya5⟩) (by assumption) ?ra5
  case ya5 => intro w' hSw; (try dsimp only at hSw); go_simp; try (with_reducible rfl)
  go_simp
  refine wpAnyH_take (i := 5) (v := ?va6) rfl (by kernel_rfl) (by kernel_rfl) (by kernel_rfl) (fun _ _ _ h => h) (Or.inl ⟨by rfl, ?ya6⟩) (by assumption) ?ra6
  case ya6 => intro w' hSw; (try dsimp only at hSw); go_simp; try (with_reducible rfl)
  go_simp
  refine wpAnyH_ready (rs := [6, 10]) (by kernel_rfl) (by simp) ?_
  refine AllReadyH.cons rfl (fun K hK => ?_) (AllReadyH.cons rfl (fun K hK => ?_) AllReadyH.nil)
  · go_simp
    refine hK.out _ _ ?_ (fun hHeld => ?_)
    · (try dsimp only); exact HS _ (by first | exact below_on2 HN.out (by go_grown) | go_grown)
    clear hK K
    try go_simp
    refine wpAnyH_take (i := 7) (v := ?va7) rfl (by kernel_rfl) (by kernel_rfl) (by kernel_rfl) (fun _ _ _ h => h) (Or.inl ⟨by rfl, ?ya7⟩) (by assumption) ?ra7
    case ya7 => intro w' hSw; (try dsimp only at hSw); go_simp; try (with_reducible rfl)
    go_simp
    refine wpAnyH_ready (rs := [8, 10]) (by kernel_rfl) (by simp) ?_
    refine AllReadyH.cons rfl (fun K hK => ?_) (AllReadyH.cons rfl (fun K hK => ?_) AllReadyH.nil)
    · go_simp
      refine hK.out _ _ ?_ (fun hHeld => ?_)
      · (try dsimp only); exact HS _ (by first | exact below_on2 HN.out (by go_grown) | go_grown)
      clear hK K
      try go_simp
      refine wpAnyH_take (i := 9) (v := ?va8) rfl (by kernel_rfl) (by kernel_rfl) (by kernel_rfl) (fun _ _ _ h => h) (Or.inl ⟨by rfl, ?ya8⟩) (by assumption) ?ra8
      case ya8 => intro w' hSw; (try dsimp only at hSw); go_simp; try (with_reducible rfl)
      go_simp
      refine wpAnyH_ready (rs := [10]) (by kernel_rfl) (by simp) ?_
      refine AllReadyH.cons rfl (fun K hK => ?_) AllReadyH.nil
      go_simp
      refine hK.out _ _ ?_ (fun hHeld => ?_)
      · (try dsimp only); exact HS _ (by first | exact below_on2 HN.out (by go_grown) | go_grown)
      clear hK K
      try go_simp
      refine wpAnyH_ready (rs := [11]) (by kernel_rfl) (by simp) ?_
      refine AllReadyH.cons rfl (fun K hK => ?_) AllReadyH.nil
      go_simp
      refine hK.out _ _ ?_ (fun hHeld => ?_)
      · (try dsimp only); exact HS _ (by first | exact below_on2 HN.out (by go_grown) | go_grown)
      clear hK K
      try go_simp
      refine wpAnyH_done (by kernel_rfl) ?_ _
      have R0 : Hid (Row (World.alloc (World.alloc (World.alloc w2 (.cells (likeRow (.int .i64 0) S) 3)) (.cells #[.int .i64 1, .slice (some ⟨w2.heap.size, 0, none⟩) S S] 41)) (.cells #[.int .i64 t.states, .slice HA hn hc, .slice (some ⟨(w2.heap.size + 1), 0, none⟩) 1 1] 25)).drew w2.heap.size 3 (ints (List.replicate S 0))) := by
        have h0 := zerosRow w2 S 3
        try simp only [World.size_alloc] at h0
        exact ((h0.alloc _).alloc _)
      have R1 : Hid (Row (World.alloc (World.alloc (World.alloc w2 (.cells (likeRow (.int .i64 0) S) 3)) (.cells #[.int .i64 1, .slice (some ⟨w2.heap.size, 0, none⟩) S S] 41)) (.cells #[.int .i64 t.states, .slice HA hn hc, .slice (some ⟨(w2.heap.size + 1), 0, none⟩) 1 1] 25)).drew (w2.heap.size + 1) 41 [.int .i64 1, .slice (some ⟨w2.heap.size, 0, none⟩) S S]) := by
        have h0 := Row.new (World.alloc w2 (.cells (likeRow (.int .i64 0) S) 3)) 41 [.int .i64 1, .slice (some ⟨w2.heap.size, 0, none⟩) S S]
        try simp only [World.size_alloc] at h0
        exact (h0.alloc _)
      have RU : Hid (Row (World.alloc (World.alloc (World.alloc w2 (.cells (likeRow (.int .i64 0) S) 3)) (.cells #[.int .i64 1, .slice (some ⟨w2.heap.size, 0, none⟩) S S] 41)) (.cells #[.int .i64 t.states, .slice HA hn hc, .slice (some ⟨(w2.heap.size + 1), 0, none⟩) 1 1] 25)).drew (w2.heap.size + 1 + 1) 25 [.int .i64 t.states, .slice HA hn hc, .slice (some ⟨(w2.heap.size + 1), 0, none⟩) 1 1]) := by
        have h0 := Row.new (World.alloc (World.alloc w2 (.cells (likeRow (.int .i64 0) S) 3)) (.cells #[.int .i64 1, .slice (some ⟨w2.heap.size, 0, none⟩) S S] 41)) 25 [.int .i64 t.states, .slice HA hn hc, .slice (some ⟨(w2.heap.size + 1), 0, none⟩) 1 1]
        try simp only [World.size_alloc] at h0
        exact h0
      have HW : Hid (Below w2.heap.size w2 (World.alloc (World.alloc (World.alloc w2 (.cells (likeRow (.int .i64 0) S) 3)) (.cells #[.int .i64 1, .slice (some ⟨w2.heap.size, 0, none⟩) S S] 41)) (.cells #[.int .i64 t.states, .slice HA hn hc, .slice (some ⟨(w2.heap.size + 1), 0, none⟩) 1 1] 25)).drew) := by show Below _ _ _; go_grown
      clear HS HN hbox hmk
      revert R0 R1 RU HW
      generalize (World.alloc (World.alloc (World.alloc w2 (.cells (likeRow (.int .i64 0) S) 3)) (.cells #[.int .i64 1, .slice (some ⟨w2.heap.size, 0, none⟩) S S] 41)) (.cells #[.int .i64 t.states, .slice HA hn hc, .slice (some ⟨(w2.heap.size + 1), 0, none⟩) 1 1] 25)).drew = w3
      intro R0 R1 RU HW
      obtain ⟨cc, hcc⟩ : ∃ cc : Nat, cc = w2.heap.size := ⟨_, rfl⟩
      have HTS : Hid (TSu w3 cc (w2.heap.size + 1 + 1) t.states (.slice HA hn hc) [⟨1, List.replicate S 0⟩]) := ⟨_, [⟨some ⟨w2.heap.size, 0, none⟩, S, S⟩], RU.out, Row.own R1.out (by omega) rfl (by unfold maxLen; simp), rfl, fun i hi => by
        have hi : i < 1 := hi
        obtain rfl : i = 0 := by omega
        exact ⟨Row.own R0.out (Nat.zero_le _) (by show (ints (List.replicate S 0)).length = S * 1; rw [ints_length, List.length_replicate, Nat.mul_one]) (by show S ≤ maxLen; unfold maxLen; omega), fun k hk => by cases hk⟩⟩
      have HB := (show Hid (Below w.heap.size w w3) from below_on2 HB.out HW.out)
      have RT := (show Hid (Row w3 _ _ _) from rowCells RT.out HW.out)
      have HC : Hid (cc ≤ (w2.heap.size + 1 + 1) ∧ w.heap.size < cc) := (by show _ ∧ _; have := hbox2; omega)
      clear R0 R1 HW
      have k0 := RT.out.cell 0
      have k1 := RT.out.cell 1
      have k2 := RT.out.cell 2
      have kl := RT.out.lt
      simp only [List.getElem?_cons_zero, List.getElem?_cons_succ] at k0 k1 k2
      obtain ⟨bu, hbu⟩ : ∃ bu : Nat, bu = (w2.heap.size + 1 + 1) := ⟨_, rfl⟩
      rw [← hbu] at HTS HC ⊢
      clear hbu RU
      clear hcc hbox2
      go_wp2
      clear k0 k1 k2 kl
      go_loopg [6, 7, 9, 47] nn (fun gg _ _ _ s47 wr => ∃ kk : Nat, kk ≤ nn ∧ nn - kk ≤ gg ∧ s47 = .int .i64 kk ∧ Aside (TFr cc cc w3 wr) ∧ Aside (TSu wr cc bu t.states (.slice HA hn hc) (⟨1, List.replicate S 0⟩ :: (t.nodes.take kk).map shiftNd)))
      case atStart => exact ⟨0, Nat.zero_le _, by omega, rfl, TFr.refl _ _ _, HTS.out⟩
      case round =>
        clear HTS
        obtain ⟨kk, hkk, hgg, rfl, FF, RS⟩ := hrel
        have HBr : Hid (Below w.heap.size w wr) := HB.out.trans (FF.out.below.mono (Nat.le_of_lt HC.out.2))
        have RTr : Hid (Row wr w.heap.size 25 [.int .i64 t.states, .slice HA hn hc, .slice NA nn nc]) := RT.out.below FF.out.below HC.out.2
        have k0 := RTr.out.cell 0
        have k1 := RTr.out.cell 1
        have k2 := RTr.out.cell 2
        have kl := RTr.out.lt
        simp only [List.getElem?_cons_zero, List.getElem?_cons_succ] at k0 k1 k2
        by_cases hlt : kk < nn
        · have hltz : (kk : Int) < (nn : Int) := by omega
          obtain ⟨ad, rfl, hbk, y0, y1⟩ := (A0.out.up HBr.out).node hlt
          have HNX : Hid (∀ w9, Below w.heap.size w w9 → Rd w9 w9.heap.size 1 (sl.getD kk default).at_ (sl.getD kk default).len (ints (t.nodes.getD kk default).next)) := fun w9 h9 => ((A0.out.up h9).next kk (by rw [HLN.out]; exact hlt)).1
          have hqm := (A0.out.next kk (by rw [HLN.out]; exact hlt)).2
          unfold maxLen at hqm
          obtain ⟨⟨l1, l2, l3⟩, hlink⟩ := nodeOk_parts (HND.out kk (by rw [HLN.out]; exact hlt))
          have HLK : Hid (∀ s, s < (t.nodes.getD kk default).next.length → linkOk t kk (t.nodes.getD kk default) ((t.nodes.getD kk default).next.getD s 0) = true) := hlink
          have HTK : Hid ((t.nodes.take (kk + 1)).map shiftNd = (t.nodes.take kk).map shiftNd ++ [shiftNd (t.nodes.getD kk default)]) := shift_take _ _ (by rw [HLN.out]; exact hlt)
          have hql : (t.nodes.getD kk default).next.length = (sl.getD kk default).len := by have := (A0.out.next kk (by rw [HLN.out]; exact hlt)).1.1; rw [ints_length, Nat.mul_one] at this; exact this
          rw [hql] at l3
          rw [hql] at HLK
          generalize t.nodes.getD kk default = x at y0 HNX l1 l2 l3 HLK HTK hql hlink
          generalize sl.getD kk default = q at y1 HNX hqm l3 HLK hql
          obtain ⟨qa, ql, qc⟩ := q
          obtain ⟨lev, nx⟩ := x
          dsimp only at y0 y1 l1 l2 l3 hqm hql
          have HQL : Hid (nx.length = ql) := hql
          have hql8 : ql ≤ 8 := by have := HST.out; omega
          clear hlink hql l3
          have hz : (ad.add (kk * 2)).block < wr.heap.size := by rw [add_block]; exact hbk
          go_wp2
          have RX : Hid (Row (World.alloc wr _) wr.heap.size 41 [.int .i64 lev, .slice none 0 0]) := Row.new wr 41 [.int .i64 lev, .slice none 0 0]
          have HE : Hid (Below wr.heap.size wr (World.alloc wr (.cells #[.int .i64 lev, .slice none 0 0] 41))) := by show Below _ _ _; go_grown
          have HSE : Hid ((World.alloc wr (.cells #[.int .i64 lev, .slice none 0 0] 41)).heap.size = wr.heap.size + 1) := by show _ = _; rw [World.size_alloc]
          clear y0 y1 hz k0 k1 k2 kl
          revert RX HE HSE
          generalize World.alloc wr (.cells #[.int .i64 lev, .slice none 0 0] 41) = wE
          intro RX HE HSE
          obtain ⟨wo, rfl⟩ : ∃ wo : World, wo = wr := ⟨_, rfl⟩
          go_loopg [9, 64] ql (fun gg _ s64 wr => ∃ (j : Nat) (v : Value), j ≤ ql ∧ ql - j ≤ gg ∧ s64 = .int .i64 j ∧ Aside (Below wo.heap.size wo wr) ∧ Aside (wE.heap.size ≤ wr.heap.size) ∧ Aside (Row wr wo.heap.size 41 [.int .i64 lev, v]) ∧ Aside (wr.ownsRow wE.heap.size 3 1 v j (ints ((nx.take j).map (shiftI lev)))))
          case atStart => exact ⟨0, .slice none 0 0, Nat.zero_le _, by omega, rfl, HE.out, Nat.le_refl _, RX.out, World.ownsRow_nil _ _ _ _⟩
          case round =>
            clear RX HE
            obtain ⟨j, v, hj, hgj, rfl, BI, HSI, RX, OX⟩ := hrel
            obtain ⟨XA, xc, rfl, _⟩ := Rd.own OX.out
            have RXi : Hid (Row wr wo.heap.size 41 [.int .i64 lev, .slice XA j xc]) := RX.out
            have OX : Hid (wr.ownsRow wE.heap.size 3 1 (.slice XA j xc) j (ints ((nx.take j).map (shiftI lev)))) := OX.out
            have hszi := HSI.out
            have hsze : wo.heap.size + 1 ≤ wE.heap.size := (by rw [HSE.out]; exact Nat.le_refl _)
            have HBi : Hid (Below w.heap.size w wr) := below_on2 HBr.out BI.out
            have x0 := RXi.out.cell 0
            have x1 := RXi.out.cell 1
            have xl := RXi.out.lt
            simp only [List.getElem?_cons_zero, List.getElem?_cons_succ] at x0 x1
            by_cases hltj : j < ql
            · have hltjz : (j : Int) < (ql : Int) := by omega
              obtain ⟨zd, rfl, hzb, hzc⟩ := (HNX.out wr HBi.out).int hltj
              have hlk := HLK.out j hltj
              have HSH : Hid ((nx.take (j + 1)).map (shiftI lev) = (nx.take j).map (shiftI lev) ++ [shiftI lev (nx.getD j 0)]) := shiftI_take _ _ _ (by rw [HQL.out]; exact hltj)
              generalize hxs : (nx.take j).map (shiftI lev) = xs at OX HSH
              (try dsimp only at hlk); (try dsimp only at hzc)
              generalize nx.getD j 0 = z at hlk hzc HSH
              simp only [linkOk, decide_eq_true_eq] at hlk
              obtain ⟨b1, b2, b3⟩ := hlk
              have HXS : Hid ((nx.take (j + 1)).map (shiftI lev) = xs ++ [shiftI lev z]) := HSH.out
              clear HSH hxs
              by_cases hl : 1 < lev
              · have hzz := (b3 hl).1
                have HSH : Hid (shiftI lev z = z + 1) := (by show _ = _; rw [shiftI, if_pos hl])
                clear b2 b3
                go_wp2_with (at_builtin; refine wpList_app rfl (.tmp 74) (.tmp 76) 29 rfl wE.heap.size 3 (.int .i64 0) 1 8 Try.underlying29 int_infoR rfl (by decide) (by decide) (.slice XA j xc) j (ints xs) rfl ?own (wr.heap.size + 1) (some ⟨wr.heap.size, 0, none⟩) 1 1 [.int .i64 (z + 1)] rfl ?rd ?one ?hb ?hbase ?_)
                case own => exact OX.out.alloc _
                case rd => exact Rd.lit wr #[.int .i64 (z + 1)] 3 (sz := 1) (m := 1) rfl
                case one => first | (intro u hu; simp at hu; subst hu; rfl) | rfl
                case hb => omega
                case hbase => first | (simp; omega) | omega
                intro v' w' hown' hgrow' hat'
                obtain ⟨VA, vc, rfl, _⟩ := Rd.own hown'
                have RX1 : Hid (Row w' wo.heap.size 41 [.int .i64 lev, .slice XA j xc]) := (RXi.out.alloc _).grown hgrow' (fun e => own_ne_row OX.out RXi.out (by decide) e.symm)
                have BI1 : Hid (Below wo.heap.size wo w') := (BI.out.alloc (by omega) _).grown hgrow' (by simp; omega) (fun k hk => by have := (OX.out.lt k hk).1; omega)
                have HS1 : Hid (wE.heap.size ≤ w'.heap.size) := (by show _ ≤ _; have h1 := hgrow'.size; rw [World.size_alloc] at h1; omega)
                have OX1 : Hid (w'.ownsRow wE.heap.size 3 1 (.slice VA (j + 1) vc) (j + 1) (ints (xs ++ [z + 1]))) := (by show World.ownsRow _ _ _ _ _ _ _; rw [ints_snocL]; exact hown')
                clear hown' hgrow' hat' x0 x1 xl
                have x0 := RX1.out.cell 0
                have x1 := RX1.out.cell 1
                have xl := RX1.out.lt
                simp only [List.getElem?_cons_zero, List.getElem?_cons_succ] at x0 x1
                have xf0 := RX1.out.frozen 0
                have xf1 := RX1.out.frozen 1
                go_wp2
                go_roundg (ql - (j + 1))
                case measure => omega
                case rel =>
                  refine ⟨j + 1, .slice VA (j + 1) vc, by omega, by omega, by go_num, ?_, ?_, ?_, ?_⟩
                  · show Below _ _ _
                    exact BI1.out.setCell (p := ⟨wo.heap.size, 1, none⟩) (Nat.le_refl _) _
                  · show _ ≤ _
                    rw [World.size_setCell]; exact HS1.out
                  · show Row _ _ _ _
                    exact RX1.out.set 1 _
                  · show World.ownsRow _ _ _ _ _ _ _
                    rw [HXS.out, HSH.out]
                    exact own_set (p := ⟨wo.heap.size, 1, none⟩) OX1.out RX1.out (by decide) _
              · have hz1 := b2 (by omega)
                have HSH : Hid (shiftI lev z = z) := (by show _ = _; rw [shiftI, if_neg hl])
                clear b2 b3
                go_wp2_with (at_builtin; refine wpList_app rfl (.tmp 74) (.tmp 76) 29 rfl wE.heap.size 3 (.int .i64 0) 1 8 Try.underlying29 int_infoR rfl (by decide) (by decide) (.slice XA j xc) j (ints xs) rfl ?own (wr.heap.size + 1) (some ⟨wr.heap.size, 0, none⟩) 1 1 [.int .i64 (z)] rfl ?rd ?one ?hb ?hbase ?_)
                case own => exact OX.out.alloc _
                case rd => exact Rd.lit wr #[.int .i64 (z)] 3 (sz := 1) (m := 1) rfl
                case one => first | (intro u hu; simp at hu; subst hu; rfl) | rfl
                case hb => omega
                case hbase => first | (simp; omega) | omega
                intro v' w' hown' hgrow' hat'
                obtain ⟨VA, vc, rfl, _⟩ := Rd.own hown'
                have RX1 : Hid (Row w' wo.heap.size 41 [.int .i64 lev, .slice XA j xc]) := (RXi.out.alloc _).grown hgrow' (fun e => own_ne_row OX.out RXi.out (by decide) e.symm)
                have BI1 : Hid (Below wo.heap.size wo w') := (BI.out.alloc (by omega) _).grown hgrow' (by simp; omega) (fun k hk => by have := (OX.out.lt k hk).1; omega)
                have HS1 : Hid (wE.heap.size ≤ w'.heap.size) := (by show _ ≤ _; have h1 := hgrow'.size; rw [World.size_alloc] at h1; omega)
                have OX1 : Hid (w'.ownsRow wE.heap.size 3 1 (.slice VA (j + 1) vc) (j + 1) (ints (xs ++ [z]))) := (by show World.ownsRow _ _ _ _ _ _ _; rw [ints_snocL]; exact hown')
                clear hown' hgrow' hat' x0 x1 xl
                have x0 := RX1.out.cell 0
                have x1 := RX1.out.cell 1
                have xl := RX1.out.lt
                simp only [List.getElem?_cons_zero, List.getElem?_cons_succ] at x0 x1
                have xf0 := RX1.out.frozen 0
                have xf1 := RX1.out.frozen 1
                go_wp2
                go_roundg (ql - (j + 1))
                case measure => omega
                case rel =>
                  refine ⟨j + 1, .slice VA (j + 1) vc, by omega, by omega, by go_num, ?_, ?_, ?_, ?_⟩
                  · show Below _ _ _
                    exact BI1.out.setCell (p := ⟨wo.heap.size, 1, none⟩) (Nat.le_refl _) _
                  · show _ ≤ _
                    rw [World.size_setCell]; exact HS1.out
                  · show Row _ _ _ _
                    exact RX1.out.set 1 _
                  · show World.ownsRow _ _ _ _ _ _ _
                    rw [HXS.out, HSH.out]
                    exact own_set (p := ⟨wo.heap.size, 1, none⟩) OX1.out RX1.out (by decide) _
            · have hltjz : ¬ (j : Int) < (ql : Int) := by omega
              obtain rfl : j = ql := by omega
              have htk : nx.take j = nx := List.take_of_length_le (by rw [HQL.out]; exact Nat.le_refl _)
              rw [htk] at OX
              have OX0 : Hid (wr.ownsRow 0 3 1 (.slice XA j xc) j (ints (nx.map (shiftI lev)))) := own_base OX.out (Nat.zero_le _)
              have RSi : TSu wr cc bu t.states (.slice HA hn hc) (⟨1, List.replicate S 0⟩ :: (t.nodes.take kk).map shiftNd) := RS.out.keepAll BI.out.block
              have hlen : ((⟨1, List.replicate S 0⟩ : Nd) :: (t.nodes.take kk).map shiftNd).length = kk + 1 := by
                rw [List.length_cons, List.length_map, List.length_take, HLN.out]; omega
              obtain ⟨ms, hms⟩ : ∃ ms, ms = (⟨1, List.replicate S 0⟩ : Nd) :: (t.nodes.take kk).map shiftNd := ⟨_, rfl⟩
              have HMS : Hid ((⟨1, List.replicate S 0⟩ : Nd) :: (t.nodes.take kk).map shiftNd = ms) := hms.symm
              rw [← hms] at RSi hlen
              obtain ⟨UA, uc, su, hrow9, hown9, hsl9, hx9⟩ := RSi.op
              rw [hlen] at hrow9 hown9 hsl9
              have HMN : Hid (ms.length = kk + 1) := hlen
              have HSL : Hid (su.length = ms.length) := hsl9.trans hlen.symm
              have HROW : Hid (Row wr bu 25 [.int .i64 t.states, .slice HA hn hc, .slice UA (kk + 1) uc]) := hrow9
              have HOG : Hid (wr.ownsRow cc 41 2 (.slice UA (kk + 1) uc) (kk + 1) (nodesCells ms su)) := hown9
              have HX : Hid (NextAt wr ms su none) := hx9
              have hccr : cc ≤ wr.heap.size := by have := HC.out.1; have := hrow9.lt; omega
              have FI : Hid (TFr cc cc w3 wr) := FF.out.trans (TFr.ofBelow BI.out (by have h1 := HC.out.1; have h2 := RS.out.op; obtain ⟨_, _, _, h3, _⟩ := h2; have := h3.lt; omega))
              clear hrow9 hown9 hsl9 hx9 hms hlen RSi htk OX
              have e0 := HROW.out.cell 0
              have e1 := HROW.out.cell 1
              have e2 := HROW.out.cell 2
              have el := HROW.out.lt
              simp only [List.getElem?_cons_zero, List.getElem?_cons_succ] at e0 e1 e2
              go_wp2_with (at_builtin; refine wpList_app rfl (.tmp 81) (.tmp 83) 23 rfl cc 41 (.agg #[.int .i64 0, .slice none 0 0]) 2 32 Try.underlying23 node_info rfl (by decide) (by decide) (.slice UA (kk + 1) uc) (kk + 1) (nodesCells ms su) rfl ?own (wr.heap.size + 1) (some ⟨wr.heap.size, 0, none⟩) 1 1 [.int .i64 lev, .slice XA j xc] rfl ?rd ?one ?hb ?hbase ?_)
              case own => exact HOG.out.alloc _
              case rd => exact Rd.lit wr #[.int .i64 lev, .slice XA j xc] 41 (sz := 2) (m := 1) rfl
              case one => first | exact nd_one _ _ _ _ | rfl | exact ⟨rfl, rfl⟩
              case hb => omega
              case hbase => first | (simp; omega) | omega
              intro v' w' hown' hgrow' hat'
              obtain ⟨p1, p2, p3⟩ := TSu.push (x := ⟨lev, nx.map (shiftI lev)⟩) (s := ⟨XA, j, xc⟩) (HROW.out.alloc _) (HOG.out.alloc _) HMN.out HSL.out HC.out.1 (Nat.le_refl _) (NextAt.keep HX.out (fun k cs hk _ _ _ => (Below.heap_alloc _ _ k (heap_lt hk)).trans hk)) (OX0.out.alloc _) hgrow' hown' (FI.out.alloc hccr _)
              obtain ⟨VA, vc, rfl, _⟩ := Rd.own hown'
              have PR : Hid (Row w' bu 25 [.int .i64 t.states, .slice HA hn hc, .slice UA (kk + 1) uc]) := p1
              have PS : Hid (TSu (w'.setCell ⟨bu, 2, none⟩ (.slice VA (kk + 1 + 1) vc)) cc bu t.states (.slice HA hn hc) (ms ++ [⟨lev, nx.map (shiftI lev)⟩])) := p2
              have PF : Hid (TFr cc cc w3 (w'.setCell ⟨bu, 2, none⟩ (.slice VA (kk + 1 + 1) vc))) := p3
              clear p1 p2 p3 hown' hgrow' hat' e0 e1 e2 el x0 x1 xl HROW HOG HX
              have q2 := PR.out.cell 2
              have qf := PR.out.frozen 2
              simp only [List.getElem?_cons_zero, List.getElem?_cons_succ] at q2
              have hbl' := PR.out.lt
              go_wp2
              go_roundg (nn - (kk + 1))
              case measure => omega
              case rel =>
                refine ⟨kk + 1, by omega, by omega, by go_num, PF.out, ?_⟩
                show TSu _ _ _ _ _ _
                rw [HTK.out, ← List.cons_append, HMS.out]
                exact PS.out
        · have hltz : ¬ (kk : Int) < (nn : Int) := by omega
          obtain rfl : kk = nn := by omega
          have hall : t.nodes.take kk = t.nodes := List.take_of_length_le (by rw [HLN.out]; exact Nat.le_refl _)
          rw [hall] at RS
          have hst : t.states.toNat = S := by have := HST.out; omega
          have HSHT : Hid (shiftT t = ⟨t.states, t.hood, ⟨1, List.replicate S 0⟩ :: t.nodes.map shiftNd⟩) := (by show _ = _; rw [shiftT, hst])
          have hlen : ((⟨1, List.replicate S 0⟩ : Nd) :: t.nodes.map shiftNd).length = kk + 1 := by rw [List.length_cons, List.length_map, HLN.out]
          have HNXT : Hid (∀ x ∈ (⟨1, List.replicate S 0⟩ : Nd) :: t.nodes.map shiftNd, x.next.length ≤ 20) := fun x hx => by
            rw [List.mem_cons] at hx
            rcases hx with rfl | hx
            · show (List.replicate S (0 : Int)).length ≤ 20
              rw [List.length_replicate]; omega
            · obtain ⟨y, hy, rfl⟩ := List.mem_map.1 hx
              obtain ⟨i, hi, rfl⟩ := List.getElem_of_mem hy
              have h1 := (nodeOk_parts (HND.out i hi)).1.2.2
              rw [List.getD_eq_getElem?_getD, List.getElem?_eq_getElem hi] at h1
              have h2 := HST.out
              simp only [Option.getD_some] at h1
              show (t.nodes[i].next.map _).length ≤ 20
              rw [List.length_map]; omega
          obtain ⟨UA, uc, su, hrow9, hta⟩ := TSu.tree RS.out (A0.out.up HBr.out).hood A0.out.h63 (by rw [hlen]; omega) HNXT.out
          rw [← HSHT.out] at hta
          rw [hlen] at hrow9 hta
          have HTU : Hid (TAt wr (shiftT t) HA UA hn (kk + 1) su) := hta
          have RU : Hid (Row wr bu 25 [.int .i64 t.states, .slice HA hn hc, .slice UA (kk + 1) uc]) := hrow9
          have HTT : Hid (TAt wr t HA NA hn kk sl) := A0.out.up HBr.out
          have HII : Hid (Rd wr wr.heap.size 1 IA n (ints ins)) := HI.out.up HBr.out
          have HEV : Hid (evalErr (shiftT t) ins = evalErr t ins ∧ evalV (shiftT t) ins = evalV t ins) := shift_eval HR.out (by rw [HLN.out]; omega) ins
          have HRU : Hid (rightT (shiftT t) = true) := shift_right HR.out (by rw [HLN.out]; omega)
          clear hall hst hlen hrow9 hta RS FF HNXT
          have HB := (show Hid (Below w.heap.size w wr) from HBr.out)
          go_wp2_with fail
          refine (tEval_any t HA NA IA hn hc kk nc n ic sl ins _ HTT.out HII.out HM.out).mono ?_
          rintro e w4 ⟨rfl, hb⟩
          clear k0 k1 k2 kl RTr
          have hn : Below wr.heap.size wr w4 := below_next hb (by go_grown)
          have RU := (show Hid (Row _ _ _ _) from rowCells RU.out hn)
          have HTU := (show Hid (TAt w4 _ _ _ _ _ _) from HTU.out.up hn)
          have HII := (show Hid (Rd w4 _ _ _ _ _) from HII.out.up hn)
          have HB := (show Hid (Below w.heap.size w w4) from below_on2 HB.out hn)
          clear hb hn
          have k0 := RU.out.cell 0
          have k1 := RU.out.cell 1
          have k2 := RU.out.cell 2
          have kl := RU.out.lt
          simp only [List.getElem?_cons_zero, List.getElem?_cons_succ] at k0 k1 k2
          go_wp2_with fail
          refine (tEval_any (shiftT t) HA UA IA hn hc (kk + 1) uc n ic su ins _ HTU.out HII.out HM.out).mono ?_
          rintro e w5 ⟨rfl, hb⟩
          clear k0 k1 k2 kl
          have hn : Below w4.heap.size w4 w5 := below_next hb (by go_grown)
          have RU := (show Hid (Row _ _ _ _) from rowCells RU.out hn)
          have HTU := (show Hid (TAt w5 _ _ _ _ _ _) from HTU.out.up hn)
          have HB := (show Hid (Below w.heap.size w w5) from below_on2 HB.out hn)
          clear hb hn
          rw [HEV.out.1, HEV.out.2]
          generalize evalV t ins = ev
          generalize evalErr t ins = er
          have h1 : (ev == ev) = true := by simp
          have h2 : (er == er) = true := by simp
          have k0 := RU.out.cell 0
          have k1 := RU.out.cell 1
          have k2 := RU.out.cell 2
          have kl := RU.out.lt
          simp only [List.getElem?_cons_zero, List.getElem?_cons_succ] at k0 k1 k2
          go_wp2_with fail
          refine (treeRight_any (shiftT t) HA UA hn hc (kk + 1) uc su _ HTU.out).mono ?_
          rw [HRU.out]
          rintro e w6 ⟨rfl, hb⟩
          clear k0 k1 k2 kl
          have hn : Below w5.heap.size w5 w6 := below_next hb (by go_grown)
          have HB := (show Hid (Below w.heap.size w w6) from below_on2 HB.out hn)
          clear hb hn
          clear RU HTU HTT HII RT
          go_wp2_with fail
          refine (awake_any _).mono ?_
          rintro e w9 ⟨rfl, hb⟩
          have HBE : Hid (Below w.heap.size w w9) := below_on HB.out (by go_grown) hb
          clear hb
          go_wp2
          go_ret
          exact ⟨rfl, HBE.out⟩
    · go_simp
      refine hK.out _ _ ?_ (fun hHeld => ?_)
      · (try dsimp only); exact HS _ (by first | exact below_on2 HN.out (by go_grown) | go_grown)
      clear hK K
      try go_simp
      refine wpAnyH_ready (rs := [8]) (by kernel_rfl) (by simp) ?_
      refine AllReadyH.cons rfl (fun K hK => ?_) AllReadyH.nil
      go_simp
      refine hK.out _ _ ?_ (fun hHeld => ?_)
      · (try dsimp only); exact HS _ (by first | exact below_on2 HN.out (by go_grown) | go_grown)
      clear hK K
      try go_simp
      refine wpAnyH_take (i := 9) (v := ?va9) rfl (by kernel_rfl) (by kernel_rfl) (by kernel_rfl) (fun _ _ _ h => h) (Or.inl ⟨by rfl, ?ya9⟩) (by assumption) ?ra9
      case ya9 => intro w' hSw; (try dsimp only at hSw); go_simp; try (with_reducible rfl)
      go_simp
      refine wpAnyH_ready (rs := [11]) (by kernel_rfl) (by simp) ?_
      refine AllReadyH.cons rfl (fun K hK => ?_) AllReadyH.nil
      go_simp
      refine hK.out _ _ ?_ (fun hHeld => ?_)
      · (try dsimp only); exact HS _ (by first | exact below_on2 HN.out (by go_grown) | go_grown)
      clear hK K
      try go_simp
      refine wpAnyH_done (by kernel_rfl) ?_ _
      have R0 : Hid (Row (World.alloc (World.alloc (World.alloc w2 (.cells (likeRow (.int .i64 0) S) 3)) (.cells #[.int .i64 t.states, .slice HA hn hc, .slice (some ⟨(w2.heap.size + 1 + 1), 0, none⟩) 1 1] 25)) (.cells #[.int .i64 1, .slice (some ⟨w2.heap.size, 0, none⟩) S S] 41)).drew w2.heap.size 3 (ints (List.replicate S 0))) := by
        have h0 := zerosRow w2 S 3
        try simp only [World.size_alloc] at h0
        exact ((h0.alloc _).alloc _)
      have R1 : Hid (Row (World.alloc (World.alloc (World.alloc w2 (.cells (likeRow (.int .i64 0) S) 3)) (.cells #[.int .i64 t.states, .slice HA hn hc, .slice (some ⟨(w2.heap.size + 1 + 1), 0, none⟩) 1 1] 25)) (.cells #[.int .i64 1, .slice (some ⟨w2.heap.size, 0, none⟩) S S] 41)).drew (w2.heap.size + 1 + 1) 41 [.int .i64 1, .slice (some ⟨w2.heap.size, 0, none⟩) S S]) := by
        have h0 := Row.new (World.alloc (World.alloc w2 (.cells (likeRow (.int .i64 0) S) 3)) (.cells #[.int .i64 t.states, .slice HA hn hc, .slice (some ⟨(w2.heap.size + 1 + 1), 0, none⟩) 1 1] 25)) 41 [.int .i64 1, .slice (some ⟨w2.heap.size, 0, none⟩) S S]
        try simp only [World.size_alloc] at h0
        exact h0
      have RU : Hid (Row (World.alloc (World.alloc (World.alloc w2 (.cells (likeRow (.int .i64 0) S) 3)) (.cells #[.int .i64 t.states, .slice HA hn hc, .slice (some ⟨(w2.heap.size + 1 + 1), 0, none⟩) 1 1] 25)) (.cells #[.int .i64 1, .slice (some ⟨w2.heap.size, 0, none⟩) S S] 41)).drew (w2.heap.size + 1) 25 [.int .i64 t.states, .slice HA hn hc, .slice (some ⟨(w2.heap.size + 1 + 1), 0, none⟩) 1 1]) := by
        have h0 := Row.new (World.alloc w2 (.cells (likeRow (.int .i64 0) S) 3)) 25 [.int .i64 t.states, .slice HA hn hc, .slice (some ⟨(w2.heap.size + 1 + 1), 0, none⟩) 1 1]
        try simp only [World.size_alloc] at h0
        exact (h0.alloc _)
      have HW : Hid (Below w2.heap.size w2 (World.alloc (World.alloc (World.alloc w2 (.cells (likeRow (.int .i64 0) S) 3)) (.cells #[.int .i64 t.states, .slice HA hn hc, .slice (some ⟨(w2.heap.size + 1 + 1), 0, none⟩) 1 1] 25)) (.cells #[.int .i64 1, .slice (some ⟨w2.heap.size, 0, none⟩) S S] 41)).drew) := by show Below _ _ _; go_grown
      clear HS HN hbox hmk
      revert R0 R1 RU HW
      generalize (World.alloc (World.alloc (World.alloc w2 (.cells (likeRow (.int .i64 0) S) 3)) (.cells #[.int .i64 t.states, .slice HA hn hc, .slice (some ⟨(w2.heap.size + 1 + 1), 0, none⟩) 1 1] 25)) (.cells #[.int .i64 1, .slice (some ⟨w2.heap.size, 0, none⟩) S S] 41)).drew = w3
      intro R0 R1 RU HW
      obtain ⟨cc, hcc⟩ : ∃ cc : Nat, cc = w2.heap.size := ⟨_, rfl⟩
      have HTS : Hid (TSu w3 cc (w2.heap.size + 1) t.states (.slice HA hn hc) [⟨1, List.replicate S 0⟩]) := ⟨_, [⟨some ⟨w2.heap.size, 0, none⟩, S, S⟩], RU.out, Row.own R1.out (by omega) rfl (by unfold maxLen; simp), rfl, fun i hi => by
        have hi : i < 1 := hi
        obtain rfl : i = 0 := by omega
        exact ⟨Row.own R0.out (Nat.zero_le _) (by show (ints (List.replicate S 0)).length = S * 1; rw [ints_length, List.length_replicate, Nat.mul_one]) (by show S ≤ maxLen; unfold maxLen; omega), fun k hk => by cases hk⟩⟩
      have HB := (show Hid (Below w.heap.size w w3) from below_on2 HB.out HW.out)
      have RT := (show Hid (Row w3 _ _ _) from rowCells RT.out HW.out)
      have HC : Hid (cc ≤ (w2.heap.size + 1) ∧ w.heap.size < cc) := (by show _ ∧ _; have := hbox2; omega)
      clear R0 R1 HW
      have k0 := RT.out.cell 0
      have k1 := RT.out.cell 1
      have k2 := RT.out.cell 2
      have kl := RT.out.lt
      simp only [List.getElem?_cons_zero, List.getElem?_cons_succ] at k0 k1 k2
      obtain ⟨bu, hbu⟩ : ∃ bu : Nat, bu = (w2.heap.size + 1) := ⟨_, rfl⟩
      rw [← hbu] at HTS HC ⊢
      clear hbu RU
      clear hcc hbox2
      go_wp2
      clear k0 k1 k2 kl
      go_loopg [6, 7, 9, 47] nn (fun gg _ _ _ s47 wr => ∃ kk : Nat, kk ≤ nn ∧ nn - kk ≤ gg ∧ s47 = .int .i64 kk ∧ Aside (TFr cc cc w3 wr) ∧ Aside (TSu wr cc bu t.states (.slice HA hn hc) (⟨1, List.replicate S 0⟩ :: (t.nodes.take kk).map shiftNd)))
      case atStart => exact ⟨0, Nat.zero_le _, by omega, rfl, TFr.refl _ _ _, HTS.out⟩
      case round =>
        clear HTS
        obtain ⟨kk, hkk, hgg, rfl, FF, RS⟩ := hrel
        have HBr : Hid (Below w.heap.size w wr) := HB.out.trans (FF.out.below.mono (Nat.le_of_lt HC.out.2))
        have RTr : Hid (Row wr w.heap.size 25 [.int .i64 t.states, .slice HA hn hc, .slice NA nn nc]) := RT.out.below FF.out.below HC.out.2
        have k0 := RTr.out.cell 0
        have k1 := RTr.out.cell 1
        have k2 := RTr.out.cell 2
        have kl := RTr.out.lt
        simp only [List.getElem?_cons_zero, List.getElem?_cons_succ] at k0 k1 k2
        by_cases hlt : kk < nn
        · have hltz : (kk : Int) < (nn : Int) := by omega
          obtain ⟨ad, rfl, hbk, y0, y1⟩ := (A0.out.up HBr.out).node hlt
          have HNX : Hid (∀ w9, Below w.heap.size w w9 → Rd w9 w9.heap.size 1 (sl.getD kk default).at_ (sl.getD kk default).len (ints (t.nodes.getD kk default).next)) := fun w9 h9 => ((A0.out.up h9).next kk (by rw [HLN.out]; exact hlt)).1
          have hqm := (A0.out.next kk (by rw [HLN.out]; exact hlt)).2
          unfold maxLen at hqm
          obtain ⟨⟨l1, l2, l3⟩, hlink⟩ := nodeOk_parts (HND.out kk (by rw [HLN.out]; exact hlt))
          have HLK : Hid (∀ s, s < (t.nodes.getD kk default).next.length → linkOk t kk (t.nodes.getD kk default) ((t.nodes.getD kk default).next.getD s 0) = true) := hlink
          have HTK : Hid ((t.nodes.take (kk + 1)).map shiftNd = (t.nodes.take kk).map shiftNd ++ [shiftNd (t.nodes.getD kk default)]) := shift_take _ _ (by rw [HLN.out]; exact hlt)
          have hql : (t.nodes.getD kk default).next.length = (sl.getD kk default).len := by have := (A0.out.next kk (by rw [HLN.out]; exact hlt)).1.1; rw [ints_length, Nat.mul_one] at this; exact this
          rw [hql] at l3
          rw [hql] at HLK
          generalize t.nodes.getD kk default = x at y0 HNX l1 l2 l3 HLK HTK hql hlink
          generalize sl.getD kk default = q at y1 HNX hqm l3 HLK hql
          obtain ⟨qa, ql, qc⟩ := q
          obtain ⟨lev, nx⟩ := x
          dsimp only at y0 y1 l1 l2 l3 hqm hql
          have HQL : Hid (nx.length = ql) := hql
          have hql8 : ql ≤ 8 := by have := HST.out; omega
          clear hlink hql l3
          have hz : (ad.add (kk * 2)).block < wr.heap.size := by rw [add_block]; exact hbk
          go_wp2
          have RX : Hid (Row (World.alloc wr _) wr.heap.size 41 [.int .i64 lev, .slice none 0 0]) := Row.new wr 41 [.int .i64 lev, .slice none 0 0]
          have HE : Hid (Below wr.heap.size wr (World.alloc wr (.cells #[.int .i64 lev, .slice none 0 0] 41))) := by show Below _ _ _; go_grown
          have HSE : Hid ((World.alloc wr (.cells #[.int .i64 lev, .slice none 0 0] 41)).heap.size = wr.heap.size + 1) := by show _ = _; rw [World.size_alloc]
          clear y0 y1 hz k0 k1 k2 kl
          revert RX HE HSE
          generalize World.alloc wr (.cells #[.int .i64 lev, .slice none 0 0] 41) = wE
          intro RX HE HSE
          obtain ⟨wo, rfl⟩ : ∃ wo : World, wo = wr := ⟨_, rfl⟩
          go_loopg [9, 64] ql (fun gg _ s64 wr => ∃ (j : Nat) (v : Value), j ≤ ql ∧ ql - j ≤ gg ∧ s64 = .int .i64 j ∧ Aside (Below wo.heap.size wo wr) ∧ Aside (wE.heap.size ≤ wr.heap.size) ∧ Aside (Row wr wo.heap.size 41 [.int .i64 lev, v]) ∧ Aside (wr.ownsRow wE.heap.size 3 1 v j (ints ((nx.take j).map (shiftI lev)))))
          case atStart => exact ⟨0, .slice none 0 0, Nat.zero_le _, by omega, rfl, HE.out, Nat.le_refl _, RX.out, World.ownsRow_nil _ _ _ _⟩
          case round =>
            clear RX HE
            obtain ⟨j, v, hj, hgj, rfl, BI, HSI, RX, OX⟩ := hrel
            obtain ⟨XA, xc, rfl, _⟩ := Rd.own OX.out
            have RXi : Hid (Row wr wo.heap.size 41 [.int .i64 lev, .slice XA j xc]) := RX.out
            have OX : Hid (wr.ownsRow wE.heap.size 3 1 (.slice XA j xc) j (ints ((nx.take j).map (shiftI lev)))) := OX.out
            have hszi := HSI.out
            have hsze : wo.heap.size + 1 ≤ wE.heap.size := (by rw [HSE.out]; exact Nat.le_refl _)
            have HBi : Hid (Below w.heap.size w wr) := below_on2 HBr.out BI.out
            have x0 := RXi.out.cell 0
            have x1 := RXi.out.cell 1
            have xl := RXi.out.lt
            simp only [List.getElem?_cons_zero, List.getElem?_cons_succ] at x0 x1
            by_cases hltj : j < ql
            · have hltjz : (j : Int) < (ql : Int) := by omega
              obtain ⟨zd, rfl, hzb, hzc⟩ := (HNX.out wr HBi.out).int hltj
              have hlk := HLK.out j hltj
              have HSH : Hid ((nx.take (j + 1)).map (shiftI lev) = (nx.take j).map (shiftI lev) ++ [shiftI lev (nx.getD j 0)]) := shiftI_take _ _ _ (by rw [HQL.out]; exact hltj)
              generalize hxs : (nx.take j).map (shiftI lev) = xs at OX HSH
              (try dsimp only at hlk); (try dsimp only at hzc)
              generalize nx.getD j 0 = z at hlk hzc HSH
              simp only [linkOk, decide_eq_true_eq] at hlk
              obtain ⟨b1, b2, b3⟩ := hlk
              have HXS : Hid ((nx.take (j + 1)).map (shiftI lev) = xs ++ [shiftI lev z]) := HSH.out
              clear HSH hxs
              by_cases hl : 1 < lev
              · have hzz := (b3 hl).1
                have HSH : Hid (shiftI lev z = z + 1) := (by show _ = _; rw [shiftI, if_pos hl])
                clear b2 b3
                go_wp2_with (at_builtin; refine wpList_app rfl (.tmp 74) (.tmp 76) 29 rfl wE.heap.size 3 (.int .i64 0) 1 8 Try.underlying29 int_infoR rfl (by decide) (by decide) (.slice XA j xc) j (ints xs) rfl ?own (wr.heap.size + 1) (some ⟨wr.heap.size, 0, none⟩) 1 1 [.int .i64 (z + 1)] rfl ?rd ?one ?hb ?hbase ?_)
                case own => exact OX.out.alloc _
                case rd => exact Rd.lit wr #[.int .i64 (z + 1)] 3 (sz := 1) (m := 1) rfl
                case one => first | (intro u hu; simp at hu; subst hu; rfl) | rfl
                case hb => omega
                case hbase => first | (simp; omega) | omega
                intro v' w' hown' hgrow' hat'
                obtain ⟨VA, vc, rfl, _⟩ := Rd.own hown'
                have RX1 : Hid (Row w' wo.heap.size 41 [.int .i64 lev, .slice XA j xc]) := (RXi.out.alloc _).grown hgrow' (fun e => own_ne_row OX.out RXi.out (by decide) e.symm)
                have BI1 : Hid (Below wo.heap.size wo w') := (BI.out.alloc (by omega) _).grown hgrow' (by simp; omega) (fun k hk => by have := (OX.out.lt k hk).1; omega)
                have HS1 : Hid (wE.heap.size ≤ w'.heap.size) := (by show _ ≤ _; have h1 := hgrow'.size; rw [World.size_alloc] at h1; omega)
                have OX1 : Hid (w'.ownsRow wE.heap.size 3 1 (.slice VA (j + 1) vc) (j + 1) (ints (xs ++ [z + 1]))) := (by show World.ownsRow _ _ _ _ _ _ _; rw [ints_snocL]; exact hown')
                clear hown' hgrow' hat' x0 x1 xl
                have x0 := RX1.out.cell 0
                have x1 := RX1.out.cell 1
                have xl := RX1.out.lt
                simp only [List.getElem?_cons_zero, List.getElem?_cons_succ] at x0 x1
                have xf0 := RX1.out.frozen 0
                have xf1 := RX1.out.frozen 1
                go_wp2
                go_roundg (ql - (j + 1))
                case measure => omega
                case rel =>
                  refine ⟨j + 1, .slice VA (j + 1) vc, by omega, by omega, by go_num, ?_, ?_, ?_, ?_⟩
                  · show Below _ _ _
                    exact BI1.out.setCell (p := ⟨wo.heap.size, 1, none⟩) (Nat.le_refl _) _
                  · show _ ≤ _
                    rw [World.size_setCell]; exact HS1.out
                  · show Row _ _ _ _
                    exact RX1.out.set 1 _
                  · show World.ownsRow _ _ _ _ _ _ _
                    rw [HXS.out, HSH.out]
                    exact own_set (p := ⟨wo.heap.size, 1, none⟩) OX1.out RX1.out (by decide) _
              · have hz1 := b2 (by omega)
                have HSH : Hid (shiftI lev z = z) := (by show _ = _; rw [shiftI, if_neg hl])
                clear b2 b3
                go_wp2_with (at_builtin; refine wpList_app rfl (.tmp 74) (.tmp 76) 29 rfl wE.heap.size 3 (.int .i64 0) 1 8 Try.underlying29 int_infoR rfl (by decide) (by decide) (.slice XA j xc) j (ints xs) rfl ?own (wr.heap.size + 1) (some ⟨wr.heap.size, 0, none⟩) 1 1 [.int .i64 (z)] rfl ?rd ?one ?hb ?hbase ?_)
                case own => exact OX.out.alloc _
                case rd => exact Rd.lit wr #[.int .i64 (z)] 3 (sz := 1) (m := 1) rfl
                case one => first | (intro u hu; simp at hu; subst hu; rfl) | rfl
                case hb => omega
                case hbase => first | (simp; omega) | omega
                intro v' w' hown' hgrow' hat'
                obtain ⟨VA, vc, rfl, _⟩ := Rd.own hown'
                have RX1 : Hid (Row w' wo.heap.size 41 [.int .i64 lev, .slice XA j xc]) := (RXi.out.alloc _).grown hgrow' (fun e => own_ne_row OX.out RXi.out (by decide) e.symm)
                have BI1 : Hid (Below wo.heap.size wo w') := (BI.out.alloc (by omega) _).grown hgrow' (by simp; omega) (fun k hk => by have := (OX.out.lt k hk).1; omega)
                have HS1 : Hid (wE.heap.size ≤ w'.heap.size) := (by show _ ≤ _; have h1 := hgrow'.size; rw [World.size_alloc] at h1; omega)
                have OX1 : Hid (w'.ownsRow wE.heap.size 3 1 (.slice VA (j + 1) vc) (j + 1) (ints (xs ++ [z]))) := (by show World.ownsRow _ _ _ _ _ _ _; rw [ints_snocL]; exact hown')
                clear hown' hgrow' hat' x0 x1 xl
                have x0 := RX1.out.cell 0
                have x1 := RX1.out.cell 1
                have xl := RX1.out.lt
                simp only [List.getElem?_cons_zero, List.getElem?_cons_succ] at x0 x1
                have xf0 := RX1.out.frozen 0
                have xf1 := RX1.out.frozen 1
                go_wp2
                go_roundg (ql - (j + 1))
                case measure => omega
                case rel =>
                  refine ⟨j + 1, .slice VA (j + 1) vc, by omega, by omega, by go_num, ?_, ?_, ?_, ?_⟩
                  · show Below _ _ _
                    exact BI1.out.setCell (p := ⟨wo.heap.size, 1, none⟩) (Nat.le_refl _) _
                  · show _ ≤ _
                    rw [World.size_setCell]; exact HS1.out
                  · show Row _ _ _ _
                    exact RX1.out.set 1 _
                  · show World.ownsRow _ _ _ _ _ _ _
                    rw [HXS.out, HSH.out]
                    exact own_set (p := ⟨wo.heap.size, 1, none⟩) OX1.out RX1.out (by decide) _
            · have hltjz : ¬ (j : Int) < (ql : Int) := by omega
              obtain rfl : j = ql := by omega
              have htk : nx.take j = nx := List.take_of_length_le (by rw [HQL.out]; exact Nat.le_refl _)
              rw [htk] at OX
              have OX0 : Hid (wr.ownsRow 0 3 1 (.slice XA j xc) j (ints (nx.map (shiftI lev)))) := own_base OX.out (Nat.zero_le _)
              have RSi : TSu wr cc bu t.states (.slice HA hn hc) (⟨1, List.replicate S 0⟩ :: (t.nodes.take kk).map shiftNd) := RS.out.keepAll BI.out.block
              have hlen : ((⟨1, List.replicate S 0⟩ : Nd) :: (t.nodes.take kk).map shiftNd).length = kk + 1 := by
                rw [List.length_cons, List.length_map, List.length_take, HLN.out]; omega
              obtain ⟨ms, hms⟩ : ∃ ms, ms = (⟨1, List.replicate S 0⟩ : Nd) :: (t.nodes.take kk).map shiftNd := ⟨_, rfl⟩
              have HMS : Hid ((⟨1, List.replicate S 0⟩ : Nd) :: (t.nodes.take kk).map shiftNd = ms) := hms.symm
              rw [← hms] at RSi hlen
              obtain ⟨UA, uc, su, hrow9, hown9, hsl9, hx9⟩ := RSi.op
              rw [hlen] at hrow9 hown9 hsl9
              have HMN : Hid (ms.length = kk + 1) := hlen
              have HSL : Hid (su.length = ms.length) := hsl9.trans hlen.symm
              have HROW : Hid (Row wr bu 25 [.int .i64 t.states, .slice HA hn hc, .slice UA (kk + 1) uc]) := hrow9
              have HOG : Hid (wr.ownsRow cc 41 2 (.slice UA (kk + 1) uc) (kk + 1) (nodesCells ms su)) := hown9
              have HX : Hid (NextAt wr ms su none) := hx9
              have hccr : cc ≤ wr.heap.size := by have := HC.out.1; have := hrow9.lt; omega
              have FI : Hid (TFr cc cc w3 wr) := FF.out.trans (TFr.ofBelow BI.out (by have h1 := HC.out.1; have h2 := RS.out.op; obtain ⟨_, _, _, h3, _⟩ := h2; have := h3.lt; omega))
              clear hrow9 hown9 hsl9 hx9 hms hlen RSi htk OX
              have e0 := HROW.out.cell 0
              have e1 := HROW.out.cell 1
              have e2 := HROW.out.cell 2
              have el := HROW.out.lt
              simp only [List.getElem?_cons_zero, List.getElem?_cons_succ] at e0 e1 e2
              go_wp2_with (at_builtin; refine wpList_app rfl (.tmp 81) (.tmp 83) 23 rfl cc 41 (.agg #[.int .i64 0, .slice none 0 0]) 2 32 Try.underlying23 node_info rfl (by decide) (by decide) (.slice UA (kk + 1) uc) (kk + 1) (nodesCells ms su) rfl ?own (wr.heap.size + 1) (some ⟨wr.heap.size, 0, none⟩) 1 1 [.int .i64 lev, .slice XA j xc] rfl ?rd ?one ?hb ?hbase ?_)
              case own => exact HOG.out.alloc _
              case rd => exact Rd.lit wr #[.int .i64 lev, .slice XA j xc] 41 (sz := 2) (m := 1) rfl
              case one => first | exact nd_one _ _ _ _ | rfl | exact ⟨rfl, rfl⟩
              case hb => omega
              case hbase => first | (simp; omega) | omega
              intro v' w' hown' hgrow' hat'
              obtain ⟨p1, p2, p3⟩ := TSu.push (x := ⟨lev, nx.map (shiftI lev)⟩) (s := ⟨XA, j, xc⟩) (HROW.out.alloc _) (HOG.out.alloc _) HMN.out HSL.out HC.out.1 (Nat.le_refl _) (NextAt.keep HX.out (fun k cs hk _ _ _ => (Below.heap_alloc _ _ k (heap_lt hk)).trans hk)) (OX0.out.alloc _) hgrow' hown' (FI.out.alloc hccr _)
              obtain ⟨VA, vc, rfl, _⟩ := Rd.own hown'
              have PR : Hid (Row w' bu 25 [.int .i64 t.states, .slice HA hn hc, .slice UA (kk + 1) uc]) := p1
              have PS : Hid (TSu (w'.setCell ⟨bu, 2, none⟩ (.slice VA (kk + 1 + 1) vc)) cc bu t.states (.slice HA hn hc) (ms ++ [⟨lev, nx.map (shiftI lev)⟩])) := p2
              have PF : Hid (TFr cc cc w3 (w'.setCell ⟨bu, 2, none⟩ (.slice VA (kk + 1 + 1) vc))) := p3
              clear p1 p2 p3 hown' hgrow' hat' e0 e1 e2 el x0 x1 xl HROW HOG HX
              have q2 := PR.out.cell 2
              have qf := PR.out.frozen 2
              simp only [List.getElem?_cons_zero, List.getElem?_cons_succ] at q2
              have hbl' := PR.out.lt
              go_wp2
              go_roundg (nn - (kk + 1))
              case measure => omega
              case rel =>
                refine ⟨kk + 1, by omega, by omega, by go_num, PF.out, ?_⟩
                show TSu _ _ _ _ _ _
                rw [HTK.out, ← List.cons_append, HMS.out]
                exact PS.out
        · have hltz : ¬ (kk : Int) < (nn : Int) := by omega
          obtain rfl : kk = nn := by omega
          have hall : t.nodes.take kk = t.nodes := List.take_of_length_le (by rw [HLN.out]; exact Nat.le_refl _)
          rw [hall] at RS
          have hst : t.states.toNat = S := by have := HST.out; omega
          have HSHT : Hid (shiftT t = ⟨t.states, t.hood, ⟨1, List.replicate S 0⟩ :: t.nodes.map shiftNd⟩) := (by show _ = _; rw [shiftT, hst])
          have hlen : ((⟨1, List.replicate S 0⟩ : Nd) :: t.nodes.map shiftNd).length = kk + 1 := by rw [List.length_cons, List.length_map, HLN.out]
          have HNXT : Hid (∀ x ∈ (⟨1, List.replicate S 0⟩ : Nd) :: t.nodes.map shiftNd, x.next.length ≤ 20) := fun x hx => by
            rw [List.mem_cons] at hx
            rcases hx with rfl | hx
            · show (List.replicate S (0 : Int)).length ≤ 20
              rw [List.length_replicate]; omega
            · obtain ⟨y, hy, rfl⟩ := List.mem_map.1 hx
              obtain ⟨i, hi, rfl⟩ := List.getElem_of_mem hy
              have h1 := (nodeOk_parts (HND.out i hi)).1.2.2
              rw [List.getD_eq_getElem?_getD, List.getElem?_eq_getElem hi] at h1
              have h2 := HST.out
              simp only [Option.getD_some] at h1
              show (t.nodes[i].next.map _).length ≤ 20
              rw [List.length_map]; omega
          obtain ⟨UA, uc, su, hrow9, hta⟩ := TSu.tree RS.out (A0.out.up HBr.out).hood A0.out.h63 (by rw [hlen]; omega) HNXT.out
          rw [← HSHT.out] at hta
          rw [hlen] at hrow9 hta
          have HTU : Hid (TAt wr (shiftT t) HA UA hn (kk + 1) su) := hta
          have RU : Hid (Row wr bu 25 [.int .i64 t.states, .slice HA hn hc, .slice UA (kk + 1) uc]) := hrow9
          have HTT : Hid (TAt wr t HA NA hn kk sl) := A0.out.up HBr.out
          have HII : Hid (Rd wr wr.heap.size 1 IA n (ints ins)) := HI.out.up HBr.out
          have HEV : Hid (evalErr (shiftT t) ins = evalErr t ins ∧ evalV (shiftT t) ins = evalV t ins) := shift_eval HR.out (by rw [HLN.out]; omega) ins
          have HRU : Hid (rightT (shiftT t) = true) := shift_right HR.out (by rw [HLN.out]; omega)
          clear hall hst hlen hrow9 hta RS FF HNXT
          have HB := (show Hid (Below w.heap.size w wr) from HBr.out)
          go_wp2_with fail
          refine (tEval_any t HA NA IA hn hc kk nc n ic sl ins _ HTT.out HII.out HM.out).mono ?_
          rintro e w4 ⟨rfl, hb⟩
          clear k0 k1 k2 kl RTr
          have hn : Below wr.heap.size wr w4 := below_next hb (by go_grown)
          have RU := (show Hid (Row _ _ _ _) from rowCells RU.out hn)
          have HTU := (show Hid (TAt w4 _ _ _ _ _ _) from HTU.out.up hn)
          have HII := (show Hid (Rd w4 _ _ _ _ _) from HII.out.up hn)
          have HB := (show Hid (Below w.heap.size w w4) from below_on2 HB.out hn)
          clear hb hn
          have k0 := RU.out.cell 0
          have k1 := RU.out.cell 1
          have k2 := RU.out.cell 2
          have kl := RU.out.lt
          simp only [List.getElem?_cons_zero, List.getElem?_cons_succ] at k0 k1 k2
          go_wp2_with fail
          refine (tEval_any (shiftT t) HA UA IA hn hc (kk + 1) uc n ic su ins _ HTU.out HII.out HM.out).mono ?_
          rintro e w5 ⟨rfl, hb⟩
          clear k0 k1 k2 kl
          have hn : Below w4.heap.size w4 w5 := below_next hb (by go_grown)
          have RU := (show Hid (Row _ _ _ _) from rowCells RU.out hn)
          have HTU := (show Hid (TAt w5 _ _ _ _ _ _) from HTU.out.up hn)
          have HB := (show Hid (Below w.heap.size w w5) from below_on2 HB.out hn)
          clear hb hn
          rw [HEV.out.1, HEV.out.2]
          generalize evalV t ins = ev
          generalize evalErr t ins = er
          have h1 : (ev == ev) = true := by simp
          have h2 : (er == er) = true := by simp
          have k0 := RU.out.cell 0
          have k1 := RU.out.cell 1
          have k2 := RU.out.cell 2
          have kl := RU.out.lt
          simp only [List.getElem?_cons_zero, List.getElem?_cons_succ] at k0 k1 k2
          go_wp2_with fail
          refine (treeRight_any (shiftT t) HA UA hn hc (kk + 1) uc su _ HTU.out).mono ?_
          rw [HRU.out]
          rintro e w6 ⟨rfl, hb⟩
          clear k0 k1 k2 kl
          have hn : Below w5.heap.size w5 w6 := below_next hb (by go_grown)
          have HB := (show Hid (Below w.heap.size w w6) from below_on2 HB.out hn)
          clear hb hn
          clear RU HTU HTT HII RT
          go_wp2_with fail
          refine (awake_any _).mono ?_
          rintro e w9 ⟨rfl, hb⟩
          have HBE : Hid (Below w.heap.size w w9) := below_on HB.out (by go_grown) hb
          clear hb
          go_wp2
          go_ret
          exact ⟨rfl, HBE.out⟩
  · go_simp
    refine hK.out _ _ ?_ (fun hHeld => ?_)
    · (try dsimp only); exact HS _ (by first | exact below_on2 HN.out (by go_grown) | go_grown)
    clear hK K
    try go_simp
    refine wpAnyH_ready (rs := [6]) (by kernel_rfl) (by simp) ?_
    refine AllReadyH.cons rfl (fun K hK => ?_) AllReadyH.nil
    go_simp
    refine hK.out _ _ ?_ (fun hHeld => ?_)
    · (try dsimp only); exact HS _ (by first | exact below_on2 HN.out (by go_grown) | go_grown)
    clear hK K
    try go_simp
    refine wpAnyH_take (i := 7) (v := ?va10) rfl (by kernel_rfl) (by kernel_rfl) (by kernel_rfl) (fun _ _ _ h => h) (Or.inl ⟨by rfl, ?ya10⟩) (by assumption) ?ra10
    case ya10 => intro w' hSw; (try dsimp only at hSw); go_simp; try (with_reducible rfl)
    go_simp
    refine wpAnyH_ready (rs := [8]) (by kernel_rfl) (by simp) ?_
    refine AllReadyH.cons rfl (fun K hK => ?_) AllReadyH.nil
    go_simp
    refine hK.out _ _ ?_ (fun hHeld => ?_)
    · (try dsimp only); exact HS _ (by first | exact below_on2 HN.out (by go_grown) | go_grown)
    clear hK K
    try go_simp
    refine wpAnyH_take (i := 9) (v := ?va11) rfl (by kernel_rfl) (by kernel_rfl) (by kernel_rfl) (fun _ _ _ h => h) (Or.inl ⟨by rfl, ?ya11⟩) (by assumption) ?ra11
    case ya11 => intro w' hSw; (try dsimp only at hSw); go_simp; try (with_reducible rfl)
    go_simp
    refine wpAnyH_ready (rs := [11]) (by kernel_rfl) (by simp) ?_
    refine AllReadyH.cons rfl (fun K hK => ?_) AllReadyH.nil
    go_simp
    refine hK.out _ _ ?_ (fun hHeld => ?_)
    · (try dsimp only); exact HS _ (by first | exact below_on2 HN.out (by go_grown) | go_grown)
    clear hK K
    try go_simp
    refine wpAnyH_done (by kernel_rfl) ?_ _
    have R0 : Hid (Row (World.alloc (World.alloc (World.alloc w2 (.cells #[.int .i64 t.states, .slice HA hn hc, .slice (some ⟨(w2.heap.size + 1 + 1), 0, none⟩) 1 1] 25)) (.cells (likeRow (.int .i64 0) S) 3)) (.cells #[.int .i64 1, .slice (some ⟨(w2.heap.size + 1), 0, none⟩) S S] 41)).drew (w2.heap.size + 1) 3 (ints (List.replicate S 0))) := by
      have h0 := zerosRow (World.alloc w2 (.cells #[.int .i64 t.states, .slice HA hn hc, .slice (some ⟨(w2.heap.size + 1 + 1), 0, none⟩) 1 1] 25)) S 3
      try simp only [World.size_alloc] at h0
      exact (h0.alloc _)
    have R1 : Hid (Row (World.alloc (World.alloc (World.alloc w2 (.cells #[.int .i64 t.states, .slice HA hn hc, .slice (some ⟨(w2.heap.size + 1 + 1), 0, none⟩) 1 1] 25)) (.cells (likeRow (.int .i64 0) S) 3)) (.cells #[.int .i64 1, .slice (some ⟨(w2.heap.size + 1), 0, none⟩) S S] 41)).drew (w2.heap.size + 1 + 1) 41 [.int .i64 1, .slice (some ⟨(w2.heap.size + 1), 0, none⟩) S S]) := by
      have h0 := Row.new (World.alloc (World.alloc w2 (.cells #[.int .i64 t.states, .slice HA hn hc, .slice (some ⟨(w2.heap.size + 1 + 1), 0, none⟩) 1 1] 25)) (.cells (likeRow (.int .i64 0) S) 3)) 41 [.int .i64 1, .slice (some ⟨(w2.heap.size + 1), 0, none⟩) S S]
      try simp only [World.size_alloc] at h0
      exact h0
    have RU : Hid (Row (World.alloc (World.alloc (World.alloc w2 (.cells #[.int .i64 t.states, .slice HA hn hc, .slice (some ⟨(w2.heap.size + 1 + 1), 0, none⟩) 1 1] 25)) (.cells (likeRow (.int .i64 0) S) 3)) (.cells #[.int .i64 1, .slice (some ⟨(w2.heap.size + 1), 0, none⟩) S S] 41)).drew w2.heap.size 25 [.int .i64 t.states, .slice HA hn hc, .slice (some ⟨(w2.heap.size + 1 + 1), 0, none⟩) 1 1]) := by
      have h0 := Row.new w2 25 [.int .i64 t.states, .slice HA hn hc, .slice (some ⟨(w2.heap.size + 1 + 1), 0, none⟩) 1 1]
      try simp only [World.size_alloc] at h0
      exact ((h0.alloc _).alloc _)
    have HW : Hid (Below w2.heap.size w2 (World.alloc (World.alloc (World.alloc w2 (.cells #[.int .i64 t.states, .slice HA hn hc, .slice (some ⟨(w2.heap.size + 1 + 1), 0, none⟩) 1 1] 25)) (.cells (likeRow (.int .i64 0) S) 3)) (.cells #[.int .i64 1, .slice (some ⟨(w2.heap.size + 1), 0, none⟩) S S] 41)).drew) := by show Below _ _ _; go_grown
    clear HS HN hbox hmk
    revert R0 R1 RU HW
    generalize (World.alloc (World.alloc (World.alloc w2 (.cells #[.int .i64 t.states, .slice HA hn hc, .slice (some ⟨(w2.heap.size + 1 + 1), 0, none⟩) 1 1] 25)) (.cells (likeRow (.int .i64 0) S) 3)) (.cells #[.int .i64 1, .slice (some ⟨(w2.heap.size + 1), 0, none⟩) S S] 41)).drew = w3
    intro R0 R1 RU HW
    obtain ⟨cc, hcc⟩ : ∃ cc : Nat, cc = w2.heap.size := ⟨_, rfl⟩
    have HTS : Hid (TSu w3 cc w2.heap.size t.states (.slice HA hn hc) [⟨1, List.replicate S 0⟩]) := ⟨_, [⟨some ⟨(w2.heap.size + 1), 0, none⟩, S, S⟩], RU.out, Row.own R1.out (by omega) rfl (by unfold maxLen; simp), rfl, fun i hi => by
      have hi : i < 1 := hi
      obtain rfl : i = 0 := by omega
      exact ⟨Row.own R0.out (Nat.zero_le _) (by show (ints (List.replicate S 0)).length = S * 1; rw [ints_length, List.length_replicate, Nat.mul_one]) (by show S ≤ maxLen; unfold maxLen; omega), fun k hk => by cases hk⟩⟩
    have HB := (show Hid (Below w.heap.size w w3) from below_on2 HB.out HW.out)
    have RT := (show Hid (Row w3 _ _ _) from rowCells RT.out HW.out)
    have HC : Hid (cc ≤ w2.heap.size ∧ w.heap.size < cc) := (by show _ ∧ _; have := hbox2; omega)
    clear R0 R1 HW
    have k0 := RT.out.cell 0
    have k1 := RT.out.cell 1
    have k2 := RT.out.cell 2
    have kl := RT.out.lt
    simp only [List.getElem?_cons_zero, List.getElem?_cons_succ] at k0 k1 k2
    obtain ⟨bu, hbu⟩ : ∃ bu : Nat, bu = w2.heap.size := ⟨_, rfl⟩
    rw [← hbu] at HTS HC ⊢
    clear hbu RU
    clear hcc hbox2
    go_wp2
    clear k0 k1 k2 kl
    go_loopg [6, 7, 9, 47] nn (fun gg _ _ _ s47 wr => ∃ kk : Nat, kk ≤ nn ∧ nn - kk ≤ gg ∧ s47 = .int .i64 kk ∧ Aside (TFr cc cc w3 wr) ∧ Aside (TSu wr cc bu t.states (.slice HA hn hc) (⟨1, List.replicate S 0⟩ :: (t.nodes.take kk).map shiftNd)))
    case atStart => exact ⟨0, Nat.zero_le _, by omega, rfl, TFr.refl _ _ _, HTS.out⟩
    case round =>
      clear HTS
      obtain ⟨kk, hkk, hgg, rfl, FF, RS⟩ := hrel
      have HBr : Hid (Below w.heap.size w wr) := HB.out.trans (FF.out.below.mono (Nat.le_of_lt HC.out.2))
      have RTr : Hid (Row wr w.heap.size 25 [.int .i64 t.states, .slice HA hn hc, .slice NA nn nc]) := RT.out.below FF.out.below HC.out.2
      have k0 := RTr.out.cell 0
      have k1 := RTr.out.cell 1
      have k2 := RTr.out.cell 2
      have kl := RTr.out.lt
      simp only [List.getElem?_cons_zero, List.getElem?_cons_succ] at k0 k1 k2
      by_cases hlt : kk < nn
      · have hltz : (kk : Int) < (nn : Int) := by omega
        obtain ⟨ad, rfl, hbk, y0, y1⟩ := (A0.out.up HBr.out).node hlt
        have HNX : Hid (∀ w9, Below w.heap.size w w9 → Rd w9 w9.heap.size 1 (sl.getD kk default).at_ (sl.getD kk default).len (ints (t.nodes.getD kk default).next)) := fun w9 h9 => ((A0.out.up h9).next kk (by rw [HLN.out]; exact hlt)).1
        have hqm := (A0.out.next kk (by rw [HLN.out]; exact hlt)).2
        unfold maxLen at hqm
        obtain ⟨⟨l1, l2, l3⟩, hlink⟩ := nodeOk_parts (HND.out kk (by rw [HLN.out]; exact hlt))
        have HLK : Hid (∀ s, s < (t.nodes.getD kk default).next.length → linkOk t kk (t.nodes.getD kk default) ((t.nodes.getD kk default).next.getD s 0) = true) := hlink
        have HTK : Hid ((t.nodes.take (kk + 1)).map shiftNd = (t.nodes.take kk).map shiftNd ++ [shiftNd (t.nodes.getD kk default)]) := shift_take _ _ (by rw [HLN.out]; exact hlt)
        have hql : (t.nodes.getD kk default).next.length = (sl.getD kk default).len := by have := (A0.out.next kk (by rw [HLN.out]; exact hlt)).1.1; rw [ints_length, Nat.mul_one] at this; exact this
        rw [hql] at l3
        rw [hql] at HLK
        generalize t.nodes.getD kk default = x at y0 HNX l1 l2 l3 HLK HTK hql hlink
        generalize sl.getD kk default = q at y1 HNX hqm l3 HLK hql
        obtain ⟨qa, ql, qc⟩ := q
        obtain ⟨lev, nx⟩ := x
        dsimp only at y0 y1 l1 l2 l3 hqm hql
        have HQL : Hid (nx.length = ql) := hql
        have hql8 : ql ≤ 8 := by have := HST.out; omega
        clear hlink hql l3
        have hz : (ad.add (kk * 2)).block < wr.heap.size := by rw [add_block]; exact hbk
        go_wp2
        have RX : Hid (Row (World.alloc wr _) wr.heap.size 41 [.int .i64 lev, .slice none 0 0]) := Row.new wr 41 [.int .i64 lev, .slice none 0 0]
        have HE : Hid (Below wr.heap.size wr (World.alloc wr (.cells #[.int .i64 lev, .slice none 0 0] 41))) := by show Below _ _ _; go_grown
        have HSE : Hid ((World.alloc wr (.cells #[.int .i64 lev, .slice none 0 0] 41)).heap.size = wr.heap.size + 1) := by show _ = _; rw [World.size_alloc]
        clear y0 y1 hz k0 k1 k2 kl
        revert RX HE HSE
        generalize World.alloc wr (.cells #[.int .i64 lev, .slice none 0 0] 41) = wE
        intro RX HE HSE
        obtain ⟨wo, rfl⟩ : ∃ wo : World, wo = wr := ⟨_, rfl⟩
        go_loopg [9, 64] ql (fun gg _ s64 wr => ∃ (j : Nat) (v : Value), j ≤ ql ∧ ql - j ≤ gg ∧ s64 = .int .i64 j ∧ Aside (Below wo.heap.size wo wr) ∧ Aside (wE.heap.size ≤ wr.heap.size) ∧ Aside (Row wr wo.heap.size 41 [.int .i64 lev, v]) ∧ Aside (wr.ownsRow wE.heap.size 3 1 v j (ints ((nx.take j).map (shiftI lev)))))
        case atStart => exact ⟨0, .slice none 0 0, Nat.zero_le _, by omega, rfl, HE.out, Nat.le_refl _, RX.out, World.ownsRow_nil _ _ _ _⟩
        case round =>
          clear RX HE
          obtain ⟨j, v, hj, hgj, rfl, BI, HSI, RX, OX⟩ := hrel
          obtain ⟨XA, xc, rfl, _⟩ := Rd.own OX.out
          have RXi : Hid (Row wr wo.heap.size 41 [.int .i64 lev, .slice XA j xc]) := RX.out
          have OX : Hid (wr.ownsRow wE.heap.size 3 1 (.slice XA j xc) j (ints ((nx.take j).map (shiftI lev)))) := OX.out
          have hszi := HSI.out
          have hsze : wo.heap.size + 1 ≤ wE.heap.size := (by rw [HSE.out]; exact Nat.le_refl _)
          have HBi : Hid (Below w.heap.size w wr) := below_on2 HBr.out BI.out
          have x0 := RXi.out.cell 0
          have x1 := RXi.out.cell 1
          have xl := RXi.out.lt
          simp only [List.getElem?_cons_zero, List.getElem?_cons_succ] at x0 x1
          by_cases hltj : j < ql
          · have hltjz : (j : Int) < (ql : Int) := by omega
            obtain ⟨zd, rfl, hzb, hzc⟩ := (HNX.out wr HBi.out).int hltj
            have hlk := HLK.out j hltj
            have HSH : Hid ((nx.take (j + 1)).map (shiftI lev) = (nx.take j).map (shiftI lev) ++ [shiftI lev (nx.getD j 0)]) := shiftI_take _ _ _ (by rw [HQL.out]; exact hltj)
            generalize hxs : (nx.take j).map (shiftI lev) = xs at OX HSH
            (try dsimp only at hlk); (try dsimp only at hzc)
            generalize nx.getD j 0 = z at hlk hzc HSH
            simp only [linkOk, decide_eq_true_eq] at hlk
            obtain ⟨b1, b2, b3⟩ := hlk
            have HXS : Hid ((nx.take (j + 1)).map (shiftI lev) = xs ++ [shiftI lev z]) := HSH.out
            clear HSH hxs
            by_cases hl : 1 < lev
            · have hzz := (b3 hl).1
              have HSH : Hid (shiftI lev z = z + 1) := (by show _ = _; rw [shiftI, if_pos hl])
              clear b2 b3
              go_wp2_with (at_builtin; refine wpList_app rfl (.tmp 74) (.tmp 76) 29 rfl wE.heap.size 3 (.int .i64 0) 1 8 Try.underlying29 int_infoR rfl (by decide) (by decide) (.slice XA j xc) j (ints xs) rfl ?own (wr.heap.size + 1) (some ⟨wr.heap.size, 0, none⟩) 1 1 [.int .i64 (z + 1)] rfl ?rd ?one ?hb ?hbase ?_)
              case own => exact OX.out.alloc _
              case rd => exact Rd.lit wr #[.int .i64 (z + 1)] 3 (sz := 1) (m := 1) rfl
              case one => first | (intro u hu; simp at hu; subst hu; rfl) | rfl
              case hb => omega
              case hbase => first | (simp; omega) | omega
              intro v' w' hown' hgrow' hat'
              obtain ⟨VA, vc, rfl, _⟩ := Rd.own hown'
              have RX1 : Hid (Row w' wo.heap.size 41 [.int .i64 lev, .slice XA j xc]) := (RXi.out.alloc _).grown hgrow' (fun e => own_ne_row OX.out RXi.out (by decide) e.symm)
              have BI1 : Hid (Below wo.heap.size wo w') := (BI.out.alloc (by omega) _).grown hgrow' (by simp; omega) (fun k hk => by have := (OX.out.lt k hk).1; omega)
              have HS1 : Hid (wE.heap.size ≤ w'.heap.size) := (by show _ ≤ _; have h1 := hgrow'.size; rw [World.size_alloc] at h1; omega)
              have OX1 : Hid (w'.ownsRow wE.heap.size 3 1 (.slice VA (j + 1) vc) (j + 1) (ints (xs ++ [z + 1]))) := (by show World.ownsRow _ _ _ _ _ _ _; rw [ints_snocL]; exact hown')
              clear hown' hgrow' hat' x0 x1 xl
              have x0 := RX1.out.cell 0
              have x1 := RX1.out.cell 1
              have xl := RX1.out.lt
              simp only [List.getElem?_cons_zero, List.getElem?_cons_succ] at x0 x1
              have xf0 := RX1.out.frozen 0
              have xf1 := RX1.out.frozen 1
              go_wp2
              go_roundg (ql - (j + 1))
              case measure => omega
              case rel =>
                refine ⟨j + 1, .slice VA (j + 1) vc, by omega, by omega, by go_num, ?_, ?_, ?_, ?_⟩
                · show Below _ _ _
                  exact BI1.out.setCell (p := ⟨wo.heap.size, 1, none⟩) (Nat.le_refl _) _
                · show _ ≤ _
                  rw [World.size_setCell]; exact HS1.out
                · show Row _ _ _ _
                  exact RX1.out.set 1 _
                · show World.ownsRow _ _ _ _ _ _ _
                  rw [HXS.out, HSH.out]
                  exact own_set (p := ⟨wo.heap.size, 1, none⟩) OX1.out RX1.out (by decide) _
            · have hz1 := b2 (by omega)
              have HSH : Hid (shiftI lev z = z) := (by show _ = _; rw [shiftI, if_neg hl])
              clear b2 b3
              go_wp2_with (at_builtin; refine wpList_app rfl (.tmp 74) (.tmp 76) 29 rfl wE.heap.size 3 (.int .i64 0) 1 8 Try.underlying29 int_infoR rfl (by decide) (by decide) (.slice XA j xc) j (ints xs) rfl ?own (wr.heap.size + 1) (some ⟨wr.heap.size, 0, none⟩) 1 1 [.int .i64 (z)] rfl ?rd ?one ?hb ?hbase ?_)
              case own => exact OX.out.alloc _
              case rd => exact Rd.lit wr #[.int .i64 (z)] 3 (sz := 1) (m := 1) rfl
              case one => first | (intro u hu; simp at hu; subst hu; rfl) | rfl
              case hb => omega
              case hbase => first | (simp; omega) | omega
              intro v' w' hown' hgrow' hat'
              obtain ⟨VA, vc, rfl, _⟩ := Rd.own hown'
              have RX1 : Hid (Row w' wo.heap.size 41 [.int .i64 lev, .slice XA j xc]) := (RXi.out.alloc _).grown hgrow' (fun e => own_ne_row OX.out RXi.out (by decide) e.symm)
              have BI1 : Hid (Below wo.heap.size wo w') := (BI.out.alloc (by omega) _).grown hgrow' (by simp; omega) (fun k hk => by have := (OX.out.lt k hk).1; omega)
              have HS1 : Hid (wE.heap.size ≤ w'.heap.size) := (by show _ ≤ _; have h1 := hgrow'.size; rw [World.size_alloc] at h1; omega)
              have OX1 : Hid (w'.ownsRow wE.heap.size 3 1 (.slice VA (j + 1) vc) (j + 1) (ints (xs ++ [z]))) := (by show World.ownsRow _ _ _ _ _ _ _; rw [ints_snocL]; exact hown')
              clear hown' hgrow' hat' x0 x1 xl
              have x0 := RX1.out.cell 0
              have x1 := RX1.out.cell 1
              have xl := RX1.out.lt
              simp only [List.getElem?_cons_zero, List.getElem?_cons_succ] at x0 x1
              have xf0 := RX1.out.frozen 0
              have xf1 := RX1.out.frozen 1
              go_wp2
              go_roundg (ql - (j + 1))
              case measure => omega
              case rel =>
                refine ⟨j + 1, .slice VA (j + 1) vc, by omega, by omega, by go_num, ?_, ?_, ?_, ?_⟩
                · show Below _ _ _
                  exact BI1.out.setCell (p := ⟨wo.heap.size, 1, none⟩) (Nat.le_refl _) _
                · show _ ≤ _
                  rw [World.size_setCell]; exact HS1.out
                · show Row _ _ _ _
                  exact RX1.out.set 1 _
                · show World.ownsRow _ _ _ _ _ _ _
                  rw [HXS.out, HSH.out]
                  exact own_set (p := ⟨wo.heap.size, 1, none⟩) OX1.out RX1.out (by decide) _
          · have hltjz : ¬ (j : Int) < (ql : Int) := by omega
            obtain rfl : j = ql := by omega
            have htk : nx.take j = nx := List.take_of_length_le (by rw [HQL.out]; exact Nat.le_refl _)
            rw [htk] at OX
            have OX0 : Hid (wr.ownsRow 0 3 1 (.slice XA j xc) j (ints (nx.map (shiftI lev)))) := own_base OX.out (Nat.zero_le _)
            have RSi : TSu wr cc bu t.states (.slice HA hn hc) (⟨1, List.replicate S 0⟩ :: (t.nodes.take kk).map shiftNd) := RS.out.keepAll BI.out.block
            have hlen : ((⟨1, List.replicate S 0⟩ : Nd) :: (t.nodes.take kk).map shiftNd).length = kk + 1 := by
              rw [List.length_cons, List.length_map, List.length_take, HLN.out]; omega
            obtain ⟨ms, hms⟩ : ∃ ms, ms = (⟨1, List.replicate S 0⟩ : Nd) :: (t.nodes.take kk).map shiftNd := ⟨_, rfl⟩
            have HMS : Hid ((⟨1, List.replicate S 0⟩ : Nd) :: (t.nodes.take kk).map shiftNd = ms) := hms.symm
            rw [← hms] at RSi hlen
            obtain ⟨UA, uc, su, hrow9, hown9, hsl9, hx9⟩ := RSi.op
            rw [hlen] at hrow9 hown9 hsl9
            have HMN : Hid (ms.length = kk + 1) := hlen
            have HSL : Hid (su.length = ms.length) := hsl9.trans hlen.symm
            have HROW : Hid (Row wr bu 25 [.int .i64 t.states, .slice HA hn hc, .slice UA (kk + 1) uc]) := hrow9
            have HOG : Hid (wr.ownsRow cc 41 2 (.slice UA (kk + 1) uc) (kk + 1) (nodesCells ms su)) := hown9
            have HX : Hid (NextAt wr ms su none) := hx9
            have hccr : cc ≤ wr.heap.size := by have := HC.out.1; have := hrow9.lt; omega
            have FI : Hid (TFr cc cc w3 wr) := FF.out.trans (TFr.ofBelow BI.out (by have h1 := HC.out.1; have h2 := RS.out.op; obtain ⟨_, _, _, h3, _⟩ := h2; have := h3.lt; omega))
            clear hrow9 hown9 hsl9 hx9 hms hlen RSi htk OX
            have e0 := HROW.out.cell 0
            have e1 := HROW.out.cell 1
            have e2 := HROW.out.cell 2
            have el := HROW.out.lt
            simp only [List.getElem?_cons_zero, List.getElem?_cons_succ] at e0 e1 e2
            go_wp2_with (at_builtin; refine wpList_app rfl (.tmp 81) (.tmp 83) 23 rfl cc 41 (.agg #[.int .i64 0, .slice none 0 0]) 2 32 Try.underlying23 node_info rfl (by decide) (by decide) (.slice UA (kk + 1) uc) (kk + 1) (nodesCells ms su) rfl ?own (wr.heap.size + 1) (some ⟨wr.heap.size, 0, none⟩) 1 1 [.int .i64 lev, .slice XA j xc] rfl ?rd ?one ?hb ?hbase ?_)
            case own => exact HOG.out.alloc _
            case rd => exact Rd.lit wr #[.int .i64 lev, .slice XA j xc] 41 (sz := 2) (m := 1) rfl
            case one => first | exact nd_one _ _ _ _ | rfl | exact ⟨rfl, rfl⟩
            case hb => omega
            case hbase => first | (simp; omega) | omega
            intro v' w' hown' hgrow' hat'
            obtain ⟨p1, p2, p3⟩ := TSu.push (x := ⟨lev, nx.map (shiftI lev)⟩) (s := ⟨XA, j, xc⟩) (HROW.out.alloc _) (HOG.out.alloc _) HMN.out HSL.out HC.out.1 (Nat.le_refl _) (NextAt.keep HX.out (fun k cs hk _ _ _ => (Below.heap_alloc _ _ k (heap_lt hk)).trans hk)) (OX0.out.alloc _) hgrow' hown' (FI.out.alloc hccr _)
            obtain ⟨VA, vc, rfl, _⟩ := Rd.own hown'
            have PR : Hid (Row w' bu 25 [.int .i64 t.states, .slice HA hn hc, .slice UA (kk + 1) uc]) := p1
            have PS : Hid (TSu (w'.setCell ⟨bu, 2, none⟩ (.slice VA (kk + 1 + 1) vc)) cc bu t.states (.slice HA hn hc) (ms ++ [⟨lev, nx.map (shiftI lev)⟩])) := p2
            have PF : Hid (TFr cc cc w3 (w'.setCell ⟨bu, 2, none⟩ (.slice VA (kk + 1 + 1) vc))) := p3
            clear p1 p2 p3 hown' hgrow' hat' e0 e1 e2 el x0 x1 xl HROW HOG HX
            have q2 := PR.out.cell 2
            have qf := PR.out.frozen 2
            simp only [List.getElem?_cons_zero, List.getElem?_cons_succ] at q2
            have hbl' := PR.out.lt
            go_wp2
            go_roundg (nn - (kk + 1))
            case measure => omega
            case rel =>
              refine ⟨kk + 1, by omega, by omega, by go_num, PF.out, ?_⟩
              show TSu _ _ _ _ _ _
              rw [HTK.out, ← List.cons_append, HMS.out]
              exact PS.out
      · have hltz : ¬ (kk : Int) < (nn : Int) := by omega
        obtain rfl : kk = nn := by omega
        have hall : t.nodes.take kk = t.nodes := List.take_of_length_le (by rw [HLN.out]; exact Nat.le_refl _)
        rw [hall] at RS
        have hst : t.states.toNat = S := by have := HST.out; omega
        have HSHT : Hid (shiftT t = ⟨t.states, t.hood, ⟨1, List.replicate S 0⟩ :: t.nodes.map shiftNd⟩) := (by show _ = _; rw [shiftT, hst])
        have hlen : ((⟨1, List.replicate S 0⟩ : Nd) :: t.nodes.map shiftNd).length = kk + 1 := by rw [List.length_cons, List.length_map, HLN.out]
        have HNXT : Hid (∀ x ∈ (⟨1, List.replicate S 0⟩ : Nd) :: t.nodes.map shiftNd, x.next.length ≤ 20) := fun x hx => by
          rw [List.mem_cons] at hx
          rcases hx with rfl | hx
          · show (List.replicate S (0 : Int)).length ≤ 20
            rw [List.length_replicate]; omega
          · obtain ⟨y, hy, rfl⟩ := List.mem_map.1 hx
            obtain ⟨i, hi, rfl⟩ := List.getElem_of_mem hy
            have h1 := (nodeOk_parts (HND.out i hi)).1.2.2
            rw [List.getD_eq_getElem?_getD, List.getElem?_eq_getElem hi] at h1
            have h2 := HST.out
            simp only [Option.getD_some] at h1
            show (t.nodes[i].next.map _).length ≤ 20
            rw [List.length_map]; omega
        obtain ⟨UA, uc, su, hrow9, hta⟩ := TSu.tree RS.out (A0.out.up HBr.out).hood A0.out.h63 (by rw [hlen]; omega) HNXT.out
        rw [← HSHT.out] at hta
        rw [hlen] at hrow9 hta
        have HTU : Hid (TAt wr (shiftT t) HA UA hn (kk + 1) su) := hta
        have RU : Hid (Row wr bu 25 [.int .i64 t.states, .slice HA hn hc, .slice UA (kk + 1) uc]) := hrow9
        have HTT : Hid (TAt wr t HA NA hn kk sl) := A0.out.up HBr.out
        have HII : Hid (Rd wr wr.heap.size 1 IA n (ints ins)) := HI.out.up HBr.out
        have HEV : Hid (evalErr (shiftT t) ins = evalErr t ins ∧ evalV (shiftT t) ins = evalV t ins) := shift_eval HR.out (by rw [HLN.out]; omega) ins
        have HRU : Hid (rightT (shiftT t) = true) := shift_right HR.out (by rw [HLN.out]; omega)
        clear hall hst hlen hrow9 hta RS FF HNXT
        have HB := (show Hid (Below w.heap.size w wr) from HBr.out)
        go_wp2_with fail
        refine (tEval_any t HA NA IA hn hc kk nc n ic sl ins _ HTT.out HII.out HM.out).mono ?_
        rintro e w4 ⟨rfl, hb⟩
        clear k0 k1 k2 kl RTr
        have hn : Below wr.heap.size wr w4 := below_next hb (by go_grown)
        have RU := (show Hid (Row _ _ _ _) from rowCells RU.out hn)
        have HTU := (show Hid (TAt w4 _ _ _ _ _ _) from HTU.out.up hn)
        have HII := (show Hid (Rd w4 _ _ _ _ _) from HII.out.up hn)
        have HB := (show Hid (Below w.heap.size w w4) from below_on2 HB.out hn)
        clear hb hn
        have k0 := RU.out.cell 0
        have k1 := RU.out.cell 1
        have k2 := RU.out.cell 2
        have kl := RU.out.lt
        simp only [List.getElem?_cons_zero, List.getElem?_cons_succ] at k0 k1 k2
        go_wp2_with fail
        refine (tEval_any (shiftT t) HA UA IA hn hc (kk + 1) uc n ic su ins _ HTU.out HII.out HM.out).mono ?_
        rintro e w5 ⟨rfl, hb⟩
        clear k0 k1 k2 kl
        have hn : Below w4.heap.size w4 w5 := below_next hb (by go_grown)
        have RU := (show Hid (Row _ _ _ _) from rowCells RU.out hn)
        have HTU := (show Hid (TAt w5 _ _ _ _ _ _) from HTU.out.up hn)
        have HB := (show Hid (Below w.heap.size w w5) from below_on2 HB.out hn)
        clear hb hn
        rw [HEV.out.1, HEV.out.2]
        generalize evalV t ins = ev
        generalize evalErr t ins = er
        have h1 : (ev == ev) = true := by simp
        have h2 : (er == er) = true := by simp
        have k0 := RU.out.cell 0
        have k1 := RU.out.cell 1
        have k2 := RU.out.cell 2
        have kl := RU.out.lt
        simp only [List.getElem?_cons_zero, List.getElem?_cons_succ] at k0 k1 k2
        go_wp2_with fail
        refine (treeRight_any (shiftT t) HA UA hn hc (kk + 1) uc su _ HTU.out).mono ?_
        rw [HRU.out]
        rintro e w6 ⟨rfl, hb⟩
        clear k0 k1 k2 kl
        have hn : Below w5.heap.size w5 w6 := below_next hb (by go_grown)
        have HB := (show Hid (Below w.heap.size w w6) from below_on2 HB.out hn)
        clear hb hn
        clear RU HTU HTT HII RT
        go_wp2_with fail
        refine (awake_any _).mono ?_
        rintro e w9 ⟨rfl, hb⟩
        have HBE : Hid (Below w.heap.size w w9) := below_on HB.out (by go_grown) hb
        clear hb
        go_wp2
        go_ret
        exact ⟨rfl, HBE.out⟩
end Go.Proofs.Ytjacgoipfmiaiaa
