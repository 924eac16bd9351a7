/-
  refute: Prove, walked.
-/
import Derived.Test.YtbomfekfebamkaaVC15
namespace Go.Proofs.Ytbomfekfebamkaa
open Go.RowKit Go.Maps
set_option linter.unusedSimpArgs false
set_option linter.unusedVariables false
def toSl : Value → Sl
  | .slice A n c => ⟨A, n, c⟩
  | _ => default
theorem sl_back {hs : List Value} (h : ∀ v ∈ hs, ∃ A n c, v = .slice A n c) : slCells (hs.map toSl) = hs := by
  unfold slCells
  rw [List.map_map]
  refine (List.map_congr_left (g := id) fun v hv => ?_).trans (List.map_id _)
  obtain ⟨A, n, c, rfl⟩ := h v hv
  rfl
/-- The proof as a formula's clauses. -/
theorem PrAt.fat {w : World} {B bp b : Nat} {s : V.En} {us : List Int} {em : Bool} {G : EG} {US : Value} {pf : List (List Int)} {PV : Value} {hs : List Value} (h : PrAt w B bp b s us em G US pf PV hs) (v : Int) : ∃ PA pn pc ps, PV = .slice PA pn pc ∧ FAt w ⟨v, pf⟩ PA pn ps := by
  obtain ⟨PA, pc, hPV, hrd⟩ := h.pv.rd
  have hsl : ∀ k, k < hs.length → ∃ A c, hs.getD k undef = .slice A (pf.getD k []).length c ∧ Rd w w.heap.size 1 A (pf.getD k []).length (ints (pf.getD k [])) := fun k hk => (h.cs k (by rw [← h.hl]; exact hk)).rd
  have hal : ∀ v ∈ hs, ∃ A n c, v = .slice A n c := fun v hv => by
    obtain ⟨k, hk, e⟩ := List.getElem_of_mem hv
    obtain ⟨A, c, e2, _⟩ := hsl k hk
    rw [List.getD_eq_getElem?_getD, List.getElem?_eq_getElem hk] at e2
    exact ⟨A, _, c, e.symm.trans e2⟩
  have hpv : hs.length ≤ maxLen := by
    rcases h.pv.1.2 with ⟨e, e0⟩ | ⟨g, cap, cur, e, hb, hg, h1, h2, h3, h4⟩
    · omega
    · omega
  refine ⟨PA, hs.length, pc, hs.map toSl, hPV, by rw [sl_back hal]; exact hrd, by simp [h.hl], fun i hi => ?_, hpv⟩
  have hi' : i < hs.length := by rw [h.hl]; exact hi
  obtain ⟨A, c, e2, hr⟩ := hsl i hi'
  have e3 : (hs.map toSl).getD i default = ⟨A, (pf.getD i []).length, c⟩ := by
    rw [List.getD_eq_getElem?_getD, List.getElem?_map, List.getElem?_eq_getElem hi']
    rw [List.getD_eq_getElem?_getD, List.getElem?_eq_getElem hi'] at e2
    have e4 : hs[i] = .slice A (pf.getD i []).length c := e2
    simp only [Option.map_some, Option.getD_some, e4]
    rfl
  rw [e3]
  refine ⟨hr, ?_⟩
  rcases (h.cs i hi).1.2 with ⟨e, e0⟩ | ⟨g, cap, cur, e, hb, hg, h1, h2, h3, h4⟩
  · dsimp only; omega
  · dsimp only; omega
theorem no_fat (w : World) (v : Int) : FAt w ⟨v, []⟩ none 0 [] := ⟨Rd.empty _, rfl, fun i hi => absurd hi (Nat.not_lt_zero _), Nat.zero_le _⟩
/-- What Prove leaves: a proof in memory and a number. -/
def ProvedTo (w w' : World) (v : Int) (R : List (List Int) × Nat) (e : Ending) : Prop :=
  ∃ (PA : Option Addr) (pn pc : Nat) (ps : List Sl), e = .returned (.tuple #[.slice PA pn pc, .int .i64 (R.2 : Nat)]) ∧ FAt w' ⟨v, R.1⟩ PA pn ps ∧ Below w.heap.size w w'
/-- What the loop over the units knows. -/
structure FE (n : Nat) (F : List (List Int)) (l0 l : List Int) (s s1 : V.En) (B b : Nat) (us : List Int) (em : Bool) (G1 : EG) (US : Value) (w wr : World) : Prop where
  run : V.setEach l0 s = V.setEach l s1
  wf : V.WF n F s1
  hd : s1.hd = 0
  eng : EngR wr B b s1 (fun _ => False) us em G1 US
  bel : Below w.heap.size w wr
theorem FE.next {n : Nat} {F : List (List Int)} {l0 l : List Int} {s s1 : V.En} {B b : Nat} {us : List Int} {em : Bool} {G1 G2 : EG} {US : Value} {w wr w2 : World} {x : Int} (h : FE n F l0 (x :: l) s s1 B b us em G1 US w wr) (hx : V.lit n x) (E : EngR w2 B b (setP s1 x) (fun _ => False) us em G2 US) (hk : Below w.heap.size wr w2) : FE n F l0 l s (setP s1 x) B b us em G2 US w w2 := by
  refine ⟨?_, setP_wf h.wf hx, by rw [setP_hd, h.hd], E, h.bel.trans hk⟩
  rw [h.run]
  conv => lhs; unfold V.setEach
  unfold setP
  split <;> rfl
set_option maxRecDepth 100000 in
set_option maxHeartbeats 1000000 in
theorem pProveBad_any (f : Fml) (A : Option Addr) (m c : Nat) (sl : List Sl) (w : World) (h : FAt w f A m sl) (h1 : rightF f = false) :
    Calls Try.prog 6 #[.agg #[.int .i64 f.vars, .slice A m c]] w fun e w' => e = .returned (.tuple #[.slice none 0 0, .int .i64 2]) ∧ Below w.heap.size w w' := by
  have H := Lib.hid h
  have H1 := Lib.hid h1
  clear h h1
  go_enter Try.func6, Try.ntmps6
  go_upto_region 1 with fail
  have HB0 : Hid (Below w.heap.size w ((World.alloc w (.cells #[.int .i64 f.vars, .slice A m c] 24)))) := (show Below _ _ _ by go_grown)
  have RF0 : Hid (Row ((World.alloc w (.cells #[.int .i64 f.vars, .slice A m c] 24))) w.heap.size 24 [.int .i64 f.vars, .slice A m c]) := Row.new w _ [.int .i64 f.vars, .slice A m c]
  revert HB0 RF0
  generalize (World.alloc w (.cells #[.int .i64 f.vars, .slice A m c] 24)) = w1
  intro HB0 RF0
  have k0 := RF0.out.cell 0
  have k1 := RF0.out.cell 1
  have kl := RF0.out.lt
  simp only [List.getElem?_cons_zero, List.getElem?_cons_succ] at k0 k1
  have HC := fRight_any f A m c sl w1 (H.out.up HB0.out)
  rw [H1.out] at HC
  go_wp2_with fail
  refine HC.mono ?_
  clear HC
  rintro e w2 ⟨rfl, hb2⟩
  have HB2 : Hid (Below w.heap.size w w2) := HB0.out.trans (hb2.mono HB0.out.size)
  clear hb2 k0 k1 kl RF0 HB0
  go_wp2
  refine bodyPost_ret (v := .tuple #[.slice none 0 0, .int .i64 2]) (by simp [results, Try.results6, go_sem]) rfl ?_
  exact ⟨rfl, HB2.out⟩
set_option maxRecDepth 100000 in
set_option maxHeartbeats 4000000 in
theorem pProve_any (f : Fml) (n : Nat) (A : Option Addr) (m c : Nat) (sl : List Sl) (w : World) (h : FAt w f A m sl) (h1 : rightF f = true) (hv : f.vars = n) (hn : n ≤ 12) (hm : m ≤ 400000) (hl : ∀ c ∈ f.cls, c.length ≤ 1000000 ∧ ∀ x ∈ c, V.lit n x) :
    Calls Try.prog 6 #[.agg #[.int .i64 f.vars, .slice A m c]] w fun e w' => ProvedTo w w' f.vars (V.proveR n (f.cls.map nrmI)) e := by
  have H := Lib.hid h
  have H1 := Lib.hid h1
  have HL := Lib.hid hl
  have HWL := Lib.hid h.wl
  have HV : Hid (∀ _ : Unit, f.vars = n) := fun _ => hv
  clear h h1 hl hv
  obtain ⟨R, hR⟩ : ∃ R, V.proveR n (f.cls.map nrmI) = R := ⟨_, rfl⟩
  have HR : Hid (∀ _ : Unit, V.proveR n (f.cls.map nrmI) = R) := fun _ => hR
  rw [hR]
  clear hR
  obtain ⟨F, hG⟩ := V.with_spec (n := n) (f.cls.map nrmI) (fun c hc => by
    obtain ⟨c', h1, rfl⟩ := List.mem_map.1 hc
    exact nrm_ok (HL.out c' h1).2)
  have hwl := withR_len n (f.cls.map nrmI)
  simp only [List.length_map] at hwl
  have hFl : F.length ≤ 400000 := by have h1 := hG.wf.clen; have h2 := HWL.out; omega
  have hul : (V.withR n (f.cls.map nrmI)).units.length ≤ 400000 := by have h2 := HWL.out; omega
  have HG := Lib.hid hG
  clear hG hwl
  go_enter Try.func6, Try.ntmps6
  go_upto_region 1 with fail
  have HB0 : Hid (Below w.heap.size w ((World.alloc w (.cells #[.int .i64 f.vars, .slice A m c] 24)))) := (show Below _ _ _ by go_grown)
  have RF0 : Hid (Row ((World.alloc w (.cells #[.int .i64 f.vars, .slice A m c] 24))) w.heap.size 24 [.int .i64 f.vars, .slice A m c]) := Row.new w _ [.int .i64 f.vars, .slice A m c]
  revert HB0 RF0
  generalize (World.alloc w (.cells #[.int .i64 f.vars, .slice A m c] 24)) = w1
  intro HB0 RF0
  have k0 := RF0.out.cell 0
  have k1 := RF0.out.cell 1
  have kl := RF0.out.lt
  simp only [List.getElem?_cons_zero, List.getElem?_cons_succ] at k0 k1
  have HC := fRight_any f A m c sl w1 (H.out.up HB0.out)
  rw [H1.out] at HC
  go_wp2_with fail
  refine HC.mono ?_
  clear HC
  rintro e w2 ⟨rfl, hb2⟩
  have HB2 : Hid (Below w.heap.size w w2) := HB0.out.trans (hb2.mono HB0.out.size)
  have RF2 : Hid (Row w2 w.heap.size 24 [.int .i64 f.vars, .slice A m c]) := rowCells RF0.out hb2
  clear hb2 k0 k1 kl RF0 HB0
  have k0 := RF2.out.cell 0
  have k1 := RF2.out.cell 1
  have kl := RF2.out.lt
  simp only [List.getElem?_cons_zero, List.getElem?_cons_succ] at k0 k1
  have HC := pWith_any f n A m c sl w2 (H.out.up HB2.out) (HV.out ()) (by omega) (by omega) HL.out
  go_wp2_with fail
  refine HC.mono ?_
  clear HC
  rintro e w3 ⟨b, G3, US, rfl, hb3, hE3⟩
  have HB3 : Hid (Below w.heap.size w w3) := HB2.out.trans (hb3.mono HB2.out.size)
  have hBw : w.heap.size ≤ w2.heap.size + 1 := by have := HB2.out.size; omega
  have HE3 := Lib.hid hE3
  clear hE3 hb3 k0 k1 kl RF2 HB2
  revert hBw HE3
  generalize w2.heap.size + 1 = B
  intro hBw HE3
  revert HG HE3 hul
  generalize hg0 : V.withR n (f.cls.map nrmI) = g0
  have HG0 : Hid (∀ _ : Unit, V.withR n (f.cls.map nrmI) = g0) := fun _ => hg0
  clear hg0
  obtain ⟨s, us, em⟩ := g0
  dsimp only
  intro hul HG HE3
  have HFO := pFollows_any B b n F s us em G3 US none 0 0 [] w3 HE3.out HG.out.wf HG.out.hd0 (by omega) (by omega) (by omega) HG.out.ulit (Rd.empty _) (by omega) (by simp)
  go_wp2_with fail
  refine HFO.mono ?_
  clear HFO
  rintro e w4 ⟨rfl, G4, hE4, hB4⟩
  have HE4 := Lib.hid hE4
  have HB4 : Hid (Below w.heap.size w w4) := HB3.out.trans (hB4.mono hBw)
  clear hE4 hB4
  cases hfo : (V.followsR n ⟨s, us, em⟩ []).2 with
  | true =>
    have hr : R = ([[]], 0) := (HR.out ()).symm.trans (V.proveR_nil (by rw [HG0.out ()]; exact hfo))
    subst hr
    clear hfo HE4 HE3 HG hul HG0 HR
    go_wp2
    refine bodyPost_ret (v := .tuple #[.slice (some ⟨w4.heap.size + 1, 0, none⟩) 1 1, .int .i64 0]) (by simp [results, Try.results6, go_sem]) rfl ?_
    refine ⟨_, _, _, [⟨some ⟨w4.heap.size, 0, none⟩, 0, 0⟩], rfl, ⟨?_, rfl, fun i hi => ?_, by unfold maxLen; omega⟩, HB4.out.trans (show Below w.heap.size w4 _ from Below.mono (by go_grown) HB4.out.size)⟩
    · have := Rd.lit (w4.alloc (.cells #[] 3)) #[.slice (some ⟨w4.heap.size, 0, none⟩) 0 0] 26 (sz := 1) (m := 1) rfl
      simpa [slCells] using this
    · have : i = 0 := by simpa using hi
      subst this
      exact ⟨Rd.empty _, Nat.zero_le _⟩
  | false =>
    have hf2 : (V.followsR n (V.withR n (f.cls.map nrmI)) []).2 = false := by rw [HG0.out ()]; exact hfo
    obtain ⟨hG4, hP4⟩ := V.prove_start HG.out hfo
    rw [foll_eta] at hG4 hP4
    have hf1 : (V.followsR n (V.withR n (f.cls.map nrmI)) []).1 = ⟨(V.followsR n ⟨s, us, em⟩ []).1.s, us, em⟩ := by rw [HG0.out (), foll_eta]
    revert hG4 hP4 HE4 hf1
    generalize (V.followsR n ⟨s, us, em⟩ []).1.s = s4
    intro HE4 hG4 hP4 hf1
    have HG4 := Lib.hid hG4
    have HP4 := Lib.hid hP4
    have HEQ := fun (q : V.En × List (List Int) × Nat) (hq : V.searchP n (n + 2) (V.propF (n + 2) (V.setEach us s4)).1 [] [] = q) => V.proveR_eq hf1 hf2 hq
    have HEQ := Lib.hid HEQ
    have R4 : Hid (Row w4 b 46 [G4.CL, .map (some G4.mb), US, .bool em, G4.VA, G4.TR, .int .i64 (s4.hd : Int)]) := HE4.out.row
    have k0 := R4.out.cell 0
    have k1 := R4.out.cell 1
    have k2 := R4.out.cell 2
    have k3 := R4.out.cell 3
    have k4 := R4.out.cell 4
    have k5 := R4.out.cell 5
    have k6 := R4.out.cell 6
    have kl := R4.out.lt
    simp only [List.getElem?_cons_zero, List.getElem?_cons_succ] at k0 k1 k2 k3 k4 k5 k6
    obtain ⟨AU, cu, hUS, _⟩ := HE4.out.us.rd
    have HUS : Hid (∀ _ : Unit, US = .slice AU us.length cu) := fun _ => hUS
    rw [hUS] at k2
    have HULS : Hid (∀ x ∈ us, V.lit n x) := hG4.ulit
    have HFE : Hid (FE n F us us s4 s4 B b us em G4 US w w4) := ⟨rfl, hG4.wf, hG4.hd0, HE4.out, HB4.out⟩
    clear hG4 hP4 hf1 hf2 hfo hUS HE3 HG
    go_wp2_with fail
    clear k0 k1 k2 k3 k4 k5 k6 kl R4
    go_loopg [6, 22] us.length (fun gg _ s22 wr => ∃ (j : Nat) (s1 : V.En) (G1 : EG), j ≤ us.length ∧ us.length - j ≤ gg ∧ s22 = .int .i64 j ∧ Aside (FE n F us (us.drop j) s4 s1 B b us em G1 US w wr))
    case atStart => exact ⟨0, s4, G4, Nat.zero_le _, by omega, rfl, HFE.out⟩
    case round =>
      obtain ⟨j, s1, G1, hj, hgg2, rfl, hv⟩ := hrel
      have HV1 : Hid (FE n F us (us.drop j) s4 s1 B b us em G1 US w wr) := hv
      clear hv HFE
      by_cases hlt2 : j < us.length
      · have hltz2 : (j : Int) < (us.length : Int) := by omega
        obtain ⟨gu, cu', hUS2, _, _, hgul, hcu, hcellu, _⟩ := HV1.out.eng.us.at_ hlt2
        rw [HUS.out ()] at hUS2
        obtain ⟨x, hx⟩ : ∃ x, us.getD j 0 = x := ⟨_, rfl⟩
        have hcell : wr.cell? ⟨gu, j, none⟩ = some (.int .i64 x) := hcellu j _ (by rw [← hx]; simp [ints, List.getElem?_map, List.getElem?_eq_getElem hlt2, List.getD_eq_getElem?_getD])
        injection hUS2 with hA _ hC
        have hxl : V.lit n x := HULS.out x (by rw [← hx, List.getD_eq_getElem?_getD, List.getElem?_eq_getElem hlt2]; exact List.getElem_mem _)
        have hv : FE n F us (x :: us.drop (j + 1)) s4 s1 B b us em G1 US w wr := by
          have := HV1.out; rw [units_drop hlt2, hx] at this; exact this
        have HVV := Lib.hid hv
        have HXL := Lib.hid hxl
        have HST := Lib.hid (pSet_any B b n s1 (fun _ => False) us em G1 US x wr hv.eng (by omega) hxl hv.wf.tk (by have := hv.wf.tk.le; omega))
        subst hA
        clear hx hxl hv hcellu HV1 hC
        go_wp2_with fail
        refine HST.out.mono ?_
        rintro e w5 ⟨G5, rfl, hE5, hK5⟩
        have HN := Lib.hid (HVV.out.next HXL.out hE5 (hK5.below.mono hBw))
        clear hE5 hK5 HST
        go_wp2
        go_roundg (us.length - (j + 1))
        case measure => omega
        case rel => exact ⟨j + 1, _, _, by omega, by omega, by go_num, HN.out⟩
      · have hltz2 : ¬ (j : Int) < (us.length : Int) := by omega
        have hs1 : V.setEach us s4 = s1 := by rw [HV1.out.run, List.drop_eq_nil_of_le (by omega)]; rfl
        rw [hs1] at HP4 HEQ
        have hI : V.Inv2 s1 s1.hd := by rw [HV1.out.hd]; exact V.Inv2.zero _
        have HPR := pProp_any B b n F s1 us em G1 US wr HV1.out.eng HV1.out.wf hI (by omega) (by omega)
        clear hs1 hI
        revert HPR HP4 HEQ
        generalize V.propF (n + 2) s1 = p
        intro HEQ HP4 HPR
        obtain ⟨p1, p2⟩ := p
        have HPR := Lib.hid HPR
        dsimp only at HP4 HEQ
        go_wp2_with fail
        refine HPR.out.mono ?_
        rintro e w6 ⟨rfl, G6, hE6, hK6⟩
        have HE6 := Lib.hid hE6
        have hbw6 : Below w.heap.size w w6 := HV1.out.bel.trans (hK6.below.mono hBw)
        have HB6 := Lib.hid hbw6
        clear hE6 hK6 hbw6 HPR HV1
        go_upto_region 13 with fail
        have HPA : Hid (PrAt ((World.alloc w6 (.cells #[.pointer (some ⟨b, 0, none⟩), .slice none 0 0] 49))) B w6.heap.size b p1 us em { G6 with O := newO G6.O w6.heap.size .decs } US [] (.slice none 0 0) []) := ⟨(HE6.out.reNew .decs).alloc _, Row.new w6 _ [.pointer (some ⟨b, 0, none⟩), .slice none 0 0], by have h1 := HE6.out.row.lt; have h2 := HE6.out.hb; omega, by show newO _ _ _ _ = _; unfold newO; rw [if_neg (Nat.lt_irrefl _)], Hd.nil, by simp [Value.ownBlock], rfl, fun k hk => absurd hk (Nat.not_lt_zero _)⟩
        have HB7 : Hid (Below w.heap.size w ((World.alloc w6 (.cells #[.pointer (some ⟨b, 0, none⟩), .slice none 0 0] 49)))) := HB6.out.alloc HB6.out.size _
        revert HPA HB7
        generalize (World.alloc w6 (.cells #[.pointer (some ⟨b, 0, none⟩), .slice none 0 0] 49)) = w7
        generalize w6.heap.size = bp
        intro HPA HB7
        have hp2 : ([] : List (List Int)).length + 2 ^ (n + 2 + 1) ≤ V.maxC := by
          have : 2 ^ (n + 2 + 1) ≤ 2 ^ 15 := Nat.pow_le_pow_right (by decide) (by omega)
          unfold V.maxC
          simp only [List.length_nil]
          omega
        have HSR := pSearch_any B bp b n F us em US (by omega) (by omega) HULS.out (n + 2) p1 [] [] _ (.slice none 0 0) [] none 0 0 w7 HPA.out HP4.out (by simp) (by omega) hp2 Hd.nil (by omega)
        clear hp2
        obtain ⟨q, hq⟩ : ∃ q, V.searchP n (n + 2) p1 [] [] = q := ⟨_, rfl⟩
        have hRq := HEQ.out q hq
        rw [HR.out ()] at hRq
        rw [hq] at HSR
        clear hq HEQ HPA HP4
        obtain ⟨q1, q2, k⟩ := q
        dsimp only at HSR hRq
        have HSR := Lib.hid HSR
        go_wp2_with fail
        refine HSR.out.mono ?_
        rintro e w8 ⟨rfl, G8, PV8, hs8, hP8, hK8⟩
        have HP8 := Lib.hid hP8
        have HB8 : Hid (Below w.heap.size w w8) := HB7.out.trans (hK8.below.mono hBw)
        clear hP8 hK8 HSR
        by_cases hk1 : k = 1
        · subst hk1
          rw [if_pos rfl] at hRq
          subst hRq
          go_wp2
          refine bodyPost_ret (v := .tuple #[.slice none 0 0, .int .i64 13]) (by simp [results, Try.results6, go_sem]) rfl ?_
          exact ⟨_, _, _, [], rfl, no_fat _ _, HB8.out⟩
        · have hk1b : ((k : Int) == 1) = false := by simp; omega
          have hk1d : decide ((k : Int) = 1) = false := by simp; omega
          rw [if_neg hk1] at hRq
          by_cases hk2 : k = 2
          · subst hk2
            rw [if_pos rfl] at hRq
            subst hRq
            clear hk1
            go_wp2
            refine bodyPost_ret (v := .tuple #[.slice none 0 0, .int .i64 14]) (by simp [results, Try.results6, go_sem]) rfl ?_
            exact ⟨_, _, _, [], rfl, no_fat _ _, HB8.out⟩
          · have hk2b : ((k : Int) == 2) = false := by simp; omega
            have hk2d : decide ((k : Int) = 2) = false := by simp; omega
            rw [if_neg hk2] at hRq
            subst hRq
            have RP : Hid (Row w8 bp 49 [.pointer (some ⟨b, 0, none⟩), PV8]) := HP8.out.row
            have k0 := RP.out.cell 0
            have k1 := RP.out.cell 1
            have kl := RP.out.lt
            simp only [List.getElem?_cons_zero, List.getElem?_cons_succ] at k0 k1
            obtain ⟨PA, pn, pc, ps, hPV, hF8⟩ := HP8.out.fat f.vars
            have HF8 := Lib.hid hF8
            rw [hPV] at k1
            clear hPV hF8 hk1 hk2
            go_wp2
            refine bodyPost_ret (v := .tuple #[.slice PA pn pc, .int .i64 0]) (by simp [results, Try.results6, go_sem]) rfl ?_
            exact ⟨PA, pn, pc, ps, rfl, HF8.out, HB8.out⟩
end Go.Proofs.Ytbomfekfebamkaa

/-
  The statement's same: two lists of booleans are compared.
-/
namespace Go.Proofs.Ytbomfekfebamkaa
open Go.RowKit
set_option linter.unusedSimpArgs false
set_option linter.unusedVariables false
set_option maxHeartbeats 400000 in
theorem same_bools (A A' : Option Addr) (n c c' : Nat) (xs : List Bool) (w : World) (hx : Rd w w.heap.size 1 A n (bools xs)) (hy : Rd w w.heap.size 1 A' n (bools xs)) (hn : n ≤ 1000000) :
    Calls Try.prog 8 #[.slice A n c, .slice A' n c'] w fun e w' => e = .returned (.bool true) ∧ Below w.heap.size w w' := by
  have HX : Hid (Rd w w.heap.size 1 A n (bools xs)) := hx
  have HY : Hid (Rd w w.heap.size 1 A' n (bools xs)) := hy
  clear hx hy
  go_enter Try.func8, Try.ntmps8
  go_wp2
  go_loopg [5, 13] n (fun gg _ s13 wr => ∃ kk : Nat, kk ≤ n ∧ n - kk ≤ gg ∧ s13 = .int .i64 kk ∧ Aside (Below w.heap.size w wr))
  case atStart => exact ⟨0, Nat.zero_le _, by omega, rfl, Below.refl _ _⟩
  case round =>
    obtain ⟨kk, hkk, hg, rfl, BW⟩ := hrel
    by_cases hlt : kk < n
    · have hltz : (kk : Int) < (n : Int) := by omega
      obtain ⟨ad, rfl, hb, hcell⟩ := (HX.out.below BW.out (Nat.le_refl _)).bool hlt
      obtain ⟨ad', rfl, hb', hcell'⟩ := (HY.out.below BW.out (Nat.le_refl _)).bool hlt
      generalize xs.getD kk false = x at hcell hcell'
      have hne : (!(x == x)) = false := by simp
      go_wp2_with fail
      go_quiet (fail)
      go_wp2
      go_roundg (n - (kk + 1))
      case measure => omega
      case rel => exact ⟨kk + 1, by omega, by omega, by go_num, (show Below _ _ _ from below_drewN BW.out _)⟩
    · have hltz : ¬ (kk : Int) < (n : Int) := by omega
      go_wp2
      go_ret
      exact ⟨rfl, BW.out⟩
end Go.Proofs.Ytbomfekfebamkaa
