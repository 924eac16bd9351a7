/-
  The law TopSolver, walked.
-/
import Derived.Test.YtbomfekfebamkaaVC16
import Derived.Test.YtbomfekfebamkaaVC2
import Derived.Test.YtbomfekfebamkaaRows
import Derived.ProofKit
namespace Go.Proofs.Ytbomfekfebamkaa
open Go.RowKit Go.Maps
set_option linter.unusedSimpArgs false
set_option linter.unusedVariables false
theorem nrm12 : nrmI [1, 2] = [1, 2] := by
  unfold nrmI
  rw [List.mergeSort_of_pairwise (by simp)]
  decide
theorem nrmm12 : nrmI [-1, 2] = [-1, 2] := by
  unfold nrmI
  rw [List.mergeSort_of_pairwise (by simp)]
  decide
def awF : Fml := ⟨2, [[1, 2], [-1, 2]]⟩
theorem first_awake : ∃ s, V.firstE 2 (awF.cls.map nrmI) = some s ∧ valsB s.va 2 = [false, true] := by
  have e : awF.cls.map nrmI = [[1, 2], [-1, 2]] := by
    show [nrmI [1, 2], nrmI [-1, 2]] = _
    rw [nrm12, nrmm12]
  rw [e]
  refine ⟨_, rfl, ?_⟩
  rfl
theorem row_rd {w : World} {g n : Nat} {T : TypeId} {xs : List Value} (h : Row w g T xs) (hl : xs.length = n) : Rd w w.heap.size 1 (some ⟨g, 0, none⟩) n xs :=
  ⟨by rw [hl]; simp, fun _ => ⟨_, rfl, h.lt, fun j u hu => by rw [add_zero_off]; exact (h.cell j).trans hu⟩⟩
set_option maxRecDepth 100000 in
set_option maxHeartbeats 2000000 in
theorem awakeS_any (w : World) : Calls Try.prog 4 #[] w fun e w' => e = .returned (.bool true) ∧ Below w.heap.size w w' := by
  go_enter Try.func4, Try.ntmps4
  go_upto_region 2 with fail
  have HB4 : Hid (Below w.heap.size w ((World.alloc (World.alloc (World.alloc (World.alloc w (.cells #[.int .i64 1, .int .i64 2] 3)) (.cells #[.int .i64 (-1), .int .i64 2] 3)) (.cells #[.slice (some ⟨w.heap.size, 0, none⟩) 2 2, .slice (some ⟨w.heap.size + 1, 0, none⟩) 2 2] 26)) (.cells #[.int .i64 2, .slice (some ⟨w.heap.size + 1 + 1, 0, none⟩) 2 2] 24)))) := (show Below _ _ _ by go_grown)
  have R1 : Hid (Row ((World.alloc (World.alloc (World.alloc (World.alloc w (.cells #[.int .i64 1, .int .i64 2] 3)) (.cells #[.int .i64 (-1), .int .i64 2] 3)) (.cells #[.slice (some ⟨w.heap.size, 0, none⟩) 2 2, .slice (some ⟨w.heap.size + 1, 0, none⟩) 2 2] 26)) (.cells #[.int .i64 2, .slice (some ⟨w.heap.size + 1 + 1, 0, none⟩) 2 2] 24))) w.heap.size 3 [.int .i64 1, .int .i64 2]) := (((Row.new w 3 [.int .i64 1, .int .i64 2]).alloc _).alloc _).alloc _
  have R2 : Hid (Row ((World.alloc (World.alloc (World.alloc (World.alloc w (.cells #[.int .i64 1, .int .i64 2] 3)) (.cells #[.int .i64 (-1), .int .i64 2] 3)) (.cells #[.slice (some ⟨w.heap.size, 0, none⟩) 2 2, .slice (some ⟨w.heap.size + 1, 0, none⟩) 2 2] 26)) (.cells #[.int .i64 2, .slice (some ⟨w.heap.size + 1 + 1, 0, none⟩) 2 2] 24))) (w.heap.size + 1) 3 [.int .i64 (-1), .int .i64 2]) := ((rowNew1 w _ 3 [.int .i64 (-1), .int .i64 2]).alloc _).alloc _
  have R3 : Hid (Row ((World.alloc (World.alloc (World.alloc (World.alloc w (.cells #[.int .i64 1, .int .i64 2] 3)) (.cells #[.int .i64 (-1), .int .i64 2] 3)) (.cells #[.slice (some ⟨w.heap.size, 0, none⟩) 2 2, .slice (some ⟨w.heap.size + 1, 0, none⟩) 2 2] 26)) (.cells #[.int .i64 2, .slice (some ⟨w.heap.size + 1 + 1, 0, none⟩) 2 2] 24))) (w.heap.size + 1 + 1) 26 [.slice (some ⟨w.heap.size, 0, none⟩) 2 2, .slice (some ⟨w.heap.size + 1, 0, none⟩) 2 2]) := (show Row ((World.alloc (World.alloc (World.alloc w (.cells #[.int .i64 1, .int .i64 2] 3)) (.cells #[.int .i64 (-1), .int .i64 2] 3)) (.cells #[.slice (some ⟨w.heap.size, 0, none⟩) 2 2, .slice (some ⟨w.heap.size + 1, 0, none⟩) 2 2] 26))) (w.heap.size + 1 + 1) 26 [.slice (some ⟨w.heap.size, 0, none⟩) 2 2, .slice (some ⟨w.heap.size + 1, 0, none⟩) 2 2] from by (have h0 := Row.new (World.alloc (World.alloc w (.cells #[.int .i64 1, .int .i64 2] 3)) (.cells #[.int .i64 (-1), .int .i64 2] 3)) 26 [.slice (some ⟨w.heap.size, 0, none⟩) 2 2, .slice (some ⟨w.heap.size + 1, 0, none⟩) 2 2]; simp only [World.size_alloc] at h0; exact h0)).alloc _
  have R4 : Hid (Row ((World.alloc (World.alloc (World.alloc (World.alloc w (.cells #[.int .i64 1, .int .i64 2] 3)) (.cells #[.int .i64 (-1), .int .i64 2] 3)) (.cells #[.slice (some ⟨w.heap.size, 0, none⟩) 2 2, .slice (some ⟨w.heap.size + 1, 0, none⟩) 2 2] 26)) (.cells #[.int .i64 2, .slice (some ⟨w.heap.size + 1 + 1, 0, none⟩) 2 2] 24))) (w.heap.size + 1 + 1 + 1) 24 [.int .i64 2, .slice (some ⟨w.heap.size + 1 + 1, 0, none⟩) 2 2]) := by (have h0 := Row.new (World.alloc (World.alloc (World.alloc w (.cells #[.int .i64 1, .int .i64 2] 3)) (.cells #[.int .i64 (-1), .int .i64 2] 3)) (.cells #[.slice (some ⟨w.heap.size, 0, none⟩) 2 2, .slice (some ⟨w.heap.size + 1, 0, none⟩) 2 2] 26)) 24 [.int .i64 2, .slice (some ⟨w.heap.size + 1 + 1, 0, none⟩) 2 2]; simp only [World.size_alloc] at h0; exact h0)
  revert HB4 R1 R2 R3 R4
  generalize (World.alloc (World.alloc (World.alloc (World.alloc w (.cells #[.int .i64 1, .int .i64 2] 3)) (.cells #[.int .i64 (-1), .int .i64 2] 3)) (.cells #[.slice (some ⟨w.heap.size, 0, none⟩) 2 2, .slice (some ⟨w.heap.size + 1, 0, none⟩) 2 2] 26)) (.cells #[.int .i64 2, .slice (some ⟨w.heap.size + 1 + 1, 0, none⟩) 2 2] 24)) = w4
  intro HB4 R1 R2 R3 R4
  have HF : Hid (FAt w4 awF (some ⟨w.heap.size + 1 + 1, 0, none⟩) 2 [⟨some ⟨w.heap.size, 0, none⟩, 2, 2⟩, ⟨some ⟨w.heap.size + 1, 0, none⟩, 2, 2⟩]) :=
    ⟨row_rd R3.out rfl, rfl, fun i hi => by
      have hi2 : i < 2 := hi
      rcases (show i = 0 ∨ i = 1 by omega) with rfl | rfl
      · exact ⟨row_rd R1.out rfl, by show 2 ≤ _; unfold maxLen; omega⟩
      · exact ⟨row_rd R2.out rfl, by show 2 ≤ _; unfold maxLen; omega⟩, by unfold maxLen; omega⟩
  have k0 := R4.out.cell 0
  have k1 := R4.out.cell 1
  have kl := R4.out.lt
  simp only [List.getElem?_cons_zero, List.getElem?_cons_succ] at k0 k1
  have HC := sFirstF_any awF 2 (some ⟨w.heap.size + 1 + 1, 0, none⟩) 2 2 _ w4 HF.out (.inl rfl) (by intro c hc; simp [awF] at hc; rcases hc with rfl | rfl <;> simp)
  obtain ⟨s0, hs0, hs1⟩ := first_awake
  rw [hs0] at HC
  have hrf : rightF awF = true := by decide
  rw [hrf] at HC
  have HS1 : Hid (∀ _ : Unit, valsB s0.va 2 = [false, true]) := fun _ => hs1
  have HC2 : Hid (Calls Try.prog 5 #[.agg #[.int .i64 2, .slice (some ⟨w.heap.size + 1 + 1, 0, none⟩) 2 2]] w4 fun e w' => ∃ g, e = .returned (.tuple #[.slice (some ⟨g, 0, none⟩) 2 2, .bool true, .int .i64 0]) ∧ Row w' g 4 (bools [false, true]) ∧ Below w4.heap.size w4 w') := by
    refine Calls.mono HC ?_
    rintro e w' ⟨hb, ⟨h, _⟩ | ⟨_, ⟨h, _⟩ | ⟨s, g, h, hg, he, hr⟩⟩⟩
    · cases h
    · cases h
    · cases h
      rw [hs1] at hr
      exact ⟨g, he, hr, hb⟩
  clear HC hs0 hs1 hrf HF R1 R2 R3
  go_wp2_with fail
  refine HC2.out.mono ?_
  rintro e w5 ⟨g, rfl, hr5, hb5⟩
  have HB5 : Hid (Below w.heap.size w w5) := HB4.out.trans (hb5.mono HB4.out.size)
  have HR5 := Lib.hid hr5
  clear hb5 hr5 HC2 k0 k1 kl R4 HB4
  have HSA := Lib.hid (same_bools (some ⟨g, 0, none⟩) (some ⟨w5.heap.size, 0, none⟩) 2 2 2 [false, true] (w5.alloc (.cells #[.bool false, .bool true] 4)) (row_rd (HR5.out.alloc _) rfl) (row_rd (Row.new w5 4 [.bool false, .bool true]) rfl) (by omega))
  go_wp2_with fail
  refine HSA.out.mono ?_
  rintro e w6 ⟨rfl, hb6⟩
  have HB6 : Hid (Below w.heap.size w w6) := (HB5.out.alloc HB5.out.size _).trans (hb6.mono (by have := HB5.out.size; simp; omega))
  clear hb6
  go_wp2
  go_ret
  exact ⟨rfl, HB6.out⟩
set_option maxRecDepth 100000 in
set_option maxHeartbeats 4000000 in
theorem topSolver_walk (f : Fml) (A : Option Addr) (m c : Nat) (sl : List Sl) (w : World) (h : FAt w f A m sl) :
    Calls Try.prog 3 #[.agg #[.int .i64 f.vars, .slice A m c]] w fun e w' => e = .returned (.bool true) ∧ Below w.heap.size w w' := by
  have H := Lib.hid h
  have HWL := Lib.hid h.wl
  have hmx : m ≤ maxLen := h.n63
  unfold maxLen at hmx
  clear h
  go_enter Try.func3, Try.ntmps3
  go_upto_region 1 with fail
  have HB1 : Hid (Below w.heap.size w ((World.alloc w (.cells #[.int .i64 f.vars, .slice A m c] 24)))) := (show Below _ _ _ by go_grown)
  have RF : Hid (Row ((World.alloc w (.cells #[.int .i64 f.vars, .slice A m c] 24))) w.heap.size 24 [.int .i64 f.vars, .slice A m c]) := Row.new w _ [.int .i64 f.vars, .slice A m c]
  revert HB1 RF
  generalize (World.alloc w (.cells #[.int .i64 f.vars, .slice A m c] 24)) = w1
  intro HB1 RF
  have k0 := RF.out.cell 0
  have k1 := RF.out.cell 1
  have kl := RF.out.lt
  simp only [List.getElem?_cons_zero, List.getElem?_cons_succ] at k0 k1
  by_cases hv12 : 12 < f.vars
  · have hd : decide (12 < f.vars) = true := decide_eq_true hv12
    go_wp2_with fail
    refine (awakeS_any _).mono ?_
    rintro e w9 ⟨rfl, hb9⟩
    go_wp2
    go_ret
    exact ⟨rfl, HB1.out.trans (hb9.mono HB1.out.size)⟩
  have hd : decide (12 < f.vars) = false := decide_eq_false hv12
  by_cases hm40 : 40 < m
  · have hmz : (40 : Int) < (m : Int) := by omega
    have hmd : decide ((40 : Int) < (m : Int)) = true := decide_eq_true hmz
    go_wp2_with fail
    refine (awakeS_any _).mono ?_
    rintro e w9 ⟨rfl, hb9⟩
    go_wp2
    go_ret
    exact ⟨rfl, HB1.out.trans (hb9.mono HB1.out.size)⟩
  have hmz : ¬ (40 : Int) < (m : Int) := by omega
  have hmd : decide ((40 : Int) < (m : Int)) = false := decide_eq_false hmz
  go_wp2_with fail
  clear k0 k1 kl hmz hmd hd
  go_loopg [3, 24] m (fun gg _ s24 wr => ∃ i : Nat, i ≤ m ∧ m - i ≤ gg ∧ s24 = .int .i64 (i : Int) ∧ w1 = wr ∧ Aside (∀ j, j < i → (f.cls.getD j []).length ≤ 12))
  case atStart => exact ⟨0, Nat.zero_le _, by omega, rfl, rfl, fun j hj => absurd hj (Nat.not_lt_zero _)⟩
  case round =>
    obtain ⟨i, hi, hgg, rfl, rfl, hbef⟩ := hrel
    have HBEF := Lib.hid (show ∀ j, j < i → (f.cls.getD j []).length ≤ 12 from hbef)
    clear hbef
    have k0 := RF.out.cell 0
    have k1 := RF.out.cell 1
    have kl := RF.out.lt
    simp only [List.getElem?_cons_zero, List.getElem?_cons_succ] at k0 k1
    by_cases hlt : i < m
    · have hltz : (i : Int) < (m : Int) := by omega
      obtain ⟨ad, rfl, hbl, hc, hrd, hlm, hle⟩ := (H.out.up HB1.out).row hlt
      generalize hsx : sl.getD i default = sx at hc hrd hlm hle
      obtain ⟨sa, sn, sc⟩ := sx
      dsimp only at hc hlm hle
      have HLE := Lib.hid (show (f.cls.getD i []).length = sn from hle)
      clear hrd hle hsx hlm
      by_cases h12 : 12 < sn
      · have h12z : (12 : Int) < (sn : Int) := by omega
        have h12d : decide ((12 : Int) < (sn : Int)) = true := decide_eq_true h12z
        go_wp2_with fail
        refine (awakeS_any _).mono ?_
        rintro e w9 ⟨rfl, hb9⟩
        go_wp2
        go_ret
        exact ⟨rfl, HB1.out.trans (hb9.mono HB1.out.size)⟩
      · have h12z : ¬ (12 : Int) < (sn : Int) := by omega
        have h12d : decide ((12 : Int) < (sn : Int)) = false := decide_eq_false h12z
        go_wp2_with fail
        go_roundg (m - (i + 1))
        case measure => omega
        case rel =>
          refine ⟨i + 1, by omega, by omega, by go_num, rfl, fun j hj => ?_⟩
          by_cases e : j = i
          · subst e; rw [HLE.out]; omega
          · exact HBEF.out j (by omega)
    · have hltz : ¬ (i : Int) < (m : Int) := by omega
      have him : m = i := by omega
      subst him
      have hlen : ∀ c ∈ f.cls, c.length ≤ 12 := fun c hc => by
        obtain ⟨j, hj, e⟩ := List.getElem_of_mem hc
        have := HBEF.out j (by have := HWL.out; omega)
        rw [List.getD_eq_getElem?_getD, List.getElem?_eq_getElem hj] at this
        rw [← e]; exact this
      have HLEN := Lib.hid hlen
      clear HBEF hlen
      cases hr : rightF f with
      | false =>
        have HFI0 := sFirstF_any f 0 A m c sl w1 (H.out.up HB1.out) (.inr hr) (fun c hc => by have := HLEN.out c hc; omega)
        have HFI : Hid (Calls Try.prog 5 #[.agg #[.int .i64 f.vars, .slice A m c]] w1 fun e w' => e = .returned (.tuple #[.slice none 0 0, .bool false, .int .i64 2]) ∧ Below w1.heap.size w1 w') := by
          refine Calls.mono HFI0 ?_
          rintro e w' ⟨hb, ⟨_, he⟩ | ⟨h, _⟩⟩
          · exact ⟨he, hb⟩
          · rw [hr] at h; cases h
        have HRB : Hid (rightF f = false) := hr
        clear hr HFI0
        go_wp2_with fail
        refine HFI.out.mono ?_
        rintro e w2 ⟨rfl, hb2⟩
        have HB2 : Hid (Below w.heap.size w w2) := HB1.out.trans (hb2.mono HB1.out.size)
        have RF2 : Hid (Row w2 w.heap.size 24 [.int .i64 f.vars, .slice A m c]) := rowCells RF.out hb2
        clear hb2 k0 k1 kl RF HB1 HFI
        have k0 := RF2.out.cell 0
        have k1 := RF2.out.cell 1
        have kl := RF2.out.lt
        simp only [List.getElem?_cons_zero, List.getElem?_cons_succ] at k0 k1
        have HPB := Lib.hid (pProveBad_any f A m c sl w2 (H.out.up HB2.out) HRB.out)
        go_wp2_with fail
        refine HPB.out.mono ?_
        rintro e w3 ⟨rfl, hb3⟩
        have HB3 : Hid (Below w.heap.size w w3) := HB2.out.trans (hb3.mono HB2.out.size)
        clear hb3 k0 k1 kl HPB
        go_wp2_with fail
        refine (awakeS_any _).mono ?_
        rintro e w9 ⟨rfl, hb9⟩
        go_wp2
        go_ret
        exact ⟨rfl, HB3.out.trans (hb9.mono HB3.out.size)⟩
      | true =>
        have hr2 := hr
        unfold rightF sizesF at hr2
        simp only [Bool.and_eq_true, decide_eq_true_eq, List.all_eq_true] at hr2
        obtain ⟨⟨hv0, hv1, _⟩, hlits⟩ := hr2
        obtain ⟨n, hn⟩ : ∃ n : Nat, f.vars = (n : Int) := ⟨f.vars.toNat, by omega⟩
        have hn12 : n ≤ 12 := by omega
        have HN : Hid (∀ _ : Unit, f.vars = (n : Int)) := fun _ => hn
        have hlit : ∀ c ∈ f.cls, c.length ≤ 1000000 ∧ ∀ x ∈ c, V.lit n x := fun c hc => ⟨by have := HLEN.out c hc; omega, fun x hx => by
          have := hlits c hc x hx
          unfold litOk at this
          simp only [decide_eq_true_eq] at this
          exact ⟨this.1, by omega, by omega⟩⟩
        have HLT := Lib.hid hlit
        have hNok : ∀ c ∈ f.cls.map nrmI, V.litsOk n c := fun c hc => by
          obtain ⟨c', h1, rfl⟩ := List.mem_map.1 hc
          exact nrm_ok (hlit c' h1).2
        have hlaw := V.prove_law (n := n) (nrm := nrmI) nrm_mem nrm_nodup (f.cls.map nrmI) hNok hn12
        have HRT : Hid (rightF f = true) := hr
        have HFI0 := sFirstF_any f n A m c sl w1 (H.out.up HB1.out) (.inl hn) (fun c hc => by have := HLEN.out c hc; omega)
        clear hv0 hv1 hlits hlit hNok hr hn
        cases hfe : V.firstE n (f.cls.map nrmI) with
        | some s =>
          rw [hfe] at hlaw
          have HLAW : Hid (∀ _ : Unit, V.proveR n (f.cls.map nrmI) = ([], 13)) := fun _ => hlaw
          have HFI : Hid (Calls Try.prog 5 #[.agg #[.int .i64 f.vars, .slice A m c]] w1 fun e w' => (∃ g, e = .returned (.tuple #[.slice (some ⟨g, 0, none⟩) n n, .bool true, .int .i64 0])) ∧ Below w1.heap.size w1 w') := by
            refine Calls.mono HFI0 ?_
            rintro e w' ⟨hb, ⟨h, _⟩ | ⟨_, ⟨h, _⟩ | ⟨s, g, h, hg, he, hr⟩⟩⟩
            · rw [HRT.out] at h; cases h
            · rw [hfe] at h; cases h
            · exact ⟨⟨g, he⟩, hb⟩
          clear hfe hlaw HFI0
          go_wp2_with fail
          refine HFI.out.mono ?_
          rintro e w2 ⟨⟨g, rfl⟩, hb2⟩
          have HB2 : Hid (Below w.heap.size w w2) := HB1.out.trans (hb2.mono HB1.out.size)
          have RF2 : Hid (Row w2 w.heap.size 24 [.int .i64 f.vars, .slice A m c]) := rowCells RF.out hb2
          clear hb2 k0 k1 kl RF HB1 HFI
          have k0 := RF2.out.cell 0
          have k1 := RF2.out.cell 1
          have kl := RF2.out.lt
          simp only [List.getElem?_cons_zero, List.getElem?_cons_succ] at k0 k1
          have HPB := pProve_any f n A m c sl w2 (H.out.up HB2.out) HRT.out (HN.out ()) hn12 (by omega) HLT.out
          rw [HLAW.out ()] at HPB
          have HPB := Lib.hid HPB
          go_wp2_with fail
          refine HPB.out.mono ?_
          rintro e w3 ⟨PA, pn, pc, ps, rfl, hF3, hb3⟩
          have hpn : pn = 0 := by have := hF3.wl; simpa using this.symm
          subst hpn
          have HB3 : Hid (Below w.heap.size w w3) := HB2.out.trans (hb3.mono HB2.out.size)
          clear hb3 k0 k1 kl HPB hF3
          go_wp2_with fail
          refine (awakeS_any _).mono ?_
          rintro e w9 ⟨rfl, hb9⟩
          go_wp2
          go_ret
          exact ⟨rfl, HB3.out.trans (hb9.mono HB3.out.size)⟩
        | none =>
          rw [hfe] at hlaw
          obtain ⟨pf, hpe, hck, hla, hpl, hpn, hpc⟩ := hlaw
          have HLAW : Hid (∀ _ : Unit, V.proveR n (f.cls.map nrmI) = (pf, 0)) := fun _ => hpe
          have HCK := Lib.hid hck
          have HLA := Lib.hid hla
          have HPL : Hid (∀ c ∈ pf, c.length ≤ 1000000 ∧ ∀ x ∈ c, V.lit n x) := fun c hc => ⟨by have := hpc c hc; omega, hpl c hc⟩
          have HPN := Lib.hid hpn
          have HRP : Hid (rightF ⟨f.vars, pf⟩ = true) := by
            show _ = _
            unfold rightF sizesF
            simp only [Bool.and_eq_true, decide_eq_true_eq, List.all_eq_true]
            have := HN.out ()
            refine ⟨⟨by omega, by omega, by omega⟩, fun c hc x hx => ?_⟩
            obtain ⟨h1, h2, h3⟩ := hpl c hc x hx
            unfold litOk
            exact decide_eq_true ⟨h1, by omega, by omega⟩
          have HFI : Hid (Calls Try.prog 5 #[.agg #[.int .i64 f.vars, .slice A m c]] w1 fun e w' => e = .returned (.tuple #[.slice none 0 0, .bool false, .int .i64 0]) ∧ Below w1.heap.size w1 w') := by
            refine Calls.mono HFI0 ?_
            rintro e w' ⟨hb, ⟨h, _⟩ | ⟨_, ⟨_, he⟩ | ⟨s, g, h, hg, he, hr⟩⟩⟩
            · rw [HRT.out] at h; cases h
            · exact ⟨he, hb⟩
            · rw [hfe] at h; cases h
          clear hfe hpe hck hla hpl hpc hpn HFI0
          go_wp2_with fail
          refine HFI.out.mono ?_
          rintro e w2 ⟨rfl, hb2⟩
          have HB2 : Hid (Below w.heap.size w w2) := HB1.out.trans (hb2.mono HB1.out.size)
          have RF2 : Hid (Row w2 w.heap.size 24 [.int .i64 f.vars, .slice A m c]) := rowCells RF.out hb2
          clear hb2 k0 k1 kl RF HB1 HFI
          have k0 := RF2.out.cell 0
          have k1 := RF2.out.cell 1
          have kl := RF2.out.lt
          simp only [List.getElem?_cons_zero, List.getElem?_cons_succ] at k0 k1
          have HPB := pProve_any f n A m c sl w2 (H.out.up HB2.out) HRT.out (HN.out ()) hn12 (by omega) HLT.out
          rw [HLAW.out ()] at HPB
          have HPB := Lib.hid HPB
          go_wp2_with fail
          refine HPB.out.mono ?_
          rintro e w3 ⟨PA, pn, pc, ps, rfl, hF3, hb3⟩
          have hpw : pn ≤ 32768 := by have h1 : pf.length = pn := hF3.wl; have := HPN.out; omega
          have HF3 := Lib.hid hF3
          have HB3 : Hid (Below w.heap.size w w3) := HB2.out.trans (hb3.mono HB2.out.size)
          have RF3 : Hid (Row w3 w.heap.size 24 [.int .i64 f.vars, .slice A m c]) := rowCells RF2.out hb3
          clear hb3 k0 k1 kl HPB hF3 RF2
          have k0 := RF3.out.cell 0
          have k1 := RF3.out.cell 1
          have kl := RF3.out.lt
          simp only [List.getElem?_cons_zero, List.getElem?_cons_succ] at k0 k1
          have HCH := Lib.hid (pCheck_any f n pf A PA m c pn pc sl ps w3 (H.out.up HB3.out) HF3.out HRT.out HRP.out (HN.out ()) (by omega) (by omega) (by omega) HLT.out HPL.out HCK.out HLA.out)
          go_wp2_with fail
          refine HCH.out.mono ?_
          rintro e w4 ⟨rfl, hb4⟩
          have HB4 : Hid (Below w.heap.size w w4) := HB3.out.trans (hb4.mono HB3.out.size)
          clear hb4 k0 k1 kl HCH RF3
          go_wp2_with fail
          refine (awakeS_any _).mono ?_
          rintro e w9 ⟨rfl, hb9⟩
          go_wp2
          go_ret
          exact ⟨rfl, HB4.out.trans (hb9.mono HB4.out.size)⟩
end Go.Proofs.Ytbomfekfebamkaa

/-
  For every formula the law TopSolver returns true: a formula of at most 12 variables and 40 clauses has an assignment, or a refutation that is accepted, and not both; beyond these bounds a fixed formula is solved.
-/
namespace Go.Proofs.Ytbomfekfebamkaa
open Go.RowKit Go.ChangeShapes Go.WideShapes Go.ChangeAt Go.Joins
set_option linter.unusedSimpArgs false
set_option linter.unusedVariables false
theorem Try.own' : ownKnob Try.prog.godebug = none := by kernel_rfl
theorem Try.laidOut' : laidOutB Try.prog = true := by kernel_rfl

set_option maxRecDepth 100000 in
theorem topSolver_lifted (os : Os) (started : os.Started) (H : Type) (enc : TypeId × Value → H) :
    ReturnsInHanded {} Try.checked os 3 .any (Rows.topSolverSpec.pre6 enc Try.prog Try.f3 Rows.topSolverRow.domain false) (Rows.topSolverSpec.post enc Try.prog Try.f3 false true false false) := by
  refine returnsInHanded_of_change (C := Try.checked) Try.own' started (by kernel_rfl) Try.func3
    (ChangeSpec.witness6 (enc := enc) (C := Try.checked) false ⟨#[], #[.agg #[.int .i64 0, .slice none 0 0]], []⟩ 8 (by kernel_rfl) (by kernel_rfl) (by kernel_rfl) (by kernel_rfl)) ?_
  intro W base args ds gs before hval0 hW hcnd _
  have hval : ∀ (j : Nat) t v, Try.f3.params[j]? = some t → args[j]? = some v → Value.okWide Try.prog W .any base t v := hval0
  have hW' := hW
  obtain ⟨p, q, hA0, hV, rfl, hfz, hnd⟩ := hW
  have hA : DataW.TrodAll enc Try.prog W 0 (fun _ => true) true Try.f3.params.toList args.toList ds p := hA0
  rw [Try.params3] at hA hval
  obtain ⟨v0, d0, rfl, rfl, h0⟩ := trodAll_one hA
  obtain ⟨rfl, rfl⟩ := trodVars_none hV
  have h0k := h0
  have hlt0 : ∀ x ∈ p, x.block < W.heap.size := fun x hx => hW'.lt x (by simp [hx])
  obtain ⟨f0, A0, n0, ac0, sl0, rfl, hm0⟩ := open_formula (hval 0 24 v0 rfl rfl) h0
  clear hA0 hval0
  refine (topSolver_walk f0 A0 n0 ac0 sl0 W hm0).mono fun e W' ⟨he, hb⟩ => ?_
  subst he
  exact ⟨_, rfl, law_post (pa := p) (pv := []) hW' (fun _ _ _ => trodAll_mk1 (shut_bool Try.underlying4 true)) (trodAll_mk1 (Below.trod Try.laidOut' (by kernel_rfl) (of_decide_eq_true (by kernel_rfl)) h0k hb hlt0)) rfl hb⟩

theorem topSolver_holds : Rows.TopSolverSaid :=
  OpenClaim.holds_of_wide 3 Try.f3 rfl rfl rfl rfl rfl rfl rfl ⟨rfl, rfl, rfl, rfl, rfl⟩ rfl rfl rfl rfl rfl (by kernel_rfl) Try.func3 (by kernel_rfl)
    (of_decide_eq_true (by kernel_rfl)) (by unfold Func.isWrapper; first | (rw [if_pos (by decide +kernel)]; kernel_rfl) | (rw [if_neg (by decide +kernel)]; exact ⟨rfl, rfl⟩))
    (fun os started H enc _ => topSolver_lifted os started H enc)


end Go.Proofs.Ytbomfekfebamkaa
