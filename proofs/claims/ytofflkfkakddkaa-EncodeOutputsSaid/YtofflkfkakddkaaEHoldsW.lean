/-
  holds, walked.
-/
import Derived.Test.YtofflkfkakddkaaEMem
import Derived.Test.YtofflkfkakddkaaEHolds
import Derived.Test.YtofflkfkakddkaaEEqual
import Derived.Lib.MinMax
namespace Go.Proofs.Ytofflkfkakddkaa
open Go.RowKit
set_option linter.unusedSimpArgs false
set_option linter.unusedVariables false
theorem any_take_snoc {α : Type} [Inhabited α] (p : α → Bool) (l : List α) (d : α) (k : Nat) (h : k < l.length) : (l.take (k + 1)).any p = ((l.take k).any p || p (l.getD k d)) := by
  rw [List.take_succ_eq_append_getElem h, List.any_append, List.getD_eq_getElem?_getD, List.getElem?_eq_getElem h]; simp
theorem lit_at {V : Int} {l : List Int} (h : l.all (litOk V) = true) {k : Nat} (hk : k < l.length) : l.getD k 0 ≠ 0 ∧ -V ≤ l.getD k 0 ∧ l.getD k 0 ≤ V := by
  rw [List.all_eq_true] at h
  have := h _ (List.getElem_mem hk)
  rw [List.getD_eq_getElem?_getD, List.getElem?_eq_getElem hk]
  simpa [litOk] using this
theorem row_right {f : Fml} (h : rightF f = true) {k : Nat} (hk : k < f.cls.length) : (f.cls.getD k []).all (litOk f.vars) = true := by
  unfold rightF at h
  rw [Bool.and_eq_true] at h
  have h2 := h.2
  rw [List.all_eq_true] at h2
  have := h2 _ (List.getElem_mem hk)
  rw [List.getD_eq_getElem?_getD, List.getElem?_eq_getElem hk]
  exact this
set_option maxRecDepth 100000 in
set_option maxHeartbeats 4000000 in
theorem holds_any (f : Fml) (bs : List Bool) (A BA : Option Addr) (n c m bc : Nat) (sl : List Sl) (w : World) (h : FAt w f A n sl) (hb : Rd w w.heap.size 1 BA m (bools bs)) (hm : m ≤ maxLen) (hr : rightF f = true) :
    Calls Try.prog 24 #[.agg #[.int .i64 f.vars, .slice A n c], .slice BA m bc] w fun e w' => e = .returned (.bool (holdsL f.cls bs)) ∧ Below w.heap.size w w' := by
  have H : Hid (FAt w f A n sl) := h
  have HB : Hid (Rd w w.heap.size 1 BA m (bools bs)) := hb
  have HLB : Hid (bs.length = m) := by have := hb.1; rw [bools_length, Nat.mul_one] at this; exact this
  have HWL : Hid (f.cls.length = n) := h.wl
  have HR : Hid (rightF f = true) := hr
  have hfv : f.vars ≤ 65536 := by
    unfold rightF sizesF at hr
    simp only [Bool.and_eq_true, decide_eq_true_eq] at hr
    exact hr.1.2.1
  have hm1 := h.n63
  unfold maxLen at hm hm1
  clear h hb hr
  go_enter Try.func24, Try.ntmps24
  go_wp2
  have RA : Hid (Row (World.alloc w (.cells #[.int .i64 f.vars, .slice A n c] 30)) w.heap.size 30 [.int .i64 f.vars, .slice A n c]) := Row.new w 30 [.int .i64 f.vars, .slice A n c]
  have HW : Hid (Below w.heap.size w (World.alloc w (.cells #[.int .i64 f.vars, .slice A n c] 30))) := (show Below _ _ _ by go_grown)
  revert RA HW
  generalize World.alloc w (.cells #[.int .i64 f.vars, .slice A n c] 30) = w1
  intro RA HW
  have k0 := RA.out.cell 0
  have k1 := RA.out.cell 1
  have kl := RA.out.lt
  simp only [List.getElem?_cons_zero, List.getElem?_cons_succ] at k0 k1
  go_loopg [5, 6, 8, 9, 13, 22] n (fun gg _ _ _ _ s13 _ wr => ∃ kk : Nat, kk ≤ n ∧ n - kk ≤ gg ∧ s13 = .int .i64 kk ∧ w1 = wr ∧ Aside (∀ j, j < kk → clB bs (f.cls.getD j []) = true))
  case atStart => exact ⟨0, Nat.zero_le _, by omega, rfl, rfl, fun j hj => absurd hj (Nat.not_lt_zero _)⟩
  case round =>
    obtain ⟨kk, hkk, hgg, rfl, rfl, AA⟩ := hrel
    by_cases hlt : kk < n
    · have hltz : (kk : Int) < (n : Int) := by omega
      obtain ⟨ad, rfl, hbl, hc, hrd, hlm, hle⟩ := (H.out.up HW.out).row hlt
      have HRW : Hid ((f.cls.getD kk []).all (litOk f.vars) = true) := row_right HR.out (by rw [HWL.out]; exact hlt)
      generalize sl.getD kk default = s at hc hrd hlm hle
      obtain ⟨sa, sn, sc⟩ := s
      dsimp only at hc hrd hlm hle
      generalize hx0 : f.cls.getD kk [] = x at hrd hle HRW
      have HX0 : Hid (f.cls.getD kk [] = x) := hx0
      have HLE : Hid (x.length = sn) := hle
      have HRD : Hid (Rd w1 w1.heap.size 1 sa sn (ints x)) := hrd
      unfold maxLen at hlm
      clear hle hrd hx0
      go_wp2
      go_loopg [6, 8, 9, 22] sn (fun gg s6 _ _ s22 wr => ∃ ss : Nat, ss ≤ sn ∧ sn - ss ≤ gg ∧ s22 = .int .i64 ss ∧ s6 = .bool ((x.take ss).any (litB bs)) ∧ w1 = wr)
      case atStart => exact ⟨0, Nat.zero_le _, by omega, rfl, rfl, rfl⟩
      case round =>
        obtain ⟨ss, hss, hgs, rfl, rfl, rfl⟩ := hrel
        by_cases hlts : ss < sn
        · have hltsz : (ss : Int) < (sn : Int) := by omega
          obtain ⟨xd, rfl, hxb, hxc⟩ := HRD.out.int hlts
          obtain ⟨x1, x2, x3⟩ := lit_at HRW.out (k := ss) (by rw [HLE.out]; exact hlts)
          have HSN : Hid ((x.take (ss + 1)).any (litB bs) = ((x.take ss).any (litB bs) || litB bs (x.getD ss 0))) := any_take_snoc (litB bs) x 0 ss (by rw [HLE.out]; exact hlts)
          generalize x.getD ss 0 = z at hxc x1 x2 x3 HSN
          have hz1 : -65536 ≤ z := by omega
          have hz2 : z ≤ 65536 := by omega
          have wz : IntKind.i64.wrap (-z) = -z := IntWalk.i64_in _ (by omega)
          generalize (x.take ss).any (litB bs) = ok at HSN ⊢
          clear x2 x3
          cases ok
          · rcases (show 0 < z ∨ z < 0 by omega) with hp | hp
            · have mx : max z (-z) = z := by omega
              have hv1 : 1 ≤ z := by omega
              have hv2 : z ≤ 65536 := by omega
              skip
              by_cases hzm : z ≤ (m : Int)
              · obtain ⟨be, rfl, _, hcb⟩ := (HB.out.up HW.out).bool (k := (z - 1).toNat) (by omega)
                have HL : Hid (litB bs z = bs.getD (z - 1).toNat false) := (by
                  show _ = _
                  exact litB_pos (by omega) (by rw [HLB.out]; exact hzm))
                generalize bs.getD (z - 1).toNat false = b at hcb HL
                rw [show (z - 1).toNat = z.toNat - 1 by omega] at hcb
                have HN : Hid ((x.take (ss + 1)).any (litB bs) = b) := (by show _ = _; rw [HSN.out, HL.out]; rfl)
                clear HSN HL
                cases b
                · go_wp2
                  go_roundg (sn - (ss + 1))
                  case measure => omega
                  case rel => exact ⟨ss + 1, by omega, by omega, by go_num, by (try rw [HN.out]) <;> (try rfl), rfl⟩
                · go_wp2
                  go_roundg (sn - (ss + 1))
                  case measure => omega
                  case rel => exact ⟨ss + 1, by omega, by omega, by go_num, by (try rw [HN.out]) <;> (try rfl), rfl⟩
              · have HL : Hid (litB bs z = false) := (by
                  show _ = _
                  unfold litB
                  rw [mx, decide_eq_false (by rw [HLB.out]; omega)]; rfl)
                have HN : Hid ((x.take (ss + 1)).any (litB bs) = false) := (by show _ = _; rw [HSN.out, HL.out]; rfl)
                clear HSN HL
                go_wp2
                go_roundg (sn - (ss + 1))
                case measure => omega
                case rel => exact ⟨ss + 1, by omega, by omega, by go_num, by rw [HN.out], rfl⟩
            · have mx : max z (-z) = -z := by omega
              have hv1 : 1 ≤ -z := by omega
              have hv2 : -z ≤ 65536 := by omega
              have hp : ¬ 0 < z := by omega
              by_cases hzm : -z ≤ (m : Int)
              · obtain ⟨be, rfl, _, hcb⟩ := (HB.out.up HW.out).bool (k := (-z - 1).toNat) (by omega)
                have HL : Hid (litB bs z = !bs.getD (-z - 1).toNat false) := (by
                  show _ = _
                  rw [show z = -(-z) by omega, litB_neg (by omega) (by rw [HLB.out]; exact hzm)]; simp)
                generalize bs.getD (-z - 1).toNat false = b at hcb HL
                rw [show (-z - 1).toNat = (-z).toNat - 1 by omega] at hcb
                have HN : Hid ((x.take (ss + 1)).any (litB bs) = !b) := (by show _ = _; rw [HSN.out, HL.out]; rfl)
                clear HSN HL
                cases b
                · go_wp2
                  go_roundg (sn - (ss + 1))
                  case measure => omega
                  case rel => exact ⟨ss + 1, by omega, by omega, by go_num, by (try rw [HN.out]) <;> (try rfl), rfl⟩
                · go_wp2
                  go_roundg (sn - (ss + 1))
                  case measure => omega
                  case rel => exact ⟨ss + 1, by omega, by omega, by go_num, by (try rw [HN.out]) <;> (try rfl), rfl⟩
              · have HL : Hid (litB bs z = false) := (by
                  show _ = _
                  unfold litB
                  rw [mx, decide_eq_false (by rw [HLB.out]; omega)]; rfl)
                have HN : Hid ((x.take (ss + 1)).any (litB bs) = false) := (by show _ = _; rw [HSN.out, HL.out]; rfl)
                clear HSN HL
                go_wp2
                go_roundg (sn - (ss + 1))
                case measure => omega
                case rel => exact ⟨ss + 1, by omega, by omega, by go_num, by rw [HN.out], rfl⟩
          · have HN : Hid ((x.take (ss + 1)).any (litB bs) = true) := (by show _ = _; rw [HSN.out]; rfl)
            clear HSN
            obtain ⟨mz, hmz, hmr⟩ : ∃ mz : Int, max z (-z) = mz ∧ mz ≤ 65536 := ⟨_, rfl, by omega⟩
            go_wp2
            go_roundg (sn - (ss + 1))
            case measure => omega
            case rel => exact ⟨ss + 1, by omega, by omega, by go_num, by rw [HN.out], rfl⟩
        · have hltsz : ¬ (ss : Int) < (sn : Int) := by omega
          obtain rfl : sn = ss := by omega
          have HT : Hid (x.take sn = x) := (by show _ = _; rw [← HLE.out, List.take_length])
          rw [HT.out]
          cases hcl : x.any (litB bs)
          · have HF : Hid (holdsL f.cls bs = false) := all_false_row _ _ kk (by rw [HWL.out]; exact hlt) (by rw [HX0.out]; exact hcl)
            clear hcl
            go_wp2
            go_ret
            exact ⟨ret_bool HF.out.symm, HW.out⟩
          · have HC : Hid (clB bs x = true) := hcl
            clear hcl
            go_wp2
            go_roundg (n - (kk + 1))
            case measure => omega
            case rel =>
              refine ⟨kk + 1, by omega, by omega, by go_num, rfl, (show Aside _ from fun j hj => ?_)⟩
              by_cases e : j = kk
              · subst e; rw [HX0.out]; exact HC.out
              · exact AA.out j (by omega)
    · have hltz : ¬ (kk : Int) < (n : Int) := by omega
      obtain rfl : kk = n := by omega
      have HT : Hid (holdsL f.cls bs = true) := all_true_row _ _ (fun j hj => AA.out j (by rw [HWL.out] at hj; exact hj))
      go_wp2
      go_ret
      exact ⟨ret_bool HT.out.symm, HW.out⟩
end Go.Proofs.Ytofflkfkakddkaa
