/-
  ruletable.permuted, walked.
-/
import Derived.Test.YtlmdjkmcplobnaaDoorKC9
import Derived.Test.YtlmdjkmcplobnaaDoorKC10
import Derived.Laws.EntriesVeiled
namespace Go.Proofs.YtlmdjkmcplobnaaDoor
open Go.RowKit
set_option linter.unusedSimpArgs false
set_option linter.unusedVariables false
theorem bool_infoP : (Tryd.prog.info? 4).map (fun i => (i.zero, i.size, i.bytes)) = some (some (.bool false), 1, 1) := by kernel_rfl
set_option maxRecDepth 100000 in
set_option maxHeartbeats 4000000 in
theorem permuted_any (t : KT.Tab) (P : TP) (r : KT.Rw) (ins : List Int) (qa IA : Option Addr) (qc n ic : Nat) (w : World) (h : TabAt w t P) (hq : Rd w w.heap.size 1 qa n (ints r.ins)) (hi : Rd w w.heap.size 1 IA n (ints ins)) (hm : n ≤ 25)
    (hh : t.hood.length = n) (hv40 : t.vars.length ≤ 40) (he : ∀ e ∈ r.ins, KT.elemOk t e = true) (ho : KT.elemOk t r.out = true) (hst : ∀ i, 0 ≤ ins.getD i 0 ∧ ins.getD i 0 < t.states) (hs8 : t.states ≤ 8) :
    Calls Tryd.prog 31 #[.agg #[.int .i64 t.states, .int .i64 t.sym, .slice P.HA P.hn P.hc, .slice P.VA P.vn P.vc, .slice P.RA P.rn P.rc], .agg #[.slice qa n qc, .int .i64 r.out], .slice IA n ic] w fun e w' => e = .returned (optV (KT.permK t r ins)) ∧ Below w.heap.size w w' := by
  obtain ⟨HA, hn, hc, VA, vn, vc, RA, rn, rc, vs, rs⟩ := P
  dsimp only
  have H := Lib.hid h
  have HQ := Lib.hid hq
  have HI := Lib.hid hi
  have HEL := Lib.hid he
  have HST := Lib.hid hst
  have hnn : hn = n := by have := h.hl; dsimp only at this; omega
  subst hnn
  have hm63 : hn ≤ maxLen := h.h63
  have HHL := Lib.hid hh
  have HLQ : Hid (r.ins.length = hn) := by have := hq.1; show _ = _; simpa using this
  have HLI : Hid (ins.length = hn) := by have := hi.1; show _ = _; simpa using this
  clear h hq hi he hst hh
  have hmf : ∀ (fn : Fn) (first cap : Array Value) (w : World), (Instr.makeFunc fn first cap).run Tryd.prog w = .ok (.func fn first cap) w := fun _ _ _ _ => rfl
  have hmk := fun W => make_like (P := Tryd.prog) Tryd.underlying87 bool_infoP rfl hn (hn : Int) rfl (by omega) (by omega) W
  go_enter Tryd.func31, Tryd.ntmps31
  go_upto_region 1 with fail
  have RT1 : Hid (Row (World.alloc (World.alloc (World.alloc (World.alloc (World.alloc w (.cells #[.int .i64 t.states, .int .i64 t.sym, .slice HA hn hc, .slice VA vn vc, .slice RA rn rc] 26)) (.cells #[.slice qa hn qc, .int .i64 r.out] 44)) (.cells #[.slice IA hn ic] 27)) (.cells #[.int .i64 0] 3)) (.cells #[.bool false] 4)) (w.heap.size) 26 [.int .i64 t.states, .int .i64 t.sym, .slice HA hn hc, .slice VA vn vc, .slice RA rn rc]) := by
    have h0 := Row.new w 26 [.int .i64 t.states, .int .i64 t.sym, .slice HA hn hc, .slice VA vn vc, .slice RA rn rc]
    try simp only [World.size_alloc] at h0
    exact ((((h0.alloc _).alloc _).alloc _).alloc _)
  have RR1 : Hid (Row (World.alloc (World.alloc (World.alloc (World.alloc (World.alloc w (.cells #[.int .i64 t.states, .int .i64 t.sym, .slice HA hn hc, .slice VA vn vc, .slice RA rn rc] 26)) (.cells #[.slice qa hn qc, .int .i64 r.out] 44)) (.cells #[.slice IA hn ic] 27)) (.cells #[.int .i64 0] 3)) (.cells #[.bool false] 4)) (w.heap.size + 1) 44 [.slice qa hn qc, .int .i64 r.out]) := by
    have h0 := Row.new (World.alloc w (.cells #[.int .i64 t.states, .int .i64 t.sym, .slice HA hn hc, .slice VA vn vc, .slice RA rn rc] 26)) 44 [.slice qa hn qc, .int .i64 r.out]
    try simp only [World.size_alloc] at h0
    exact (((h0.alloc _).alloc _).alloc _)
  have RI1 : Hid (Row (World.alloc (World.alloc (World.alloc (World.alloc (World.alloc w (.cells #[.int .i64 t.states, .int .i64 t.sym, .slice HA hn hc, .slice VA vn vc, .slice RA rn rc] 26)) (.cells #[.slice qa hn qc, .int .i64 r.out] 44)) (.cells #[.slice IA hn ic] 27)) (.cells #[.int .i64 0] 3)) (.cells #[.bool false] 4)) (w.heap.size + 1 + 1) 27 [.slice IA hn ic]) := by
    have h0 := Row.new (World.alloc (World.alloc w (.cells #[.int .i64 t.states, .int .i64 t.sym, .slice HA hn hc, .slice VA vn vc, .slice RA rn rc] 26)) (.cells #[.slice qa hn qc, .int .i64 r.out] 44)) 27 [.slice IA hn ic]
    try simp only [World.size_alloc] at h0
    exact ((h0.alloc _).alloc _)
  have RE1 : Hid (Row (World.alloc (World.alloc (World.alloc (World.alloc (World.alloc w (.cells #[.int .i64 t.states, .int .i64 t.sym, .slice HA hn hc, .slice VA vn vc, .slice RA rn rc] 26)) (.cells #[.slice qa hn qc, .int .i64 r.out] 44)) (.cells #[.slice IA hn ic] 27)) (.cells #[.int .i64 0] 3)) (.cells #[.bool false] 4)) (w.heap.size + 1 + 1 + 1) 3 [.int .i64 0]) := by
    have h0 := Row.new (World.alloc (World.alloc (World.alloc w (.cells #[.int .i64 t.states, .int .i64 t.sym, .slice HA hn hc, .slice VA vn vc, .slice RA rn rc] 26)) (.cells #[.slice qa hn qc, .int .i64 r.out] 44)) (.cells #[.slice IA hn ic] 27)) 3 [.int .i64 0]
    try simp only [World.size_alloc] at h0
    exact (h0.alloc _)
  have RF1 : Hid (Row (World.alloc (World.alloc (World.alloc (World.alloc (World.alloc w (.cells #[.int .i64 t.states, .int .i64 t.sym, .slice HA hn hc, .slice VA vn vc, .slice RA rn rc] 26)) (.cells #[.slice qa hn qc, .int .i64 r.out] 44)) (.cells #[.slice IA hn ic] 27)) (.cells #[.int .i64 0] 3)) (.cells #[.bool false] 4)) (w.heap.size + 1 + 1 + 1 + 1) 4 [.bool false]) := by
    have h0 := Row.new (World.alloc (World.alloc (World.alloc (World.alloc w (.cells #[.int .i64 t.states, .int .i64 t.sym, .slice HA hn hc, .slice VA vn vc, .slice RA rn rc] 26)) (.cells #[.slice qa hn qc, .int .i64 r.out] 44)) (.cells #[.slice IA hn ic] 27)) (.cells #[.int .i64 0] 3)) 4 [.bool false]
    try simp only [World.size_alloc] at h0
    exact h0
  have HW9 : Hid (Below w.heap.size w (World.alloc (World.alloc (World.alloc (World.alloc (World.alloc w (.cells #[.int .i64 t.states, .int .i64 t.sym, .slice HA hn hc, .slice VA vn vc, .slice RA rn rc] 26)) (.cells #[.slice qa hn qc, .int .i64 r.out] 44)) (.cells #[.slice IA hn ic] 27)) (.cells #[.int .i64 0] 3)) (.cells #[.bool false] 4))) := by show Below _ _ _; go_grown
  revert RT1 RR1 RI1 RE1 RF1 HW9
  generalize (World.alloc (World.alloc (World.alloc (World.alloc (World.alloc w (.cells #[.int .i64 t.states, .int .i64 t.sym, .slice HA hn hc, .slice VA vn vc, .slice RA rn rc] 26)) (.cells #[.slice qa hn qc, .int .i64 r.out] 44)) (.cells #[.slice IA hn ic] 27)) (.cells #[.int .i64 0] 3)) (.cells #[.bool false] 4)) = w1
  intro RT1 RR1 RI1 RE1 RF1 HW9
  have HB := HW9
  clear HW9
  have k0 := RT1.out.cell 0
  have k1 := RT1.out.cell 1
  have k2 := RT1.out.cell 2
  have k3 := RT1.out.cell 3
  have k4 := RT1.out.cell 4
  have kl := RT1.out.lt
  simp only [List.getElem?_cons_zero, List.getElem?_cons_succ] at k0 k1 k2 k3 k4
  have HC := Lib.hid (centre_any t.hood HA hn hc w1 (H.out.up HB.out).hood hm63)
  have HCB : Hid (0 ≤ KT.centreK t.hood → (KT.centreK t.hood).toNat < hn) := fun h0 => HHL.out ▸ KT.centre_lt h0
  have HPK : Hid (KT.permK t r ins = if 0 ≤ KT.centreK t.hood then if (KT.acceptK t KT.noneB (r.ins.getD (KT.centreK t.hood).toNat 0) (ins.getD (KT.centreK t.hood).toNat 0)).2.1 = true then KT.placeK t r ins (KT.centreK t.hood) (ins.length + 1) 0 (KT.acceptK t KT.noneB (r.ins.getD (KT.centreK t.hood).toNat 0) (ins.getD (KT.centreK t.hood).toNat 0)).1 (List.replicate ins.length false) none else none else KT.placeK t r ins (KT.centreK t.hood) (ins.length + 1) 0 KT.noneB (List.replicate ins.length false) none) := rfl
  revert HC HCB HPK
  generalize KT.centreK t.hood = c
  intro HC HCB HPK
  go_wp2_with fail
  refine HC.out.mono ?_
  rintro e w2 ⟨rfl, hb2⟩
  have RT1 := (show Hid (Row _ _ _ _) from rowCells RT1.out hb2)
  have RR1 := (show Hid (Row _ _ _ _) from rowCells RR1.out hb2)
  have RI1 := (show Hid (Row _ _ _ _) from rowCells RI1.out hb2)
  have RE1 := (show Hid (Row _ _ _ _) from rowCells RE1.out hb2)
  have RF1 := (show Hid (Row _ _ _ _) from rowCells RF1.out hb2)
  have HB2 : Hid (Below w.heap.size w w2) := HB.out.trans (hb2.mono HB.out.size)
  clear HB HC hb2 k0 k1 k2 k3 k4 kl
  have HB := HB2
  clear HB2
  go_upto_region 2 with fail
  have h_tc := Row.lt RF1.out
  have RC3 : Hid (Row (World.alloc w2 (.cells #[.int .i64 c] 3)) w2.heap.size 3 [.int .i64 c]) := Row.new w2 _ [.int .i64 c]
  have RT1 := (show Hid (Row _ _ _ _) from Row.alloc RT1.out (.cells #[.int .i64 c] 3))
  have RR1 := (show Hid (Row _ _ _ _) from Row.alloc RR1.out (.cells #[.int .i64 c] 3))
  have RI1 := (show Hid (Row _ _ _ _) from Row.alloc RI1.out (.cells #[.int .i64 c] 3))
  have RE1 := (show Hid (Row _ _ _ _) from Row.alloc RE1.out (.cells #[.int .i64 c] 3))
  have RF1 := (show Hid (Row _ _ _ _) from Row.alloc RF1.out (.cells #[.int .i64 c] 3))
  have HB9 : Hid (Below w.heap.size w (World.alloc w2 (.cells #[.int .i64 c] 3))) := HB.out.alloc HB.out.size _
  clear HB
  revert h_tc RC3 RT1 RR1 RI1 RE1 RF1 HB9
  generalize (World.alloc w2 (.cells #[.int .i64 c] 3)) = w3
  generalize w2.heap.size = tc
  intro h_tc RC3 RT1 RR1 RI1 RE1 RF1 HB9
  have HB := HB9
  clear HB9
  have HC := Lib.hid (none_any w3)
  go_wp2_with fail
  refine HC.out.mono ?_
  rintro e w4 ⟨rfl, hba, hb4⟩
  have h_g := Row.lt RC3.out
  have RT1 := (show Hid (Row _ _ _ _) from rowCells RT1.out hb4)
  have RR1 := (show Hid (Row _ _ _ _) from rowCells RR1.out hb4)
  have RI1 := (show Hid (Row _ _ _ _) from rowCells RI1.out hb4)
  have RE1 := (show Hid (Row _ _ _ _) from rowCells RE1.out hb4)
  have RF1 := (show Hid (Row _ _ _ _) from rowCells RF1.out hb4)
  have RC3 := (show Hid (Row _ _ _ _) from rowCells RC3.out hb4)
  have HB2 : Hid (Below w.heap.size w w4) := HB.out.trans (hb4.mono HB.out.size)
  have BA := Lib.hid hba
  clear hba hb4 HC HB
  have HB := HB2
  clear HB2
  revert BA h_g
  generalize w3.heap.size = g
  intro h_g BA
  go_upto_region 3 with fail
  have h_tb := Row.lt BA.out
  have RB5 : Hid (Row (World.alloc w4 (.cells #[.pointer (some ⟨g, 0, none⟩)] 83)) w4.heap.size 83 [.pointer (some ⟨g, 0, none⟩)]) := Row.new w4 _ [.pointer (some ⟨g, 0, none⟩)]
  have RT1 := (show Hid (Row _ _ _ _) from Row.alloc RT1.out (.cells #[.pointer (some ⟨g, 0, none⟩)] 83))
  have RR1 := (show Hid (Row _ _ _ _) from Row.alloc RR1.out (.cells #[.pointer (some ⟨g, 0, none⟩)] 83))
  have RI1 := (show Hid (Row _ _ _ _) from Row.alloc RI1.out (.cells #[.pointer (some ⟨g, 0, none⟩)] 83))
  have RE1 := (show Hid (Row _ _ _ _) from Row.alloc RE1.out (.cells #[.pointer (some ⟨g, 0, none⟩)] 83))
  have RF1 := (show Hid (Row _ _ _ _) from Row.alloc RF1.out (.cells #[.pointer (some ⟨g, 0, none⟩)] 83))
  have RC3 := (show Hid (Row _ _ _ _) from Row.alloc RC3.out (.cells #[.pointer (some ⟨g, 0, none⟩)] 83))
  have BA := (show Hid (Row _ _ _ _) from Row.alloc BA.out (.cells #[.pointer (some ⟨g, 0, none⟩)] 83))
  have HB9 : Hid (Below w.heap.size w (World.alloc w4 (.cells #[.pointer (some ⟨g, 0, none⟩)] 83))) := HB.out.alloc HB.out.size _
  clear HB
  revert h_tb RB5 RT1 RR1 RI1 RE1 RF1 RC3 BA HB9
  generalize (World.alloc w4 (.cells #[.pointer (some ⟨g, 0, none⟩)] 83)) = w5
  generalize w4.heap.size = tb
  intro h_tb RB5 RT1 RR1 RI1 RE1 RF1 RC3 BA HB9
  have HB := HB9
  clear HB9
  by_cases hc0 : 0 ≤ c
  · obtain ⟨cn, rfl⟩ : ∃ cn : Nat, c = (cn : Int) := ⟨c.toNat, by omega⟩
    have hcn := HCB.out hc0
    rw [Int.toNat_natCast] at hcn
    have hd0 : decide (0 ≤ (cn : Int)) = true := decide_eq_true hc0
    rw [if_pos hc0, Int.toNat_natCast] at HPK
    obtain ⟨adq, rfl, hbq, hz0⟩ := HQ.out.int hcn
    obtain ⟨adi, rfl, hbi, hy0⟩ := HI.out.int hcn
    have HEL0 := HEL.out (r.ins.getD cn 0) (by
      rw [List.getD_eq_getElem?_getD, List.getElem?_eq_getElem (show cn < r.ins.length by rw [HLQ.out]; omega)]; exact List.getElem_mem _)
    have HEI := Lib.hid (elem_vix hv40 HEL0)
    have HAO := Lib.hid (KT.accept_out (KT.noneB_ok t) HEL0 hv40 (HST.out cn))
    have HA0 := accept_any t ⟨HA, hn, hc, VA, vn, vc, RA, rn, rc, vs, rs⟩ g KT.noneB (r.ins.getD cn 0) (ins.getD cn 0)
    have hz : w5.cell? (adq.add cn) = some (.int .i64 (r.ins.getD cn 0)) := (HB.out.cell (p := adq.add cn) (by rw [add_block]; exact hbq)).trans hz0
    have hy : w5.cell? (adi.add cn) = some (.int .i64 (ins.getD cn 0)) := (HB.out.cell (p := adi.add cn) (by rw [add_block]; exact hbi)).trans hy0
    clear hz0 hy0 HEL0
    revert HPK HEI HAO HA0 hz hy
    generalize r.ins.getD cn 0 = z
    generalize ins.getD cn 0 = y
    generalize KT.acceptK t KT.noneB z y = a
    obtain ⟨b0, ok, fr⟩ := a
    intro HPK HEI HAO HA0 hz hy
    dsimp only at HPK HA0
    have HA0 := Lib.hid HA0
    have HS : ∀ w', Kept (· = g) w5 w' → w'.cell? ⟨tb, 0, none⟩ = some (.pointer (some ⟨g, 0, none⟩)) ∧ w'.cell? ⟨w.heap.size, 0, none⟩ = some (.int .i64 t.states) ∧ w'.cell? ⟨w.heap.size, 1, none⟩ = some (.int .i64 t.sym) ∧ w'.cell? ⟨w.heap.size, 2, none⟩ = some (.slice HA hn hc) ∧ w'.cell? ⟨w.heap.size, 3, none⟩ = some (.slice VA vn vc) ∧ w'.cell? ⟨w.heap.size, 4, none⟩ = some (.slice RA rn rc) ∧ w'.cell? ⟨w.heap.size + 1, 0, none⟩ = some (.slice (some adq) hn qc) ∧ w'.cell? ⟨w.heap.size + 1 + 1, 0, none⟩ = some (.slice (some adi) hn ic) ∧ w'.cell? ⟨tc, 0, none⟩ = some (.int .i64 (cn : Int)) ∧ w'.cell? (adq.add cn) = some (.int .i64 z) ∧ w'.cell? (adi.add cn) = some (.int .i64 y) := fun w' hk =>
      ⟨(hk.row RB5.out (show ¬ tb = g by omega)).cell 0, (hk.row RT1.out (show ¬ w.heap.size = g by omega)).cell 0, (hk.row RT1.out (show ¬ w.heap.size = g by omega)).cell 1, (hk.row RT1.out (show ¬ w.heap.size = g by omega)).cell 2, (hk.row RT1.out (show ¬ w.heap.size = g by omega)).cell 3, (hk.row RT1.out (show ¬ w.heap.size = g by omega)).cell 4, (hk.row RR1.out (show ¬ w.heap.size + 1 = g by omega)).cell 0, (hk.row RI1.out (show ¬ w.heap.size + 1 + 1 = g by omega)).cell 0, (hk.row RC3.out (show ¬ tc = g by omega)).cell 0,
        (hk.cell (p := adq.add cn) (by rw [add_block]; have := HB.out.size; omega) (by rw [add_block]; show ¬ adq.block = g; omega)).trans hz, (hk.cell (p := adi.add cn) (by rw [add_block]; have := HB.out.size; omega) (by rw [add_block]; show ¬ adi.block = g; omega)).trans hy⟩
    have j0 := RC3.out.cell 0
    have jl := RC3.out.lt
    simp only [List.getElem?_cons_zero, List.getElem?_cons_succ] at j0
    go_upto_region 4 with fail
    clear j0 jl hz hy
    have hc9 : (0 : Int) ≤ (cn : Int) := hc0
    have hcz : (cn : Int) < (hn : Int) := by omega
    go_region_held3 (fun w' => w'.cell? ⟨tb, 0, none⟩ = some (.pointer (some ⟨g, 0, none⟩)) ∧ w'.cell? ⟨w.heap.size, 0, none⟩ = some (.int .i64 t.states) ∧ w'.cell? ⟨w.heap.size, 1, none⟩ = some (.int .i64 t.sym) ∧ w'.cell? ⟨w.heap.size, 2, none⟩ = some (.slice HA hn hc) ∧ w'.cell? ⟨w.heap.size, 3, none⟩ = some (.slice VA vn vc) ∧ w'.cell? ⟨w.heap.size, 4, none⟩ = some (.slice RA rn rc) ∧ w'.cell? ⟨w.heap.size + 1, 0, none⟩ = some (.slice (some adq) hn qc) ∧ w'.cell? ⟨w.heap.size + 1 + 1, 0, none⟩ = some (.slice (some adi) hn ic) ∧ w'.cell? ⟨tc, 0, none⟩ = some (.int .i64 (cn : Int)) ∧ w'.cell? (adq.add cn) = some (.int .i64 z) ∧ w'.cell? (adi.add cn) = some (.int .i64 y)) (exact HS _ (by first | exact HKP.out | exact Kept.ofBelow (by go_grown))) ((
      go_at_call 42
      refine (HA0.out _ (by exact H.out.up HB.out.drew) (by exact BA.out) (by simp [KT.noneB]) hv40 HEI.out.1 HEI.out.2.2).mono ?_
      rintro e w6 ⟨rfl, hbat, hkp⟩
      have HKP := (show Hid (Kept (· = g) w5 w6) from Kept.trans (Kept.ofBelow (by go_grown)) hkp (fun _ _ h => h))
      have BA6 := (show Hid (BAt w6 g b0) from hbat)
      clear hbat hkp))
    clear HS HA0 BA
    have HB6 : Hid (Below w.heap.size w w6) := HB.out.trans (HKP.out.below (B := w.heap.size) (fun k e => by omega) HB.out.size)
    clear HB
    have HB := HB6
    clear HB6
    have RB5 := (show Hid (Row _ _ _ _) from HKP.out.row RB5.out (show ¬ tb = g by omega))
    have RT1 := (show Hid (Row _ _ _ _) from HKP.out.row RT1.out (show ¬ w.heap.size = g by omega))
    have RR1 := (show Hid (Row _ _ _ _) from HKP.out.row RR1.out (show ¬ w.heap.size + 1 = g by omega))
    have RI1 := (show Hid (Row _ _ _ _) from HKP.out.row RI1.out (show ¬ w.heap.size + 1 + 1 = g by omega))
    have RE1 := (show Hid (Row _ _ _ _) from HKP.out.row RE1.out (show ¬ w.heap.size + 1 + 1 + 1 = g by omega))
    have RF1 := (show Hid (Row _ _ _ _) from HKP.out.row RF1.out (show ¬ w.heap.size + 1 + 1 + 1 + 1 = g by omega))
    have RC3 := (show Hid (Row _ _ _ _) from HKP.out.row RC3.out (show ¬ tc = g by omega))
    clear HKP
    cases ok with
    | false =>
      have HPQ : Hid (KT.permK t r ins = none) := by show _ = _; rw [HPK.out]; rfl
      have REa := (show Hid (Row (w6.setCell ⟨w.heap.size + 1 + 1 + 1, 0, none⟩ (.int .i64 0)) (w.heap.size + 1 + 1 + 1) 3 [.int .i64 0]) from Row.set RE1.out 0 (.int .i64 0))
      have RFa := (show Hid (Row (w6.setCell ⟨w.heap.size + 1 + 1 + 1, 0, none⟩ (.int .i64 0)) (w.heap.size + 1 + 1 + 1 + 1) 4 [.bool false]) from Row.far RF1.out (p := ⟨w.heap.size + 1 + 1 + 1, 0, none⟩) (by show w.heap.size + 1 + 1 + 1 + 1 ≠ w.heap.size + 1 + 1 + 1; omega) (.int .i64 0))
      have REb := (show Hid (Row ((w6.setCell ⟨w.heap.size + 1 + 1 + 1, 0, none⟩ (.int .i64 0)).setCell ⟨w.heap.size + 1 + 1 + 1 + 1, 0, none⟩ (.bool false)) (w.heap.size + 1 + 1 + 1) 3 [.int .i64 0]) from Row.far REa.out (p := ⟨w.heap.size + 1 + 1 + 1 + 1, 0, none⟩) (by show w.heap.size + 1 + 1 + 1 ≠ w.heap.size + 1 + 1 + 1 + 1; omega) (.bool false))
      have RFb := (show Hid (Row ((w6.setCell ⟨w.heap.size + 1 + 1 + 1, 0, none⟩ (.int .i64 0)).setCell ⟨w.heap.size + 1 + 1 + 1 + 1, 0, none⟩ (.bool false)) (w.heap.size + 1 + 1 + 1 + 1) 4 [.bool false]) from Row.set RFa.out 0 (.bool false))
      have HBe : Hid (Below w.heap.size w ((w6.setCell ⟨w.heap.size + 1 + 1 + 1, 0, none⟩ (.int .i64 0)).setCell ⟨w.heap.size + 1 + 1 + 1 + 1, 0, none⟩ (.bool false))) := (HB.out.setCell (p := ⟨w.heap.size + 1 + 1 + 1, 0, none⟩) (by show _ ≤ w.heap.size + 1 + 1 + 1; omega) _).setCell (p := ⟨w.heap.size + 1 + 1 + 1 + 1, 0, none⟩) (by show _ ≤ w.heap.size + 1 + 1 + 1 + 1; omega) _
      have j0 := RE1.out.cell 0
      have jl := RE1.out.lt
      simp only [List.getElem?_cons_zero, List.getElem?_cons_succ] at j0
      have k0 := RF1.out.cell 0
      have kl := RF1.out.lt
      simp only [List.getElem?_cons_zero, List.getElem?_cons_succ] at k0
      have jz := RE1.out.frozen 0
      have kz := RF1.out.frozen 0
      have d0 := REb.out.cell 0
      have d1 := RFb.out.cell 0
      simp only [List.getElem?_cons_zero] at d0 d1
      have d0 := Lib.hid d0
      have d1 := Lib.hid d1
      go_wp2
      exact bodyPost_ret (v := .tuple #[.int .i64 0, .bool false]) (by have e0 := d0.out; have e1 := d1.out; simp only [results, Tryd.results31]; simp [go_sem, e0, e1]) rfl ⟨by rw [HPQ.out]; rfl, HBe.out⟩
    | true =>
    have HPQ : Hid (KT.permK t r ins = KT.placeK t r ins (cn : Int) (ins.length + 1) 0 b0 (List.replicate ins.length false) none) := by show _ = _; rw [HPK.out]; rfl
    have HOB := Lib.hid HAO.out.ok
    dsimp only at HOB
    clear HPK HAO hd0
    have j0 := RC3.out.cell 0
    have jl := RC3.out.lt
    simp only [List.getElem?_cons_zero, List.getElem?_cons_succ] at j0
    have k0 := RI1.out.cell 0
    have kl := RI1.out.lt
    simp only [List.getElem?_cons_zero, List.getElem?_cons_succ] at k0
    go_upto_region 8 with fail
    clear j0 jl k0 kl
    have h_u := Row.lt RB5.out
    have US7 : Hid (Row (World.alloc (World.alloc w6 (.cells (likeRow (.bool false) hn) 4)) (.cells #[.slice (some ⟨w6.heap.size, 0, none⟩) hn hn] 87)) w6.heap.size 4 (bools (List.replicate hn false))) := by
      have h0 := Row.new w6 4 (List.replicate hn (.bool false))
      rw [show bools (List.replicate hn false) = List.replicate hn (.bool false) by simp [bools]]
      exact Row.alloc h0 _
    have RU7 : Hid (Row (World.alloc (World.alloc w6 (.cells (likeRow (.bool false) hn) 4)) (.cells #[.slice (some ⟨w6.heap.size, 0, none⟩) hn hn] 87)) (w6.heap.size + 1) 87 [.slice (some ⟨w6.heap.size, 0, none⟩) hn hn]) := by
      have h0 := Row.new (World.alloc w6 (.cells (likeRow (.bool false) hn) 4)) 87 [.slice (some ⟨w6.heap.size, 0, none⟩) hn hn]
      rw [World.size_alloc] at h0
      exact h0
    have RB5 := (show Hid (Row _ _ _ _) from Row.alloc (Row.alloc RB5.out (.cells (likeRow (.bool false) hn) 4)) (.cells #[.slice (some ⟨w6.heap.size, 0, none⟩) hn hn] 87))
    have RT1 := (show Hid (Row _ _ _ _) from Row.alloc (Row.alloc RT1.out (.cells (likeRow (.bool false) hn) 4)) (.cells #[.slice (some ⟨w6.heap.size, 0, none⟩) hn hn] 87))
    have RR1 := (show Hid (Row _ _ _ _) from Row.alloc (Row.alloc RR1.out (.cells (likeRow (.bool false) hn) 4)) (.cells #[.slice (some ⟨w6.heap.size, 0, none⟩) hn hn] 87))
    have RI1 := (show Hid (Row _ _ _ _) from Row.alloc (Row.alloc RI1.out (.cells (likeRow (.bool false) hn) 4)) (.cells #[.slice (some ⟨w6.heap.size, 0, none⟩) hn hn] 87))
    have RE1 := (show Hid (Row _ _ _ _) from Row.alloc (Row.alloc RE1.out (.cells (likeRow (.bool false) hn) 4)) (.cells #[.slice (some ⟨w6.heap.size, 0, none⟩) hn hn] 87))
    have RF1 := (show Hid (Row _ _ _ _) from Row.alloc (Row.alloc RF1.out (.cells (likeRow (.bool false) hn) 4)) (.cells #[.slice (some ⟨w6.heap.size, 0, none⟩) hn hn] 87))
    have RC3 := (show Hid (Row _ _ _ _) from Row.alloc (Row.alloc RC3.out (.cells (likeRow (.bool false) hn) 4)) (.cells #[.slice (some ⟨w6.heap.size, 0, none⟩) hn hn] 87))
    have BA6 := (show Hid (Row _ _ _ _) from Row.alloc (Row.alloc BA6.out (.cells (likeRow (.bool false) hn) 4)) (.cells #[.slice (some ⟨w6.heap.size, 0, none⟩) hn hn] 87))
    have HB9 : Hid (Below w.heap.size w (World.alloc (World.alloc w6 (.cells (likeRow (.bool false) hn) 4)) (.cells #[.slice (some ⟨w6.heap.size, 0, none⟩) hn hn] 87))) := by
      have h1 := HB.out.alloc HB.out.size (.cells (likeRow (.bool false) hn) 4)
      exact h1.alloc h1.size _
    clear HB
    revert h_u US7 RU7 RB5 RT1 RR1 RI1 RE1 RF1 RC3 BA6 HB9
    generalize (World.alloc (World.alloc w6 (.cells (likeRow (.bool false) hn) 4)) (.cells #[.slice (some ⟨w6.heap.size, 0, none⟩) hn hn] 87)) = w7
    generalize w6.heap.size = u
    intro h_u US7 RU7 RB5 RT1 RR1 RI1 RE1 RF1 RC3 BA6 HB
    go_upto_region 9 with fail
    have h_tp := Row.lt RU7.out
    have RP8 : Hid (Row (World.alloc w7 (.cells #[.nilFunc] 88)) w7.heap.size 88 [.nilFunc]) := Row.new w7 _ [.nilFunc]
    have RB5 := (show Hid (Row _ _ _ _) from Row.alloc RB5.out (.cells #[.nilFunc] 88))
    have RT1 := (show Hid (Row _ _ _ _) from Row.alloc RT1.out (.cells #[.nilFunc] 88))
    have RR1 := (show Hid (Row _ _ _ _) from Row.alloc RR1.out (.cells #[.nilFunc] 88))
    have RI1 := (show Hid (Row _ _ _ _) from Row.alloc RI1.out (.cells #[.nilFunc] 88))
    have RE1 := (show Hid (Row _ _ _ _) from Row.alloc RE1.out (.cells #[.nilFunc] 88))
    have RF1 := (show Hid (Row _ _ _ _) from Row.alloc RF1.out (.cells #[.nilFunc] 88))
    have RC3 := (show Hid (Row _ _ _ _) from Row.alloc RC3.out (.cells #[.nilFunc] 88))
    have BA6 := (show Hid (Row _ _ _ _) from Row.alloc BA6.out (.cells #[.nilFunc] 88))
    have US7 := (show Hid (Row _ _ _ _) from Row.alloc US7.out (.cells #[.nilFunc] 88))
    have RU7 := (show Hid (Row _ _ _ _) from Row.alloc RU7.out (.cells #[.nilFunc] 88))
    have HB9 : Hid (Below w.heap.size w (World.alloc w7 (.cells #[.nilFunc] 88))) := HB.out.alloc HB.out.size _
    clear HB
    revert h_tp RP8 RB5 RT1 RR1 RI1 RE1 RF1 RC3 BA6 US7 RU7 HB9
    generalize (World.alloc w7 (.cells #[.nilFunc] 88)) = w8
    generalize w7.heap.size = tp
    intro h_tp RP8 RB5 RT1 RR1 RI1 RE1 RF1 RC3 BA6 US7 RU7 HB9
    have HB := HB9
    clear HB9
    have z_p := RP8.out.frozen 0
    have j_p := RP8.out.cell 0
    simp only [List.getElem?_cons_zero] at j_p
    have l_p := RP8.out.lt
    go_upto_region 10 with fail
    clear z_p j_p l_p
    have RP9 := (show Hid (Row (w8.setCell ⟨tp, 0, none⟩ (.func (.func 43) #[] #[.pointer (some ⟨w.heap.size + 1 + 1, 0, none⟩), .pointer (some ⟨tb, 0, none⟩), .pointer (some ⟨w.heap.size + 1, 0, none⟩), .pointer (some ⟨w.heap.size + 1 + 1 + 1 + 1, 0, none⟩), .pointer (some ⟨w.heap.size + 1 + 1 + 1, 0, none⟩), .pointer (some ⟨tc, 0, none⟩), .pointer (some ⟨tp, 0, none⟩), .pointer (some ⟨u + 1, 0, none⟩), .pointer (some ⟨w.heap.size, 0, none⟩)])) tp 88 [(.func (.func 43) #[] #[.pointer (some ⟨w.heap.size + 1 + 1, 0, none⟩), .pointer (some ⟨tb, 0, none⟩), .pointer (some ⟨w.heap.size + 1, 0, none⟩), .pointer (some ⟨w.heap.size + 1 + 1 + 1 + 1, 0, none⟩), .pointer (some ⟨w.heap.size + 1 + 1 + 1, 0, none⟩), .pointer (some ⟨tc, 0, none⟩), .pointer (some ⟨tp, 0, none⟩), .pointer (some ⟨u + 1, 0, none⟩), .pointer (some ⟨w.heap.size, 0, none⟩)])]) from Row.set RP8.out 0 (.func (.func 43) #[] #[.pointer (some ⟨w.heap.size + 1 + 1, 0, none⟩), .pointer (some ⟨tb, 0, none⟩), .pointer (some ⟨w.heap.size + 1, 0, none⟩), .pointer (some ⟨w.heap.size + 1 + 1 + 1 + 1, 0, none⟩), .pointer (some ⟨w.heap.size + 1 + 1 + 1, 0, none⟩), .pointer (some ⟨tc, 0, none⟩), .pointer (some ⟨tp, 0, none⟩), .pointer (some ⟨u + 1, 0, none⟩), .pointer (some ⟨w.heap.size, 0, none⟩)]))
    have RB5 := (show Hid (Row _ _ _ _) from Row.far RB5.out (p := ⟨tp, 0, none⟩) (by show _ ≠ tp; omega) (.func (.func 43) #[] #[.pointer (some ⟨w.heap.size + 1 + 1, 0, none⟩), .pointer (some ⟨tb, 0, none⟩), .pointer (some ⟨w.heap.size + 1, 0, none⟩), .pointer (some ⟨w.heap.size + 1 + 1 + 1 + 1, 0, none⟩), .pointer (some ⟨w.heap.size + 1 + 1 + 1, 0, none⟩), .pointer (some ⟨tc, 0, none⟩), .pointer (some ⟨tp, 0, none⟩), .pointer (some ⟨u + 1, 0, none⟩), .pointer (some ⟨w.heap.size, 0, none⟩)]))
    have RT1 := (show Hid (Row _ _ _ _) from Row.far RT1.out (p := ⟨tp, 0, none⟩) (by show _ ≠ tp; omega) (.func (.func 43) #[] #[.pointer (some ⟨w.heap.size + 1 + 1, 0, none⟩), .pointer (some ⟨tb, 0, none⟩), .pointer (some ⟨w.heap.size + 1, 0, none⟩), .pointer (some ⟨w.heap.size + 1 + 1 + 1 + 1, 0, none⟩), .pointer (some ⟨w.heap.size + 1 + 1 + 1, 0, none⟩), .pointer (some ⟨tc, 0, none⟩), .pointer (some ⟨tp, 0, none⟩), .pointer (some ⟨u + 1, 0, none⟩), .pointer (some ⟨w.heap.size, 0, none⟩)]))
    have RR1 := (show Hid (Row _ _ _ _) from Row.far RR1.out (p := ⟨tp, 0, none⟩) (by show _ ≠ tp; omega) (.func (.func 43) #[] #[.pointer (some ⟨w.heap.size + 1 + 1, 0, none⟩), .pointer (some ⟨tb, 0, none⟩), .pointer (some ⟨w.heap.size + 1, 0, none⟩), .pointer (some ⟨w.heap.size + 1 + 1 + 1 + 1, 0, none⟩), .pointer (some ⟨w.heap.size + 1 + 1 + 1, 0, none⟩), .pointer (some ⟨tc, 0, none⟩), .pointer (some ⟨tp, 0, none⟩), .pointer (some ⟨u + 1, 0, none⟩), .pointer (some ⟨w.heap.size, 0, none⟩)]))
    have RI1 := (show Hid (Row _ _ _ _) from Row.far RI1.out (p := ⟨tp, 0, none⟩) (by show _ ≠ tp; omega) (.func (.func 43) #[] #[.pointer (some ⟨w.heap.size + 1 + 1, 0, none⟩), .pointer (some ⟨tb, 0, none⟩), .pointer (some ⟨w.heap.size + 1, 0, none⟩), .pointer (some ⟨w.heap.size + 1 + 1 + 1 + 1, 0, none⟩), .pointer (some ⟨w.heap.size + 1 + 1 + 1, 0, none⟩), .pointer (some ⟨tc, 0, none⟩), .pointer (some ⟨tp, 0, none⟩), .pointer (some ⟨u + 1, 0, none⟩), .pointer (some ⟨w.heap.size, 0, none⟩)]))
    have RE1 := (show Hid (Row _ _ _ _) from Row.far RE1.out (p := ⟨tp, 0, none⟩) (by show _ ≠ tp; omega) (.func (.func 43) #[] #[.pointer (some ⟨w.heap.size + 1 + 1, 0, none⟩), .pointer (some ⟨tb, 0, none⟩), .pointer (some ⟨w.heap.size + 1, 0, none⟩), .pointer (some ⟨w.heap.size + 1 + 1 + 1 + 1, 0, none⟩), .pointer (some ⟨w.heap.size + 1 + 1 + 1, 0, none⟩), .pointer (some ⟨tc, 0, none⟩), .pointer (some ⟨tp, 0, none⟩), .pointer (some ⟨u + 1, 0, none⟩), .pointer (some ⟨w.heap.size, 0, none⟩)]))
    have RF1 := (show Hid (Row _ _ _ _) from Row.far RF1.out (p := ⟨tp, 0, none⟩) (by show _ ≠ tp; omega) (.func (.func 43) #[] #[.pointer (some ⟨w.heap.size + 1 + 1, 0, none⟩), .pointer (some ⟨tb, 0, none⟩), .pointer (some ⟨w.heap.size + 1, 0, none⟩), .pointer (some ⟨w.heap.size + 1 + 1 + 1 + 1, 0, none⟩), .pointer (some ⟨w.heap.size + 1 + 1 + 1, 0, none⟩), .pointer (some ⟨tc, 0, none⟩), .pointer (some ⟨tp, 0, none⟩), .pointer (some ⟨u + 1, 0, none⟩), .pointer (some ⟨w.heap.size, 0, none⟩)]))
    have RC3 := (show Hid (Row _ _ _ _) from Row.far RC3.out (p := ⟨tp, 0, none⟩) (by show _ ≠ tp; omega) (.func (.func 43) #[] #[.pointer (some ⟨w.heap.size + 1 + 1, 0, none⟩), .pointer (some ⟨tb, 0, none⟩), .pointer (some ⟨w.heap.size + 1, 0, none⟩), .pointer (some ⟨w.heap.size + 1 + 1 + 1 + 1, 0, none⟩), .pointer (some ⟨w.heap.size + 1 + 1 + 1, 0, none⟩), .pointer (some ⟨tc, 0, none⟩), .pointer (some ⟨tp, 0, none⟩), .pointer (some ⟨u + 1, 0, none⟩), .pointer (some ⟨w.heap.size, 0, none⟩)]))
    have BA6 := (show Hid (Row _ _ _ _) from Row.far BA6.out (p := ⟨tp, 0, none⟩) (by show _ ≠ tp; omega) (.func (.func 43) #[] #[.pointer (some ⟨w.heap.size + 1 + 1, 0, none⟩), .pointer (some ⟨tb, 0, none⟩), .pointer (some ⟨w.heap.size + 1, 0, none⟩), .pointer (some ⟨w.heap.size + 1 + 1 + 1 + 1, 0, none⟩), .pointer (some ⟨w.heap.size + 1 + 1 + 1, 0, none⟩), .pointer (some ⟨tc, 0, none⟩), .pointer (some ⟨tp, 0, none⟩), .pointer (some ⟨u + 1, 0, none⟩), .pointer (some ⟨w.heap.size, 0, none⟩)]))
    have US7 := (show Hid (Row _ _ _ _) from Row.far US7.out (p := ⟨tp, 0, none⟩) (by show _ ≠ tp; omega) (.func (.func 43) #[] #[.pointer (some ⟨w.heap.size + 1 + 1, 0, none⟩), .pointer (some ⟨tb, 0, none⟩), .pointer (some ⟨w.heap.size + 1, 0, none⟩), .pointer (some ⟨w.heap.size + 1 + 1 + 1 + 1, 0, none⟩), .pointer (some ⟨w.heap.size + 1 + 1 + 1, 0, none⟩), .pointer (some ⟨tc, 0, none⟩), .pointer (some ⟨tp, 0, none⟩), .pointer (some ⟨u + 1, 0, none⟩), .pointer (some ⟨w.heap.size, 0, none⟩)]))
    have RU7 := (show Hid (Row _ _ _ _) from Row.far RU7.out (p := ⟨tp, 0, none⟩) (by show _ ≠ tp; omega) (.func (.func 43) #[] #[.pointer (some ⟨w.heap.size + 1 + 1, 0, none⟩), .pointer (some ⟨tb, 0, none⟩), .pointer (some ⟨w.heap.size + 1, 0, none⟩), .pointer (some ⟨w.heap.size + 1 + 1 + 1 + 1, 0, none⟩), .pointer (some ⟨w.heap.size + 1 + 1 + 1, 0, none⟩), .pointer (some ⟨tc, 0, none⟩), .pointer (some ⟨tp, 0, none⟩), .pointer (some ⟨u + 1, 0, none⟩), .pointer (some ⟨w.heap.size, 0, none⟩)]))
    have HB9 : Hid (Below w.heap.size w (w8.setCell ⟨tp, 0, none⟩ (.func (.func 43) #[] #[.pointer (some ⟨w.heap.size + 1 + 1, 0, none⟩), .pointer (some ⟨tb, 0, none⟩), .pointer (some ⟨w.heap.size + 1, 0, none⟩), .pointer (some ⟨w.heap.size + 1 + 1 + 1 + 1, 0, none⟩), .pointer (some ⟨w.heap.size + 1 + 1 + 1, 0, none⟩), .pointer (some ⟨tc, 0, none⟩), .pointer (some ⟨tp, 0, none⟩), .pointer (some ⟨u + 1, 0, none⟩), .pointer (some ⟨w.heap.size, 0, none⟩)]))) := HB.out.setCell (p := ⟨tp, 0, none⟩) (by show _ ≤ tp; omega) _
    have HPS : Hid (PSt w ⟨t, ⟨HA, hn, hc, VA, vn, vc, RA, rn, rc, vs, rs⟩, r, some adq, qc, ins, hn, some adi, ic, (cn : Int)⟩ ⟨w.heap.size, w.heap.size + 1, w.heap.size + 1 + 1, w.heap.size + 1 + 1 + 1, w.heap.size + 1 + 1 + 1 + 1, tc, g, tb, u, u + 1, tp⟩ b0 (List.replicate hn false) none (w8.setCell ⟨tp, 0, none⟩ (.func (.func 43) #[] #[.pointer (some ⟨w.heap.size + 1 + 1, 0, none⟩), .pointer (some ⟨tb, 0, none⟩), .pointer (some ⟨w.heap.size + 1, 0, none⟩), .pointer (some ⟨w.heap.size + 1 + 1 + 1 + 1, 0, none⟩), .pointer (some ⟨w.heap.size + 1 + 1 + 1, 0, none⟩), .pointer (some ⟨tc, 0, none⟩), .pointer (some ⟨tp, 0, none⟩), .pointer (some ⟨u + 1, 0, none⟩), .pointer (some ⟨w.heap.size, 0, none⟩)]))) := ⟨HB9.out, RT1.out, RR1.out, RI1.out, RE1.out, RF1.out, RC3.out, BA6.out, RB5.out, US7.out, RU7.out, RP9.out⟩
    clear RB5 RT1 RR1 RI1 RE1 RF1 RC3 BA6 US7 RU7 HB HB9 RP8
    revert RP9 HPS
    generalize w8.setCell ⟨tp, 0, none⟩ (.func (.func 43) #[] #[.pointer (some ⟨w.heap.size + 1 + 1, 0, none⟩), .pointer (some ⟨tb, 0, none⟩), .pointer (some ⟨w.heap.size + 1, 0, none⟩), .pointer (some ⟨w.heap.size + 1 + 1 + 1 + 1, 0, none⟩), .pointer (some ⟨w.heap.size + 1 + 1 + 1, 0, none⟩), .pointer (some ⟨tc, 0, none⟩), .pointer (some ⟨tp, 0, none⟩), .pointer (some ⟨u + 1, 0, none⟩), .pointer (some ⟨w.heap.size, 0, none⟩)]) = w9
    intro RP9 HPS
    have HX : Hid (PHyp w ⟨t, ⟨HA, hn, hc, VA, vn, vc, RA, rn, rc, vs, rs⟩, r, some adq, qc, ins, hn, some adi, ic, (cn : Int)⟩ ⟨w.heap.size, w.heap.size + 1, w.heap.size + 1 + 1, w.heap.size + 1 + 1 + 1, w.heap.size + 1 + 1 + 1 + 1, tc, g, tb, u, u + 1, tp⟩) := ⟨⟨Nat.le_refl _, by dsimp only; omega, by dsimp only; omega, by dsimp only; omega, by dsimp only; omega, by dsimp only; omega, by dsimp only; omega, by dsimp only; omega, by dsimp only; omega, by dsimp only; omega, by dsimp only; omega⟩, H.out, HQ.out, HI.out, hm, hv40, HEL.out, ho, HST.out, hs8⟩
    have HC := Lib.hid (place_any w ⟨t, ⟨HA, hn, hc, VA, vn, vc, RA, rn, rc, vs, rs⟩, r, some adq, qc, ins, hn, some adi, ic, (cn : Int)⟩ ⟨w.heap.size, w.heap.size + 1, w.heap.size + 1 + 1, w.heap.size + 1 + 1 + 1, w.heap.size + 1 + 1 + 1 + 1, tc, g, tb, u, u + 1, tp⟩ HX.out (hn + 1) 0 b0 (List.replicate hn false) none w9 (show hn < 0 + (hn + 1) by omega) (Nat.zero_le _) HOB.out (List.length_replicate ..) HPS.out)
    dsimp only at HC
    rw [show ((0 : Nat) : Int) = 0 from rfl] at HC
    have j0 := RP9.out.cell 0
    have jl := RP9.out.lt
    simp only [List.getElem?_cons_zero, List.getElem?_cons_succ] at j0
    go_wp2_with fail
    refine HC.out.mono ?_
    rintro e w10 ⟨rfl, hp10⟩
    have RE9 := (show Hid (Row w10 (w.heap.size + 1 + 1 + 1) 3 _) from hp10.re)
    have RF9 := (show Hid (Row w10 (w.heap.size + 1 + 1 + 1 + 1) 4 _) from hp10.rf)
    have HB10 : Hid (Below w.heap.size w w10) := hp10.bel
    rw [HLI.out] at HPQ
    clear hp10 HC HX HPS RP9 j0 jl
    revert HPQ RE9 RF9
    generalize KT.placeK t r ins (cn : Int) (hn + 1) 0 b0 (List.replicate hn false) none = q
    intro HPQ RE9 RF9
    have HOV : Hid (optV q = .tuple #[.int .i64 (q.getD 0), .bool q.isSome]) := rfl
    revert HOV RE9 RF9
    generalize q.getD 0 = m
    generalize q.isSome = fb
    intro RE9 RF9 HOV
    have HSR : ∀ w', Row w' (w.heap.size + 1 + 1 + 1) 3 [.int .i64 m] → Row w' (w.heap.size + 1 + 1 + 1 + 1) 4 [.bool fb] → w'.cell? ⟨w.heap.size + 1 + 1 + 1, 0, none⟩ = some (.int .i64 m) ∧ w'.cell? ⟨w.heap.size + 1 + 1 + 1 + 1, 0, none⟩ = some (.bool fb) ∧ w'.frozen? ⟨w.heap.size + 1 + 1 + 1, 0, none⟩ = false ∧ w'.frozen? ⟨w.heap.size + 1 + 1 + 1 + 1, 0, none⟩ = false := fun w' h1 h2 => ⟨h1.cell 0, h2.cell 0, h1.frozen 0, h2.frozen 0⟩
    go_upto_region 11 with fail
    have REa := (show Hid (Row (w10.drew.setCell ⟨w.heap.size + 1 + 1 + 1, 0, none⟩ (.int .i64 m)) (w.heap.size + 1 + 1 + 1) 3 [.int .i64 m]) from Row.set (Row.drew RE9.out) 0 (.int .i64 m))
    have RFa := (show Hid (Row (w10.drew.setCell ⟨w.heap.size + 1 + 1 + 1, 0, none⟩ (.int .i64 m)) (w.heap.size + 1 + 1 + 1 + 1) 4 [.bool fb]) from Row.far (Row.drew RF9.out) (p := ⟨w.heap.size + 1 + 1 + 1, 0, none⟩) (by show w.heap.size + 1 + 1 + 1 + 1 ≠ w.heap.size + 1 + 1 + 1; omega) (.int .i64 m))
    have REb := (show Hid (Row ((w10.drew.setCell ⟨w.heap.size + 1 + 1 + 1, 0, none⟩ (.int .i64 m)).setCell ⟨w.heap.size + 1 + 1 + 1 + 1, 0, none⟩ (.bool fb)) (w.heap.size + 1 + 1 + 1) 3 [.int .i64 m]) from Row.far REa.out (p := ⟨w.heap.size + 1 + 1 + 1 + 1, 0, none⟩) (by show w.heap.size + 1 + 1 + 1 ≠ w.heap.size + 1 + 1 + 1 + 1; omega) (.bool fb))
    have RFb := (show Hid (Row ((w10.drew.setCell ⟨w.heap.size + 1 + 1 + 1, 0, none⟩ (.int .i64 m)).setCell ⟨w.heap.size + 1 + 1 + 1 + 1, 0, none⟩ (.bool fb)) (w.heap.size + 1 + 1 + 1 + 1) 4 [.bool fb]) from Row.set RFa.out 0 (.bool fb))
    go_region_held3 (fun w' => w'.cell? ⟨w.heap.size + 1 + 1 + 1, 0, none⟩ = some (.int .i64 m) ∧ w'.cell? ⟨w.heap.size + 1 + 1 + 1 + 1, 0, none⟩ = some (.bool fb) ∧ w'.frozen? ⟨w.heap.size + 1 + 1 + 1, 0, none⟩ = false ∧ w'.frozen? ⟨w.heap.size + 1 + 1 + 1 + 1, 0, none⟩ = false) (first
      | exact HSR _ RE9.out RF9.out
      | exact HSR _ REa.out RFa.out
      | exact HSR _ REb.out RFb.out) (fail)
    have HBe : Hid (Below w.heap.size w ((w10.setCell ⟨w.heap.size + 1 + 1 + 1, 0, none⟩ (.int .i64 m)).setCell ⟨w.heap.size + 1 + 1 + 1 + 1, 0, none⟩ (.bool fb)).drew) := ((HB10.out.setCell (p := ⟨w.heap.size + 1 + 1 + 1, 0, none⟩) (by show _ ≤ w.heap.size + 1 + 1 + 1; omega) _).setCell (p := ⟨w.heap.size + 1 + 1 + 1 + 1, 0, none⟩) (by show _ ≤ w.heap.size + 1 + 1 + 1 + 1; omega) _).drew
    have REc := (show Hid (Row ((w10.setCell ⟨w.heap.size + 1 + 1 + 1, 0, none⟩ (.int .i64 m)).setCell ⟨w.heap.size + 1 + 1 + 1 + 1, 0, none⟩ (.bool fb)).drew (w.heap.size + 1 + 1 + 1) 3 [.int .i64 m]) from REb.out)
    have RFc := (show Hid (Row ((w10.setCell ⟨w.heap.size + 1 + 1 + 1, 0, none⟩ (.int .i64 m)).setCell ⟨w.heap.size + 1 + 1 + 1 + 1, 0, none⟩ (.bool fb)).drew (w.heap.size + 1 + 1 + 1 + 1) 4 [.bool fb]) from RFb.out)
    clear HSR REa RFa RE9 RF9 HB10 REb RFb
    revert HBe REc RFc
    generalize ((w10.setCell ⟨w.heap.size + 1 + 1 + 1, 0, none⟩ (.int .i64 m)).setCell ⟨w.heap.size + 1 + 1 + 1 + 1, 0, none⟩ (.bool fb)).drew = w11
    intro HBe REb RFb
    have d0 := REb.out.cell 0
    have d1 := RFb.out.cell 0
    simp only [List.getElem?_cons_zero] at d0 d1
    go_wp2
    exact bodyPost_ret (v := .tuple #[.int .i64 m, .bool fb]) (by simp [results, Tryd.results31, go_sem, d0, d1]) rfl ⟨by rw [HPQ.out, HOV.out], HBe.out⟩
  · have hd0 : decide (0 ≤ c) = false := decide_eq_false hc0
    have HPQ : Hid (KT.permK t r ins = KT.placeK t r ins c (ins.length + 1) 0 KT.noneB (List.replicate ins.length false) none) := by show _ = _; rw [HPK.out, if_neg hc0]
    have HOB := Lib.hid (KT.noneB_ok t)
    have BA6 : Hid (BAt w5 g KT.noneB) := BA.out
    clear HPK BA
    obtain ⟨w6, rfl⟩ : ∃ w6 : World, w6 = w5 := ⟨_, rfl⟩
    revert HPQ HOB BA6
    generalize KT.noneB = b0
    intro HPQ HOB BA6
    have j0 := RC3.out.cell 0
    have jl := RC3.out.lt
    simp only [List.getElem?_cons_zero, List.getElem?_cons_succ] at j0
    have k0 := RI1.out.cell 0
    have kl := RI1.out.lt
    simp only [List.getElem?_cons_zero, List.getElem?_cons_succ] at k0
    go_upto_region 8 with fail
    clear j0 jl k0 kl
    have h_u := Row.lt RB5.out
    have US7 : Hid (Row (World.alloc (World.alloc w6 (.cells (likeRow (.bool false) hn) 4)) (.cells #[.slice (some ⟨w6.heap.size, 0, none⟩) hn hn] 87)) w6.heap.size 4 (bools (List.replicate hn false))) := by
      have h0 := Row.new w6 4 (List.replicate hn (.bool false))
      rw [show bools (List.replicate hn false) = List.replicate hn (.bool false) by simp [bools]]
      exact Row.alloc h0 _
    have RU7 : Hid (Row (World.alloc (World.alloc w6 (.cells (likeRow (.bool false) hn) 4)) (.cells #[.slice (some ⟨w6.heap.size, 0, none⟩) hn hn] 87)) (w6.heap.size + 1) 87 [.slice (some ⟨w6.heap.size, 0, none⟩) hn hn]) := by
      have h0 := Row.new (World.alloc w6 (.cells (likeRow (.bool false) hn) 4)) 87 [.slice (some ⟨w6.heap.size, 0, none⟩) hn hn]
      rw [World.size_alloc] at h0
      exact h0
    have RB5 := (show Hid (Row _ _ _ _) from Row.alloc (Row.alloc RB5.out (.cells (likeRow (.bool false) hn) 4)) (.cells #[.slice (some ⟨w6.heap.size, 0, none⟩) hn hn] 87))
    have RT1 := (show Hid (Row _ _ _ _) from Row.alloc (Row.alloc RT1.out (.cells (likeRow (.bool false) hn) 4)) (.cells #[.slice (some ⟨w6.heap.size, 0, none⟩) hn hn] 87))
    have RR1 := (show Hid (Row _ _ _ _) from Row.alloc (Row.alloc RR1.out (.cells (likeRow (.bool false) hn) 4)) (.cells #[.slice (some ⟨w6.heap.size, 0, none⟩) hn hn] 87))
    have RI1 := (show Hid (Row _ _ _ _) from Row.alloc (Row.alloc RI1.out (.cells (likeRow (.bool false) hn) 4)) (.cells #[.slice (some ⟨w6.heap.size, 0, none⟩) hn hn] 87))
    have RE1 := (show Hid (Row _ _ _ _) from Row.alloc (Row.alloc RE1.out (.cells (likeRow (.bool false) hn) 4)) (.cells #[.slice (some ⟨w6.heap.size, 0, none⟩) hn hn] 87))
    have RF1 := (show Hid (Row _ _ _ _) from Row.alloc (Row.alloc RF1.out (.cells (likeRow (.bool false) hn) 4)) (.cells #[.slice (some ⟨w6.heap.size, 0, none⟩) hn hn] 87))
    have RC3 := (show Hid (Row _ _ _ _) from Row.alloc (Row.alloc RC3.out (.cells (likeRow (.bool false) hn) 4)) (.cells #[.slice (some ⟨w6.heap.size, 0, none⟩) hn hn] 87))
    have BA6 := (show Hid (Row _ _ _ _) from Row.alloc (Row.alloc BA6.out (.cells (likeRow (.bool false) hn) 4)) (.cells #[.slice (some ⟨w6.heap.size, 0, none⟩) hn hn] 87))
    have HB9 : Hid (Below w.heap.size w (World.alloc (World.alloc w6 (.cells (likeRow (.bool false) hn) 4)) (.cells #[.slice (some ⟨w6.heap.size, 0, none⟩) hn hn] 87))) := by
      have h1 := HB.out.alloc HB.out.size (.cells (likeRow (.bool false) hn) 4)
      exact h1.alloc h1.size _
    clear HB
    revert h_u US7 RU7 RB5 RT1 RR1 RI1 RE1 RF1 RC3 BA6 HB9
    generalize (World.alloc (World.alloc w6 (.cells (likeRow (.bool false) hn) 4)) (.cells #[.slice (some ⟨w6.heap.size, 0, none⟩) hn hn] 87)) = w7
    generalize w6.heap.size = u
    intro h_u US7 RU7 RB5 RT1 RR1 RI1 RE1 RF1 RC3 BA6 HB
    go_upto_region 9 with fail
    have h_tp := Row.lt RU7.out
    have RP8 : Hid (Row (World.alloc w7 (.cells #[.nilFunc] 88)) w7.heap.size 88 [.nilFunc]) := Row.new w7 _ [.nilFunc]
    have RB5 := (show Hid (Row _ _ _ _) from Row.alloc RB5.out (.cells #[.nilFunc] 88))
    have RT1 := (show Hid (Row _ _ _ _) from Row.alloc RT1.out (.cells #[.nilFunc] 88))
    have RR1 := (show Hid (Row _ _ _ _) from Row.alloc RR1.out (.cells #[.nilFunc] 88))
    have RI1 := (show Hid (Row _ _ _ _) from Row.alloc RI1.out (.cells #[.nilFunc] 88))
    have RE1 := (show Hid (Row _ _ _ _) from Row.alloc RE1.out (.cells #[.nilFunc] 88))
    have RF1 := (show Hid (Row _ _ _ _) from Row.alloc RF1.out (.cells #[.nilFunc] 88))
    have RC3 := (show Hid (Row _ _ _ _) from Row.alloc RC3.out (.cells #[.nilFunc] 88))
    have BA6 := (show Hid (Row _ _ _ _) from Row.alloc BA6.out (.cells #[.nilFunc] 88))
    have US7 := (show Hid (Row _ _ _ _) from Row.alloc US7.out (.cells #[.nilFunc] 88))
    have RU7 := (show Hid (Row _ _ _ _) from Row.alloc RU7.out (.cells #[.nilFunc] 88))
    have HB9 : Hid (Below w.heap.size w (World.alloc w7 (.cells #[.nilFunc] 88))) := HB.out.alloc HB.out.size _
    clear HB
    revert h_tp RP8 RB5 RT1 RR1 RI1 RE1 RF1 RC3 BA6 US7 RU7 HB9
    generalize (World.alloc w7 (.cells #[.nilFunc] 88)) = w8
    generalize w7.heap.size = tp
    intro h_tp RP8 RB5 RT1 RR1 RI1 RE1 RF1 RC3 BA6 US7 RU7 HB9
    have HB := HB9
    clear HB9
    have z_p := RP8.out.frozen 0
    have j_p := RP8.out.cell 0
    simp only [List.getElem?_cons_zero] at j_p
    have l_p := RP8.out.lt
    go_upto_region 10 with fail
    clear z_p j_p l_p
    have RP9 := (show Hid (Row (w8.setCell ⟨tp, 0, none⟩ (.func (.func 43) #[] #[.pointer (some ⟨w.heap.size + 1 + 1, 0, none⟩), .pointer (some ⟨tb, 0, none⟩), .pointer (some ⟨w.heap.size + 1, 0, none⟩), .pointer (some ⟨w.heap.size + 1 + 1 + 1 + 1, 0, none⟩), .pointer (some ⟨w.heap.size + 1 + 1 + 1, 0, none⟩), .pointer (some ⟨tc, 0, none⟩), .pointer (some ⟨tp, 0, none⟩), .pointer (some ⟨u + 1, 0, none⟩), .pointer (some ⟨w.heap.size, 0, none⟩)])) tp 88 [(.func (.func 43) #[] #[.pointer (some ⟨w.heap.size + 1 + 1, 0, none⟩), .pointer (some ⟨tb, 0, none⟩), .pointer (some ⟨w.heap.size + 1, 0, none⟩), .pointer (some ⟨w.heap.size + 1 + 1 + 1 + 1, 0, none⟩), .pointer (some ⟨w.heap.size + 1 + 1 + 1, 0, none⟩), .pointer (some ⟨tc, 0, none⟩), .pointer (some ⟨tp, 0, none⟩), .pointer (some ⟨u + 1, 0, none⟩), .pointer (some ⟨w.heap.size, 0, none⟩)])]) from Row.set RP8.out 0 (.func (.func 43) #[] #[.pointer (some ⟨w.heap.size + 1 + 1, 0, none⟩), .pointer (some ⟨tb, 0, none⟩), .pointer (some ⟨w.heap.size + 1, 0, none⟩), .pointer (some ⟨w.heap.size + 1 + 1 + 1 + 1, 0, none⟩), .pointer (some ⟨w.heap.size + 1 + 1 + 1, 0, none⟩), .pointer (some ⟨tc, 0, none⟩), .pointer (some ⟨tp, 0, none⟩), .pointer (some ⟨u + 1, 0, none⟩), .pointer (some ⟨w.heap.size, 0, none⟩)]))
    have RB5 := (show Hid (Row _ _ _ _) from Row.far RB5.out (p := ⟨tp, 0, none⟩) (by show _ ≠ tp; omega) (.func (.func 43) #[] #[.pointer (some ⟨w.heap.size + 1 + 1, 0, none⟩), .pointer (some ⟨tb, 0, none⟩), .pointer (some ⟨w.heap.size + 1, 0, none⟩), .pointer (some ⟨w.heap.size + 1 + 1 + 1 + 1, 0, none⟩), .pointer (some ⟨w.heap.size + 1 + 1 + 1, 0, none⟩), .pointer (some ⟨tc, 0, none⟩), .pointer (some ⟨tp, 0, none⟩), .pointer (some ⟨u + 1, 0, none⟩), .pointer (some ⟨w.heap.size, 0, none⟩)]))
    have RT1 := (show Hid (Row _ _ _ _) from Row.far RT1.out (p := ⟨tp, 0, none⟩) (by show _ ≠ tp; omega) (.func (.func 43) #[] #[.pointer (some ⟨w.heap.size + 1 + 1, 0, none⟩), .pointer (some ⟨tb, 0, none⟩), .pointer (some ⟨w.heap.size + 1, 0, none⟩), .pointer (some ⟨w.heap.size + 1 + 1 + 1 + 1, 0, none⟩), .pointer (some ⟨w.heap.size + 1 + 1 + 1, 0, none⟩), .pointer (some ⟨tc, 0, none⟩), .pointer (some ⟨tp, 0, none⟩), .pointer (some ⟨u + 1, 0, none⟩), .pointer (some ⟨w.heap.size, 0, none⟩)]))
    have RR1 := (show Hid (Row _ _ _ _) from Row.far RR1.out (p := ⟨tp, 0, none⟩) (by show _ ≠ tp; omega) (.func (.func 43) #[] #[.pointer (some ⟨w.heap.size + 1 + 1, 0, none⟩), .pointer (some ⟨tb, 0, none⟩), .pointer (some ⟨w.heap.size + 1, 0, none⟩), .pointer (some ⟨w.heap.size + 1 + 1 + 1 + 1, 0, none⟩), .pointer (some ⟨w.heap.size + 1 + 1 + 1, 0, none⟩), .pointer (some ⟨tc, 0, none⟩), .pointer (some ⟨tp, 0, none⟩), .pointer (some ⟨u + 1, 0, none⟩), .pointer (some ⟨w.heap.size, 0, none⟩)]))
    have RI1 := (show Hid (Row _ _ _ _) from Row.far RI1.out (p := ⟨tp, 0, none⟩) (by show _ ≠ tp; omega) (.func (.func 43) #[] #[.pointer (some ⟨w.heap.size + 1 + 1, 0, none⟩), .pointer (some ⟨tb, 0, none⟩), .pointer (some ⟨w.heap.size + 1, 0, none⟩), .pointer (some ⟨w.heap.size + 1 + 1 + 1 + 1, 0, none⟩), .pointer (some ⟨w.heap.size + 1 + 1 + 1, 0, none⟩), .pointer (some ⟨tc, 0, none⟩), .pointer (some ⟨tp, 0, none⟩), .pointer (some ⟨u + 1, 0, none⟩), .pointer (some ⟨w.heap.size, 0, none⟩)]))
    have RE1 := (show Hid (Row _ _ _ _) from Row.far RE1.out (p := ⟨tp, 0, none⟩) (by show _ ≠ tp; omega) (.func (.func 43) #[] #[.pointer (some ⟨w.heap.size + 1 + 1, 0, none⟩), .pointer (some ⟨tb, 0, none⟩), .pointer (some ⟨w.heap.size + 1, 0, none⟩), .pointer (some ⟨w.heap.size + 1 + 1 + 1 + 1, 0, none⟩), .pointer (some ⟨w.heap.size + 1 + 1 + 1, 0, none⟩), .pointer (some ⟨tc, 0, none⟩), .pointer (some ⟨tp, 0, none⟩), .pointer (some ⟨u + 1, 0, none⟩), .pointer (some ⟨w.heap.size, 0, none⟩)]))
    have RF1 := (show Hid (Row _ _ _ _) from Row.far RF1.out (p := ⟨tp, 0, none⟩) (by show _ ≠ tp; omega) (.func (.func 43) #[] #[.pointer (some ⟨w.heap.size + 1 + 1, 0, none⟩), .pointer (some ⟨tb, 0, none⟩), .pointer (some ⟨w.heap.size + 1, 0, none⟩), .pointer (some ⟨w.heap.size + 1 + 1 + 1 + 1, 0, none⟩), .pointer (some ⟨w.heap.size + 1 + 1 + 1, 0, none⟩), .pointer (some ⟨tc, 0, none⟩), .pointer (some ⟨tp, 0, none⟩), .pointer (some ⟨u + 1, 0, none⟩), .pointer (some ⟨w.heap.size, 0, none⟩)]))
    have RC3 := (show Hid (Row _ _ _ _) from Row.far RC3.out (p := ⟨tp, 0, none⟩) (by show _ ≠ tp; omega) (.func (.func 43) #[] #[.pointer (some ⟨w.heap.size + 1 + 1, 0, none⟩), .pointer (some ⟨tb, 0, none⟩), .pointer (some ⟨w.heap.size + 1, 0, none⟩), .pointer (some ⟨w.heap.size + 1 + 1 + 1 + 1, 0, none⟩), .pointer (some ⟨w.heap.size + 1 + 1 + 1, 0, none⟩), .pointer (some ⟨tc, 0, none⟩), .pointer (some ⟨tp, 0, none⟩), .pointer (some ⟨u + 1, 0, none⟩), .pointer (some ⟨w.heap.size, 0, none⟩)]))
    have BA6 := (show Hid (Row _ _ _ _) from Row.far BA6.out (p := ⟨tp, 0, none⟩) (by show _ ≠ tp; omega) (.func (.func 43) #[] #[.pointer (some ⟨w.heap.size + 1 + 1, 0, none⟩), .pointer (some ⟨tb, 0, none⟩), .pointer (some ⟨w.heap.size + 1, 0, none⟩), .pointer (some ⟨w.heap.size + 1 + 1 + 1 + 1, 0, none⟩), .pointer (some ⟨w.heap.size + 1 + 1 + 1, 0, none⟩), .pointer (some ⟨tc, 0, none⟩), .pointer (some ⟨tp, 0, none⟩), .pointer (some ⟨u + 1, 0, none⟩), .pointer (some ⟨w.heap.size, 0, none⟩)]))
    have US7 := (show Hid (Row _ _ _ _) from Row.far US7.out (p := ⟨tp, 0, none⟩) (by show _ ≠ tp; omega) (.func (.func 43) #[] #[.pointer (some ⟨w.heap.size + 1 + 1, 0, none⟩), .pointer (some ⟨tb, 0, none⟩), .pointer (some ⟨w.heap.size + 1, 0, none⟩), .pointer (some ⟨w.heap.size + 1 + 1 + 1 + 1, 0, none⟩), .pointer (some ⟨w.heap.size + 1 + 1 + 1, 0, none⟩), .pointer (some ⟨tc, 0, none⟩), .pointer (some ⟨tp, 0, none⟩), .pointer (some ⟨u + 1, 0, none⟩), .pointer (some ⟨w.heap.size, 0, none⟩)]))
    have RU7 := (show Hid (Row _ _ _ _) from Row.far RU7.out (p := ⟨tp, 0, none⟩) (by show _ ≠ tp; omega) (.func (.func 43) #[] #[.pointer (some ⟨w.heap.size + 1 + 1, 0, none⟩), .pointer (some ⟨tb, 0, none⟩), .pointer (some ⟨w.heap.size + 1, 0, none⟩), .pointer (some ⟨w.heap.size + 1 + 1 + 1 + 1, 0, none⟩), .pointer (some ⟨w.heap.size + 1 + 1 + 1, 0, none⟩), .pointer (some ⟨tc, 0, none⟩), .pointer (some ⟨tp, 0, none⟩), .pointer (some ⟨u + 1, 0, none⟩), .pointer (some ⟨w.heap.size, 0, none⟩)]))
    have HB9 : Hid (Below w.heap.size w (w8.setCell ⟨tp, 0, none⟩ (.func (.func 43) #[] #[.pointer (some ⟨w.heap.size + 1 + 1, 0, none⟩), .pointer (some ⟨tb, 0, none⟩), .pointer (some ⟨w.heap.size + 1, 0, none⟩), .pointer (some ⟨w.heap.size + 1 + 1 + 1 + 1, 0, none⟩), .pointer (some ⟨w.heap.size + 1 + 1 + 1, 0, none⟩), .pointer (some ⟨tc, 0, none⟩), .pointer (some ⟨tp, 0, none⟩), .pointer (some ⟨u + 1, 0, none⟩), .pointer (some ⟨w.heap.size, 0, none⟩)]))) := HB.out.setCell (p := ⟨tp, 0, none⟩) (by show _ ≤ tp; omega) _
    have HPS : Hid (PSt w ⟨t, ⟨HA, hn, hc, VA, vn, vc, RA, rn, rc, vs, rs⟩, r, qa, qc, ins, hn, IA, ic, c⟩ ⟨w.heap.size, w.heap.size + 1, w.heap.size + 1 + 1, w.heap.size + 1 + 1 + 1, w.heap.size + 1 + 1 + 1 + 1, tc, g, tb, u, u + 1, tp⟩ b0 (List.replicate hn false) none (w8.setCell ⟨tp, 0, none⟩ (.func (.func 43) #[] #[.pointer (some ⟨w.heap.size + 1 + 1, 0, none⟩), .pointer (some ⟨tb, 0, none⟩), .pointer (some ⟨w.heap.size + 1, 0, none⟩), .pointer (some ⟨w.heap.size + 1 + 1 + 1 + 1, 0, none⟩), .pointer (some ⟨w.heap.size + 1 + 1 + 1, 0, none⟩), .pointer (some ⟨tc, 0, none⟩), .pointer (some ⟨tp, 0, none⟩), .pointer (some ⟨u + 1, 0, none⟩), .pointer (some ⟨w.heap.size, 0, none⟩)]))) := ⟨HB9.out, RT1.out, RR1.out, RI1.out, RE1.out, RF1.out, RC3.out, BA6.out, RB5.out, US7.out, RU7.out, RP9.out⟩
    clear RB5 RT1 RR1 RI1 RE1 RF1 RC3 BA6 US7 RU7 HB HB9 RP8
    revert RP9 HPS
    generalize w8.setCell ⟨tp, 0, none⟩ (.func (.func 43) #[] #[.pointer (some ⟨w.heap.size + 1 + 1, 0, none⟩), .pointer (some ⟨tb, 0, none⟩), .pointer (some ⟨w.heap.size + 1, 0, none⟩), .pointer (some ⟨w.heap.size + 1 + 1 + 1 + 1, 0, none⟩), .pointer (some ⟨w.heap.size + 1 + 1 + 1, 0, none⟩), .pointer (some ⟨tc, 0, none⟩), .pointer (some ⟨tp, 0, none⟩), .pointer (some ⟨u + 1, 0, none⟩), .pointer (some ⟨w.heap.size, 0, none⟩)]) = w9
    intro RP9 HPS
    have HX : Hid (PHyp w ⟨t, ⟨HA, hn, hc, VA, vn, vc, RA, rn, rc, vs, rs⟩, r, qa, qc, ins, hn, IA, ic, c⟩ ⟨w.heap.size, w.heap.size + 1, w.heap.size + 1 + 1, w.heap.size + 1 + 1 + 1, w.heap.size + 1 + 1 + 1 + 1, tc, g, tb, u, u + 1, tp⟩) := ⟨⟨Nat.le_refl _, by dsimp only; omega, by dsimp only; omega, by dsimp only; omega, by dsimp only; omega, by dsimp only; omega, by dsimp only; omega, by dsimp only; omega, by dsimp only; omega, by dsimp only; omega, by dsimp only; omega⟩, H.out, HQ.out, HI.out, hm, hv40, HEL.out, ho, HST.out, hs8⟩
    have HC := Lib.hid (place_any w ⟨t, ⟨HA, hn, hc, VA, vn, vc, RA, rn, rc, vs, rs⟩, r, qa, qc, ins, hn, IA, ic, c⟩ ⟨w.heap.size, w.heap.size + 1, w.heap.size + 1 + 1, w.heap.size + 1 + 1 + 1, w.heap.size + 1 + 1 + 1 + 1, tc, g, tb, u, u + 1, tp⟩ HX.out (hn + 1) 0 b0 (List.replicate hn false) none w9 (show hn < 0 + (hn + 1) by omega) (Nat.zero_le _) HOB.out (List.length_replicate ..) HPS.out)
    dsimp only at HC
    rw [show ((0 : Nat) : Int) = 0 from rfl] at HC
    have j0 := RP9.out.cell 0
    have jl := RP9.out.lt
    simp only [List.getElem?_cons_zero, List.getElem?_cons_succ] at j0
    go_wp2_with fail
    refine HC.out.mono ?_
    rintro e w10 ⟨rfl, hp10⟩
    have RE9 := (show Hid (Row w10 (w.heap.size + 1 + 1 + 1) 3 _) from hp10.re)
    have RF9 := (show Hid (Row w10 (w.heap.size + 1 + 1 + 1 + 1) 4 _) from hp10.rf)
    have HB10 : Hid (Below w.heap.size w w10) := hp10.bel
    rw [HLI.out] at HPQ
    clear hp10 HC HX HPS RP9 j0 jl
    revert HPQ RE9 RF9
    generalize KT.placeK t r ins c (hn + 1) 0 b0 (List.replicate hn false) none = q
    intro HPQ RE9 RF9
    have HOV : Hid (optV q = .tuple #[.int .i64 (q.getD 0), .bool q.isSome]) := rfl
    revert HOV RE9 RF9
    generalize q.getD 0 = m
    generalize q.isSome = fb
    intro RE9 RF9 HOV
    have HSR : ∀ w', Row w' (w.heap.size + 1 + 1 + 1) 3 [.int .i64 m] → Row w' (w.heap.size + 1 + 1 + 1 + 1) 4 [.bool fb] → w'.cell? ⟨w.heap.size + 1 + 1 + 1, 0, none⟩ = some (.int .i64 m) ∧ w'.cell? ⟨w.heap.size + 1 + 1 + 1 + 1, 0, none⟩ = some (.bool fb) ∧ w'.frozen? ⟨w.heap.size + 1 + 1 + 1, 0, none⟩ = false ∧ w'.frozen? ⟨w.heap.size + 1 + 1 + 1 + 1, 0, none⟩ = false := fun w' h1 h2 => ⟨h1.cell 0, h2.cell 0, h1.frozen 0, h2.frozen 0⟩
    go_upto_region 11 with fail
    have REa := (show Hid (Row (w10.drew.setCell ⟨w.heap.size + 1 + 1 + 1, 0, none⟩ (.int .i64 m)) (w.heap.size + 1 + 1 + 1) 3 [.int .i64 m]) from Row.set (Row.drew RE9.out) 0 (.int .i64 m))
    have RFa := (show Hid (Row (w10.drew.setCell ⟨w.heap.size + 1 + 1 + 1, 0, none⟩ (.int .i64 m)) (w.heap.size + 1 + 1 + 1 + 1) 4 [.bool fb]) from Row.far (Row.drew RF9.out) (p := ⟨w.heap.size + 1 + 1 + 1, 0, none⟩) (by show w.heap.size + 1 + 1 + 1 + 1 ≠ w.heap.size + 1 + 1 + 1; omega) (.int .i64 m))
    have REb := (show Hid (Row ((w10.drew.setCell ⟨w.heap.size + 1 + 1 + 1, 0, none⟩ (.int .i64 m)).setCell ⟨w.heap.size + 1 + 1 + 1 + 1, 0, none⟩ (.bool fb)) (w.heap.size + 1 + 1 + 1) 3 [.int .i64 m]) from Row.far REa.out (p := ⟨w.heap.size + 1 + 1 + 1 + 1, 0, none⟩) (by show w.heap.size + 1 + 1 + 1 ≠ w.heap.size + 1 + 1 + 1 + 1; omega) (.bool fb))
    have RFb := (show Hid (Row ((w10.drew.setCell ⟨w.heap.size + 1 + 1 + 1, 0, none⟩ (.int .i64 m)).setCell ⟨w.heap.size + 1 + 1 + 1 + 1, 0, none⟩ (.bool fb)) (w.heap.size + 1 + 1 + 1 + 1) 4 [.bool fb]) from Row.set RFa.out 0 (.bool fb))
    go_region_held3 (fun w' => w'.cell? ⟨w.heap.size + 1 + 1 + 1, 0, none⟩ = some (.int .i64 m) ∧ w'.cell? ⟨w.heap.size + 1 + 1 + 1 + 1, 0, none⟩ = some (.bool fb) ∧ w'.frozen? ⟨w.heap.size + 1 + 1 + 1, 0, none⟩ = false ∧ w'.frozen? ⟨w.heap.size + 1 + 1 + 1 + 1, 0, none⟩ = false) (first
      | exact HSR _ RE9.out RF9.out
      | exact HSR _ REa.out RFa.out
      | exact HSR _ REb.out RFb.out) (fail)
    have HBe : Hid (Below w.heap.size w ((w10.setCell ⟨w.heap.size + 1 + 1 + 1, 0, none⟩ (.int .i64 m)).setCell ⟨w.heap.size + 1 + 1 + 1 + 1, 0, none⟩ (.bool fb)).drew) := ((HB10.out.setCell (p := ⟨w.heap.size + 1 + 1 + 1, 0, none⟩) (by show _ ≤ w.heap.size + 1 + 1 + 1; omega) _).setCell (p := ⟨w.heap.size + 1 + 1 + 1 + 1, 0, none⟩) (by show _ ≤ w.heap.size + 1 + 1 + 1 + 1; omega) _).drew
    have REc := (show Hid (Row ((w10.setCell ⟨w.heap.size + 1 + 1 + 1, 0, none⟩ (.int .i64 m)).setCell ⟨w.heap.size + 1 + 1 + 1 + 1, 0, none⟩ (.bool fb)).drew (w.heap.size + 1 + 1 + 1) 3 [.int .i64 m]) from REb.out)
    have RFc := (show Hid (Row ((w10.setCell ⟨w.heap.size + 1 + 1 + 1, 0, none⟩ (.int .i64 m)).setCell ⟨w.heap.size + 1 + 1 + 1 + 1, 0, none⟩ (.bool fb)).drew (w.heap.size + 1 + 1 + 1 + 1) 4 [.bool fb]) from RFb.out)
    clear HSR REa RFa RE9 RF9 HB10 REb RFb
    revert HBe REc RFc
    generalize ((w10.setCell ⟨w.heap.size + 1 + 1 + 1, 0, none⟩ (.int .i64 m)).setCell ⟨w.heap.size + 1 + 1 + 1 + 1, 0, none⟩ (.bool fb)).drew = w11
    intro HBe REb RFb
    have d0 := REb.out.cell 0
    have d1 := RFb.out.cell 0
    simp only [List.getElem?_cons_zero] at d0 d1
    go_wp2
    exact bodyPost_ret (v := .tuple #[.int .i64 m, .bool fb]) (by simp [results, Tryd.results31, go_sem, d0, d1]) rfl ⟨by rw [HPQ.out, HOV.out], HBe.out⟩
end Go.Proofs.YtlmdjkmcplobnaaDoor

