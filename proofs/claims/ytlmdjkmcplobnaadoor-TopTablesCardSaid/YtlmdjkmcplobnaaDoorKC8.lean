/-
  A region that draws its order: two operations are ready, each may come first. Any program.
-/
import Derived.Test.YtlmdjkmcplobnaaDoorKC3
import Derived.Test.YtlmdjkmcplobnaaDoorKC7
import Derived.Test.YtlmdjkmcplobnaaDoorKC4
import Derived.BigQuiet
import Derived.Test.YtlmdjkmcplobnaaDoorKC6
import Derived.Deep.RegionHeld3
import Derived.StillTailTactics
import Derived.Deep.Cut
namespace Go.Proofs.YtlmdjkmcplobnaaDoor
open Go.RowKit
set_option linter.unusedSimpArgs false
set_option linter.unusedVariables false
section
variable {P : Program} {ops : Array Oper} {Q : Exit → Act → World → Prop} {md : Region.Mode} {S : World → Prop} {W : List Nat}
theorem restL_two {i j : Nat} {o p : Oper} {f : Nat} {lst : Array Bool} {a : Act} {w : World} (hr : Region.ready md ops lst = [i, j]) (ho : ops[i]? = some o) (hp : ops[j]? = some p)
    (h : ∀ K' : Act → World → Prop, Shut (∀ b u, (W.contains i = false → S u) → ((W.contains i = false → S u) → restL P md ops Q S W f (lst.setIfInBounds i true) b u) → K' b u) → if Region.wanted o (yielded ops a.tmps) = true then Oper.wp P o a w K' Q else K' (a.put o.dst undef) w)
    (h2 : ∀ K' : Act → World → Prop, Shut (∀ b u, (W.contains j = false → S u) → ((W.contains j = false → S u) → restL P md ops Q S W f (lst.setIfInBounds j true) b u) → K' b u) → if Region.wanted p (yielded ops a.tmps) = true then Oper.wp P p a w K' Q else K' (a.put p.dst undef) w) :
    restL P md ops Q S W (f + 1) lst a w := by
  intro hc
  refine And.intro (fun h0 => absurd (hr.symm.trans h0) (by simp)) (fun k hk => ?_)
  have hc' := hc.set hk
  rw [hr] at hk
  rcases List.mem_cons.1 hk with e | hk
  · subst e
    exact wpOp_step ho (fun K' hK => h K' (fun b u hS hW => hK b u ⟨fun e _ => hS e, hW hS hc'⟩))
  · obtain rfl := List.mem_singleton.1 hk
    exact wpOp_step hp (fun K' hK => h2 K' (fun b u hS hW => hK b u ⟨fun e _ => hS e, hW hS hc'⟩))
end
end Go.Proofs.YtlmdjkmcplobnaaDoor

/-
  hood.Syms, hood.Centre, ruletable.permits, walked.
-/
namespace Go.Proofs.YtlmdjkmcplobnaaDoor
open Go.RowKit
set_option linter.unusedSimpArgs false
set_option linter.unusedVariables false
/-- What Syms leaves: a list of symmetries. -/
def SymsPost (l : List Pt) (w : World) (e : Ending) (w' : World) : Prop :=
  ∃ (SA : Option Addr) (sn sc : Nat), e = .returned (.slice SA sn sc) ∧ Rd w' w'.heap.size 1 SA sn (ints ((KT.symsL l).map fun (k : Nat) => (k : Int))) ∧ sn = (KT.symsL l).length ∧ Below w.heap.size w w'
theorem int_infoK : (Tryd.prog.info? 3).map (fun i => (i.zero, i.size, i.bytes)) = some (some (.int .i64 0), 1, 8) := by kernel_rfl
theorem hood_pts {l : List Pt} (h : hoodOk l = true) : ∀ p ∈ l, ptOk p = true := fun p hp => by
  unfold hoodOk hoodPts at h
  simp only [Bool.and_eq_true, decide_eq_true_eq] at h
  obtain ⟨k, hk, rfl⟩ := List.getElem_of_mem hp
  have := (h.2 k hk).1
  rwa [List.getD_eq_getElem?_getD, List.getElem?_eq_getElem hk] at this
set_option maxHeartbeats 1000000 in
theorem symsPred_any (l : List Pt) (k : Nat) (hk : k < 8) (p : Pt) (lb kb : Nat) (A : Option Addr) (n c : Nat) (w : World) (hm : MatAt w) (hp : ptOk p = true) (hr : Rd w w.heap.size 2 A n (hoodCells l)) (hbig : n ≤ 9223372036854775807)
    (c0 : w.cell? ⟨lb, 0, none⟩ = some (.slice A n c)) (c1 : w.cell? ⟨kb, 0, none⟩ = some (.int .i64 (k : Int))) :
    Calls Tryd.prog 50 #[.agg #[.int .i64 p.x, .int .i64 p.y], .pointer (some ⟨lb, 0, none⟩), .pointer (some ⟨kb, 0, none⟩)] w fun e w' => e = .returned (.bool (!KT.hasPt l (KT.applyS k p))) ∧ Below w.heap.size w w' := by
  have HR := Lib.hid hr
  have hl0 : lb < w.heap.size := World.block_lt_of_cell? w ⟨lb, 0, none⟩ c0
  have hk0 : kb < w.heap.size := World.block_lt_of_cell? w ⟨kb, 0, none⟩ c1
  have HM := Lib.hid hm
  clear hr hm
  go_enter Tryd.func50, Tryd.ntmps50
  go_upto_region 1 with fail
  have HB1 : Hid (Below w.heap.size w (World.alloc w (.cells #[.int .i64 p.x, .int .i64 p.y] 70))) := (show Below _ _ _ by go_grown)
  have RP0 : Hid (Row (World.alloc w (.cells #[.int .i64 p.x, .int .i64 p.y] 70)) w.heap.size 70 [.int .i64 p.x, .int .i64 p.y]) := Row.new w _ [.int .i64 p.x, .int .i64 p.y]
  revert HB1 RP0
  generalize World.alloc w (.cells #[.int .i64 p.x, .int .i64 p.y] 70) = w1
  intro HB1 RP0
  have c0 := (HB1.out.cell (p := ⟨lb, 0, none⟩) hl0).trans c0
  have c1 := (HB1.out.cell (p := ⟨kb, 0, none⟩) hk0).trans c1
  have hl1 : lb < w1.heap.size := Nat.lt_of_lt_of_le hl0 HB1.out.size
  have hk1 : kb < w1.heap.size := Nat.lt_of_lt_of_le hk0 HB1.out.size
  have HM1 := Lib.hid (HM.out.up HB1.out)
  have k0 := RP0.out.cell 0
  have k1 := RP0.out.cell 1
  have kl := RP0.out.lt
  simp only [List.getElem?_cons_zero, List.getElem?_cons_succ] at k0 k1
  refine wp_region_L (fun w' => w'.cell? ⟨lb, 0, none⟩ = some (.slice A n c) ∧ w'.cell? ⟨kb, 0, none⟩ = some (.int .i64 (k : Int)) ∧ w'.cell? ⟨w.heap.size, 0, none⟩ = some (.int .i64 p.x) ∧ w'.cell? ⟨w.heap.size, 1, none⟩ = some (.int .i64 p.y)) [4] (by kernel_rfl) (by exact ⟨c0, c1, k0, k1⟩) (fun hHeld => ?_)
  refine restL_take (i := 0) (v := ?va1) [[4]] rfl (by kernel_rfl) (by kernel_rfl) (by kernel_rfl) (by kernel_rfl) (fun _ _ _ h => h) (Or.inl ⟨by rfl, ?ya1⟩) hHeld ?ra1
  case ya1 =>
    intro w' hSw
    obtain ⟨q0, q1, q2, q3⟩ := hSw
    go_simp
    try (with_reducible rfl)
  go_simp
  refine restL_take (i := 1) (v := ?va2) [[4, 3]] rfl (by kernel_rfl) (by kernel_rfl) (by kernel_rfl) (by kernel_rfl) (fun _ _ _ h => h) (Or.inl ⟨by rfl, ?ya2⟩) hHeld ?ra2
  case ya2 =>
    intro w' hSw
    obtain ⟨q0, q1, q2, q3⟩ := hSw
    go_simp
    try (with_reducible rfl)
  go_simp
  refine restL_take (i := 2) (v := ?va3) [[4, 3]] rfl (by kernel_rfl) (by kernel_rfl) (by kernel_rfl) (by kernel_rfl) (fun _ _ _ h => h) (Or.inl ⟨by rfl, ?ya3⟩) hHeld ?ra3
  case ya3 =>
    intro w' hSw
    obtain ⟨q0, q1, q2, q3⟩ := hSw
    go_simp
    try (with_reducible rfl)
  go_simp
  refine restL_one (i := 3) (by kernel_rfl) rfl (fun K hK => ?_)
  go_simp
  go_at_call 45
  refine (apply_any k hk p _ (by exact HM1.out) hp).mono ?_
  rintro e w3 ⟨rfl, hb3⟩
  have hb3 : Below w1.heap.size w1 w3 := (Below.refl w1.heap.size w1).drew.trans hb3
  have HB3 : Hid (Below w.heap.size w w3) := HB1.out.trans (hb3.mono HB1.out.size)
  have S3 : Hid (w3.cell? ⟨lb, 0, none⟩ = some (.slice A n c) ∧ w3.cell? ⟨kb, 0, none⟩ = some (.int .i64 (k : Int)) ∧ w3.cell? ⟨w.heap.size, 0, none⟩ = some (.int .i64 p.x) ∧ w3.cell? ⟨w.heap.size, 1, none⟩ = some (.int .i64 p.y)) := And.intro ((hb3.cell (p := ⟨lb, 0, none⟩) hl1).trans c0) (And.intro ((hb3.cell (p := ⟨kb, 0, none⟩) hk1).trans c1) (And.intro ((hb3.cell (p := ⟨w.heap.size, 0, none⟩) kl).trans k0) ((hb3.cell (p := ⟨w.heap.size, 1, none⟩) kl).trans k1)))
  clear hb3
  refine hK.out _ _ (fun _ => ?keep) (fun hHeld => ?_)
  case keep => exact S3.out
  have hHeld := hHeld rfl
  clear hK K
  try go_simp
  refine restL_one (i := 4) (by kernel_rfl) rfl (fun K hK => ?_)
  go_simp
  go_at_call 51
  refine (contains_pts A n c l (KT.applyS k p) _ (by exact HR.out.up HB3.out) hbig).mono ?_
  rintro e w4 ⟨rfl, hb4⟩
  have HB4 : Hid (Below w.heap.size w w4) := HB3.out.trans (hb4.mono HB3.out.size)
  clear hb4
  refine hK.out _ _ (fun h => absurd h (by decide)) (fun _ => ?_)
  clear hK K
  try go_simp
  refine restL_pure (i := 5) (v := ?va4) rfl (by kernel_rfl) (by kernel_rfl) (by kernel_rfl) (fun _ _ _ h => h) (Or.inl ⟨by rfl, ?ya4⟩) ?ra4
  case ya4 => intro w' hSw; clear hSw; go_simp; try (with_reducible rfl)
  go_simp
  refine restL_pure (i := 6) (v := ?va5) rfl (by kernel_rfl) (by kernel_rfl) (by kernel_rfl) (fun _ _ _ h => h) (Or.inl ⟨by rfl, ?ya5⟩) ?ra5
  case ya5 => intro w' hSw; clear hSw; go_simp; try (with_reducible rfl)
  go_simp
  refine restL_done (by kernel_rfl) ?_ _
  go_wp2
  go_ret
  exact ⟨rfl, HB4.out⟩
set_option maxRecDepth 100000 in
set_option maxHeartbeats 1000000 in
theorem syms_any (l : List Pt) (A : Option Addr) (n c : Nat) (w : World) (hr : Rd w w.heap.size 2 A n (hoodCells l)) (hm : n ≤ maxLen) (hmat : MatAt w) :
    Calls Tryd.prog 39 #[.slice A n c] w (SymsPost l w) := by
  have HR := Lib.hid hr
  have HM := Lib.hid hmat
  have hmf : ∀ (fn : Fn) (first cap : Array Value) (w : World), (Instr.makeFunc fn first cap).run Tryd.prog w = .ok (.func fn first cap) w := fun _ _ _ _ => rfl
  have hbig : n ≤ 9223372036854775807 := by unfold maxLen at hm; omega
  clear hr hmat
  go_enter Tryd.func39, Tryd.ntmps39
  go_upto_region 1 with fail
  have HB1 : Hid (Below w.heap.size w (World.alloc w (.cells #[.slice A n c] 22))) := (show Below _ _ _ by go_grown)
  have RL0 : Hid (Row (World.alloc w (.cells #[.slice A n c] 22)) w.heap.size 22 [.slice A n c]) := Row.new w _ [.slice A n c]
  revert HB1 RL0
  generalize World.alloc w (.cells #[.slice A n c] 22) = w1
  intro HB1 RL0
  have k0 := RL0.out.cell 0
  have kl := RL0.out.lt
  simp only [List.getElem?_cons_zero, List.getElem?_cons_succ] at k0
  have HC := hoodRight_any l A n c w1 (HR.out.up HB1.out) hm
  cases hh : hoodOk l with
  | false =>
    rw [hh] at HC
    have HS : Hid (∀ _ : Unit, KT.symsL l = []) := fun _ => by unfold KT.symsL; rw [hh]; rfl
    clear hh
    go_wp2_with fail
    refine HC.mono ?_
    clear HC
    rintro e w2 ⟨rfl, hb2⟩
    go_wp2
    go_ret
    refine ⟨none, 0, 0, rfl, ?_, ?_, HB1.out.trans (hb2.mono HB1.out.size)⟩
    · rw [HS.out ()]; exact Rd.empty _
    · rw [HS.out ()]; rfl
  | true =>
    rw [hh] at HC
    have HS : Hid (∀ _ : Unit, KT.symsL l = (List.range 8).filter (KT.mapsTo l)) := fun _ => by unfold KT.symsL; rw [hh]; rfl
    have HPT := Lib.hid (hood_pts hh)
    clear hh
    go_wp2_with fail
    refine HC.mono ?_
    clear HC
    rintro e w2 ⟨rfl, hb2⟩
    have HB2 : Hid (Below w.heap.size w w2) := HB1.out.trans (hb2.mono HB1.out.size)
    have RL2 : Hid (Row w2 w.heap.size 22 [.slice A n c]) := rowCells RL0.out hb2
    clear hb2 k0 kl HB1 RL0
    go_wp2_with fail
    go_loopg [3, 4, 8] 8 (fun gg s3 _ s8 wr => ∃ (i cc : Nat) (CA : Option Addr), i ≤ 8 ∧ 8 - i ≤ gg ∧ s8 = .int .i64 (i : Int) ∧ s3 = .slice CA ((List.range i).filter (KT.mapsTo l)).length cc ∧ Aside (wr.ownsRow (w.heap.size + 1) 3 1 (.slice CA ((List.range i).filter (KT.mapsTo l)).length cc) ((List.range i).filter (KT.mapsTo l)).length (ints (((List.range i).filter (KT.mapsTo l)).map fun (k : Nat) => (k : Int))) ∧ Below w.heap.size w wr ∧ Row wr w.heap.size 22 [.slice A n c]))
    case atStart => exact ⟨0, 0, none, by omega, by omega, rfl, rfl, World.ownsRow_nil _ _ _ _, HB2.out, RL2.out⟩
    case round =>
      obtain ⟨i, cc, CA, hi, hgg, rfl, rfl, hv⟩ := hrel
      have HO := Lib.hid hv.out.1
      have HB := Lib.hid hv.out.2.1
      have RL := Lib.hid hv.out.2.2
      clear hv HB2 RL2
      have hfl : ((List.range i).filter (KT.mapsTo l)).length ≤ 8 := Nat.le_trans (List.length_filter_le _ _) (by simp; omega)
      have HF1 : Hid (∀ _ : Unit, (List.range (i + 1)).filter (KT.mapsTo l) = (List.range i).filter (KT.mapsTo l) ++ (if KT.mapsTo l i = true then [i] else [])) := fun _ => by
        rw [List.range_succ, List.filter_append, List.filter_cons]; rfl
      by_cases hlt : i < 8
      · have hltz : (i : Int) < 8 := by omega
        revert HO HF1 hfl
        generalize (List.range i).filter (KT.mapsTo l) = F
        intro HO hfl HF1
        have HB3 : Hid (Below w.heap.size w (World.alloc wr (.cells #[.int .i64 (i : Int)] 3))) := HB.out.alloc HB.out.size _
        have RK : Hid (Row (World.alloc wr (.cells #[.int .i64 (i : Int)] 3)) wr.heap.size 3 [.int .i64 (i : Int)]) := Row.new wr _ [.int .i64 (i : Int)]
        have RL3 : Hid (Row (World.alloc wr (.cells #[.int .i64 (i : Int)] 3)) w.heap.size 22 [.slice A n c]) := RL.out.alloc _
        have HO3 : Hid ((World.alloc wr (.cells #[.int .i64 (i : Int)] 3)).ownsRow (w.heap.size + 1) 3 1 (.slice CA F.length cc) F.length (ints (F.map fun (k : Nat) => (k : Int)))) := HO.out.alloc _
        go_upto_region 7 with fail
        revert HB3 RK RL3 HO3
        generalize World.alloc wr (.cells #[.int .i64 (i : Int)] 3) = w3
        generalize wr.heap.size = kb
        intro HB3 RK RL3 HO3
        have k0 := RL3.out.cell 0
        have kl := RL3.out.lt
        simp only [List.getElem?_cons_zero, List.getElem?_cons_succ] at k0
        have j0 := RK.out.cell 0
        have jl := RK.out.lt
        simp only [List.getElem?_cons_zero, List.getElem?_cons_succ] at j0
        have HMA : Hid (l.all (fun p => KT.hasPt l (KT.applyS i p)) = !(l.any fun p => !KT.hasPt l (KT.applyS i p))) := by
          show _ = _
          induction l with
          | nil => rfl
          | cons a l ih => simp [List.all_eq_not_any_not]
        have HCF := containsFunc_pts A n c l 50 #[.pointer (some ⟨w.heap.size, 0, none⟩), .pointer (some ⟨kb, 0, none⟩)] (fun p => !KT.hasPt l (KT.applyS i p)) w3 (enters Tryd.func50 (by kernel_rfl) rfl) (HR.out.up HB3.out) hbig
          (fun W x hx hbW => (symsPred_any l i hlt x w.heap.size kb A n c W ((HM.out.up HB3.out).up hbW) (HPT.out x hx) ((HR.out.up HB3.out).up hbW) hbig ((hbW.cell (p := ⟨w.heap.size, 0, none⟩) kl).trans k0) ((hbW.cell (p := ⟨kb, 0, none⟩) jl).trans j0)).mono fun e w' h => ⟨h.1, hbW.trans (h.2.mono hbW.size)⟩)
        have HCF := Lib.hid HCF
        have HM9 : Hid (∀ _ : Unit, KT.mapsTo l i = !(l.any fun p => !KT.hasPt l (KT.applyS i p))) := fun _ => HMA.out
        revert HCF HM9
        generalize (l.any fun p => !KT.hasPt l (KT.applyS i p)) = bb
        intro HCF HM9
        go_wp2_with fail
        refine HCF.out.mono ?_
        rintro e w4 ⟨rfl, hb4⟩
        have HB4 : Hid (Below w.heap.size w w4) := HB3.out.trans (hb4.mono HB3.out.size)
        have RL4 : Hid (Row w4 w.heap.size 22 [.slice A n c]) := rowCells RL3.out hb4
        have RK4 : Hid (Row w4 kb 3 [.int .i64 (i : Int)]) := rowCells RK.out hb4
        have HO4 : Hid (w4.ownsRow (w.heap.size + 1) 3 1 (.slice CA F.length cc) F.length (ints (F.map fun (k : Nat) => (k : Int)))) := own_below HO3.out hb4 (Nat.le_refl _)
        clear hb4 k0 kl j0 jl RL3 RK HO3 HB3 HMA HCF HO RL HB
        cases bb with
        | true =>
          have HF2 : Hid (∀ _ : Unit, (List.range (i + 1)).filter (KT.mapsTo l) = F) := fun _ => by rw [HF1.out (), HM9.out ()]; simp
          go_wp2
          go_roundg (8 - (i + 1))
          case measure => omega
          case rel => exact ⟨i + 1, cc, CA, by omega, by omega, by go_num, by rw [HF2.out ()], by rw [HF2.out ()]; exact HO4.out, HB4.out, RL4.out⟩
        | false =>
          have HF2 : Hid (∀ _ : Unit, (List.range (i + 1)).filter (KT.mapsTo l) = F ++ [i]) := fun _ => by rw [HF1.out (), HM9.out ()]; simp
          have j0 := RK4.out.cell 0
          have jl := RK4.out.lt
          simp only [List.getElem?_cons_zero, List.getElem?_cons_succ] at j0
          have hsz := HB4.out.size
          have hsz1 := RL4.out.lt
          go_wp2_with (at_builtin; refine wpList_app rfl (.tmp 15) (.tmp 17) 27 rfl (w.heap.size + 1) 3 (.int .i64 0) 1 8 Tryd.underlying27 int_infoK rfl (by decide) (by decide) (.slice CA F.length cc) F.length (ints (F.map fun (k : Nat) => (k : Int))) rfl ?own (w4.heap.size + 1) (some ⟨w4.heap.size, 0, none⟩) 1 1 [.int .i64 (i : Int)] rfl ?rd ?one ?hb ?hbase ?_)
          case own => exact HO4.out.alloc _
          case rd => exact Rd.lit w4 #[.int .i64 (i : Int)] 3 (sz := 1) (m := 1) rfl
          case one => first | (intro u hu; simp at hu; subst hu; rfl) | rfl
          case hb => omega
          case hbase => first | (simp; omega) | omega
          intro v' w8 hown' hgrow' hat'
          obtain ⟨A8, c8, rfl, _⟩ := Rd.own hown'
          have HO8 : Hid (w8.ownsRow (w.heap.size + 1) 3 1 (.slice A8 (F.length + 1) c8) (F.length + 1) (ints ((F ++ [i]).map fun (k : Nat) => (k : Int)))) := by
            show World.ownsRow _ _ _ _ _ _ _
            simpa [ints] using hown'
          have HB8 : Hid (Below w.heap.size w w8) := (HB4.out.alloc hsz _).grown hgrow' (by simp; omega) (fun k e => by have := (HO4.out.lt k e).1; omega)
          have RL8 : Hid (Row w8 w.heap.size 22 [.slice A n c]) := (RL4.out.alloc _).grown hgrow' (fun e => by have := (HO4.out.lt _ e.symm).1; omega)
          clear hown' hgrow' hat' j0 jl
          go_wp2
          go_roundg (8 - (i + 1))
          case measure => omega
          case rel => exact ⟨i + 1, c8, A8, by omega, by omega, by go_num, by rw [HF2.out ()]; simp, by rw [HF2.out ()]; simpa using HO8.out, HB8.out, RL8.out⟩
      · have hltz : ¬ (i : Int) < 8 := by omega
        have hi8 : 8 = i := by omega
        subst hi8
        rw [← HS.out ()] at HO
        rw [← HS.out ()]
        go_wp2
        go_ret
        exact ⟨CA, _, cc, rfl, Rd.of_own HO.out, rfl, HB.out⟩
end Go.Proofs.YtlmdjkmcplobnaaDoor

/-
  builder.build of package tabletree, walked.
-/
namespace Go.Proofs.YtlmdjkmcplobnaaDoor
open Go.RowKit Go.Maps
set_option linter.unusedSimpArgs false
set_option linter.unusedVariables false
theorem tab_up {P : Program} {B e0 : Nat} {w w1 : World} {name : String} {k : IntKind} {zs : List Int} (h : Lib.TabBelow P B w name k zs) (hb : Below B w w1) (he : B ≤ e0) : Lib.TabBelow P e0 w1 name k zs := fun w' h' => h w' (hb.trans (h'.mono he))
theorem blk_or {A A' : Option Addr} {n c n' c' S : Nat} (h : (Value.slice A' n' c').ownBlock = (Value.slice A n c).ownBlock ∨ (Value.slice A' n' c').ownBlock = some S) : ∀ k, blk A' = some k → blk A = some k ∨ S ≤ k := fun k hk => by
  rw [own_blk, own_blk] at h
  rcases h with h | h
  · exact .inl (h ▸ hk)
  · rw [h] at hk; injection hk with hk; exact .inr (by omega)
theorem len_ok {S : Nat} {ns : List Nd} {j L c : Nat} {q : List Int × List Nd} (h : KT.LRes S ns j q (S ^ L)) (hj : j < S) (hs : ns.length + S ^ (L + 1) ≤ c) : q.2.length + S ^ L ≤ c := by
  have h1 := h.len
  have h2 : (j + 1) * S ^ L ≤ S * S ^ L := Nat.mul_le_mul_right _ hj
  rw [Nat.add_mul, Nat.one_mul] at h2
  have h3 : S ^ (L + 1) = S * S ^ L := by rw [Nat.pow_succ, Nat.mul_comm]
  rw [h3] at hs
  generalize S * S ^ L = u at *
  generalize j * S ^ L = v at *
  generalize S ^ L = x at *
  omega
theorem own_cap {w : World} {base sz n n' c : Nat} {e : TypeId} {A : Option Addr} {xs : List Value} (h : w.ownsRow base e sz (.slice A n' c) n xs) : n ≤ c := by
  rcases h.2 with ⟨e1, e2⟩ | ⟨g, cap, cur, e1, _, _, hn, _⟩
  · omega
  · injection e1 with _ _ e3; omega
theorem u8_infoK : (Tryd.prog.info? 5).map (fun i => (i.zero, i.size, i.bytes)) = some (some (.int .u8 0), 1, 1) := by kernel_rfl
theorem run_slice_to {P : Program} (W : World) (t e : TypeId) (ht : P.underlying t = some (.slice e)) (hz : ∀ w, (Go.sizeOf e).run P w = .ok 1 w) (ad : Addr) (len cap h : Nat) (hh : h ≤ cap) :
    (Instr.slice t (.slice (some ad) len cap) none (some (.int .i64 (h : Int))) none).run P W = .ok (.slice (some ad) h cap) W := by
  have ht' : P.underlying t = some (.slice (P.elem t)) := by simp [Program.elem, ht]
  have he : P.elem t = e := by simp [Program.elem, ht]
  rw [run_slice_h W t _ _ _ ht' .i64 _ (by omega) (by omega), he, hz]
  have h0 : ad.add 0 = ad := by unfold Addr.add; rw [if_pos rfl]
  simp [Result.andThen, sliced, h0]
theorem size_intK (w : World) : (Go.sizeOf 3).run Tryd.prog w = .ok 1 w := by kernel_rfl
theorem node_infoK : (Tryd.prog.info? 72).map (fun i => (i.zero, i.size, i.bytes)) = some (some (.agg #[.int .i64 0, .slice none 0 0]), 2, 32) := by kernel_rfl
theorem nd_oneK (a : Int) (A : Option Addr) (n c : Nat) : ∀ u ∈ [Value.int .i64 a, Value.slice A n c], u.oneCell' = true := by
  intro u hu
  simp only [List.mem_cons, List.not_mem_nil, or_false] at hu
  rcases hu with rfl | rfl <;> rfl
theorem len_end {S : Nat} {ns : List Nd} {L c : Nat} {q : List Int × List Nd} (h : KT.LRes S ns S q (S ^ L)) (hs : ns.length + S ^ (L + 1) ≤ c) : q.2.length ≤ c := by
  have h1 := h.len
  have h3 : S ^ (L + 1) = S * S ^ L := by rw [Nat.pow_succ, Nat.mul_comm]
  rw [h3] at hs
  generalize S * S ^ L = u at *
  omega
theorem string_keyedK : Maps.Keyed Tryd.prog 9 := Maps.string_keyed Tryd.underlying9
structure BHyp (w0 : World) (E : BEnv) (val : List Int → Int) (H : Nat) : Prop where
  s2 : 2 ≤ E.S
  s8 : E.S ≤ 8
  hn : E.hn = H
  h25 : H ≤ 25
  rng : ∀ ins : List Int, ins.length = H → (∀ s ∈ ins, 0 ≤ s ∧ s < (E.S : Int)) → 0 ≤ val ins ∧ val ins < E.S
  call : ∀ (ins : List Int) (IA : Option Addr) (ic : Nat) (w : World), ins.length = H → (∀ s ∈ ins, 0 ≤ s ∧ s < (E.S : Int)) → Below w0.heap.size w0 w → Rd w w.heap.size 1 IA H (ints ins) →
    Calls Tryd.prog 11 #[.slice IA H ic, .pointer (some ⟨E.tb, 0, none⟩)] w fun e w' => e = .returned (.int .i64 (val ins)) ∧ Below w.heap.size w w'
  tab : Lib.TabBelow Tryd.prog w0.heap.size w0 "internal/strconv.uint64pow10" .u64 Lib.pow10Tab
structure BPost (w0 : World) (E : BEnv) (p : BPos) (ins : List Int) (r : Int × List Nd) (w : World) (e : Ending) (w' : World) : Prop where
  out : ∃ p', e = .returned (.int .i64 r.1) ∧ BSt w0 E p' ins r.2 (KT.idsF r.2) w' ∧ BMove E p w p' w'
set_option maxRecDepth 100000 in
set_option maxHeartbeats 4000000 in
theorem build_zero (w0 : World) (E : BEnv) (val : List Int → Int) (H : Nat) (hx : BHyp w0 E val H) (ins : List Int) (ns : List Nd) (p : BPos) (w : World) (hl : ins.length = H) (hi : ∀ s ∈ ins, 0 ≤ s ∧ s < (E.S : Int)) (h : BSt w0 E p ins ns (KT.idsF ns) w) :
    Calls Tryd.prog 29 #[.pointer (some ⟨E.bb, 0, none⟩)] w (BPost w0 E p ins (KT.buildK E.S val 0 ins ns) w) := by
  have HX := Lib.hid hx
  have HI := Lib.hid hi
  have HB := Lib.hid h
  have h25 := hx.h25
  have hnH := hx.hn
  clear hx hi h
  obtain ⟨bb, mb, tb, S, HA, hn, hc⟩ := E
  dsimp only at hnH
  subst hnH
  obtain ⟨NA, nc, sl, IA, ic⟩ := p
  have kR := HB.out.row
  dsimp only [BEnv.cells, BEnv.fv] at kR
  have k0 := kR.cell 0
  have k1 := kR.cell 1
  have k2 := kR.cell 2
  have k3 := kR.cell 3
  have k4 := kR.cell 4
  have k5 := kR.cell 5
  have kl := kR.lt
  clear kR
  simp only [List.getElem?_cons_zero, List.getElem?_cons_succ] at k0 k1 k2 k3 k4 k5
  have HO : Hid (Rd w w.heap.size 1 IA hn (ints ins)) := hl ▸ Rd.of_own HB.out.iown
  rw [hl] at k4
  have HC := Lib.hid (fun W (hb : Below w.heap.size w W) => HX.out.call ins IA ic W hl HI.out (HB.out.bel.trans (hb.mono HB.out.bel.size)) (HO.out.up hb))
  have hw : IntKind.i64.wrap ((hn : Int) - (hn : Int)) = 0 := by rw [Int.sub_self]; rfl
  go_enter Tryd.func29, Tryd.ntmps29
  go_wp2_with fail
  go_quiet (fail)
  have HS : ∀ w', Below w.heap.size w w' → w'.cell? ⟨bb, 4, none⟩ = some (.slice IA hn ic) ∧ w'.cell? ⟨bb, 5, none⟩ = some (.func (.func 11) #[] #[.pointer (some ⟨tb, 0, none⟩)]) := fun w' hb => ⟨(hb.cell (p := ⟨bb, 4, none⟩) kl).trans k4, (hb.cell (p := ⟨bb, 5, none⟩) kl).trans k5⟩
  go_wp2_with fail
  have HK0 : Hid (Below w.heap.size w (w.drewN nq).drew) := ((below_drewN (Below.refl _ _) nq).drew)
  clear k0 k1 k2 k3 k4 k5 kl
  go_region_held3 (fun w' => w'.cell? ⟨bb, 4, none⟩ = some (.slice IA hn ic) ∧ w'.cell? ⟨bb, 5, none⟩ = some (.func (.func 11) #[] #[.pointer (some ⟨tb, 0, none⟩)])) (first | exact HS _ HN.out | exact HS _ HK0.out) ((
    go_at_call 11
    refine (HC.out _ (by exact HK0.out)).mono ?_
    rintro e w7 ⟨rfl, hb7⟩
    have HN := (show Hid (Below w.heap.size w w7) from below_on2 HK0.out hb7)))
  go_wp2_with fail
  go_ret
  exact ⟨⟨⟨NA, nc, sl, IA, ic⟩, rfl, HB.out.below HN.out, BMove.below _ _ HN.out⟩⟩
def loopQ (S : Nat) (val : List Int → Int) (L : Nat) (ins : List Int) (ns : List Nd) (j : Nat) : List Int × List Nd := KT.loopB (fun s ns => KT.buildK S val L (ins ++ [s]) ns) j 0 [] ns
theorem loopQ_succ (S : Nat) (val : List Int → Int) (L : Nat) (ins : List Int) (ns : List Nd) (j : Nat) : loopQ S val L ins ns (j + 1) = ((loopQ S val L ins ns j).1 ++ [(KT.buildK S val L (ins ++ [(j : Int)]) (loopQ S val L ins ns j).2).1], (KT.buildK S val L (ins ++ [(j : Int)]) (loopQ S val L ins ns j).2).2) := by
  unfold loopQ; rw [KT.loopB_succ, Nat.zero_add]
theorem loopQ_end (S : Nat) (val : List Int → Int) (L : Nat) (ins : List Int) (ns : List Nd) : KT.buildK S val (L + 1) ins ns = KT.endB ((L : Int) + 1) (loopQ S val L ins ns S) := rfl
theorem loopQ_res {S H : Nat} {val : List Int → Int} (hS : 2 ≤ S) (hval : ∀ ins : List Int, ins.length = H → (∀ s ∈ ins, 0 ≤ s ∧ s < (S : Int)) → 0 ≤ val ins ∧ val ins < S) {L : Nat} {ins : List Int} {ns : List Nd} (hl : L + 1 + ins.length = H) (hi : ∀ s ∈ ins, 0 ≤ s ∧ s < (S : Int)) (hn : KT.WOk S ns) {j : Nat} (hj : j ≤ S) :
    KT.LRes S ns j (loopQ S val L ins ns j) (S ^ L) :=
  KT.loop_res (fun s ns' hs hn' => KT.buildK_res hS hval L (ins ++ [(s : Int)]) ns' (by simp; omega) (KT.inS hi hs) hn') hn j hj
theorem keyS_nil (lev : Int) : KT.keyS lev [] = Lib.itoa lev := by simp [KT.keyS, KT.keyR]
theorem keyS_snoc (lev : Int) (l : List Int) (k : Int) : KT.keyS lev (l ++ [k]) = KT.keyS lev l ++ [32] ++ Lib.itoa k := by simp [KT.keyS, KT.keyR]
/-- What holds after j rounds of the loop. -/
structure BLoop (w0 : World) (E : BEnv) (p : BPos) (ins : List Int) (w : World) (e0 xb : Nat) (lev : Int) (q : List Int × List Nd) (p1 : BPos) (KA XA : Option Addr) (kc xc : Nat) (wr : World) : Prop where
  b : BSt w0 E p1 ins q.2 (KT.idsF q.2) wr
  m : BMove E p w p1 wr
  x : XSt E p1 e0 xb lev XA xc q.1 wr
  k : KSt E p1 e0 KA kc (KT.keyS lev q.1) wr
  e1 : e0 ≤ wr.heap.size
  e0 : w.heap.size ≤ e0
  kl : (KT.keyS lev q.1).length ≤ 21 + 22 * q.1.length
set_option maxRecDepth 100000 in
set_option maxHeartbeats 4000000 in
theorem build_succ (w0 : World) (E : BEnv) (val : List Int → Int) (H : Nat) (hx : BHyp w0 E val H) (L : Nat)
    (IH : ∀ (ins : List Int) (ns : List Nd) (p : BPos) (w : World), L + ins.length = H → (∀ s ∈ ins, 0 ≤ s ∧ s < (E.S : Int)) → KT.WOk E.S ns → ns.length + E.S ^ L ≤ 70000 → BSt w0 E p ins ns (KT.idsF ns) w → Calls Tryd.prog 29 #[.pointer (some ⟨E.bb, 0, none⟩)] w (BPost w0 E p ins (KT.buildK E.S val L ins ns) w))
    (ins : List Int) (ns : List Nd) (p : BPos) (w : World) (hl : L + 1 + ins.length = H) (hi : ∀ s ∈ ins, 0 ≤ s ∧ s < (E.S : Int)) (hn : KT.WOk E.S ns) (hs : ns.length + E.S ^ (L + 1) ≤ 70000) (h : BSt w0 E p ins ns (KT.idsF ns) w) :
    Calls Tryd.prog 29 #[.pointer (some ⟨E.bb, 0, none⟩)] w (BPost w0 E p ins (KT.buildK E.S val (L + 1) ins ns) w) := by
  have HX := Lib.hid hx
  have HI := Lib.hid hi
  have HB := Lib.hid h
  have HN := Lib.hid hn
  have HS := Lib.hid hs
  have HIH := Lib.hid IH
  have HWB : Hid (w0.heap.size ≤ w.heap.size) := h.bel.size
  have h25 := hx.h25
  have hnH := hx.hn
  clear hx hi h hn hs IH
  obtain ⟨bb, mb, tb, S, HA, hn, hc⟩ := E
  dsimp only at hnH
  subst hnH
  have kR := HB.out.row
  dsimp only [BEnv.cells, BEnv.fv] at kR
  have k0 := kR.cell 0
  have k1 := kR.cell 1
  have k2 := kR.cell 2
  have k3 := kR.cell 3
  have k4 := kR.cell 4
  have k5 := kR.cell 5
  have kl := kR.lt
  clear kR
  simp only [List.getElem?_cons_zero, List.getElem?_cons_succ] at k0 k1 k2 k3 k4 k5
  have hw : IntKind.i64.wrap ((hn : Int) - (ins.length : Int)) = (L : Int) + 1 := by rw [IntWalk.i64_in _ (by omega)]; omega
  have hz : ((L : Int) + 1 == 0) = false := by simp; omega
  go_enter Tryd.func29, Tryd.ntmps29
  go_wp2_with fail
  go_quiet (fail)
  have HB1 := Lib.hid (HB.out.below (below_drewN (Below.refl _ _) nq))
  have HM1 := Lib.hid (BMove.below ⟨bb, mb, tb, S, HA, hn, hc⟩ p (below_drewN (Below.refl w.heap.size w) nq))
  clear k0 k1 k2 k3 k4 k5 kl
  clear HB
  revert HB1 HM1
  generalize w.drewN nq = w1
  intro HB1 HM1
  go_upto_region 5 with fail
  have HM2 := (show Hid (BMove ⟨bb, mb, tb, S, HA, hn, hc⟩ p w p (w1.alloc (.cells #[.int .i64 ((L : Int) + 1), .slice none 0 0] 72))) from HM1.out.trans (BMove.below _ _ ((Below.refl _ _).alloc (Nat.le_refl _) _)))
  have HB2 := Lib.hid (HB1.out.below ((Below.refl w1.heap.size w1).alloc (Nat.le_refl _) (.cells #[.int .i64 ((L : Int) + 1), .slice none 0 0] 72)))
  have HX2 : Hid (XSt ⟨bb, mb, tb, S, HA, hn, hc⟩ p w1.heap.size w1.heap.size ((L : Int) + 1) none 0 [] (w1.alloc (.cells #[.int .i64 ((L : Int) + 1), .slice none 0 0] 72))) :=
    Lib.hid ⟨Row.new w1 _ [.int .i64 ((L : Int) + 1), .slice none 0 0], World.ownsRow_nil _ _ _ _, Nat.le_refl _, fun hr => by have := (HB1.out.lt hr).2; omega, fun k hk => by cases hk⟩
  have HE0 : Hid (w.heap.size ≤ w1.heap.size) := HM1.out.kept.size
  have HE1 : Hid (w1.heap.size ≤ (w1.alloc (.cells #[.int .i64 ((L : Int) + 1), .slice none 0 0] 72)).heap.size) := by show _ ≤ _; simp
  clear HB1 HM1
  revert HB2 HX2 HM2 HE0 HE1
  generalize w1.alloc (.cells #[.int .i64 ((L : Int) + 1), .slice none 0 0] 72) = w2
  generalize w1.heap.size = e0
  intro HM2 HB2 HX2 HE0 HE1
  have HE9 : Hid (w0.heap.size ≤ e0) := Lib.hid (Nat.le_trans HWB.out HE0.out)
  have HC := Lib.hid (appendInt_any e0 0 ((L : Int) + 1) (by omega) (by omega) (.slice none 0 0) [] w2 (World.ownsRow_nil _ _ _ _) HE1.out (by decide) (tab_up HX.out.tab HB2.out.bel HE9.out))
  go_wp2_with fail
  refine HC.out.mono ?_
  rintro e w3 ⟨v', rfl, hown, hb3, ho3⟩
  rw [Nat.zero_add, List.nil_append, ← keyS_nil] at hown
  obtain ⟨KA, kc, rfl, _⟩ := Rd.own hown
  have hk3 := kept_u8 hb3 ho3
  have HL0 : Hid (BLoop w0 ⟨bb, mb, tb, S, HA, hn, hc⟩ p ins w e0 e0 ((L : Int) + 1) (loopQ S val L ins ns 0) p KA none kc 0 w3) := Lib.hid ⟨HB2.out.u8 hk3 HE9.out, HM2.out.u8 hk3 HE0.out, HX2.out.u8 hk3, ⟨hown⟩, Nat.le_trans HE1.out hb3.size, HE0.out, by show (KT.keyS _ []).length ≤ _; rw [keyS_nil]; exact Nat.le_trans (Lib.itoa_length_le _ (by omega) (by omega)) (by omega)⟩
  clear HB2 HX2 HM2 hown hb3 ho3 hk3 HC
  have HB3 := Lib.hid HL0.out.b
  have kR := HB3.out.row
  dsimp only [BEnv.cells, BEnv.fv] at kR
  have k0 := kR.cell 0
  have k1 := kR.cell 1
  have k2 := kR.cell 2
  have k3 := kR.cell 3
  have k4 := kR.cell 4
  have k5 := kR.cell 5
  have kl := kR.lt
  clear kR
  simp only [List.getElem?_cons_zero, List.getElem?_cons_succ] at k0 k1 k2 k3 k4 k5
  go_wp2
  clear HB3
  clear k0 k1 k2 k3 k4 k5 kl
  go_loopg [5, 6, 7, 42] S (fun gg s5 _ _ s42 wr => ∃ (j : Nat) (p1 : BPos) (KA XA : Option Addr) (kc xc : Nat), j ≤ S ∧ S - j ≤ gg ∧ s42 = .int .i64 (j : Int) ∧ s5 = .slice KA (KT.keyS ((L : Int) + 1) (loopQ S val L ins ns j).1).length kc ∧ Aside (BLoop w0 ⟨bb, mb, tb, S, HA, hn, hc⟩ p ins w e0 e0 ((L : Int) + 1) (loopQ S val L ins ns j) p1 KA XA kc xc wr))
  case atStart => exact ⟨0, p, KA, none, kc, 0, Nat.zero_le _, by omega, rfl, rfl, HL0.out⟩
  case round =>
    obtain ⟨j, p1, KA, XA, kc, xc, hj, hgg, rfl, rfl, hv⟩ := hrel
    have HV := Lib.hid hv.out
    clear hv HL0
    by_cases hlt : j < S
    · have hltz : (j : Int) < (S : Int) := by omega
      have hs8 : S ≤ 8 := HX.out.s8
      have HRES := Lib.hid (loopQ_res HX.out.s2 HX.out.rng hl HI.out HN.out (Nat.le_of_lt hlt))
      have HQS := Lib.hid (loopQ_succ S val L ins ns j)
      have HIN := Lib.hid (KT.inS HI.out hlt)
      revert HV HRES HQS
      generalize loopQ S val L ins ns j = q
      obtain ⟨next, n1⟩ := q
      intro HV HRES HQS
      dsimp only at HV HRES HQS
      obtain ⟨NA, nc, sl, IA, ic⟩ := p1
      have HBr := Lib.hid HV.out.b
      have HKL := Lib.hid HV.out.kl
      have hwr0 : w0.heap.size ≤ wr.heap.size := HBr.out.bel.size
      have kR := HBr.out.row
      dsimp only [BEnv.cells, BEnv.fv] at kR
      have k0 := kR.cell 0
      have k1 := kR.cell 1
      have k2 := kR.cell 2
      have k3 := kR.cell 3
      have k4 := kR.cell 4
      have k5 := kR.cell 5
      have kl := kR.lt
      clear kR
      simp only [List.getElem?_cons_zero, List.getElem?_cons_succ] at k0 k1 k2 k3 k4 k5
      go_wp2_with (at_builtin; refine wpList_app rfl (.tmp 49) (.tmp 51) 27 rfl w0.heap.size 3 (.int .i64 0) 1 8 Tryd.underlying27 int_infoK rfl (by decide) (by decide) (.slice IA ins.length ic) (ins.length) (ints ins) rfl ?own (wr.heap.size + 1) (some ⟨wr.heap.size, 0, none⟩) 1 1 [.int .i64 (j : Int)] rfl ?rd ?one ?hb ?hbase ?_)
      case own => exact (HBr.out.iown).alloc _
      case rd => exact Rd.lit wr #[.int .i64 (j : Int)] 3 (sz := 1) (m := 1) rfl
      case one => first | (intro u hu; simp at hu; subst hu; rfl) | rfl
      case hb => omega
      case hbase => first | (simp; omega) | omega
      intro v' w' hown' hgrow' hat'
      obtain ⟨IA2, ic2, rfl, _⟩ := Rd.own hown'
      have hlen : (ins ++ [(j : Int)]).length = ins.length + 1 := by simp
      have hcat : ints ins ++ [Value.int .i64 (j : Int)] = ints (ins ++ [(j : Int)]) := by simp [ints]
      rw [hcat, ← hlen] at hown'
      rw [own_blk] at hgrow'
      have HBa := Lib.hid (HBr.out.below ((Below.refl wr.heap.size wr).alloc (Nat.le_refl _) (.cells #[.int .i64 (j : Int)] 3)))
      obtain ⟨hb3, hm3, hrow3⟩ := HBa.out.setIn (IA := IA2) (ic := ic2) (ins' := ins ++ [(j : Int)]) (fun k hk => by have := blk_or hat' k hk; simpa using this) hgrow' hown'
      rw [hlen] at hb3 hm3
      have HB4 := Lib.hid hb3
      have HM4 := Lib.hid ((BMove.below ⟨bb, mb, tb, S, HA, hn, hc⟩ ⟨NA, nc, sl, IA, ic⟩ ((Below.refl wr.heap.size wr).alloc (Nat.le_refl _) (.cells #[.int .i64 (j : Int)] 3))).trans hm3)
      have HX4 := Lib.hid (HV.out.x.move HM4.out)
      have HK4 := Lib.hid (HV.out.k.move HBr.out HM4.out)
      have HM5 := Lib.hid (HV.out.m.trans HM4.out)
      have z4 := hrow3.frozen 4
      have zl := hrow3.lt
      have zc := hrow3.cell 4
      dsimp only [BEnv.cells] at zc
      simp only [List.getElem?_cons_zero, List.getElem?_cons_succ] at zc
      dsimp only at z4 zl
      clear HBa hb3 hm3 hrow3 hown' hgrow' hat' hcat HV HM4
      clear k0 k1 k2 k3 k4 k5 kl
      go_upto_region 10 with fail
      try dsimp only at HB4 HX4 HK4 HM5
      clear z4 zl zc
      revert HB4 HX4 HK4 HM5
      generalize w'.setCell ⟨bb, 4, none⟩ (.slice IA2 (ins.length + 1) ic2) = w4
      intro HB4 HX4 HK4 HM5
      have HL4 : Hid (n1.length + S ^ L ≤ 70000) := len_ok HRES.out hlt HS.out
      have HC := Lib.hid (HIH.out (ins ++ [(j : Int)]) n1 _ w4 (by rw [hlen]; omega) HIN.out HRES.out.ok HL4.out HB4.out)
      have HRB := Lib.hid (KT.buildK_res HX.out.s2 HX.out.rng L (ins ++ [(j : Int)]) n1 (by rw [hlen]; omega) HIN.out HRES.out.ok)
      revert HQS HC HRB
      generalize KT.buildK S val L (ins ++ [(j : Int)]) n1 = r
      obtain ⟨k, n2⟩ := r
      intro HQS HC HRB
      dsimp only at HQS HRB
      go_wp2_with fail
      refine HC.out.mono ?_
      rintro e w5 ⟨p2, rfl, hb5, hm5⟩
      dsimp only at hb5
      have HB5 := Lib.hid hb5
      have HX5 := Lib.hid (HX4.out.move hm5)
      have HK5 := Lib.hid (HK4.out.move HB4.out hm5)
      have HM6 := Lib.hid (HM5.out.trans hm5)
      clear HC hb5 hm5 HX4 HK4 HM5 HB4
      obtain ⟨NA, nc, sl, IA, ic⟩ := p2
      have kR := HB5.out.row
      dsimp only [BEnv.cells, BEnv.fv] at kR
      have k0 := kR.cell 0
      have k1 := kR.cell 1
      have k2 := kR.cell 2
      have k3 := kR.cell 3
      have k4 := kR.cell 4
      have k5 := kR.cell 5
      have kl := kR.lt
      clear kR
      simp only [List.getElem?_cons_zero, List.getElem?_cons_succ] at k0 k1 k2 k3 k4 k5
      rw [hlen] at k4
      have k4f := HB5.out.row.frozen 4
      obtain ⟨gi, capi, hvi, _, _⟩ := HB5.out.iown.form (by rw [hlen]; omega)
      injection hvi with hvi _ hvi3
      dsimp only at hvi hvi3
      subst hvi hvi3
      have hic : ins.length + 1 ≤ ic := own_cap (hlen ▸ HB5.out.iown)
      have hw2 : IntKind.i64.wrap ((ins.length : Int) + 1 - 1) = (ins.length : Int) := by rw [IntWalk.i64_in _ (by omega)]; omega
      have hw3 : IntKind.i64.wrap (ins.length : Int) = (ins.length : Int) := IntWalk.i64_in _ (by omega)
      have hc1 : (ins.length : Int) ≤ (ic : Int) := by omega
      have hc0 : (0 : Int) ≤ (ins.length : Int) := by omega
      have hcf : (ic = 0) = False := by simp; omega
      go_upto_region 11 with fail
      go_still_tail 14, (by kernel_rfl)
      change wpList _ _ _ _ _ (World.drew w5)
      have HD := Lib.hid ((Below.refl w5.heap.size w5).drew)
      have HB6 := Lib.hid (HB5.out.below HD.out)
      have HX6 := Lib.hid (HX5.out.move (BMove.below _ _ HD.out))
      have HK6 := Lib.hid (HK5.out.move HB5.out (BMove.below _ _ HD.out))
      have HM7 := Lib.hid (HM6.out.trans (BMove.below _ _ HD.out))
      clear k0 k1 k2 k3 k4 k5 kl
      clear HD HB5 HX5 HK5 HM6 k4f
      revert HM7 HB6 HX6 HK6
      generalize World.drew w5 = w6
      intro HB6 HX6 HK6 HM7
      obtain ⟨hb7, hm7⟩ := HB6.out.popIn
      have HB7 := Lib.hid hb7
      have HX7 := Lib.hid (HX6.out.move hm7)
      have HK7 := Lib.hid (HK6.out.move HB6.out hm7)
      have HM8 := Lib.hid (HM7.out.trans hm7)
      have z4 := HB6.out.row.frozen 4
      have zl := HB6.out.row.lt
      have zc := HB6.out.row.cell 4
      dsimp only [BEnv.cells] at zc
      simp only [List.getElem?_cons_zero, List.getElem?_cons_succ] at zc
      dsimp only at z4 zl HB7 HX7 HK7 HM8
      clear hb7 hm7 HB6 HX6 HK6 HM7
      go_upto_region 12 with fail
      clear z4 zl zc
      revert HB7 HX7 HK7 HM8
      generalize w6.setCell ⟨bb, 4, none⟩ (.slice (some ⟨gi, 0, none⟩) ins.length ic) = w7
      intro HB7 HX7 HK7 HM8
      have he7 : e0 < w7.heap.size := HX7.out.row.lt
      have hnl : next.length ≤ 8 := by have := HRES.out.nl; dsimp only at this; have := HX.out.s8; dsimp only at this; omega
      have x0 := HX7.out.row.cell 0
      have x1 := HX7.out.row.cell 1
      simp only [List.getElem?_cons_zero, List.getElem?_cons_succ] at x0 x1
      go_wp2_with (at_builtin; refine wpList_app rfl (.tmp 72) (.tmp 74) 27 rfl e0 3 (.int .i64 0) 1 8 Tryd.underlying27 int_infoK rfl (by decide) (by decide) (.slice XA next.length xc) (next.length) (ints next) rfl ?own (w7.heap.size + 1) (some ⟨w7.heap.size, 0, none⟩) 1 1 [.int .i64 k] rfl ?rd ?one ?hb ?hbase ?_)
      case own => exact (HX7.out.own).alloc _
      case rd => exact Rd.lit w7 #[.int .i64 k] 3 (sz := 1) (m := 1) rfl
      case one => first | (intro u hu; simp at hu; subst hu; rfl) | rfl
      case hb => omega
      case hbase => first | (simp; omega) | omega
      intro v' w' hown' hgrow' hat'
      obtain ⟨XA2, xc2, rfl, _⟩ := Rd.own hown'
      have hlen2 : (next ++ [k]).length = next.length + 1 := by simp
      have hcat : ints next ++ [Value.int .i64 k] = ints (next ++ [k]) := by simp [ints]
      rw [hcat, ← hlen2] at hown'
      rw [own_blk] at hgrow'
      have HD := Lib.hid ((Below.refl w7.heap.size w7).alloc (Nat.le_refl _) (.cells #[.int .i64 k] 3))
      have HBa := Lib.hid (HB7.out.below HD.out)
      have HXa := Lib.hid (HX7.out.move (BMove.below _ _ HD.out))
      have HKa := Lib.hid (HK7.out.move HB7.out (BMove.below _ _ HD.out))
      obtain ⟨hx8, hk8, hrow8⟩ := HXa.out.push HBa.out (fun i hi => by have := blk_or hat' i hi; simpa using this) hgrow' hown'
      rw [hlen2] at hx8 hk8
      have HX8 := Lib.hid hx8
      have HB8 := Lib.hid (HBa.out.far hk8 (fun i hi => Nat.le_trans HE9.out (HXa.out.notR i hi).1) (fun i hi => (HXa.out.notR i hi).2))
      have HK8 := Lib.hid (HKa.out.far hk8 (HKa.out.notX HXa.out))
      have HM9 := Lib.hid ((HM8.out.trans (BMove.below _ _ HD.out)).far hk8 (fun i hi => Nat.le_trans HE0.out (HXa.out.notR i hi).1))
      have z4 := hrow8.frozen 1
      have zl := hrow8.lt
      have zc := hrow8.cell 1
      simp only [List.getElem?_cons_zero, List.getElem?_cons_succ] at zc
      clear HD HBa HXa HKa hx8 hk8 hrow8 hown' hgrow' hat' hcat HB7 HX7 HK7 HM8 x0 x1
      go_upto_region 13 with fail
      clear z4 zl zc
      revert HX8 HB8 HK8 HM9
      generalize w'.setCell ⟨e0, 1, none⟩ (.slice XA2 (next.length + 1) xc2) = w8
      intro HX8 HB8 HK8 HM9
      have hkl : (KT.keyS ((L : Int) + 1) next).length ≤ 21 + 22 * next.length := HKL.out
      have HKS := Lib.hid (keyS_snoc ((L : Int) + 1) next k)
      have he8 : e0 < w8.heap.size := HX8.out.row.lt
      have hk0 : 0 ≤ k := HRB.out.ge
      have hk1 : k ≤ 100000 := by
        have h1 := HRB.out.len
        have h2 := HL4.out
        have h3 := HX.out.s8
        dsimp only at h1 h3
        rcases HRB.out.lt with h4 | h4
        · dsimp only at h4; omega
        · dsimp only at h4; omega
      revert HK8 HKS hkl
      generalize KT.keyS ((L : Int) + 1) next = txt
      intro HK8 hkl HKS
      go_wp2_with (at_builtin; refine wpList_app rfl (.tmp 77) (.tmp 78) 78 rfl e0 5 (.int .u8 0) 1 1 Tryd.underlying78 u8_infoK rfl (by decide) (by decide) (.slice KA txt.length kc) (txt.length) (Lib.byteCells txt) rfl ?own (w8.heap.size + 1) (some ⟨w8.heap.size, 0, none⟩) 1 1 [.int .u8 32] rfl ?rd ?one ?hb ?hbase ?_)
      case own => exact (HK8.out.own).alloc _
      case rd => exact Rd.lit w8 #[.int .u8 32] 5 (sz := 1) (m := 1) rfl
      case one => first | (intro u hu; simp at hu; subst hu; rfl) | rfl
      case hb => omega
      case hbase => first | (simp; omega) | omega
      intro v' w' hown' hgrow' hat'
      obtain ⟨KA2, kc2, rfl, _⟩ := Rd.own hown'
      have hcat : Lib.byteCells txt ++ [Value.int .u8 32] = Lib.byteCells (txt ++ [32]) := by rw [Lib.byteCells_append]; rfl
      rw [hcat] at hown'
      rw [own_blk] at hgrow'
      have HD := Lib.hid ((Below.refl w8.heap.size w8).alloc (Nat.le_refl _) (.cells #[.int .u8 32] 5))
      have HBa := Lib.hid (HB8.out.below HD.out)
      have HXa := Lib.hid (HX8.out.move (BMove.below _ _ HD.out))
      have HKa := Lib.hid (HK8.out.move HB8.out (BMove.below _ _ HD.out))
      have hka : Kept (fun i => blk KA = some i) (w8.alloc (.cells #[.int .u8 32] 5)) w' := Kept.grown (Kept.refl _ _) hgrow' (fun i hi => .inl hi)
      have HB9 := Lib.hid (HBa.out.far hka (fun i hi => Nat.le_trans HE9.out (HKa.out.own.lt i (by rw [own_blk]; exact hi)).1) (fun i hi => HKa.out.notR HBa.out i hi))
      have HX9 := Lib.hid (HXa.out.far hka (fun hi => HKa.out.notX HXa.out _ hi (.inl rfl)) (fun i hi hq => HKa.out.notX HXa.out _ hq (.inr hi)))
      have HMa := Lib.hid ((HM9.out.trans (BMove.below _ _ HD.out)).far hka (fun i hi => Nat.le_trans HE0.out (HKa.out.own.lt i (by rw [own_blk]; exact hi)).1))
      have HOA := Lib.hid hown'
      have HE8 : Hid (e0 ≤ w'.heap.size) := Lib.hid (Nat.le_of_lt HX9.out.row.lt)
      have HC := Lib.hid (appendInt_any e0 (txt.length + 1) k (by omega) (by omega) _ _ w' hown' HE8.out (by omega) (tab_up HX.out.tab HB9.out.bel HE9.out))
      clear HD HBa HXa HKa hka hown' hgrow' hat' hcat HB8 HX8 HK8 HM9
      go_wp2_with fail
      refine HC.out.mono ?_
      rintro e w9 ⟨v2, rfl, hown, hb9, ho9⟩
      obtain ⟨KA3, kc3, rfl, _⟩ := Rd.own hown
      have hk9 := kept_u8 hb9 ho9
      have hco : Lib.byteCells (txt ++ [32]) ++ Lib.byteCells (Lib.itoa k) = Lib.byteCells (txt ++ [32] ++ Lib.itoa k) := by rw [Lib.byteCells_append (txt ++ [32])]
      have hle : txt.length + 1 + (Lib.itoa k).length = (txt ++ [32] ++ Lib.itoa k).length := by simp; omega
      rw [hco, hle, ← HKS.out] at hown
      rw [hle, ← HKS.out]
      have HB10 := Lib.hid (HB9.out.u8 hk9 HE9.out)
      have HX10 := Lib.hid (HX9.out.u8 hk9)
      have HM10 := Lib.hid (HMa.out.u8 hk9 HE0.out)
      have HO10 := Lib.hid hown
      have HK10 : Hid ((KT.keyS ((L : Int) + 1) (next ++ [k])).length ≤ 21 + 22 * (next ++ [k]).length) := Lib.hid (by
        have := Lib.itoa_length_le k (by omega) (by omega)
        rw [HKS.out, ← hle, hlen2]; omega)
      clear HC hown hb9 ho9 hk9 hco hle HB9 HX9 HMa HOA HE8
      go_wp2
      go_roundg (S - (j + 1))
      case measure => omega
      case rel =>
        refine ⟨j + 1, ⟨NA, nc, sl, some ⟨gi, 0, none⟩, ic⟩, KA3, XA2, kc3, xc2, by omega, by omega, by go_num, ?_, ?_⟩
        · rw [HQS.out]
        · rw [HQS.out]
          exact ⟨HB10.out, HM10.out, HX10.out, ⟨HO10.out⟩, Nat.le_of_lt HX10.out.row.lt, HE0.out, HK10.out⟩
    · obtain rfl : j = S := by omega
      have hltz : ¬ (j : Int) < (j : Int) := by omega
      have HRES := Lib.hid (loopQ_res HX.out.s2 HX.out.rng hl HI.out HN.out (Nat.le_refl j))
      have HEND := Lib.hid (loopQ_end j val L ins ns)
      revert HV HRES HEND
      generalize loopQ j val L ins ns j = q
      obtain ⟨next, n1⟩ := q
      intro HV HRES HEND
      dsimp only at HV HRES
      obtain ⟨NA, nc, sl, IA, ic⟩ := p1
      have HBr := Lib.hid HV.out.b
      have HXr := Lib.hid HV.out.x
      have HKr := Lib.hid HV.out.k
      have HMr := Lib.hid HV.out.m
      have HKL := Lib.hid HV.out.kl
      clear HV
      have HF := Lib.hid (KT.idsF_key HRES.out.ok (lev := (L : Int) + 1) (next := next) (by omega) HRES.out.nn)
      have hkey : keyOf Tryd.prog 9 (KT.keyV ((L : Int) + 1) next) = some (.string (KT.mkS (KT.keyS ((L : Int) + 1) next)).data.toList) := Go.WideMaps.keyOf_string_mk Tryd.underlying9 (by
        have := HKL.out
        have := HRES.out.nl
        dsimp only at this
        have := HX.out.s8
        show (KT.mkS _).size ≤ _
        unfold KT.mkS ByteArray.size
        simp
        unfold maxLen
        dsimp only at *
        omega)
      dsimp only at HKL HF
      have hcv := fun nq => conv_txt (wr.drewN nq) HKr.out.own rfl
      have hlk := fun nq => (HBr.out.mp.drewN nq).lookup string_keyedK Tryd.underlying63 (Tryd.zeroValue3 (wr.drewN nq)) hkey
      rw [HF.out] at hlk
      unfold KT.keyV at hlk
      dsimp only at hlk hcv
      have HKEY := Lib.hid hkey
      clear hkey
      have kR := HBr.out.row
      dsimp only [BEnv.cells, BEnv.fv] at kR
      have k0 := kR.cell 0
      have k1 := kR.cell 1
      have k2 := kR.cell 2
      have k3 := kR.cell 3
      have k4 := kR.cell 4
      have k5 := kR.cell 5
      have kl := kR.lt
      clear kR
      simp only [List.getElem?_cons_zero, List.getElem?_cons_succ] at k0 k1 k2 k3 k4 k5
      cases hf : KT.findNd n1 ((L : Int) + 1) next with
      | some i =>
        have HE : Hid (KT.buildK j val (L + 1) ins ns = ((i : Int), n1)) := Lib.hid (HEND.out.trans (by unfold KT.endB; dsimp only; rw [hf]))
        rw [hf] at hlk
        simp only [Option.map_some, Option.getD_some, Option.isSome_some] at hlk
        clear hf
        go_upto_region 15 with fail
        go_quiet (fail)
        go_wp2
        go_ret
        rw [HE.out]
        exact ⟨⟨⟨NA, nc, sl, IA, ic⟩, rfl, HBr.out.below (below_drewN (Below.refl _ _) nq), HMr.out.trans (BMove.below _ _ (below_drewN (Below.refl _ _) nq))⟩⟩
      | none =>
        have HE : Hid (KT.buildK j val (L + 1) ins ns = ((n1.length : Int), n1 ++ [⟨(L : Int) + 1, next⟩])) := Lib.hid (HEND.out.trans (by unfold KT.endB; dsimp only; rw [hf]))
        have HNO : Hid (KT.idsF n1 (KT.keyV ((L : Int) + 1) next) = none) := Lib.hid (HF.out.trans (by rw [hf]; rfl))
        rw [hf] at hlk
        simp only [Option.map_none, Option.getD_none, Option.isSome_none] at hlk
        clear hf
        go_upto_region 15 with fail
        go_quiet (fail)
        have HD := Lib.hid (below_drewN (Below.refl wr.heap.size wr) nq)
        have HBq := Lib.hid (HBr.out.below HD.out)
        have HXq := Lib.hid (HXr.out.move (BMove.below _ _ HD.out))
        have HKq := Lib.hid (HKr.out.move HBr.out (BMove.below _ _ HD.out))
        have HMq := Lib.hid (HMr.out.trans (BMove.below _ _ HD.out))
        clear k0 k1 k2 k3 k4 k5 kl
        clear HD HBr HXr HKr HMr hlk hcv
        revert HBq HXq HKq HMq
        generalize wr.drewN nq = wq
        intro HBq HXq HKq HMq
        have kR := HBq.out.row
        dsimp only [BEnv.cells, BEnv.fv] at kR
        have k0 := kR.cell 0
        have k1 := kR.cell 1
        have k2 := kR.cell 2
        have k3 := kR.cell 3
        have k4 := kR.cell 4
        have k5 := kR.cell 5
        have kl := kR.lt
        clear kR
        simp only [List.getElem?_cons_zero, List.getElem?_cons_succ] at k0 k1 k2 k3 k4 k5
        go_upto_region 18 with fail
        have hcv := conv_txt wq.drew HKq.out.own rfl
        dsimp only at hcv
        have hkey := HKEY.out
        unfold KT.keyV at hkey
        go_still_tail 7, (by kernel_rfl)
        change wpList _ _ _ _ _ (World.drew wq)
        have HD := Lib.hid ((Below.refl wq.heap.size wq).drew)
        have HBd := Lib.hid (HBq.out.below HD.out)
        have HXd := Lib.hid (HXq.out.move (BMove.below _ _ HD.out))
        have HMd := Lib.hid (HMq.out.trans (BMove.below _ _ HD.out))
        clear k0 k1 k2 k3 k4 k5 kl
        clear HD HBq HXq HKq HMq hcv
        revert HBd HXd HMd
        generalize wq.drew = wd
        intro HBd HXd HMd
        go_wp2_with (first | (at_mapUpdate; refine wpList_upd rfl (.tmp 104) (.tmp 106) (.tmp 107) rfl HBd.out.mp string_keyedK Tryd.underlying63 rfl hkey rfl (.int .i64 (n1.length : Int)) rfl ?_; intro w7 hm7 hg7; have HM7 := Lib.hid hm7; have HG7 := Lib.hid hg7; clear hm7 hg7) | fail)
        have hn1 : n1.length ≤ 70000 := len_end HRES.out HS.out
        obtain ⟨hb8, hm8⟩ := HBd.out.mapUp HG7.out HM7.out
        have HB8 := Lib.hid (hb8.congrF (KT.idsF_push HNO.out))
        have HX8 := Lib.hid (HXd.out.move hm8)
        have HM8 := Lib.hid (HMd.out.trans hm8)
        clear hb8 hm8 HG7 HM7 HBd HXd HMd hkey
        refine wp_region_L (fun w' => Row w' bb 65 [.int .i64 (j : Int), .slice HA hn hc, .slice NA n1.length nc, .map (some mb), .slice IA ins.length ic, .func (.func 11) #[] #[.pointer (some ⟨tb, 0, none⟩)]] ∧ Row w' e0 72 [.int .i64 ((L : Int) + 1), .slice XA next.length xc]) [8, 9, 10, 11, 12] (by kernel_rfl) (by exact ⟨HB8.out.row.drew, HX8.out.row.drew⟩) (fun hHeld => ?_)
        have HD := Lib.hid ((Below.refl w7.heap.size w7).drew)
        have HBd := Lib.hid (HB8.out.below HD.out)
        have HXd := Lib.hid (HX8.out.move (BMove.below _ _ HD.out))
        have HMd := Lib.hid (HM8.out.trans (BMove.below _ _ HD.out))
        clear HD HB8 HX8 HM8
        revert HBd HXd HMd hHeld
        generalize World.drew w7 = wQ
        intro hHeld HBd HXd HMd
        refine restL_pure (i := 0) (v := ?va1) rfl (by kernel_rfl) (by kernel_rfl) (by kernel_rfl) (fun _ _ _ h => h) (Or.inl ⟨by rfl, ?ya1⟩) ?ra1
        case ya1 => intro w' hSw; clear hSw; go_simp; try (with_reducible rfl)
        go_simp
        refine restL_pure (i := 1) (v := ?va2) rfl (by kernel_rfl) (by kernel_rfl) (by kernel_rfl) (fun _ _ _ h => h) (Or.inl ⟨by rfl, ?ya2⟩) ?ra2
        case ya2 => intro w' hSw; clear hSw; go_simp; try (with_reducible rfl)
        go_simp
        refine restL_pure (i := 2) (v := ?va3) rfl (by kernel_rfl) (by kernel_rfl) (by kernel_rfl) (fun _ _ _ h => h) (Or.inl ⟨by rfl, ?ya3⟩) ?ra3
        case ya3 => intro w' hSw; clear hSw; go_simp; try (with_reducible rfl)
        go_simp
        refine restL_pure (i := 3) (v := ?va4) rfl (by kernel_rfl) (by kernel_rfl) (by kernel_rfl) (fun _ _ _ h => h) (Or.inl ⟨by rfl, ?ya4⟩) ?ra4
        case ya4 => intro w' hSw; clear hSw; go_simp; try (with_reducible rfl)
        go_simp
        refine restL_pure (i := 4) (v := ?va5) rfl (by kernel_rfl) (by kernel_rfl) (by kernel_rfl) (fun _ _ _ h => h) (Or.inl ⟨by rfl, ?ya5⟩) ?ra5
        case ya5 => intro w' hSw; clear hSw; go_simp; try (with_reducible rfl)
        go_simp
        refine restL_take (i := 5) (v := ?va6) [[8], [9], [10], [11], [12]] rfl (by kernel_rfl) (by kernel_rfl) (by kernel_rfl) (by kernel_rfl) (fun _ _ _ h => h) (Or.inl ⟨by rfl, ?ya6⟩) hHeld ?ra6
        case ya6 =>
          intro w' hSw
          obtain ⟨hS1, hS2⟩ := hSw
          have hT1 : Hid (Row w' bb 65 [.int .i64 (j : Int), .slice HA hn hc, .slice NA n1.length nc, .map (some mb), .slice IA ins.length ic, .func (.func 11) #[] #[.pointer (some ⟨tb, 0, none⟩)]]) := hS1
          have hT2 : Hid (Row w' e0 72 [.int .i64 ((L : Int) + 1), .slice XA next.length xc]) := hS2
          clear hS1 hS2
          have y0 := hT1.out.cell 0
          have y1 := hT1.out.cell 1
          have y2 := hT1.out.cell 2
          have y3 := hT1.out.cell 3
          have y4 := hT1.out.cell 4
          have y5 := hT1.out.cell 5
          have yl := hT1.out.lt
          simp only [List.getElem?_cons_zero, List.getElem?_cons_succ] at y0 y1 y2 y3 y4 y5
          have z0 := hT2.out.cell 0
          have z1 := hT2.out.cell 1
          have zl := hT2.out.lt
          simp only [List.getElem?_cons_zero, List.getElem?_cons_succ] at z0 z1
          go_simp
          try (with_reducible rfl)
        go_simp
        refine restL_take (i := 6) (v := ?va7) [[8, 7], [9], [10], [11], [12]] rfl (by kernel_rfl) (by kernel_rfl) (by kernel_rfl) (by kernel_rfl) (fun _ _ _ h => h) (Or.inl ⟨by rfl, ?ya7⟩) hHeld ?ra7
        case ya7 =>
          intro w' hSw
          obtain ⟨hS1, hS2⟩ := hSw
          have hT1 : Hid (Row w' bb 65 [.int .i64 (j : Int), .slice HA hn hc, .slice NA n1.length nc, .map (some mb), .slice IA ins.length ic, .func (.func 11) #[] #[.pointer (some ⟨tb, 0, none⟩)]]) := hS1
          have hT2 : Hid (Row w' e0 72 [.int .i64 ((L : Int) + 1), .slice XA next.length xc]) := hS2
          clear hS1 hS2
          have y0 := hT1.out.cell 0
          have y1 := hT1.out.cell 1
          have y2 := hT1.out.cell 2
          have y3 := hT1.out.cell 3
          have y4 := hT1.out.cell 4
          have y5 := hT1.out.cell 5
          have yl := hT1.out.lt
          simp only [List.getElem?_cons_zero, List.getElem?_cons_succ] at y0 y1 y2 y3 y4 y5
          have z0 := hT2.out.cell 0
          have z1 := hT2.out.cell 1
          have zl := hT2.out.lt
          simp only [List.getElem?_cons_zero, List.getElem?_cons_succ] at z0 z1
          go_simp
          try (with_reducible rfl)
        go_simp
        refine restL_one (i := 7) (by kernel_rfl) rfl (fun K hK => ?_)
        go_simp
        refine hK.out _ _ (fun _ => ?keep) (fun hHeld => ?_)
        case keep => exact ⟨Row.alloc hHeld.1 _, Row.alloc hHeld.2 _⟩
        have hHeld := hHeld rfl
        clear hK K
        try go_simp
        refine restL_one (i := 8) (by kernel_rfl) rfl (fun K hK => ?_)
        refine step_app rfl (.tmp 113) (.tmp 115) 29 rfl w0.heap.size 72 (.agg #[.int .i64 0, .slice none 0 0]) 2 32 Tryd.underlying29 node_infoK rfl (by decide) (by decide) (.slice NA n1.length nc) n1.length (nodesCells n1 sl) rfl ?own (wQ.heap.size + 1) (some ⟨wQ.heap.size, 0, none⟩) 1 1 [.int .i64 ((L : Int) + 1), .slice XA next.length xc] rfl ?rd ?one ?hb ?hbase ?_
        case own => exact HBd.out.nown.alloc _
        case rd => exact Rd.lit wQ #[.int .i64 ((L : Int) + 1), .slice XA next.length xc] 72 (sz := 2) (m := 1) rfl
        case one => first | exact nd_oneK _ _ _ _ | rfl
        case hb => omega
        case hbase => first | (have := HBd.out.bel.size; simp; omega) | (have := HBd.out.bel.size; omega)
        intro v' w' hown' hgrow' hat'
        obtain ⟨NA2, nc2, rfl, _⟩ := Rd.own hown'
        rw [own_blk] at hgrow'
        have HDa := Lib.hid ((Below.refl wQ.heap.size wQ).alloc (Nat.le_refl _) (.cells #[.int .i64 ((L : Int) + 1), .slice XA next.length xc] 72))
        have HXa := Lib.hid (HXd.out.move (BMove.below _ _ HDa.out))
        obtain ⟨p1, p2, p3, p4⟩ := (HBd.out.below HDa.out).pushN (x := ⟨(L : Int) + 1, next⟩) (s := ⟨XA, next.length, xc⟩) (fun i hi => by have := blk_or hat' i hi; simpa using this) hgrow' hown' (own_base HXa.out.own HE9.out) HXa.out.na
        have PB := Lib.hid p1
        have PM := Lib.hid ((HMd.out.trans (BMove.below _ _ HDa.out)).push p3 p4 (fun k hk => Nat.le_trans HE0.out (HXa.out.own.lt k (by rw [own_blk]; exact hk)).1))
        have q2 := p2.cell 2
        have qf := p2.frozen 2
        have ql := p2.lt
        dsimp only [BEnv.cells, BEnv.fv] at q2 qf ql
        simp only [List.getElem?_cons_zero, List.getElem?_cons_succ] at q2
        clear p1 p2 p3 p4 hown' hgrow' hat' HXa HDa HBd HXd HMd
        refine hK.out _ _ (fun h => absurd h (by decide)) (fun _ => ?_)
        clear hK K
        try go_simp
        refine restL_pure (i := 9) (v := ?va8) rfl (by kernel_rfl) (by kernel_rfl) (by kernel_rfl) (fun _ _ _ h => h) (Or.inl ⟨by rfl, ?ya8⟩) ?ra8
        case ya8 => intro w' hSw; clear hSw; go_simp; try (with_reducible rfl)
        go_simp
        refine restL_pure (i := 10) (v := ?va9) rfl (by kernel_rfl) (by kernel_rfl) (by kernel_rfl) (fun _ _ _ h => h) (Or.inl ⟨by rfl, ?ya9⟩) ?ra9
        case ya9 => intro w' hSw; clear hSw; go_simp; try (with_reducible rfl)
        go_simp
        refine restL_pure (i := 11) (v := ?va10) rfl (by kernel_rfl) (by kernel_rfl) (by kernel_rfl) (fun _ _ _ h => h) (Or.inl ⟨by rfl, ?ya10⟩) ?ra10
        case ya10 => intro w' hSw; clear hSw; go_simp; try (with_reducible rfl)
        go_simp
        refine restL_one (i := 12) (by kernel_rfl) rfl (fun K hK => ?_)
        go_simp
        refine hK.out _ _ (fun h => absurd h (by decide)) (fun _ => ?_)
        clear hK K
        try go_simp
        refine restL_done (by kernel_rfl) ?_ _
        go_wp2
        go_ret
        rw [HE.out]
        exact ⟨⟨⟨NA2, nc2, sl ++ [⟨XA, next.length, xc⟩], IA, ic⟩, rfl, PB.out, PM.out⟩⟩
/-- builder.build at whatever level. -/
theorem build_any (w0 : World) (E : BEnv) (val : List Int → Int) (H : Nat) (hx : BHyp w0 E val H) : ∀ (L : Nat) (ins : List Int) (ns : List Nd) (p : BPos) (w : World), L + ins.length = H → (∀ s ∈ ins, 0 ≤ s ∧ s < (E.S : Int)) → KT.WOk E.S ns → ns.length + E.S ^ L ≤ 70000 → BSt w0 E p ins ns (KT.idsF ns) w →
    Calls Tryd.prog 29 #[.pointer (some ⟨E.bb, 0, none⟩)] w (BPost w0 E p ins (KT.buildK E.S val L ins ns) w)
  | 0, ins, ns, p, w, hl, hi, _, _, h => build_zero w0 E val H hx ins ns p w (by omega) hi h
  | L + 1, ins, ns, p, w, hl, hi, hn, hs, h => build_succ w0 E val H hx L (build_any w0 E val H hx L) ins ns p w hl hi hn hs h
end Go.Proofs.YtlmdjkmcplobnaaDoor
