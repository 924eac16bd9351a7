/-
  The reference's all: a node all of whose elements are equal, walked.
-/
import Derived.Test.YtdkfaphclhaiaaaTSt
import Derived.Test.YtdkfaphclhaiaaaApp
import Derived.Test.YtdkfaphclhaiaaaRegL
import Derived.Test.YtdkfaphclhaiaaaTHood
import Derived.StillTailTactics
namespace Go.Proofs.Ytdkfaphclhaiaaa
open Go.RowKit
set_option linter.unusedSimpArgs false
set_option linter.unusedVariables false
theorem int_infoR : (Try.prog.info? 3).map (fun i => (i.zero, i.size, i.bytes)) = some (some (.int .i64 0), 1, 8) := by kernel_rfl
theorem reps_snoc (k : Nat) (x : Int) : ints (List.replicate k x) ++ [.int .i64 x] = ints (List.replicate (k + 1) x) := by
  simp [ints, List.replicate_succ']

def AllPost (lev x : Int) (S : Nat) (w : World) (e : Ending) (w' : World) : Prop :=
  ∃ A c, e = .returned (.agg #[.int .i64 lev, .slice A S c]) ∧ w'.ownsRow w.heap.size 3 1 (.slice A S c) S (ints (List.replicate S x)) ∧ Below w.heap.size w w'

set_option maxRecDepth 100000 in
set_option maxHeartbeats 2000000 in
theorem all_any (lev st x : Int) (S : Nat) (w : World) (hst : st = (S : Int)) (hS : S ≤ 8) :
    Calls Try.prog 46 #[.int .i64 lev, .int .i64 st, .int .i64 x] w (AllPost lev x S w) := by
  have HST : Hid (st = (S : Int)) := hst
  clear hst
  go_enter Try.func46, Try.ntmps46
  go_wp2
  have RZ : Hid (Row (World.alloc (World.alloc w _) _) w.heap.size 61 [.int .i64 0, .slice none 0 0]) := (Row.new w 61 [.int .i64 0, .slice none 0 0]).alloc (.cells #[.int .i64 lev, .slice none 0 0] 61)
  have RX : Hid (Row (World.alloc (World.alloc w (.cells #[.int .i64 0, .slice none 0 0] 61)) _) (w.heap.size + 1) 61 [.int .i64 lev, .slice none 0 0]) := rowNew1 w _ 61 [.int .i64 lev, .slice none 0 0]
  have HB : Hid (Below w.heap.size w (World.alloc (World.alloc w (.cells #[.int .i64 0, .slice none 0 0] 61)) (.cells #[.int .i64 lev, .slice none 0 0] 61))) := by show Below _ _ _; go_grown
  have hsz : Hid ((World.alloc (World.alloc w (.cells #[.int .i64 0, .slice none 0 0] 61)) (.cells #[.int .i64 lev, .slice none 0 0] 61)).heap.size = w.heap.size + 2) := by show _ = _; simp
  revert RZ RX HB hsz
  generalize World.alloc (World.alloc w (.cells #[.int .i64 0, .slice none 0 0] 61)) (.cells #[.int .i64 lev, .slice none 0 0] 61) = w1
  intro RZ RX HB hsz
  go_loopg [8] S (fun gg s8 wr => ∃ (kk : Nat) (v : Value), kk ≤ S ∧ S - kk ≤ gg ∧ s8 = .int .i64 kk ∧ Aside (Below w.heap.size w wr) ∧ Aside (w1.heap.size ≤ wr.heap.size) ∧ Aside (Row wr w.heap.size 61 [.int .i64 0, .slice none 0 0]) ∧ Aside (Row wr (w.heap.size + 1) 61 [.int .i64 lev, v]) ∧ Aside (wr.ownsRow w1.heap.size 3 1 v kk (ints (List.replicate kk x))))
  case atStart => exact ⟨0, .slice none 0 0, Nat.zero_le _, by omega, rfl, HB.out, Nat.le_refl _, RZ.out, RX.out, World.ownsRow_nil _ _ _ _⟩
  case round =>
    clear RZ RX HB
    obtain ⟨kk, v, hkk, hgg, rfl, HB, HS, RZ, RX, OW⟩ := hrel
    obtain ⟨VA, vc, rfl, _⟩ := Rd.own OW.out
    have RX : Hid (Row wr (w.heap.size + 1) 61 [.int .i64 lev, .slice VA kk vc]) := RX.out
    have RZ : Hid (Row wr w.heap.size 61 [.int .i64 0, .slice none 0 0]) := RZ.out
    have OW : Hid (wr.ownsRow w1.heap.size 3 1 (.slice VA kk vc) kk (ints (List.replicate kk x))) := OW.out
    have k0 := RX.out.cell 0
    have k1 := RX.out.cell 1
    have kl := RX.out.lt
    simp only [List.getElem?_cons_zero, List.getElem?_cons_succ] at k0 k1
    have z0 := RZ.out.cell 0
    have z1 := RZ.out.cell 1
    have zl := RZ.out.lt
    simp only [List.getElem?_cons_zero, List.getElem?_cons_succ] at z0 z1
    have f0 := RX.out.frozen 0
    have f1 := RX.out.frozen 1
    have g0 := RZ.out.frozen 0
    have g1 := RZ.out.frozen 1
    have hszw := HS.out
    by_cases hlt : kk < S
    · have hltz : (kk : Int) < st := by have := HST.out; omega
      go_wp2_with (at_builtin; refine wpList_app rfl (.tmp 17) (.tmp 19) 26 rfl w1.heap.size 3 (.int .i64 0) 1 8 Try.underlying26 int_infoR rfl (by decide) (by decide) (.slice VA kk vc) (kk) (ints (List.replicate kk x)) rfl ?own (wr.heap.size + 1) (some ⟨wr.heap.size, 0, none⟩) 1 1 [.int .i64 x] rfl ?rd ?one ?hb ?hbase ?_)
      case own => exact (OW.out).alloc _
      case rd => exact Rd.lit wr #[.int .i64 x] 3 (sz := 1) (m := 1) rfl
      case one => first | (intro u hu; simp at hu; subst hu; rfl) | rfl
      case hb => omega
      case hbase => first | (simp; omega) | omega
      intro v' w' hown' hgrow' hat'
      obtain ⟨VB, vd, rfl, _⟩ := Rd.own hown'
      have hsz2 := hsz.out
      have hvg : ∀ g, g < w1.heap.size → (Value.slice VA kk vc).ownBlock ≠ some g := fun g hg e => by have := (OW.out.lt _ e).1; omega
      have RX1 : Hid (Row w' (w.heap.size + 1) 61 [.int .i64 lev, .slice VA kk vc]) := (RX.out.alloc _).grown hgrow' (fun e => hvg _ (by omega) e.symm)
      have RZ1 : Hid (Row w' w.heap.size 61 [.int .i64 0, .slice none 0 0]) := (RZ.out.alloc _).grown hgrow' (fun e => hvg _ (by omega) e.symm)
      have HB1 : Hid (Below w.heap.size w w') := (HB.out.alloc (by omega) _).grown hgrow' (by simp; omega) (fun k hk => by have := (OW.out.lt k hk).1; omega)
      have HS1 : Hid (w1.heap.size ≤ w'.heap.size) := by show _ ≤ _; have := hgrow'.size; simp at this; omega
      have OW1 : Hid (w'.ownsRow w1.heap.size 3 1 (.slice VB (kk + 1) vd) (kk + 1) (ints (List.replicate (kk + 1) x))) := by
        show World.ownsRow _ _ _ _ _ _ _
        rw [← reps_snoc]; exact hown'
      clear hown' hgrow' hat' hvg k0 k1 kl z0 z1 zl f0 f1 g0 g1 hsz2 RX RZ OW
      have k0 := RX1.out.cell 0
      have k1 := RX1.out.cell 1
      have kl := RX1.out.lt
      simp only [List.getElem?_cons_zero, List.getElem?_cons_succ] at k0 k1
      have f0 := RX1.out.frozen 0
      have f1 := RX1.out.frozen 1
      go_wp2
      go_roundg (S - (kk + 1))
      case measure => omega
      case rel =>
        refine ⟨kk + 1, .slice VB (kk + 1) vd, by omega, by omega, by go_num, ?_, ?_, ?_, ?_, ?_⟩
        · show Below _ _ _
          exact HB1.out.setCell (p := ⟨w.heap.size + 1, 1, none⟩) (by show w.heap.size ≤ w.heap.size + 1; omega) _
        · show _ ≤ _
          rw [World.size_setCell]; exact HS1.out
        · show Row _ _ _ _
          exact RZ1.out.far (by show w.heap.size ≠ w.heap.size + 1; omega) _
        · show Row _ _ _ _
          exact RX1.out.set 1 _
        · show World.ownsRow _ _ _ _ _ _ _
          exact own_set (p := ⟨w.heap.size + 1, 1, none⟩) OW1.out RX1.out (by decide) _
    · have hltz : ¬ (kk : Int) < st := by have := HST.out; omega
      obtain rfl : kk = S := by omega
      go_wp2
      clear k0 k1 kl z0 z1 zl f0 f1 g0 g1
      have c2 := RZ.out.set 0 (.int .i64 lev)
      have c3 := c2.set 1 (.slice VA kk vc)
      have p2 := own_set (p := ⟨w.heap.size, 0, none⟩) OW.out RZ.out (by decide) (.int .i64 lev)
      have p3 := own_set (p := ⟨w.heap.size, 1, none⟩) p2 c2 (by decide) (.slice VA kk vc)
      have r0 := c3.cell 0
      have r1 := c3.cell 1
      have hbl := (HB.out.setCell (p := ⟨w.heap.size, 0, none⟩) (Nat.le_refl _) (.int .i64 lev)).setCell (p := ⟨w.heap.size, 1, none⟩) (Nat.le_refl _) (.slice VA kk vc)
      have hsz2 := hsz.out
      clear c2 c3 p2
      simp only [List.set_cons_zero, List.set_cons_succ, List.getElem?_cons_zero, List.getElem?_cons_succ] at r0 r1
      revert p3 r0 r1 hbl
      generalize (World.setCell (World.setCell wr ⟨w.heap.size, 0, none⟩ (.int .i64 lev)) ⟨w.heap.size, 1, none⟩ (.slice VA kk vc)) = wz
      intro p3 r0 r1 hbl
      exact bodyPost_ret (v := .agg #[.int .i64 lev, .slice VA kk vc]) (by simp [results, Try.results46, go_sem, r0, r1]) rfl ⟨VA, vc, rfl, own_base p3 (by omega), hbl⟩
end Go.Proofs.Ytdkfaphclhaiaaa
