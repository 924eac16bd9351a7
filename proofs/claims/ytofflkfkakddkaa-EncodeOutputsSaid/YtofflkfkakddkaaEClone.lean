/-
  slices.Clone of lists of lists, slices.Grow of nil and slices.Concat of two lists, walked.
-/
import Derived.Test.YtofflkfkakddkaaEMem
import Derived.Lib.AppendZeros
import Derived.WalkSpells
namespace Go.Proofs.Ytofflkfkakddkaa
open Go.RowKit
set_option linter.unusedSimpArgs false
set_option linter.unusedVariables false
theorem Row.ownCap {w : World} {base g cap : Nat} {T : TypeId} {ys : List Value} (h : Row w g T ys) (hb : base ≤ g) (hc : ys.length = cap) (hm : cap ≤ maxLen) : w.ownsRow base T 1 (.slice (some ⟨g, 0, none⟩) 0 cap) 0 [] :=
  ⟨rfl, .inr ⟨g, cap, ys.toArray, rfl, hb, h, Nat.zero_le _, hm, by simpa using hc, by simp⟩⟩
set_option maxHeartbeats 1000000 in
theorem growNil_any (n : Nat) (w : World) (hn : n ≤ 1000000) :
    Calls Try.prog 46 #[.slice none 0 0, .int .i64 n] w fun e w' => ∃ A c, e = .returned (.slice A 0 c) ∧ w'.ownsRow w.heap.size 3 1 (.slice A 0 c) 0 [] ∧ Below w.heap.size w w' := by
  obtain ⟨i, g1, g2, g3, g4⟩ := info_parts int_infoE
  by_cases h0 : 0 < n
  · have h0z : (0 : Int) < (n : Int) := by omega
    have HA0 := Lib.run_append_nil_zeros (P := Try.prog) w 23 3 23 3 i (.int .i64 0) .i64 .i64 Try.underlying23 Try.underlying3 g1 g2 n h0 (by omega) (by omega) (by rw [g4]; omega)
    have hc1 := grownCap_ge w n 0 3
    have hc2 := grownCap_le_maxLen w n 0 3 (by unfold maxLen; omega)
    obtain ⟨Z, cap, hZ, hc1, hc2, HA⟩ : ∃ (Z : Array Value) (cap : Nat), Z.size = cap ∧ n ≤ cap ∧ cap ≤ maxLen ∧ (Builtin.append_ #[23, 3] 23 #[.slice none 0 0, .int .i64 n]).run Try.prog w = .ok (.slice (some ⟨w.heap.size, 0, none⟩) n cap) ((w.alloc (.cells Z 3)).drew) :=
      ⟨_, _, by simp [Builtin.zeroCells, Value.cells]; omega, hc1, hc2, HA0⟩
    have HZ : Hid (Z.size = cap) := hZ
    clear hZ HA0
    have HC : Hid (cap ≤ maxLen) := hc2
    unfold maxLen at hc2
    have hcz : ¬ cap = 0 := by omega
    go_enter Try.func46, Try.ntmps46
    go_wp2_with (at_builtin; refine Lib.wpList_append_run _ rfl (.tmp 20) (.tmp 21) 23 3 rfl _ _ rfl rfl _ _ HA ?_)
    clear HA
    go_wp2
    go_ret
    refine ⟨_, _, rfl, ?_, ((Below.refl _ _).alloc (Nat.le_refl _) _).drew⟩
    have HR : Row (w.alloc (.cells Z 3)) w.heap.size 3 Z.toList := heap_alloc_new w _
    exact (HR.drew).ownCap (Nat.le_refl _) (by simpa using HZ.out) HC.out
  · obtain rfl : n = 0 := by omega
    go_enter Try.func46, Try.ntmps46
    go_wp2
    go_ret
    exact ⟨none, 0, rfl, World.ownsRow_nil _ _ _ _, Below.refl _ _⟩
/-- slices.Clone of a list of lists. -/
theorem clone_rows (A : Option Addr) (n c : Nat) (sl : List Sl) (w : World) (hr : Rd w w.heap.size 1 A n (slCells sl)) (hn : n ≤ 1000000) :
    Calls Try.prog 31 #[.slice A n c] w fun e w' => ∃ A' c', e = .returned (.slice A' n c') ∧ w'.ownsRow w.heap.size 23 1 (.slice A' n c') n (slCells sl) ∧ Below w.heap.size w w' := by
  have HR : Hid (Rd w w.heap.size 1 A n (slCells sl)) := hr
  clear hr
  cases A with
  | none =>
    have h0 : n = 0 := by
      rcases Nat.eq_zero_or_pos n with h | h
      · exact h
      · obtain ⟨ad, e, _⟩ := HR.out.ex h; cases e
    subst h0
    have hc : slCells sl = [] := List.eq_nil_of_length_eq_zero (by have := HR.out.1; simpa using this)
    have HC : Hid (slCells sl = []) := hc
    clear hc
    have e1 := fun W => Lib.run_eql_slice_nil (P := Try.prog) W 28 23 none 0 c 0 0 Try.underlying28
    go_enter Try.func31, Try.ntmps31
    go_wp2
    go_ret
    refine ⟨none, 0, rfl, ?_, Below.refl _ _⟩
    rw [HC.out]
    exact World.ownsRow_nil _ _ _ _
  | some ad =>
    have e1 := fun W => Lib.run_eql_slice_nil (P := Try.prog) W 28 23 (some ad) n c 0 0 Try.underlying28
    go_enter Try.func31, Try.ntmps31
    go_wp2_with (at_builtin; refine wpList_app rfl (.tmp 5) (.tmp 6) 28 rfl w.heap.size 23 (.slice none 0 0) 1 24 Try.underlying28 row_infoE rfl (by decide) (by decide) (.slice (some ⟨w.heap.size, 0, none⟩) 0 0) 0 [] rfl ?own w.heap.size (some ad) n c (slCells sl) rfl ?rd (slCells_one sl) ?hb ?hbase ?_)
    case own => exact Row.own (xs := []) (Row.new _ _ _) (Nat.le_refl _) rfl (by unfold maxLen; omega)
    case rd => exact HR.out.below (show Below w.heap.size w _ by go_grown) (Nat.le_refl _)
    case hb => omega
    case hbase => simp
    intro v' w' hown' hgrow' hat'
    have HB : Aside (Below w.heap.size w w') := (show Below w.heap.size w (w.alloc (.cells #[] 23)) by go_grown).grown hgrow' (by simp) (fun k hk => by simp [Value.ownBlock] at hk; omega)
    have HO : Aside (w'.ownsRow w.heap.size 23 1 v' n (slCells sl)) := by
      show w'.ownsRow _ _ _ _ _ _
      simpa using hown'
    clear hown' hgrow' hat'
    obtain ⟨A', c', rfl, _⟩ := Rd.own HO.out
    go_wp2
    go_ret
    exact ⟨A', c', rfl, HO.out, HB.out⟩
def cat2 (xs ys : List Int) (k : Nat) : List Int := if k = 0 then [] else if k = 1 then xs else xs ++ ys
set_option maxHeartbeats 2000000 in
/-- slices.Concat of two lists. -/
theorem concat_any (A B : Option Addr) (n c m d g : Nat) (xs ys : List Int) (w : World) (hg : Row w g 23 [.slice A n c, .slice B m d]) (hx : Rd w w.heap.size 1 A n (ints xs)) (hy : Rd w w.heap.size 1 B m (ints ys)) (hn : n ≤ 100000) (hm : m ≤ 100000) :
    Calls Try.prog 30 #[.slice (some ⟨g, 0, none⟩) 2 2] w fun e w' => ∃ A' c', e = .returned (.slice A' (n + m) c') ∧ w'.ownsRow w.heap.size 3 1 (.slice A' (n + m) c') (n + m) (ints (xs ++ ys)) ∧ Below w.heap.size w w' := by
  have HG : Hid (Row w g 23 [.slice A n c, .slice B m d]) := hg
  have HX : Hid (Rd w w.heap.size 1 A n (ints xs)) := hx
  have HY : Hid (Rd w w.heap.size 1 B m (ints ys)) := hy
  have HL : Hid (xs.length = n ∧ ys.length = m) := by
    have h1 := hx.1
    have h2 := hy.1
    rw [ints_length, Nat.mul_one] at h1 h2
    exact ⟨h1, h2⟩
  clear hg hx hy
  go_enter Try.func30, Try.ntmps30
  go_wp2
  go_loopg [3, 5, 11] 2 (fun gg s3 _ s11 wr => ∃ k t : Nat, k ≤ 2 ∧ 2 - k ≤ gg ∧ s11 = .int .i64 k ∧ s3 = .int .i64 t ∧ t = (if k = 0 then 0 else if k = 1 then n else n + m) ∧ Aside (w = wr))
  case atStart => exact ⟨0, 0, by omega, by omega, rfl, rfl, rfl, rfl⟩
  case round =>
    obtain ⟨k, t, hk, hgg, rfl, rfl, ht, BW⟩ := hrel
    obtain rfl := BW.out
    have k0 := HG.out.cell 0
    have k1 := HG.out.cell 1
    have kl := HG.out.lt
    simp only [List.getElem?_cons_zero, List.getElem?_cons_succ] at k0 k1
    have hc : k = 0 ∨ k = 1 ∨ k = 2 := by omega
    rcases hc with rfl | rfl | rfl
    · obtain rfl : t = 0 := by simpa using ht
      clear ht
      go_wp2
      go_roundg 1
      case measure => omega
      case rel => exact ⟨1, n, by omega, by omega, rfl, rfl, rfl, rfl⟩
    · obtain rfl : t = n := by simpa using ht
      clear ht
      go_wp2
      go_roundg 0
      case measure => omega
      case rel => exact ⟨2, t + m, by omega, by omega, rfl, by go_num, by simp, rfl⟩
    · obtain rfl : t = n + m := by simpa using ht
      clear ht k0 k1 kl
      go_wp2_with fail
      refine (growNil_any (n + m) _ (by omega)).mono ?_
      rintro e w1 ⟨GA, gc, rfl, hown, hb⟩
      have HO1 : Hid (w1.ownsRow w.heap.size 3 1 (.slice GA 0 gc) 0 []) := hown
      have HB1 : Hid (Below w.heap.size w w1) := hb
      clear hown hb
      go_wp2
      go_loopg [6, 8, 27] 2 (fun gg s6 _ s27 wr => ∃ (k : Nat) (v : Value), k ≤ 2 ∧ 2 - k ≤ gg ∧ s27 = .int .i64 k ∧ s6 = v ∧ Aside (wr.ownsRow w.heap.size 3 1 v (cat2 xs ys k).length (ints (cat2 xs ys k))) ∧ Aside (Below w.heap.size w wr))
      case atStart => exact ⟨0, _, by omega, by omega, rfl, rfl, HO1.out, HB1.out⟩
      case round =>
        clear HO1 HB1
        obtain ⟨k, s6, hk, hgg, rfl, rfl, HO, HB⟩ := hrel
        have HGr : Hid (Row wr g 23 [.slice A n c, .slice B m d]) := rowCells HG.out HB.out
        have k0 := HGr.out.cell 0
        have k1 := HGr.out.cell 1
        have kl := HGr.out.lt
        simp only [List.getElem?_cons_zero, List.getElem?_cons_succ] at k0 k1
        have hc : k = 0 ∨ k = 1 ∨ k = 2 := by omega
        rcases hc with rfl | rfl | rfl
        · have HO0 : Hid (wr.ownsRow w.heap.size 3 1 u6 0 (ints [])) := HO.out
          obtain ⟨VA, vc, rfl, _⟩ := Rd.own HO0.out
          have hbs := HB.out.size
          go_wp2_with (at_builtin; refine wpList_app rfl (.tmp 31) (.tmp 32) 23 rfl w.heap.size 3 (.int .i64 0) 1 8 Try.underlying23 int_infoE rfl (by decide) (by decide) (.slice VA 0 vc) (0) (ints []) rfl ?own wr.heap.size A n c (ints xs) rfl ?rd (ints_one _) ?hb ?hbase ?_)
          case own => exact HO0.out
          case rd => exact HX.out.up HB.out
          case hb => omega
          case hbase => omega
          intro v' w' hown' hgrow' hat'
          have HBn : Hid (Below w.heap.size w w') := HB.out.grown hgrow' hbs (fun j hj => (HO0.out.lt j hj).1)
          have HOn : Hid (w'.ownsRow w.heap.size 3 1 v' (cat2 xs ys 1).length (ints (cat2 xs ys 1))) := by
            show World.ownsRow _ _ _ _ _ _ _
            have e : cat2 xs ys 1 = xs := rfl
            rw [e]
            rw [HL.out.1]
            simpa [ints] using hown'
          clear hown' hgrow' hat' k0 k1 kl hbs
          obtain ⟨VB, vd, rfl, _⟩ := Rd.own HOn.out
          go_wp2
          go_roundg 1
          case measure => omega
          case rel => exact ⟨1, _, by omega, by omega, rfl, rfl, HOn.out, HBn.out⟩
        · have HO0 : Hid (wr.ownsRow w.heap.size 3 1 u6 n (ints xs)) := (by show World.ownsRow _ _ _ _ _ _ _; have := HO.out; rw [show cat2 xs ys 1 = xs from rfl, HL.out.1] at this; exact this)
          obtain ⟨VA, vc, rfl, _⟩ := Rd.own HO0.out
          have hbs := HB.out.size
          go_wp2_with (at_builtin; refine wpList_app rfl (.tmp 31) (.tmp 32) 23 rfl w.heap.size 3 (.int .i64 0) 1 8 Try.underlying23 int_infoE rfl (by decide) (by decide) (.slice VA n vc) (n) (ints xs) rfl ?own wr.heap.size B m d (ints ys) rfl ?rd (ints_one _) ?hb ?hbase ?_)
          case own => exact HO0.out
          case rd => exact HY.out.up HB.out
          case hb => omega
          case hbase => omega
          intro v' w' hown' hgrow' hat'
          have HBn : Hid (Below w.heap.size w w') := HB.out.grown hgrow' hbs (fun j hj => (HO0.out.lt j hj).1)
          have HOn : Hid (w'.ownsRow w.heap.size 3 1 v' (cat2 xs ys 2).length (ints (cat2 xs ys 2))) := by
            show World.ownsRow _ _ _ _ _ _ _
            have e : cat2 xs ys 2 = xs ++ ys := rfl
            rw [e]
            rw [List.length_append, HL.out.1, HL.out.2]
            simpa [ints] using hown'
          clear hown' hgrow' hat' k0 k1 kl hbs
          obtain ⟨VB, vd, rfl, _⟩ := Rd.own HOn.out
          go_wp2
          go_roundg 0
          case measure => omega
          case rel => exact ⟨2, _, by omega, by omega, rfl, rfl, HOn.out, HBn.out⟩
        · have HO0 : Hid (wr.ownsRow w.heap.size 3 1 u6 (n + m) (ints (xs ++ ys))) := (by show World.ownsRow _ _ _ _ _ _ _; have := HO.out; rw [show cat2 xs ys 2 = xs ++ ys from rfl, List.length_append, HL.out.1, HL.out.2] at this; exact this)
          obtain ⟨VA, vc, rfl, _⟩ := Rd.own HO0.out
          go_wp2
          go_ret
          exact ⟨VA, vc, rfl, HO0.out, HB.out⟩
end Go.Proofs.Ytofflkfkakddkaa
