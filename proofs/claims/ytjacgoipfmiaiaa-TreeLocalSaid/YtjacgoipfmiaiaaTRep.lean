/-
  math/bits.Mul at a small number, slices.Repeat of one integer, slices.Clone at points, walked.
-/
import Derived.Test.YtjacgoipfmiaiaaTSame
import Derived.Test.YtjacgoipfmiaiaaApp
import Derived.Laws.CopyOwn
import Derived.Deep.RegionLaw
import Derived.WalkSpells
import Derived.Deep.Light
namespace Go.Proofs.Ytjacgoipfmiaiaa
open Go.RowKit
set_option linter.unusedSimpArgs false
set_option linter.unusedVariables false

theorem pt_info : (Try.prog.info? 43).map (fun i => (i.zero, i.size, i.bytes)) = some (some (.agg #[.int .i64 0, .int .i64 0]), 2, 16) := by kernel_rfl
theorem int_infoR : (Try.prog.info? 3).map (fun i => (i.zero, i.size, i.bytes)) = some (some (.int .i64 0), 1, 8) := by kernel_rfl
theorem hoodCells_one (l : List Pt) : ∀ u ∈ hoodCells l, u.oneCell' = true := by
  intro u hu
  simp only [hoodCells, ptCells, List.mem_flatMap, List.mem_cons, List.not_mem_nil, or_false] at hu
  obtain ⟨p, _, rfl | rfl⟩ := hu <;> rfl

set_option maxHeartbeats 1000000 in
theorem mul64_small (n : Nat) (h1 : 2 ≤ n) (h2 : n ≤ 8) (w : World) :
    Calls Try.prog 49 #[.int .u64 1, .int .u64 n] w fun e w' => e = .returned (.tuple #[.int .u64 0, .int .u64 n]) ∧ w = w' := by
  have hc : n = 2 ∨ n = 3 ∨ n = 4 ∨ n = 5 ∨ n = 6 ∨ n = 7 ∨ n = 8 := by omega
  rcases hc with rfl | rfl | rfl | rfl | rfl | rfl | rfl
  all_goals
    go_enter Try.func49, Try.ntmps49
    go_wp2
    go_ret2
    exact ⟨rfl, rfl⟩
set_option maxHeartbeats 1000000 in
theorem mul_small (n : Nat) (h1 : 2 ≤ n) (h2 : n ≤ 8) (w : World) :
    Calls Try.prog 46 #[.int .u64 1, .int .u64 n] w fun e w' => e = .returned (.tuple #[.int .u64 0, .int .u64 n]) ∧ w = w' := by
  go_enter Try.func46, Try.ntmps46
  go_wp2_with fail
  refine (mul64_small n h1 h2 _).mono ?_
  rintro e w' ⟨rfl, rfl⟩
  go_wp2
  go_ret2
  exact ⟨rfl, rfl⟩

/-- k copies of x, then zeros. -/
def repRow (n : Nat) (x : Int) (k : Nat) : List Int := List.replicate k x ++ List.replicate (n - k) 0
theorem repRow_length (n : Nat) (x : Int) (k : Nat) (h : k ≤ n) : (repRow n x k).length = n := by simp [repRow]; omega
theorem repRow_splice (n : Nat) (x : Int) (k m : Nat) (h : k + m ≤ n) : splice (ints (repRow n x k)) k (ints (List.replicate m x)) = ints (repRow n x (k + m)) := by
  unfold splice repRow ints
  simp only [List.map_append, List.map_replicate, List.length_replicate]
  rw [List.take_left' (by simp), List.drop_append, List.drop_of_length_le (by simp), List.length_replicate, List.nil_append, List.drop_replicate, ← List.append_assoc, List.replicate_append_replicate, show n - k - (k + m - k) = n - (k + m) by omega]
theorem repRow_get (n : Nat) (x : Int) (k m j : Nat) (hm : m ≤ k) {u : Value} (hu : (ints (List.replicate m x))[j]? = some u) : (ints (repRow n x k))[j]? = some u := by
  have hj : j < m := by
    have := (List.getElem?_eq_some_iff.1 hu).1
    simpa [ints] using this
  simp only [ints, List.getElem?_map, List.getElem?_replicate, if_pos hj] at hu
  simp only [repRow, ints, List.map_append, List.map_replicate]
  rw [List.getElem?_append_left (by simp; omega), List.getElem?_replicate, if_pos (by omega)]
  exact hu

set_option maxRecDepth 100000 in
set_option maxHeartbeats 1000000 in
theorem repeat_any (x : Int) (n c : Nat) (A : Option Addr) (w : World) (h1 : 2 ≤ n) (h2 : n ≤ 8) (hx : Rd w w.heap.size 1 A 1 (ints [x])) :
    Calls Try.prog 42 #[.slice A 1 c, .int .i64 n] w fun e w' => e = .returned (.slice (some ⟨w.heap.size, 0, none⟩) n n) ∧ Row w' w.heap.size 3 (ints (List.replicate n x)) ∧ Below w.heap.size w w' := by
  obtain ⟨ad, rfl, hb, hc⟩ := hx.int (k := 0) (by omega)
  simp only [List.getD_cons_zero] at hc
  have HC : Hid (w.cell? (ad.add 0) = some (.int .i64 x)) := hc
  clear hc hx
  have hmk := fun W => make_like (P := Try.prog) Try.underlying29 int_infoR rfl n (n : Int) rfl (by omega) (by omega) W
  go_enter Try.func42, Try.ntmps42
  go_wp2_with fail
  refine (mul_small n h1 h2 _).mono ?_
  rintro e w' ⟨rfl, rfl⟩
  have hsz : (Try.prog.info? 3).map (·.size) = some 1 := by kernel_rfl
  go_wp2_with (with_reducible refine wpList_copy_splice rfl (.tmp 31) (.tmp 32) 29 29 rfl 3 Try.underlying29 hsz (some ⟨w.heap.size, 0, none⟩) (some ad) n n 1 c rfl rfl w.heap.size 0 (ints (repRow n x 0)) 3 ?hg (ints [x]) ?hn ?hpos ?hfit (ints_one _) w.heap.size w ?hb (Nat.le_refl _) ?_)
  case hg =>
    have h0 := Row.new w 3 (List.replicate n (Value.int .i64 0))
    have e0 : ints (repRow n x 0) = List.replicate n (Value.int .i64 0) := by simp [repRow, ints]
    rw [e0]; exact h0
  case hn => show 1 = min 1 n; omega
  case hpos =>
    intro j v hv
    have hj : j = 0 := by
      have := (List.getElem?_eq_some_iff.1 hv).1
      simp at this; omega
    subst hj
    rw [World.cell?_alloc_lt _ _ _ (by rw [add_block]; exact hb), HC.out]
    simpa [ints] using hv
  case hfit => rw [ints_length, ints_length, repRow_length n x 0 (by omega)]; simp; omega
  case hb => go_grown
  intro w2 HG2 hB2
  have HG : Hid (Row w2 w.heap.size 3 (ints (repRow n x 1))) := by
    have h := HG2.out
    have e := repRow_splice n x 0 1 (by omega)
    rw [Nat.zero_add] at e
    rw [← e]
    exact h
  have HB : Hid (Below w.heap.size w w2) := hB2
  clear HG2 hB2 hmk
  go_wp2
  go_loopg [8] n (fun gg s8 wr => ∃ k : Nat, 1 ≤ k ∧ k ≤ n ∧ n - k ≤ gg ∧ s8 = .int .i64 k ∧ Aside (Below w.heap.size w wr) ∧ Aside (Row wr w.heap.size 3 (ints (repRow n x k))))
  case atStart => exact ⟨1, by omega, by omega, by omega, rfl, HB.out, HG.out⟩
  case round =>
    obtain ⟨k, hk1, hk, hg, rfl, BW, RW⟩ := hrel
    by_cases hlt : k < n
    · have hltz : (k : Int) < (n : Int) := by omega
      obtain ⟨m, hm⟩ : ∃ m, m = Nat.min k (n - k) := ⟨_, rfl⟩
      have hm1 : 1 ≤ m ∧ m ≤ k ∧ m ≤ n - k := by rw [hm]; show 1 ≤ min k (n - k) ∧ min k (n - k) ≤ k ∧ min k (n - k) ≤ n - k; omega
      have HM : Hid (m = Nat.min k (n - k)) := hm
      clear hm
      obtain ⟨j1, j2, j3⟩ := hm1
      have hk0 : (0 : Int) ≤ (k : Int) := by omega
      have hkn : (k : Int) ≤ (n : Int) := by omega
      have RW' : Hid (Row wr.drew w.heap.size 3 (ints (repRow n x k))) := RW.out
      have BW' : Hid (Below w.heap.size w wr.drew) := BW.out.drew
      go_wp2_with fail
      go_region_law ((refine step_copy_splice rfl (.tmp 41) (.tmp 44) 29 29 rfl 3 Try.underlying29 hsz (some ⟨w.heap.size, k, none⟩) (some ⟨w.heap.size, 0, none⟩) (n - k) (n - k) k n ?hd ?hs w.heap.size k (ints (repRow n x k)) 3 RW'.out (ints (List.replicate m x)) ?hn ?hpos ?hfit (ints_one _) w.heap.size w BW'.out (Nat.le_refl _) ?_; (case hd => go_simp; omega); (case hs => go_simp); (case hn => rw [ints_length, List.length_replicate]; show m = min k (n - k); have := HM.out; exact this); (case hpos => exact fun _ => ⟨rfl, _, rfl, fun j v hv => by rw [add_zero_off, RW'.out.cell]; exact repRow_get n x k m j j2 hv⟩); (case hfit => rw [ints_length, ints_length, repRow_length n x k hk, List.length_replicate]; omega); intro w4 hg4 hb4))
      have HG4 : Hid (Row w4 w.heap.size 3 (ints (repRow n x (k + m)))) := by
        have h := hg4.out
        rw [repRow_splice n x k m (by omega)] at h
        exact h
      have HB4 : Hid (Below w.heap.size w w4) := hb4
      clear hg4 hb4
      have hwk : IntKind.i64.wrap ((k : Int) + (m : Int)) = (k : Int) + (m : Int) := IntWalk.i64_in _ (by omega)
      have hil : (ints (List.replicate m x)).length = m := by rw [ints_length, List.length_replicate]
      go_wp2
      go_roundg (n - (k + m))
      case measure => omega
      case rel => exact ⟨k + m, by omega, by omega, by omega, by go_num, HB4.out, HG4.out⟩
    · have hltz : ¬ (k : Int) < (n : Int) := by omega
      obtain rfl : k = n := by omega
      go_wp2
      go_ret
      refine ⟨rfl, ?_, BW.out⟩
      have h := RW.out
      rw [repRow, Nat.sub_self, List.replicate_zero, List.append_nil] at h
      exact h

set_option maxHeartbeats 400000 in
theorem clone_pts (A : Option Addr) (n c : Nat) (l : List Pt) (w : World) (hr : Rd w w.heap.size 2 A n (hoodCells l)) (hn : n ≤ 20000) :
    Calls Try.prog 32 #[.slice A n c] w fun e w' => ∃ A' c', e = .returned (.slice A' n c') ∧ w'.ownsRow w.heap.size 43 2 (.slice A' n c') n (hoodCells l) ∧ Below w.heap.size w w' := by
  have HR : Hid (Rd w w.heap.size 2 A n (hoodCells l)) := hr
  clear hr
  cases A with
  | none =>
    have h0 : n = 0 := by
      rcases Nat.eq_zero_or_pos n with h | h
      · exact h
      · obtain ⟨ad, e, _⟩ := HR.out.ex h; cases e
    subst h0
    have hc : hoodCells l = [] := List.eq_nil_of_length_eq_zero (by have := HR.out.1; simpa using this)
    have HC : Hid (hoodCells l = []) := hc
    clear hc
    have e1 := fun W => Lib.run_eql_slice_nil (P := Try.prog) W 22 43 none 0 c 0 0 Try.underlying22
    go_enter Try.func32, Try.ntmps32
    go_wp2
    go_ret
    refine ⟨none, 0, rfl, ?_, Below.refl _ _⟩
    rw [HC.out]
    exact World.ownsRow_nil _ _ _ _
  | some ad =>
    have e1 := fun W => Lib.run_eql_slice_nil (P := Try.prog) W 22 43 (some ad) n c 0 0 Try.underlying22
    go_enter Try.func32, Try.ntmps32
    go_wp2_with (at_builtin; refine wpList_app rfl (.tmp 5) (.tmp 6) 22 rfl w.heap.size 43 (.agg #[.int .i64 0, .int .i64 0]) 2 16 Try.underlying22 pt_info rfl (by decide) (by decide) (.slice (some ⟨w.heap.size, 0, none⟩) 0 0) 0 [] rfl ?own w.heap.size (some ad) n c (hoodCells l) rfl ?rd (hoodCells_one l) ?hb ?hbase ?_)
    case own => exact Row.own (xs := []) (Row.new _ _ _) (Nat.le_refl _) rfl (by unfold maxLen; omega)
    case rd => exact HR.out.below (show Below w.heap.size w _ by go_grown) (Nat.le_refl _)
    case hb => omega
    case hbase => simp
    intro v' w' hown' hgrow' hat'
    have HB : Aside (Below w.heap.size w w') := (show Below w.heap.size w (w.alloc (.cells #[] 43)) by go_grown).grown hgrow' (by simp) (fun k hk => by simp [Value.ownBlock] at hk; omega)
    have HO : Aside (w'.ownsRow w.heap.size 43 2 v' n (hoodCells l)) := by
      show w'.ownsRow _ _ _ _ _ _
      simpa using hown'
    clear hown' hgrow' hat'
    obtain ⟨A', c', rfl, _⟩ := Rd.own HO.out
    go_wp2
    go_ret
    exact ⟨A', c', rfl, HO.out, HB.out⟩
end Go.Proofs.Ytjacgoipfmiaiaa
