/-
  grid.New and the reference's New, walked.
-/
import Derived.Test.YtfknooffjhncgaaGSmall
import Derived.Test.YtfknooffjhncgaaWalk
namespace Go.Proofs.Ytfknooffjhncgaa
open Go.RowKit
set_option linter.unusedSimpArgs false
set_option linter.unusedVariables false

theorem int_infog : (Try.prog.info? 3).map (fun i => (i.zero, i.size, i.bytes)) = some (some (.int .i64 0), 1, 8) := by kernel_rfl
theorem ints_zeros (n : Nat) : ints (zeros n) = List.replicate n (.int .i64 0) := by simp [ints, zeros]
def NewPost (a b e : Int) (w : World) (en : Ending) (w' : World) : Prop :=
  (sizedF a b e = false ∧ en = .returned (.tuple #[.agg #[.int .i64 0, .int .i64 0, .int .i64 0, .slice none 0 0], .int .i64 2]) ∧ Below w.heap.size w w') ∨
  (sizedF a b e = true ∧ ∃ g, en = .returned (.tuple #[.agg #[.int .i64 a, .int .i64 b, .int .i64 e, .slice (some ⟨g, 0, none⟩) (a * b).toNat (a * b).toNat], .int .i64 0]) ∧ Row w' g 3 (ints (zeros (a * b).toNat)) ∧ w.heap.size ≤ g ∧ Below w.heap.size w w')

set_option maxHeartbeats 1000000 in
theorem gNew_any (a b e : Int) (w : World) : Calls Try.prog 31 #[.int .i64 a, .int .i64 b, .int .i64 e] w (NewPost a b e w) := by
  cases hs : sizedF a b e
  · go_enter Try.func31, Try.ntmps31
    go_wp2_with fail
    refine (sized_any a b e _).mono ?_
    rw [hs]
    rintro en w1 ⟨rfl, rfl⟩
    go_wp2
    exact bodyPost_ret (v := .tuple #[.agg #[.int .i64 0, .int .i64 0, .int .i64 0, .slice none 0 0], .int .i64 2]) (by simp [results, Try.results31, go_sem]) rfl (.inl ⟨hs, rfl, by go_grown⟩)
  · obtain ⟨⟨q1, q2⟩, ⟨h1, h2⟩, hm', he1, he2⟩ := sizedF_parts hs
    obtain ⟨p1, p2⟩ := prod_bd ⟨q1, q2⟩ ⟨h1, h2⟩
    obtain ⟨n, hn⟩ : ∃ n : Nat, a * b = n := ⟨(a * b).toNat, by omega⟩
    have HN : Hid ((a * b).toNat = n) := by show _ = _; omega
    have hmk := fun W => make_like (P := Try.prog) Try.underlying22 int_infog rfl n (a * b) hn (by omega) (by omega) W
    clear hn
    go_enter Try.func31, Try.ntmps31
    go_wp2_with fail
    refine (sized_any a b e _).mono ?_
    rw [hs]
    rintro en w1 ⟨rfl, rfl⟩
    go_wp2
    refine bodyPost_ret (v := .tuple #[.agg #[.int .i64 a, .int .i64 b, .int .i64 e, .slice (some ⟨w.heap.size + 1, 0, none⟩) n n], .int .i64 0]) (by simp [results, Try.results31, go_sem]) rfl (.inr ⟨hs, w.heap.size + 1, by rw [HN.out], ?_, by omega, by go_grown⟩)
    rw [HN.out, ints_zeros]
    exact rowNew1 w _ 3 (List.replicate n (.int .i64 0))

set_option maxHeartbeats 1000000 in
theorem rNew_any (a b e : Int) (w : World) : Calls Try.prog 33 #[.int .i64 a, .int .i64 b, .int .i64 e] w (NewPost a b e w) := by
  cases hs : sizedF a b e
  · go_enter Try.func33, Try.ntmps33
    go_wp2_with fail
    refine (rSize_any a b e _).mono ?_
    rw [hs]
    rintro en w1 ⟨rfl, rfl⟩
    go_wp2
    exact bodyPost_ret (v := .tuple #[.agg #[.int .i64 0, .int .i64 0, .int .i64 0, .slice none 0 0], .int .i64 2]) (by simp [results, Try.results33, go_sem]) rfl (.inl ⟨hs, rfl, by go_grown⟩)
  · obtain ⟨⟨q1, q2⟩, ⟨h1, h2⟩, hm', he1, he2⟩ := sizedF_parts hs
    obtain ⟨p1, p2⟩ := prod_bd ⟨q1, q2⟩ ⟨h1, h2⟩
    obtain ⟨n, hn⟩ : ∃ n : Nat, a * b = n := ⟨(a * b).toNat, by omega⟩
    have HN : Hid ((a * b).toNat = n) := by show _ = _; omega
    have hmk := fun W => make_like (P := Try.prog) Try.underlying22 int_infog rfl n (a * b) hn (by omega) (by omega) W
    clear hn
    go_enter Try.func33, Try.ntmps33
    go_wp2_with fail
    refine (rSize_any a b e _).mono ?_
    rw [hs]
    rintro en w1 ⟨rfl, rfl⟩
    go_wp2
    refine bodyPost_ret (v := .tuple #[.agg #[.int .i64 a, .int .i64 b, .int .i64 e, .slice (some ⟨w.heap.size + 1, 0, none⟩) n n], .int .i64 0]) (by simp [results, Try.results33, go_sem]) rfl (.inr ⟨hs, w.heap.size + 1, by rw [HN.out], ?_, by omega, by go_grown⟩)
    rw [HN.out, ints_zeros]
    exact rowNew1 w _ 3 (List.replicate n (.int .i64 0))
end Go.Proofs.Ytfknooffjhncgaa
