/-
  What a function that returns a grid and an error code hands back.
-/
import Derived.Test.YtdkfaphclhaiaaaGPlain
import Derived.Test.YtdkfaphclhaiaaaWalk
import Derived.Test.YtdkfaphclhaiaaaGSmall
namespace Go.Proofs.Ytdkfaphclhaiaaa
open Go.RowKit
set_option linter.unusedSimpArgs false
set_option linter.unusedVariables false
theorem int_infog : (Try.prog.info? 3).map (fun i => (i.zero, i.size, i.bytes)) = some (some (.int .i64 0), 1, 8) := by kernel_rfl
theorem ints_zeros (n : Nat) : ints (zeros n) = List.replicate n (.int .i64 0) := by simp [ints, zeros]
/-- What a function that returns a grid and an error code hands back. -/
def GPost (r : Grd) (k : Int) (w : World) (e : Ending) (w' : World) : Prop :=
  ∃ (A : Option Addr) (n c : Nat), e = .returned (.tuple #[.agg #[.int .i64 r.w, .int .i64 r.h, .int .i64 r.edge, .slice A n c], .int .i64 k]) ∧ GAt w' r A n ∧ Below w.heap.size w w'
theorem gpost_err {r : Grd} {k k' : Int} {w w' : World} (hr : r = noGrd) (hk : k' = k) (hb : Below w.heap.size w w') : GPost r k' w (.returned (.tuple #[.agg #[.int .i64 0, .int .i64 0, .int .i64 0, .slice none 0 0], .int .i64 k])) w' := by
  subst hr hk
  exact ⟨none, 0, 0, rfl, noGrd_at _, hb⟩
/-- A list's block lies below b or at or beyond B. -/
def NewOr (A : Option Addr) (n b B : Nat) : Prop := ∀ ad, A = some ad → 0 < n → ad.block < b ∨ B ≤ ad.block
theorem NewOr.mono {A : Option Addr} {n b B b' B' : Nat} (h : NewOr A n b B) (h1 : b ≤ b') (h2 : B' ≤ B) : NewOr A n b' B' := fun ad e hn => (h ad e hn).imp (fun h => by omega) (fun h => by omega)
theorem NewOr.none {n b B : Nat} : NewOr none n b B := fun ad e => by cases e
theorem Rd.newOr {w : World} {B sz n c : Nat} {A : Option Addr} {xs : List Value} (h : Rd w B sz A n xs) : NewOr A n B c := fun ad e hn => by
  obtain ⟨a', e', hb', _⟩ := h.2 hn
  rw [e] at e'
  cases e'
  exact .inl hb'
theorem own_newOr {w : World} {base sz n m c : Nat} {e : TypeId} {A : Option Addr} {xs : List Value} (h : w.ownsRow base e sz (.slice A m c) n xs) (b : Nat) (hm : m = n) : NewOr A m b base := fun ad e hn => by
  rcases h.2 with h2 | ⟨g, cap, cur, h2, h3, _⟩
  · simp only [Value.slice.injEq] at h2
    rw [h2.1.1] at e
    cases e
  · simp only [Value.slice.injEq] at h2
    rw [h2.1] at e
    cases e
    exact .inr h3
theorem GAt.farSet {W : World} {g : Grd} {A : Option Addr} {n b B : Nat} (h : GAt W g A n) (ho : NewOr A n b B) {p : Addr} (h1 : b ≤ p.block) (h2 : p.block < B) (u : Value) : GAt (W.setCell p u) g A n :=
  ⟨⟨h.cells.1, fun hn => let ⟨a, e, hb, hc⟩ := h.cells.2 hn; ⟨a, e, by rw [World.size_setCell]; exact hb, fun j v hv => by
    rw [← hc j v hv]
    have hne : (a.add j).block ≠ p.block := by
      rw [show (a.add j).block = a.block by unfold Addr.add; split <;> rfl]
      have := ho a e hn
      omega
    unfold World.cell?
    rw [Below.heap_setCell W p u _ hne]⟩⟩, h.c63⟩
/-- What a function that returns a grid and an error code hands back; where the list lies. -/
def GPostN (r : Grd) (k : Int) (b : Nat) (w : World) (e : Ending) (w' : World) : Prop :=
  ∃ (A : Option Addr) (n c : Nat), e = .returned (.tuple #[.agg #[.int .i64 r.w, .int .i64 r.h, .int .i64 r.edge, .slice A n c], .int .i64 k]) ∧ GAt w' r A n ∧ NewOr A n b w.heap.size ∧ Below w.heap.size w w'
theorem gpostN_err {r : Grd} {k k' : Int} {b : Nat} {w w' : World} (hr : r = noGrd) (hk : k' = k) (hb : Below w.heap.size w w') : GPostN r k' b w (.returned (.tuple #[.agg #[.int .i64 0, .int .i64 0, .int .i64 0, .slice none 0 0], .int .i64 k])) w' := by
  subst hr hk
  exact ⟨none, 0, 0, rfl, noGrd_at _, .none, hb⟩
theorem own_ne {g k n c : Nat} (h : g ≠ k) : (Value.slice (some ⟨g, 0, none⟩) n c).ownBlock ≠ some k := by simp [Value.ownBlock, h]
theorem ints_set (zs : List Int) (i : Nat) (v : Int) : (ints zs).set i (.int .i64 v) = ints (zs.set i v) := by simp [ints, List.map_set]
end Go.Proofs.Ytdkfaphclhaiaaa
