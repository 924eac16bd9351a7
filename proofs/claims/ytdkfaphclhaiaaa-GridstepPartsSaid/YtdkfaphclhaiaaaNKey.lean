/-
  key of package gridstep, walked.
-/
import Derived.Test.YtdkfaphclhaiaaaNPlain
import Derived.Test.YtdkfaphclhaiaaaGPost
import Derived.Test.YtdkfaphclhaiaaaApp
import Derived.Test.YtdkfaphclhaiaaaNNext
import Derived.Laws.BytesArg
namespace Go.Proofs.Ytdkfaphclhaiaaa
open Go.RowKit
set_option linter.unusedSimpArgs false
set_option linter.unusedVariables false
theorem u8_infoN : (Try.prog.info? 5).map (fun i => (i.zero, i.size, i.bytes)) = some (some (.int .u8 0), 1, 1) := by kernel_rfl
def u8s (l : List Int) : List Value := l.map (Value.int .u8)
def keyTo (l : List Int) (n k : Nat) : List Int := l.take k ++ List.replicate (n - k) 0
theorem keyTo_length {l : List Int} {n k : Nat} (h : l.length = n) (hk : k ≤ n) : (keyTo l n k).length = n := by simp [keyTo]; omega
theorem keyTo_set {l : List Int} {n k : Nat} (h : l.length = n) (hk : k < n) : (keyTo l n k).set k (l.getD k 0) = keyTo l n (k + 1) := by
  unfold keyTo
  rw [List.set_append_right _ _ (by simp; omega), List.length_take, Nat.min_eq_left (by omega), Nat.sub_self, List.take_add_one, List.append_assoc]
  congr 1
  obtain ⟨m, hm⟩ : ∃ m, n - k = m + 1 := ⟨n - k - 1, by omega⟩
  rw [hm, show n - (k + 1) = m by omega, List.replicate_succ, List.getD_eq_getElem?_getD, List.getElem?_eq_getElem (by omega)]; rfl
theorem keyTo_all {l : List Int} {n : Nat} (h : l.length = n) : keyTo l n n = l := by simp [keyTo, ← h]
theorem strOfNums_inj : ∀ (a b : List Int), (∀ z ∈ a, 0 ≤ z ∧ z < 256) → (∀ z ∈ b, 0 ≤ z ∧ z < 256) → strOfNums a = strOfNums b → a = b := by
  intro a b ha hb h
  have h2 : (a.map fun n => UInt8.ofNat n.toNat) = (b.map fun n => UInt8.ofNat n.toNat) := by
    rw [← strOfNums_data, ← strOfNums_data, h]
  clear h
  induction a generalizing b with
  | nil => cases b with
    | nil => rfl
    | cons y ys => simp at h2
  | cons x xs ih => cases b with
    | nil => simp at h2
    | cons y ys =>
      simp only [List.map_cons, List.cons.injEq] at h2
      have hx := ha x (by simp)
      have hy := hb y (by simp)
      have h3 := congrArg UInt8.toNat h2.1
      simp only [UInt8.toNat_ofNat'] at h3
      rw [ih ys (fun z hz => ha z (by simp [hz])) (fun z hz => hb z (by simp [hz])) h2.2]
      congr 1
      omega
set_option maxRecDepth 100000 in
set_option maxHeartbeats 2000000 in
theorem key_any (g : Grd) (A : Option Addr) (n ac : Nat) (w : World) (hg : GAt w g A n) (hn1 : 1 ≤ n) (hn : n ≤ 4096) (hst : ∀ z ∈ g.cells, 0 ≤ z ∧ z < 256) :
    Calls Try.prog 28 #[.agg #[.int .i64 g.w, .int .i64 g.h, .int .i64 g.edge, .slice A n ac]] w fun e w' => e = .returned (.string (strOfNums g.cells)) ∧ Below w.heap.size w w' := by
  have HG : Hid (GAt w g A n) := hg
  have HL : Hid (∀ _ : Unit, g.cells.length = n) := fun _ => hg.cl
  have HST : Hid (∀ z ∈ g.cells, 0 ≤ z ∧ z < 256) := hst
  clear hg hst
  have hmk := fun W9 => make_like (P := Try.prog) Try.underlying71 u8_infoN rfl n (n : Int) rfl (by omega) (by omega) W9
  go_enter Try.func28, Try.ntmps28
  go_wp2
  have GA1 : Hid (GAt (World.alloc (World.alloc w (.cells #[.int .i64 g.w, .int .i64 g.h, .int .i64 g.edge, .slice A n ac] 28)) (.cells (likeRow (Value.int .u8 0) n) 5)) g A n) := HG.out.up (by go_grown)
  have RV1 : Hid (Row (World.alloc (World.alloc w (.cells #[.int .i64 g.w, .int .i64 g.h, .int .i64 g.edge, .slice A n ac] 28)) (.cells (likeRow (Value.int .u8 0) n) 5)) (w.heap.size + 1) 5 (u8s (keyTo g.cells n 0))) := (by
    have h0 := Row.new (World.alloc w (.cells #[.int .i64 g.w, .int .i64 g.h, .int .i64 g.edge, .slice A n ac] 28)) 5 (List.replicate n (Value.int .u8 0))
    simp only [World.size_alloc] at h0
    have e : u8s (keyTo g.cells n 0) = List.replicate n (Value.int .u8 0) := by simp [keyTo, u8s]
    show Row _ _ _ _
    rw [e]; exact h0)
  have BW1 : Hid (Below w.heap.size w (World.alloc (World.alloc w (.cells #[.int .i64 g.w, .int .i64 g.h, .int .i64 g.edge, .slice A n ac] 28)) (.cells (likeRow (Value.int .u8 0) n) 5))) := (by show Below _ _ _; go_grown)
  have hw1 : w.heap.size + 1 < ((World.alloc (World.alloc w (.cells #[.int .i64 g.w, .int .i64 g.h, .int .i64 g.edge, .slice A n ac] 28)) (.cells (likeRow (Value.int .u8 0) n) 5))).heap.size := RV1.out.lt
  clear hmk
  revert GA1 RV1 BW1 hw1
  generalize (World.alloc (World.alloc w (.cells #[.int .i64 g.w, .int .i64 g.h, .int .i64 g.edge, .slice A n ac] 28)) (.cells (likeRow (Value.int .u8 0) n) 5)) = w1
  intro GA1 RV1 BW1 hw1
  go_loopg [4, 5, 13] n (fun gg _ _ s13 wr => ∃ k : Nat, k ≤ n ∧ n - k ≤ gg ∧ s13 = .int .i64 k ∧ Aside (Below w1.heap.size w1 wr ∨ True) ∧ Aside (Below w.heap.size w wr) ∧ Aside (Rd wr w.heap.size 1 A n (ints g.cells)) ∧ Aside (Row wr (w.heap.size + 1) 5 (u8s (keyTo g.cells n k))))
  case atStart => exact ⟨0, Nat.zero_le _, by omega, rfl, .inr trivial, BW1.out, HG.out.cells.below BW1.out (Nat.le_refl _), RV1.out⟩
  case round =>
    obtain ⟨k, hk, hgg, rfl, _, BW, RA, RV⟩ := hrel
    clear GA1 RV1 BW1
    by_cases hlt : k < n
    · have hlz : (k : Int) < (n : Int) := by omega
      obtain ⟨ad, rfl, hab, hac⟩ := RA.out.int hlt
      obtain ⟨z, hz⟩ : ∃ z, g.cells.getD k 0 = z := ⟨_, rfl⟩
      have HZ : Hid (∀ _ : Unit, g.cells.getD k 0 = z) := fun _ => hz
      have hzb : 0 ≤ z ∧ z < 256 := by
        rw [← hz, List.getD_eq_getElem?_getD, List.getElem?_eq_getElem (by rw [HL.out ()]; exact hlt)]
        exact HST.out _ (List.getElem_mem _)
      rw [hz] at hac
      clear hz
      have hwz : IntKind.u8.wrap z = z := by
        have h8 : IntKind.u8.wrap z = z % 256 := by simp [IntKind.wrap, IntKind.bits, IntKind.signed]
        rw [h8]; omega
      have kf := RV.out.frozen k
      have kv := RV.out.cell k
      have kl := RV.out.lt
      rw [show (u8s (keyTo g.cells n k))[k]? = some (.int .u8 ((keyTo g.cells n k).getD k 0)) by rw [u8s, List.getElem?_map, List.getD_eq_getElem?_getD, List.getElem?_eq_getElem (by rw [keyTo_length (HL.out ()) hk]; exact hlt)]; rfl] at kv
      obtain ⟨oz, hoz⟩ : ∃ oz, (keyTo g.cells n k).getD k 0 = oz := ⟨_, rfl⟩
      rw [hoz] at kv
      clear hoz
      go_wp2
      go_roundg (n - (k + 1))
      case measure => omega
      case rel =>
        refine ⟨k + 1, by omega, by omega, by go_num, .inr trivial, BW.out.setCell (p := ⟨(w.heap.size + 1), k, none⟩) (by show _ ≤ (w.heap.size + 1); omega) _, RA.out.setCell (p := ⟨(w.heap.size + 1), k, none⟩) (by show _ ≤ (w.heap.size + 1); omega) _, ?_⟩
        have h9 := RV.out.set k (.int .u8 z)
        rw [show (u8s (keyTo g.cells n k)).set k (.int .u8 z) = u8s (keyTo g.cells n (k + 1)) by rw [← keyTo_set (HL.out ()) hlt, HZ.out ()]; simp [u8s, List.map_set]] at h9
        exact h9
    · have hlz : ¬ (k : Int) < (n : Int) := by omega
      obtain rfl : n = k := by omega
      have hcv := run_convert_bytes_arg (P := Try.prog) wr 71 5 Try.underlying71 Try.underlying5 (w.heap.size + 1) 0 n n g.cells (HL.out ()) (fun i hi => by
        rw [Nat.zero_add, RV.out.cell i, keyTo_all (HL.out ()), u8s, List.getElem?_map, List.getD_eq_getElem?_getD, List.getElem?_eq_getElem (by rw [HL.out ()]; exact hi)]; rfl) 9 Try.underlying9
      go_wp2
      go_ret
      exact ⟨rfl, BW.out⟩
end Go.Proofs.Ytdkfaphclhaiaaa
