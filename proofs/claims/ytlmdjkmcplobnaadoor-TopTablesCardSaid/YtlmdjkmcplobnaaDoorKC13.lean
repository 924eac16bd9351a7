/-
  tabletree.small, walked.
-/
import Derived.Test.YtlmdjkmcplobnaaDoorKC12
import Derived.Test.YtlmdjkmcplobnaaDoorKC4
import Derived.Test.YtlmdjkmcplobnaaDoorKC6
namespace Go.Proofs.YtlmdjkmcplobnaaDoor
open Go.RowKit
set_option linter.unusedSimpArgs false
set_option linter.unusedVariables false
def smallK (t : KT.Tab) : Bool := decide (t.states ^ t.hood.length ≤ 65536)
theorem pow_up {s : Int} (h : 2 ≤ s) {i n : Nat} (hi : i ≤ n) : s ^ i ≤ s ^ n := by
  obtain ⟨m, rfl⟩ : ∃ m, n = i + m := ⟨n - i, by omega⟩
  clear hi
  induction m with
  | zero => exact Int.le_refl _
  | succ m ih =>
    have hp : 0 ≤ s ^ (i + m) := Int.pow_nonneg (by omega)
    have : s ^ (i + m) * 1 ≤ s ^ (i + m) * s := Int.mul_le_mul_of_nonneg_left (by omega) hp
    rw [← Nat.add_assoc, Int.pow_succ]
    omega
set_option maxHeartbeats 1000000 in
theorem small_any (t : KT.Tab) (P : TP) (w : World) (hl : t.hood.length = P.hn) (h2 : 2 ≤ t.states) (h8 : t.states ≤ 8) (hm : P.hn ≤ 25) :
    Calls Tryd.prog 28 #[.agg #[.int .i64 t.states, .int .i64 t.sym, .slice P.HA P.hn P.hc, .slice P.VA P.vn P.vc, .slice P.RA P.rn P.rc]] w fun e w' => e = .returned (.bool (smallK t)) ∧ Below w.heap.size w w' := by
  obtain ⟨HA, hn, hc, VA, vn, vc, RA, rn, rc, vs, rs⟩ := P
  dsimp only at hl hm
  dsimp only
  have HL := Lib.hid hl
  have H2 := Lib.hid h2
  clear hl
  go_enter Tryd.func28, Tryd.ntmps28
  go_upto_region 1 with fail
  have RT1 : Hid (Row (World.alloc w (.cells #[.int .i64 t.states, .int .i64 t.sym, .slice HA hn hc, .slice VA vn vc, .slice RA rn rc] 26)) (w.heap.size) 26 [.int .i64 t.states, .int .i64 t.sym, .slice HA hn hc, .slice VA vn vc, .slice RA rn rc]) := by
    have h0 := Row.new w 26 [.int .i64 t.states, .int .i64 t.sym, .slice HA hn hc, .slice VA vn vc, .slice RA rn rc]
    try simp only [World.size_alloc] at h0
    exact h0
  have HW9 : Hid (Below w.heap.size w (World.alloc w (.cells #[.int .i64 t.states, .int .i64 t.sym, .slice HA hn hc, .slice VA vn vc, .slice RA rn rc] 26))) := by show Below _ _ _; go_grown
  revert RT1 HW9
  generalize (World.alloc w (.cells #[.int .i64 t.states, .int .i64 t.sym, .slice HA hn hc, .slice VA vn vc, .slice RA rn rc] 26)) = w1
  intro RT1 HW9
  have k0 := RT1.out.cell 0
  have k1 := RT1.out.cell 1
  have k2 := RT1.out.cell 2
  have k3 := RT1.out.cell 3
  have k4 := RT1.out.cell 4
  have kl := RT1.out.lt
  simp only [List.getElem?_cons_zero, List.getElem?_cons_succ] at k0 k1 k2 k3 k4
  go_wp2
  go_loopg [3, 7] hn (fun gg s3 s7 wr => ∃ (i : Nat) (p : Int), i ≤ hn ∧ hn - i ≤ gg ∧ s7 = .int .i64 (i : Int) ∧ s3 = .int .i64 p ∧ (0 ≤ p ∧ p ≤ 65536) ∧ Aside (p = t.states ^ i) ∧ wr = w1)
  case atStart => exact ⟨0, 1, by omega, by omega, rfl, rfl, by omega, (Int.pow_zero _).symm, rfl⟩
  case round =>
    obtain ⟨i, p, hi, hgg, rfl, rfl, hp, HPW, hwr⟩ := hrel
    subst wr
    by_cases hlt : i < hn
    · have hltz : (i : Int) < (hn : Int) := by omega
      have hb : 0 ≤ p * t.states ∧ p * t.states ≤ 65536 * 8 := ⟨Int.mul_nonneg hp.1 (by omega), Int.mul_le_mul hp.2 h8 (by omega) (by omega)⟩
      have HQ : Hid (p * t.states = t.states ^ (i + 1)) := by show _ = _; rw [HPW.out, Int.pow_succ]
      have hw : IntKind.i64.wrap (p * t.states) = p * t.states := IntWalk.i64_in _ (by omega)
      obtain ⟨q, hq0⟩ : ∃ q : Int, p * t.states = q := ⟨_, rfl⟩
      rw [hq0] at hb HQ
      have hw1 : IntKind.i64.wrap (p * t.states) = q := hw.trans hq0
      have hw2 : wrap64 (p * t.states) = q := (IntWalk.wrap64_in _ (by rw [hq0]; omega)).trans hq0
      clear hw hq0
      by_cases hq : 65536 < q
      · have hd : decide (65536 < q) = true := decide_eq_true hq
        have HF : Hid (∀ _ : Unit, smallK t = false) := fun _ => decide_eq_false (fun h => by
          have := pow_up H2.out (show i + 1 ≤ t.hood.length by rw [HL.out]; omega)
          rw [← HQ.out] at this
          omega)
        go_wp2
        go_ret
        rw [HF.out ()]
        exact ⟨rfl, HW9.out⟩
      · have hd : decide (65536 < q) = false := decide_eq_false hq
        go_wp2
        go_roundg (hn - (i + 1))
        case measure => omega
        case rel => exact ⟨i + 1, q, by omega, by omega, by go_num, rfl, by omega, HQ.out, rfl⟩
    · have hltz : ¬ (i : Int) < (hn : Int) := by omega
      have HF : Hid (∀ _ : Unit, smallK t = true) := fun _ => decide_eq_true (by
        rw [HL.out, show hn = i by omega, ← HPW.out]; exact hp.2)
      go_wp2
      go_ret
      rw [HF.out ()]
      exact ⟨rfl, HW9.out⟩
end Go.Proofs.YtlmdjkmcplobnaaDoor

/-
  The making of a tree from steps (with a memory of the places seen) in plain terms.
-/
namespace Go.Proofs.YtlmdjkmcplobnaaDoor
open Go.Lib
set_option linter.unusedSimpArgs false
set_option linter.unusedVariables false
namespace KU
structure TB where
  ns : List Nd
  seen : List ((Int × Int) × Int)
def placeV (k : Int × Int) : Value := .agg #[.int .i64 k.1, .int .i64 k.2]
theorem placeV_inj {a b : Int × Int} (h : placeV a = placeV b) : a = b := by
  unfold placeV at h
  injection h with h
  have := congrArg Array.toList h
  simp at this
  exact Prod.ext this.1 this.2
def keyB (lev : Int) (l : List Int) : List UInt8 := UInt8.ofNat lev.toNat :: KT.keyR l
theorem keyB_inj {a b : Int} {l m : List Int} (ha : 0 ≤ a ∧ a < 256) (hb : 0 ≤ b ∧ b < 256) (hl : ∀ k ∈ l, 0 ≤ k) (hm : ∀ k ∈ m, 0 ≤ k) (h : keyB a l = keyB b m) : a = b ∧ l = m := by
  unfold keyB at h
  injection h with h1 h2
  refine ⟨?_, KT.keyR_inj l m hl hm h2⟩
  have := congrArg UInt8.toNat h1
  rw [UInt8.toNat_ofNat_of_lt' (by show _ < 256; omega), UInt8.toNat_ofNat_of_lt' (by show _ < 256; omega)] at this
  omega
theorem keyB_nil (lev : Int) : keyB lev [] = [UInt8.ofNat lev.toNat] := rfl
theorem keyB_snoc (lev : Int) (l : List Int) (k : Int) : keyB lev (l ++ [k]) = keyB lev l ++ [32] ++ itoa k := by simp [keyB, KT.keyR]
def keyVB (lev : Int) (next : List Int) : Value := .string (KT.mkS (keyB lev next))
open Classical in
noncomputable def idsB (ns : List Nd) (v : Value) : Option Value := (ns.findIdx? (fun x => decide (v = keyVB x.level x.next))).map (fun (i : Nat) => Value.int .i64 (i : Int))
theorem idsB_nil (v : Value) : idsB [] v = none := rfl
theorem keyVB_inj {a b : Int} {l m : List Int} (ha : 0 ≤ a ∧ a < 256) (hb : 0 ≤ b ∧ b < 256) (hl : ∀ k ∈ l, 0 ≤ k) (hm : ∀ k ∈ m, 0 ≤ k) (h : keyVB a l = keyVB b m) : a = b ∧ l = m := by
  unfold keyVB at h
  injection h with h
  exact keyB_inj ha hb hl hm (KT.mkS_inj h)
/-- The nodes at all times. -/
structure NsOk (S : Nat) (ns : List Nd) : Prop where
  lev : ∀ x ∈ ns, (0 ≤ x.level ∧ x.level < 256) ∧ x.next.length = S
  nn : ∀ x ∈ ns, ∀ k ∈ x.next, 0 ≤ k
open Classical in
theorem idsB_key {S : Nat} {ns : List Nd} (h : NsOk S ns) {lev : Int} {next : List Int} (hl : 0 ≤ lev ∧ lev < 256) (hn : ∀ k ∈ next, 0 ≤ k) : idsB ns (keyVB lev next) = (KT.findNd ns lev next).map (fun (i : Nat) => Value.int .i64 (i : Int)) := by
  unfold idsB KT.findNd
  congr 1
  refine KT.findIdx_congr ns fun x hx => ?_
  by_cases e : x.level = lev ∧ x.next = next
  · obtain ⟨e1, e2⟩ := e
    rw [e1, e2]
    simp
  · have hne : ¬ keyVB lev next = keyVB x.level x.next := fun e2 => by
      obtain ⟨q1, q2⟩ := keyVB_inj hl (h.lev x hx).1 hn (h.nn x hx) e2
      exact e ⟨q1.symm, q2.symm⟩
    have h2 : (x.level == lev && x.next == next) = false := by
      cases h3 : (x.level == lev && x.next == next) with
      | false => rfl
      | true => simp at h3; exact absurd h3 e
    rw [h2]
    exact decide_eq_false hne
open Classical in
theorem idsB_push {ns : List Nd} {lev : Int} {next : List Int} (h : idsB ns (keyVB lev next) = none) (v : Value) : idsB (ns ++ [⟨lev, next⟩]) v = updK (idsB ns) (keyVB lev next) (.int .i64 (ns.length : Int)) v := by
  unfold idsB at h ⊢
  rw [Option.map_eq_none_iff] at h
  rw [List.findIdx?_append]
  by_cases e : v = keyVB lev next
  · subst e
    rw [h, updK_same]
    simp
  · rw [updK_other e]
    have : List.findIdx? (fun x : Nd => decide (v = keyVB x.level x.next)) [⟨lev, next⟩] = none := by
      rw [List.findIdx?_cons]
      simp [e]
    rw [this]
    simp [idsB]
def look (l : List ((Int × Int) × Int)) (k : Int × Int) : Option Int := (l.find? (fun x => x.1 == k)).map (·.2)
open Classical in
noncomputable def seenF (l : List ((Int × Int) × Int)) (v : Value) : Option Value := (l.find? (fun x => decide (v = placeV x.1))).map (fun x => Value.int .i64 x.2)
theorem seenF_nil (v : Value) : seenF [] v = none := rfl
open Classical in
theorem seenF_key (l : List ((Int × Int) × Int)) (k : Int × Int) : seenF l (placeV k) = (look l k).map (Value.int .i64) := by
  induction l with
  | nil => rfl
  | cons x l ih =>
    unfold seenF look at ih ⊢
    rw [List.find?_cons, List.find?_cons]
    by_cases e : x.1 = k
    · rw [e]; simp
    · have h1 : ¬ placeV k = placeV x.1 := fun q => e (placeV_inj q).symm
      have h2 : (x.1 == k) = false := by simpa using e
      rw [decide_eq_false h1, h2]
      exact ih
open Classical in
theorem seenF_push (l : List ((Int × Int) × Int)) (k : Int × Int) (i : Int) (v : Value) : seenF ((k, i) :: l) v = updK (seenF l) (placeV k) (.int .i64 i) v := by
  by_cases e : v = placeV k
  · subst e
    rw [updK_same]
    unfold seenF
    rw [List.find?_cons]
    simp
  · rw [updK_other e]
    unfold seenF
    rw [List.find?_cons]
    simp [e]
def loopT (rec : Int → TB → Int × TB) : Nat → Nat → List Int → TB → List Int × TB
  | 0, _, next, b => (next, b)
  | m + 1, s, next, b => loopT rec m (s + 1) (next ++ [(rec (s : Int) b).1]) (rec (s : Int) b).2
theorem loopT_succ (rec : Int → TB → Int × TB) : ∀ (m s : Nat) (next : List Int) (b : TB),
    loopT rec (m + 1) s next b = ((loopT rec m s next b).1 ++ [(rec ((s + m : Nat) : Int) (loopT rec m s next b).2).1], (rec ((s + m : Nat) : Int) (loopT rec m s next b).2).2)
  | 0, s, next, b => by simp [loopT]
  | m + 1, s, next, b => by
    rw [loopT, loopT_succ rec m (s + 1), show s + 1 + m = s + (m + 1) by omega]
    rfl
def endT (a s lev : Int) (q : List Int × TB) : Int × TB := match KT.findNd q.2.ns lev q.1 with
  | some i => ((i : Int), ⟨q.2.ns, ((a, s), (i : Int)) :: q.2.seen⟩)
  | none => ((q.2.ns.length : Int), ⟨q.2.ns ++ [⟨lev, q.1⟩], ((a, s), (q.2.ns.length : Int)) :: q.2.seen⟩)
/-- The visit of a place, L levels from the end. -/
def visitT (S H : Nat) (step : Int → Int → Int → Int) (fin : Int → Int) : Nat → Int → TB → Int × TB
  | 0, s, b => (fin s, b)
  | L + 1, s, b => match look b.seen (((H - (L + 1) : Nat) : Int), s) with
    | some id => (id, b)
    | none => endT ((H - (L + 1) : Nat) : Int) s ((L : Int) + 1) (loopT (fun j b => visitT S H step fin L (step s ((H - (L + 1) : Nat) : Int) j) b) S 0 [] b)
theorem nodup_le {α : Type} [BEq α] [LawfulBEq α] : ∀ (l m : List α), l.Nodup → (∀ x ∈ l, x ∈ m) → l.length ≤ m.length
  | [], _, _, _ => Nat.zero_le _
  | a :: l, m, hn, hs => by
    obtain ⟨h1, h2⟩ := List.nodup_cons.1 hn
    have := nodup_le l (m.erase a) h2 (fun x hx => (List.mem_erase_of_ne (fun (e : x = a) => h1 (by rw [← e]; exact hx))).2 (hs x (by simp [hx])))
    have h3 := List.length_erase_of_mem (hs a (by simp))
    have h4 : 0 < m.length := List.length_pos_of_mem (hs a (by simp))
    simp only [List.length_cons]
    omega
structure UOk (S M : Nat) (Us : List (Int × Int)) (b : TB) : Prop where
  ok : NsOk S b.ns
  len : b.ns.length ≤ b.seen.length
  nd : (b.seen.map (·.1)).Nodup
  mem : ∀ x ∈ b.seen, x.1 ∈ Us
  val : ∀ x ∈ b.seen, 0 ≤ x.2 ∧ x.2 < M
theorem UOk.le {S M : Nat} {Us : List (Int × Int)} {b : TB} (h : UOk S M Us b) : b.ns.length ≤ Us.length := by
  have := nodup_le _ Us h.nd (fun x hx => by
    obtain ⟨y, hy, rfl⟩ := List.mem_map.1 hx
    exact h.mem y hy)
  rw [List.length_map] at this
  exact Nat.le_trans h.len this
structure URes (S M : Nat) (Us : List (Int × Int)) (a : Int) (b : TB) (r : Int × TB) : Prop where
  ok : UOk S M Us r.2
  ge : 0 ≤ r.1
  lt : r.1 < M
  low : ∀ k : Int × Int, k.1 < a → look r.2.seen k = look b.seen k
structure ULoop (S M : Nat) (Us : List (Int × Int)) (a : Int) (b : TB) (s : Nat) (q : List Int × TB) : Prop where
  ok : UOk S M Us q.2
  nl : q.1.length = s
  nn : ∀ k ∈ q.1, 0 ≤ k ∧ k < M
  low : ∀ k : Int × Int, k.1 < a → look q.2.seen k = look b.seen k
/-- What is asked of the steps: K: the states at each place; Us: all places. -/
structure UHyp (S H M : Nat) (Us : List (Int × Int)) (step : Int → Int → Int → Int) (fin : Int → Int) (K : Nat → Int → Prop) : Prop where
  step : ∀ (a : Nat) (s : Int) (j : Nat), a < H → K a s → j < S → K (a + 1) (step s a j)
  us : ∀ (a : Nat) (s : Int), a < H → K a s → ((a : Int), s) ∈ Us
  fin : ∀ s : Int, K H s → 0 ≤ fin s ∧ fin s < M
  H25 : H ≤ 25
  UM : Us.length ≤ M
  M30 : M ≤ 1000000
section
variable {S H M : Nat} {Us : List (Int × Int)} {step : Int → Int → Int → Int} {fin : Int → Int} {K : Nat → Int → Prop}
theorem loop_resT {L : Nat} {f : Int → Int} {b : TB} {a : Int} (hrec : ∀ (j : Nat) (b : TB), j < S → UOk S M Us b → URes S M Us a b (visitT S H step fin L (f j) b)) (hb : UOk S M Us b) :
    ∀ s : Nat, s ≤ S → ULoop S M Us a b s (loopT (fun j b => visitT S H step fin L (f j) b) s 0 [] b)
  | 0, _ => ⟨hb, rfl, by simp [loopT], fun _ _ => rfl⟩
  | s + 1, hs => by
    have h := loop_resT hrec hb s (by omega)
    rw [loopT_succ, Nat.zero_add]
    have hr := hrec s (loopT (fun j b => visitT S H step fin L (f j) b) s 0 [] b).2 (by omega) h.ok
    refine ⟨hr.ok, by simp [h.nl], fun k hk => ?_, fun k hk => (hr.low k hk).trans (h.low k hk)⟩
    rcases List.mem_append.1 hk with hk | hk
    · exact h.nn k hk
    · simp at hk; subst hk; exact ⟨hr.ge, hr.lt⟩
theorem look_none {l : List ((Int × Int) × Int)} {k : Int × Int} (h : look l k = none) : k ∉ l.map (·.1) := by
  unfold look at h
  rw [Option.map_eq_none_iff, List.find?_eq_none] at h
  intro hk
  obtain ⟨x, hx, rfl⟩ := List.mem_map.1 hk
  exact h x hx (by simp)
theorem look_some {l : List ((Int × Int) × Int)} {k : Int × Int} {i : Int} (h : look l k = some i) : ∃ x ∈ l, x.2 = i := by
  unfold look at h
  rw [Option.map_eq_some_iff] at h
  obtain ⟨x, hx, rfl⟩ := h
  exact ⟨x, List.mem_of_find?_eq_some hx, rfl⟩
theorem end_res {a : Nat} {s lev : Int} {q : List Int × TB} {b : TB} (hl : 0 ≤ lev ∧ lev < 256) (h : ULoop S M Us ((a : Int) + 1) b S q) (hn : look b.seen ((a : Int), s) = none) (hu : ((a : Int), s) ∈ Us) (hUM : Us.length ≤ M) : URes S M Us (a : Int) b (endT a s lev q) := by
  have hq := look_none ((h.low ((a : Int), s) (by show (a : Int) < _; omega)).trans hn)
  have hle : q.2.seen.length + 1 ≤ Us.length := by
    have := nodup_le (((a : Int), s) :: q.2.seen.map (·.1)) Us (List.nodup_cons.2 ⟨hq, h.ok.nd⟩) (fun x hx => by
      rcases List.mem_cons.1 hx with rfl | hx
      · exact hu
      · obtain ⟨y, hy, rfl⟩ := List.mem_map.1 hx
        exact h.ok.mem y hy)
    simpa using this
  have hlow : ∀ (i : Int) (k : Int × Int), k.1 < (a : Int) → look ((((a : Int), s), i) :: q.2.seen) k = look b.seen k := fun i k hk => by
    rw [← h.low k (by omega)]
    unfold look
    rw [List.find?_cons]
    have : (((a : Int), s) == k) = false := by
      simp only [beq_eq_false_iff_ne]
      intro e
      rw [← e] at hk
      exact absurd hk (by show ¬ (a : Int) < a; omega)
    rw [show (((((a : Int), s), i) : (Int × Int) × Int).1 == k) = false from this]
  have hlen := h.ok.len
  unfold endT
  cases hf : KT.findNd q.2.ns lev q.1 with
  | some i =>
    have hi : i < q.2.ns.length := (List.findIdx?_eq_some_iff_getElem.1 hf).1
    refine ⟨⟨h.ok.ok, by simp; omega, by simpa using ⟨by simpa using hq, h.ok.nd⟩, fun x hx => ?_, fun x hx => ?_⟩, by simp, by simp; omega, hlow _⟩
    · rcases List.mem_cons.1 hx with rfl | hx
      · exact hu
      · exact h.ok.mem x hx
    · rcases List.mem_cons.1 hx with rfl | hx
      · exact ⟨by simp, by simp; omega⟩
      · exact h.ok.val x hx
  | none =>
    refine ⟨⟨⟨fun x hx => ?_, fun x hx k hk => ?_⟩, by simp; omega, by simpa using ⟨by simpa using hq, h.ok.nd⟩, fun x hx => ?_, fun x hx => ?_⟩, by simp, by simp; omega, hlow _⟩
    · rcases List.mem_append.1 hx with hx | hx
      · exact h.ok.ok.lev x hx
      · simp at hx; subst hx; exact ⟨hl, h.nl⟩
    · rcases List.mem_append.1 hx with hx | hx
      · exact h.ok.ok.nn x hx k hk
      · simp at hx; subst hx; exact (h.nn k hk).1
    · rcases List.mem_cons.1 hx with rfl | hx
      · exact hu
      · exact h.ok.mem x hx
    · rcases List.mem_cons.1 hx with rfl | hx
      · exact ⟨by simp, by simp; omega⟩
      · exact h.ok.val x hx
theorem visit_res (hy : UHyp S H M Us step fin K) : ∀ (L : Nat) (s : Int) (b : TB), L ≤ H → K (H - L) s → UOk S M Us b → URes S M Us ((H - L : Nat) : Int) b (visitT S H step fin L s b)
  | 0, s, b, hl, hk, hb => ⟨hb, (hy.fin s hk).1, (hy.fin s hk).2, fun _ _ => rfl⟩
  | L + 1, s, b, hl, hk, hb => by
    unfold visitT
    cases hlk : look b.seen (((H - (L + 1) : Nat) : Int), s) with
    | some id =>
      obtain ⟨x, hx, rfl⟩ := look_some hlk
      exact ⟨hb, (hb.val x hx).1, (hb.val x hx).2, fun _ _ => rfl⟩
    | none =>
      have h25 := hy.H25
      have e : H - (L + 1) + 1 = H - L := by omega
      have h := loop_resT (S := S) (H := H) (M := M) (Us := Us) (step := step) (fin := fin) (L := L) (f := fun j => step s ((H - (L + 1) : Nat) : Int) j) (b := b) (a := ((H - L : Nat) : Int)) (fun j b' hj hb' => visit_res hy L _ b' (by omega) (by rw [← e]; exact hy.step _ s j (by omega) hk hj) hb') hb S (Nat.le_refl _)
      refine end_res (by omega) ?_ hlk (hy.us _ s (by omega) hk) hy.UM
      rw [← e] at h
      have e2 : (((H - (L + 1) + 1 : Nat)) : Int) = ((H - (L + 1) : Nat) : Int) + 1 := by omega
      rw [e2] at h
      exact h
end
end KU
end Go.Proofs.YtlmdjkmcplobnaaDoor

/-
  totaltree's build in memory while it builds; a node and its text that a call makes beside it.
-/
namespace Go.Proofs.YtlmdjkmcplobnaaDoor
open Go.RowKit
set_option linter.unusedSimpArgs false
set_option linter.unusedVariables false
/-- What a stretch of work does to all that is not its own: R, R': its own blocks before and behind. -/
structure Mv (R : Nat → Prop) (w : World) (R' : Nat → Prop) (w' : World) : Prop where
  kept : Kept R w w'
  old : ∀ k, k < w.heap.size → R' k → R k
section
variable {R R1 R' S : Nat → Prop} {w w1 w' : World}
theorem Mv.refl (R : Nat → Prop) (w : World) : Mv R w R w := ⟨Kept.refl _ _, fun _ _ h => h⟩
theorem Mv.trans (h : Mv R w R1 w1) (k : Mv R1 w1 R' w') : Mv R w R' w' := ⟨h.kept.trans k.kept h.old, fun i hi hr => h.old i hi (k.old i (Nat.lt_of_lt_of_le hi h.kept.size) hr)⟩
theorem Mv.below (R : Nat → Prop) (h : Below w.heap.size w w') : Mv R w R w' := ⟨Kept.ofBelow h, fun _ _ h => h⟩
theorem Mv.far (h : Mv R w R1 w1) (k : Kept S w1 w') (hS : ∀ i, S i → w.heap.size ≤ i) : Mv R w R1 w' := ⟨h.kept.trans k (fun i hi hs => absurd (hS i hs) (by omega)), h.old⟩
theorem Mv.not (h : Mv R w R1 w1) {k : Nat} (hk : k < w.heap.size) (hn : ¬ R k) : ¬ R1 k := fun hr => hn (h.old k hk hr)
theorem Mv.push {A : Option Addr} (h : Mv R w R1 w1) (hk : Kept R1 w1 w') (ho : ∀ k, k < w1.heap.size → R' k → R1 k ∨ blk A = some k) (hA : ∀ k, blk A = some k → w.heap.size ≤ k) : Mv R w R' w' :=
  ⟨h.kept.trans hk h.old, fun k hk1 hr => by
    rcases ho k (Nat.lt_of_lt_of_le hk1 h.kept.size) hr with q | q
    · exact h.old k hk1 q
    · have := hA k q; omega⟩
end
/-- A node that a call makes: its box, the row of its elements. -/
structure NdSt (R : Nat → Prop) (e0 xb : Nat) (lev : Int) (XA : Option Addr) (xc : Nat) (next : List Int) (w : World) : Prop where
  row : Row w xb 72 [.int .i64 lev, .slice XA next.length xc]
  own : w.ownsRow e0 3 1 (.slice XA next.length xc) next.length (ints next)
  eb : e0 ≤ xb
  nb : ¬ R xb
  na : ∀ k, blk XA = some k → ¬ R k
/-- Its text. -/
def TxSt (e0 : Nat) (KA : Option Addr) (kc : Nat) (txt : List UInt8) (w : World) : Prop := w.ownsRow e0 5 1 (.slice KA txt.length kc) txt.length (Lib.byteCells txt)
section
variable {R R1 R' S : Nat → Prop} {w w1 w' : World} {e0 xb : Nat} {lev : Int} {XA KA : Option Addr} {xc kc : Nat} {next : List Int} {txt : List UInt8}
theorem NdSt.far (h : NdSt R e0 xb lev XA xc next w) (k : Kept S w w') (h1 : ¬ S xb) (h2 : ∀ i, blk XA = some i → ¬ S i) : NdSt R e0 xb lev XA xc next w' :=
  ⟨k.row h.row h1, k.own h.own (fun i hi => h2 i (by rw [← own_blk]; exact hi)), h.eb, h.nb, h.na⟩
theorem NdSt.move (h : NdSt R e0 xb lev XA xc next w) (m : Mv R w R' w') : NdSt R' e0 xb lev XA xc next w' :=
  ⟨m.kept.row h.row h.nb, m.kept.own h.own (fun i hi => h.na i (by rw [← own_blk]; exact hi)), h.eb, m.not h.row.lt h.nb, fun k hk => m.not (own_lt h.own k (by rw [own_blk]; exact hk)) (h.na k hk)⟩
theorem TxSt.type (h : TxSt e0 KA kc txt w) {k : Nat} (hk : blk KA = some k) : ∃ cur, w.heap[k]? = some (.cells cur 5 (0, 0)) ∧ e0 ≤ k := own_block_type h (k := k) (by rw [own_blk]; exact hk)
/-- None of the blocks R is a row of bytes. -/
def No8 (R : Nat → Prop) (w : World) : Prop := ∀ k, R k → ∀ (c : Array Value) (fz : Nat × Nat), w.heap[k]? ≠ some (.cells c 5 fz)
theorem TxSt.notR (h : TxSt e0 KA kc txt w) (hb : No8 R w) : ∀ k, blk KA = some k → ¬ R k := fun k hk hr => by
  obtain ⟨cur, hc, _⟩ := h.type hk
  exact hb k hr cur (0, 0) hc
theorem TxSt.far (h : TxSt e0 KA kc txt w) (k : Kept S w w') (h2 : ∀ i, blk KA = some i → ¬ S i) : TxSt e0 KA kc txt w' := k.own h (fun i hi => h2 i (by rw [← own_blk]; exact hi))
theorem TxSt.move (h : TxSt e0 KA kc txt w) (hb : No8 R w) (m : Mv R w R' w') : TxSt e0 KA kc txt w' := TxSt.far h m.kept (h.notR hb)
theorem NdSt.u8 (h : NdSt R e0 xb lev XA xc next w) (hk : Kept (U8 w e0) w w') : NdSt R e0 xb lev XA xc next w' := by
  refine h.far hk (fun hi => ?_) (fun i hb hi => ?_)
  · rcases hi.2 with h1 | ⟨c, fz, h1⟩
    · have := h.row.lt; omega
    · have := h.row
      unfold Row at this
      rw [this] at h1
      injection h1 with h1
      injection h1 with _ h1
      exact absurd h1 (by decide)
  · obtain ⟨cur, hc, _⟩ := own_block_type h.own (k := i) (by rw [own_blk]; exact hb)
    rcases hi.2 with h1 | ⟨c, fz, h1⟩
    · have := own_lt h.own i (by rw [own_blk]; exact hb); omega
    · rw [hc] at h1
      injection h1 with h1
      injection h1 with _ h1
      exact absurd h1 (by decide)
theorem Mv.u8 (h : Mv R w R1 w1) (hk : Kept (U8 w1 e0) w1 w') (h0 : w.heap.size ≤ e0) : Mv R w R1 w' := h.far hk (fun i hi => Nat.le_trans h0 hi.1)
/-- An element is appended to the node's row. -/
theorem NdSt.push {XA' : Option Addr} {xc' : Nat} {k : Int} (h : NdSt R e0 xb lev XA xc next w) (hb : ∀ i, R i → i < w.heap.size) (hn : ∀ i, blk XA' = some i → blk XA = some i ∨ w.heap.size ≤ i) (hg : w.grownBy w' (blk XA)) (ho : w'.ownsRow e0 3 1 (.slice XA' (next ++ [k]).length xc') (next ++ [k]).length (ints (next ++ [k]))) :
    NdSt R e0 xb lev XA' xc' (next ++ [k]) (w'.setCell ⟨xb, 1, none⟩ (.slice XA' (next ++ [k]).length xc')) ∧ Kept (fun i => i = xb ∨ blk XA = some i) w (w'.setCell ⟨xb, 1, none⟩ (.slice XA' (next ++ [k]).length xc')) ∧ Row w' xb 72 [.int .i64 lev, .slice XA next.length xc] := by
  have hne : blk XA ≠ some xb := by rw [← own_blk _ next.length xc]; exact own_ne_row h.own h.row (by decide)
  have hrow : Row w' xb 72 [.int .i64 lev, .slice XA next.length xc] := h.row.grown hg (fun q => hne q.symm)
  refine ⟨⟨hrow.set 1 _, own_set (p := ⟨xb, 1, none⟩) ho hrow (by decide) _, h.eb, h.nb, fun i hi hr => ?_⟩, Kept.set (Kept.grown (Kept.refl _ _) hg (fun k hk => .inl (.inr hk))) (p := ⟨xb, 1, none⟩) (.inl (.inl rfl)) _, hrow⟩
  rcases hn i hi with q | q
  · exact h.na i q hr
  · have := hb i hr; omega
theorem NdSt.notR (h : NdSt R e0 xb lev XA xc next w) : ∀ i, (i = xb ∨ blk XA = some i) → e0 ≤ i ∧ ¬ R i := fun i hi => by
  rcases hi with rfl | hi
  · exact ⟨h.eb, h.nb⟩
  · exact ⟨(h.own.lt i (by rw [own_blk]; exact hi)).1, h.na i hi⟩
theorem TxSt.notX (h : TxSt e0 KA kc txt w) (hx : NdSt R e0 xb lev XA xc next w) : ∀ i, blk KA = some i → ¬ (i = xb ∨ blk XA = some i) := fun i hi hq => by
  obtain ⟨cur, hc, _⟩ := h.type hi
  rcases hq with rfl | hq
  · have := hx.row
    unfold Row at this
    rw [this] at hc
    injection hc with hc
    injection hc with _ hc
    exact absurd hc (by decide)
  · obtain ⟨cur2, hc2, _⟩ := own_block_type hx.own (k := i) (by rw [own_blk]; exact hq)
    rw [hc] at hc2
    injection hc2 with hc2
    injection hc2 with _ hc2
    exact absurd hc2 (by decide)
end
/-- Where build's boxes lie (from block b on), the states, the neighbourhood, the two functions. -/
structure UEnv where
  b : Nat
  S : Nat
  LA : Option Addr
  ln : Nat
  lc : Nat
  ip : FuncId
  cp : Array Value
  ie : FuncId
  ce : Array Value
structure UPos where
  NA : Option Addr
  nc : Nat
  sl : List Sl
def UPos.R (p : UPos) (E : UEnv) (k : Nat) : Prop := k = E.b + 5 ∨ k = E.b + 6 ∨ k = E.b + 8 ∨ blk p.NA = some k ∨ ∃ i, i < p.sl.length ∧ blk (p.sl.getD i default).at_ = some k
def UEnv.vf (E : UEnv) : Value := .func (.func 36) #[] #[.pointer (some ⟨E.b + 1, 0, none⟩), .pointer (some ⟨E.b + 3, 0, none⟩), .pointer (some ⟨E.b + 7, 0, none⟩), .pointer (some ⟨E.b, 0, none⟩), .pointer (some ⟨E.b + 10, 0, none⟩), .pointer (some ⟨E.b + 2, 0, none⟩), .pointer (some ⟨E.b + 9, 0, none⟩), .pointer (some ⟨E.b + 5, 0, none⟩)]
structure UBox (E : UEnv) (w : World) : Prop where
  q0 : Row w E.b 3 [.int .i64 (E.S : Int)]
  q1 : Row w (E.b + 1) 22 [.slice E.LA E.ln E.lc]
  q2 : Row w (E.b + 2) 57 [.func (.func E.ip) #[] E.cp]
  q3 : Row w (E.b + 3) 58 [.func (.func E.ie) #[] E.ce]
  q7 : Row w (E.b + 7) 74 [.map (some (E.b + 6))]
  q9 : Row w (E.b + 9) 63 [.map (some (E.b + 8))]
  q10 : Row w (E.b + 10) 75 [E.vf]
def UEnv.fix (E : UEnv) (k : Nat) : Prop := k < E.b + 5 ∨ k = E.b + 7 ∨ k = E.b + 9 ∨ k = E.b + 10
def UEnv.cells (E : UEnv) (p : UPos) (n : Nat) : List Value := [.int .i64 (E.S : Int), .slice E.LA E.ln E.lc, .slice p.NA n p.nc]
structure USt (w0 : World) (E : UEnv) (p : UPos) (ns : List Nd) (F G : Value → Option Value) (w : World) : Prop where
  bel : Below w0.heap.size w0 w
  hb : w0.heap.size ≤ E.b
  box : UBox E w
  row : Row w (E.b + 5) 31 (E.cells p ns.length)
  nown : w.ownsRow (E.b + 11) 72 2 (.slice p.NA ns.length p.nc) ns.length (nodesCells ns p.sl)
  sll : p.sl.length = ns.length
  nxt : ∀ i, i < ns.length → w.ownsRow (E.b + 11) 3 1 (p.sl.getD i default).val (p.sl.getD i default).len (ints (ns.getD i default).next)
  mp : MK w Tryd.prog 9 (E.b + 8) F
  ms : MK w Tryd.prog 77 (E.b + 6) G
section
variable {w0 w w' w1 : World} {E : UEnv} {p p' p1 : UPos} {ns : List Nd} {F F' G G' : Value → Option Value} {e0 : Nat}
theorem UBox.keep (h : UBox E w) (hk : ∀ k, E.fix k → k < w.heap.size → w'.heap[k]? = w.heap[k]?) : UBox E w' :=
  ⟨(hk _ (.inl (by omega)) h.q0.lt).trans h.q0, (hk _ (.inl (by omega)) h.q1.lt).trans h.q1, (hk _ (.inl (by omega)) h.q2.lt).trans h.q2, (hk _ (.inl (by omega)) h.q3.lt).trans h.q3, (hk _ (.inr (.inl rfl)) h.q7.lt).trans h.q7, (hk _ (.inr (.inr (.inl rfl))) h.q9.lt).trans h.q9, (hk _ (.inr (.inr (.inr rfl))) h.q10.lt).trans h.q10⟩
theorem USt.lt (h : USt w0 E p ns F G w) {k : Nat} (hk : p.R E k) : E.b + 5 ≤ k ∧ k < w.heap.size := by
  rcases hk with rfl | rfl | rfl | hk | ⟨i, hi, hk⟩
  · exact ⟨Nat.le_refl _, h.row.lt⟩
  · exact ⟨by omega, h.ms.lt⟩
  · exact ⟨by omega, h.mp.lt⟩
  · have := h.nown.lt k (by rw [own_blk]; exact hk); exact ⟨by omega, this.2⟩
  · have := (h.nxt i (by rw [← h.sll]; exact hi)).lt k (by unfold Sl.val; rw [own_blk]; exact hk); exact ⟨by omega, this.2⟩
theorem USt.notFix (h : USt w0 E p ns F G w) {k : Nat} (hf : E.fix k) : ¬ p.R E k := fun hk => by
  rcases hk with rfl | rfl | rfl | hk | ⟨i, hi, hk⟩
  · unfold UEnv.fix at hf; omega
  · unfold UEnv.fix at hf; omega
  · unfold UEnv.fix at hf; omega
  · have := h.nown.lt k (by rw [own_blk]; exact hk); unfold UEnv.fix at hf; omega
  · have := (h.nxt i (by rw [← h.sll]; exact hi)).lt k (by unfold Sl.val; rw [own_blk]; exact hk); unfold UEnv.fix at hf; omega
theorem USt.no8 (h : USt w0 E p ns F G w) : No8 (p.R E) w := by
  intro k hk c fz e
  have key : ∀ {T : TypeId} {base sz n : Nat} {v : Value} {xs : List Value}, w.ownsRow base T sz v n xs → v.ownBlock = some k → T = 5 := fun ho hb => by
    obtain ⟨cur, hc, _⟩ := own_block_type ho hb
    rw [hc] at e
    injection e with e
    injection e
  have keyM : ∀ {K : TypeId} {b : Nat} {f : Value → Option Value}, MK w Tryd.prog K b f → b = k → False := fun hm hb => by
    subst hb
    obtain ⟨es, clock, hb, _⟩ := hm
    rw [hb] at e; cases e
  rcases hk with q | q | q | hk | ⟨i, hi, hk⟩
  · subst q
    have := h.row
    unfold Row at this
    rw [this] at e
    injection e with e
    injection e with _ e
    exact absurd e (by decide)
  · exact keyM h.ms q.symm
  · exact keyM h.mp q.symm
  · exact absurd (key h.nown (by rw [own_blk]; exact hk)) (by decide)
  · exact absurd (key (h.nxt i (by rw [← h.sll]; exact hi)) (by unfold Sl.val; rw [own_blk]; exact hk)) (by decide)
theorem USt.same (h : USt w0 E p ns F G w) (hb : Below w0.heap.size w0 w') (hf : ∀ k, E.fix k → k < w.heap.size → w'.heap[k]? = w.heap[k]?) (hk : ∀ k, p.R E k → w'.heap[k]? = w.heap[k]?) : USt w0 E p ns F G w' :=
  ⟨hb, h.hb, h.box.keep hf, (hk _ (.inl rfl)).trans h.row, own_same h.nown (fun k q => hk k (.inr (.inr (.inr (.inl (by rw [← own_blk]; exact q)))))), h.sll,
    fun i hi => own_same (h.nxt i hi) (fun k q => hk k (.inr (.inr (.inr (.inr ⟨i, by rw [h.sll]; exact hi, by rw [← own_blk]; exact q⟩))))), h.mp.block (hk _ (.inr (.inr (.inl rfl)))), h.ms.block (hk _ (.inr (.inl rfl)))⟩
theorem USt.far {S : Nat → Prop} (h : USt w0 E p ns F G w) (k : Kept S w w') (h0 : ∀ i, S i → E.b + 11 ≤ i) (hS : ∀ i, S i → ¬ p.R E i) : USt w0 E p ns F G w' :=
  h.same (h.bel.trans (k.below (fun i hi => by have := h0 i hi; have := h.hb; omega) h.bel.size)) (fun i hf hi => k.block i hi (fun hs => by have := h0 i hs; unfold UEnv.fix at hf; omega)) (fun i hi => k.block i (h.lt hi).2 (fun e => hS i e hi))
theorem USt.below (h : USt w0 E p ns F G w) (hb : Below w.heap.size w w') : USt w0 E p ns F G w' := h.same (h.bel.trans (hb.mono h.bel.size)) (fun k _ hk => hb.block k hk) (fun k hk => hb.block k (h.lt hk).2)
theorem USt.u8 (h : USt w0 E p ns F G w) (hk : Kept (U8 w e0) w w') (h0 : E.b + 11 ≤ e0) : USt w0 E p ns F G w' :=
  h.far hk (fun i hi => Nat.le_trans h0 hi.1) (fun i hi hr => by
    rcases hi.2 with h1 | ⟨c, fz, h1⟩
    · have := (h.lt hr).2; omega
    · exact h.no8 i hr c fz h1)
theorem USt.b11 (h : USt w0 E p ns F G w) : E.b + 11 ≤ w.heap.size := h.box.q10.lt
theorem USt.ne (h : USt w0 E p ns F G w) : (∀ k, blk p.NA = some k → E.b + 11 ≤ k) ∧ ∀ i, i < ns.length → ∀ k, blk (p.sl.getD i default).at_ = some k → E.b + 11 ≤ k ∧ blk p.NA ≠ some k := by
  refine ⟨fun k hk => (h.nown.lt k (by rw [own_blk]; exact hk)).1, fun i hi k hk => ⟨((h.nxt i hi).lt k (by unfold Sl.val; rw [own_blk]; exact hk)).1, fun h1 => ?_⟩⟩
  obtain ⟨c1, q1, _⟩ := own_block_type h.nown (k := k) (by rw [own_blk]; exact h1)
  obtain ⟨c2, q2, _⟩ := own_block_type (h.nxt i hi) (k := k) (by unfold Sl.val; rw [own_blk]; exact hk)
  rw [q1] at q2
  injection q2 with q2
  injection q2 with _ q2
  exact absurd q2 (by decide)
/-- One of the two maps is written. -/
theorem USt.mapBoth {b : Nat} (h : USt w0 E p ns F G w) (hbm : b = E.b + 8 ∨ b = E.b + 6) (hg : w.grownBy w' (some b)) (hm : MK w' Tryd.prog 9 (E.b + 8) F') (hs : MK w' Tryd.prog 77 (E.b + 6) G') : USt w0 E p ns F' G' w' ∧ Mv (p.R E) w (p.R E) w' := by
  obtain ⟨e1, e2⟩ := h.ne
  have hbR : p.R E b := by
    rcases hbm with q | q
    · exact .inr (.inr (.inl q))
    · exact .inr (.inl q)
  have hK : Kept (p.R E) w w' := Kept.grown (Kept.refl _ _) hg (fun k hk => .inl (by injection hk with hk; rw [← hk]; exact hbR))
  have hold : ∀ k, k < w.heap.size → k ≠ b → w'.heap[k]? = w.heap[k]? := fun k hk h1 => hg.block k hk (fun q => by injection q with q; exact h1 q)
  exact ⟨⟨h.bel.trans (hK.below (fun k hk => by have := (h.lt hk).1; have := h.hb; omega) h.bel.size), h.hb, h.box.keep (fun k hf hk => hold k hk (by unfold UEnv.fix at hf; omega)), (hold _ h.row.lt (by omega)).trans h.row, own_same h.nown (fun k hk => hold k (own_lt h.nown k hk) (by have := e1 k (by rw [← own_blk]; exact hk); omega)),
    h.sll, fun i hi => own_same (h.nxt i hi) (fun k hk => hold k (own_lt (h.nxt i hi) k hk) (by have := (e2 i hi k (by rw [← own_blk]; exact hk)).1; omega)), hm, hs⟩, ⟨hK, fun _ _ h => h⟩⟩
theorem USt.mapUp (h : USt w0 E p ns F G w) (hg : w.grownBy w' (some (E.b + 8))) (hm : MK w' Tryd.prog 9 (E.b + 8) F') : USt w0 E p ns F' G w' ∧ Mv (p.R E) w (p.R E) w' :=
  h.mapBoth (.inl rfl) hg hm (h.ms.kept hg (by intro q; injection q with q; omega))
theorem USt.seenUp (h : USt w0 E p ns F G w) (hg : w.grownBy w' (some (E.b + 6))) (hm : MK w' Tryd.prog 77 (E.b + 6) G') : USt w0 E p ns F G' w' ∧ Mv (p.R E) w (p.R E) w' :=
  h.mapBoth (.inr rfl) hg (h.mp.kept hg (by intro q; injection q with q; omega)) hm
theorem USt.congrF (h : USt w0 E p ns F G w) (hf : ∀ v, F' v = F v) : USt w0 E p ns F' G w := by
  obtain rfl : F' = F := funext hf
  exact h
theorem USt.congrG (h : USt w0 E p ns F G w) (hf : ∀ v, G' v = G v) : USt w0 E p ns F G' w := by
  obtain rfl : G' = G := funext hf
  exact h
/-- A node is appended. -/
theorem USt.pushN {NA : Option Addr} {nc : Nat} {x : Nd} {s : Sl} (h : USt w0 E p ns F G w) (hn : ∀ k, blk NA = some k → blk p.NA = some k ∨ w.heap.size ≤ k) (hg : w.grownBy w' (blk p.NA)) (ho : w'.ownsRow (E.b + 11) 72 2 (.slice NA (ns.length + 1) nc) (ns.length + 1) (nodesCells ns p.sl ++ [.int .i64 x.level, s.val]))
    (hs : w.ownsRow (E.b + 11) 3 1 s.val s.len (ints x.next)) (hf : ∀ k, blk s.at_ = some k → ¬ p.R E k) :
    USt w0 E { p with NA := NA, nc := nc, sl := p.sl ++ [s] } (ns ++ [x]) F G (w'.setCell ⟨E.b + 5, 2, none⟩ (.slice NA (ns.length + 1) nc)) ∧ Row w' (E.b + 5) 31 (E.cells p ns.length) ∧
      Kept (p.R E) w (w'.setCell ⟨E.b + 5, 2, none⟩ (.slice NA (ns.length + 1) nc)) ∧ ∀ k, k < w.heap.size → ({ p with NA := NA, nc := nc, sl := p.sl ++ [s] } : UPos).R E k → p.R E k ∨ blk s.at_ = some k := by
  obtain ⟨e1, e2⟩ := h.ne
  have hrow : Row w' (E.b + 5) 31 (E.cells p ns.length) := h.row.grown hg (fun q => by have := e1 _ q.symm; omega)
  have hK : Kept (p.R E) w w' := Kept.grown (Kept.refl _ _) hg (fun k hk => .inl (.inr (.inr (.inr (.inl hk)))))
  have hK2 : Kept (p.R E) w (w'.setCell ⟨E.b + 5, 2, none⟩ (.slice NA (ns.length + 1) nc)) := hK.set (p := ⟨E.b + 5, 2, none⟩) (.inl (.inl rfl)) _
  have hold : ∀ k, k < w.heap.size → k ≠ E.b + 5 → blk p.NA ≠ some k → (w'.setCell ⟨E.b + 5, 2, none⟩ (.slice NA (ns.length + 1) nc)).heap[k]? = w.heap[k]? := fun k hk h1 h2 =>
    (Below.heap_setCell w' ⟨E.b + 5, 2, none⟩ _ k h1).trans (hg.block k hk (fun q => h2 q.symm))
  have hget : ∀ i, i < ns.length → (p.sl ++ [s]).getD i default = p.sl.getD i default := fun i hi => gsl_old p.sl s i (by rw [h.sll]; exact hi)
  have hgl : (p.sl ++ [s]).getD ns.length default = s := by rw [← h.sll]; exact gsl_snoc p.sl s
  have hnd : ∀ i, i < ns.length → (ns ++ [x]).getD i default = ns.getD i default := fun i hi => by
    simp only [List.getD_eq_getElem?_getD]; rw [List.getElem?_append_left hi]
  have hnl : (ns ++ [x]).getD ns.length default = x := by simp [List.getD_eq_getElem?_getD]
  have hlen : (ns ++ [x]).length = ns.length + 1 := by simp
  refine ⟨⟨h.bel.trans (hK2.below (fun k hk => by have := (h.lt hk).1; have := h.hb; omega) h.bel.size), h.hb, h.box.keep (fun k hf2 hk => hold k hk (by unfold UEnv.fix at hf2; omega) (fun q => by have := e1 k q; unfold UEnv.fix at hf2; omega)), ?_, ?_, by simp [h.sll], fun i hi => ?_, h.mp.block (hold _ h.mp.lt (by omega) (fun q => by have := e1 _ q; omega)), h.ms.block (hold _ h.ms.lt (by omega) (fun q => by have := e1 _ q; omega))⟩, hrow, hK2, fun k hk hr => ?_⟩
  · rw [hlen]; exact hrow.set 2 _
  · rw [hlen, nodesCells_snoc _ _ _ _ h.sll]
    exact own_set (p := ⟨E.b + 5, 2, none⟩) ho hrow (by decide) _
  · rw [hlen] at hi
    show World.ownsRow _ _ _ _ ((p.sl ++ [s]).getD i default).val ((p.sl ++ [s]).getD i default).len _
    rcases Nat.lt_or_ge i ns.length with hl | hl
    · rw [hget i hl, hnd i hl]
      exact own_same (h.nxt i hl) (fun k hk => by
        have hb : blk (p.sl.getD i default).at_ = some k := by rw [← own_blk]; exact hk
        exact hold k (own_lt (h.nxt i hl) k hk) (by have := (e2 i hl k hb).1; omega) (e2 i hl k hb).2)
    · obtain rfl : i = ns.length := by omega
      rw [hgl, hnl]
      exact own_same hs (fun k hk => by
        have hb : blk s.at_ = some k := by rw [← own_blk]; exact hk
        exact hold k (own_lt hs k hk) (fun q => hf k hb (.inl q)) (fun q => hf k hb (.inr (.inr (.inr (.inl q))))))
  · rcases hr with rfl | rfl | rfl | q | ⟨i, hi, q⟩
    · exact .inl (.inl rfl)
    · exact .inl (.inr (.inl rfl))
    · exact .inl (.inr (.inr (.inl rfl)))
    · rcases hn k q with q2 | q2
      · exact .inl (.inr (.inr (.inr (.inl q2))))
      · omega
    · change i < (p.sl ++ [s]).length at hi
      change blk ((p.sl ++ [s]).getD i default).at_ = some k at q
      rw [List.length_append, List.length_singleton, h.sll] at hi
      rcases Nat.lt_or_ge i ns.length with hl | hl
      · rw [hget i hl] at q
        exact .inl (.inr (.inr (.inr (.inr ⟨i, by rw [h.sll]; exact hl, q⟩))))
      · obtain rfl : i = ns.length := by omega
        rw [hgl] at q
        exact .inr q
end
/-- The nodes of a tree in rows of their own, all from block B on. -/
structure TOwn (B : Nat) (w : World) (ns : List Nd) (NA : Option Addr) (nc : Nat) (sl : List Sl) : Prop where
  nown : w.ownsRow B 72 2 (.slice NA ns.length nc) ns.length (nodesCells ns sl)
  sll : sl.length = ns.length
  nxt : ∀ i, i < ns.length → w.ownsRow B 3 1 (sl.getD i default).val (sl.getD i default).len (ints (ns.getD i default).next)
  small : ∀ x ∈ ns, x.next.length ≤ 1000
  n63 : ns.length ≤ 1000000
section
variable {B B' : Nat} {w w' : World} {ns : List Nd} {NA HA : Option Addr} {nc hn : Nat} {sl : List Sl} {hood : List Pt} {st : Int}
theorem TOwn.block (h : TOwn B w ns NA nc sl) (hk : ∀ k, B ≤ k → k < w.heap.size → w'.heap[k]? = w.heap[k]?) : TOwn B w' ns NA nc sl :=
  ⟨own_same h.nown (fun k q => hk k (h.nown.lt k q).1 (h.nown.lt k q).2), h.sll, fun i hi => own_same (h.nxt i hi) (fun k q => hk k ((h.nxt i hi).lt k q).1 ((h.nxt i hi).lt k q).2), h.small, h.n63⟩
theorem TOwn.below (h : TOwn B w ns NA nc sl) (hb : Below w.heap.size w w') : TOwn B w' ns NA nc sl := h.block (fun k _ hk => hb.block k hk)
theorem TOwn.set (h : TOwn B w ns NA nc sl) {p : Addr} (hp : p.block < B) (u : Value) : TOwn B (w.setCell p u) ns NA nc sl := h.block (fun k hk _ => Below.heap_setCell w p u k (by omega))
theorem TOwn.mono (h : TOwn B w ns NA nc sl) (hb : B' ≤ B) : TOwn B' w ns NA nc sl := ⟨own_base h.nown hb, h.sll, fun i hi => own_base (h.nxt i hi) hb, h.small, h.n63⟩
theorem TOwn.tat (h : TOwn B w ns NA nc sl) (hh : Rd w w.heap.size 2 HA hn (hoodCells hood)) (h63 : hn ≤ maxLen) : TAt w ⟨st, hood, ns⟩ HA NA hn ns.length sl :=
  ⟨hh, Rd.of_own h.nown, h.sll, fun i hi => by
    have h1 := h.nxt i hi
    refine ⟨Rd.of_own h1, ?_⟩
    have h2 := h1.1
    rw [ints_length] at h2
    have h3 := h.small (ns.getD i default) (by rw [List.getD_eq_getElem?_getD, List.getElem?_eq_getElem hi]; exact List.getElem_mem hi)
    try dsimp only at h2 h3
    unfold maxLen
    omega, h63, by have := h.n63; unfold maxLen; show ns.length ≤ _; omega⟩
theorem TOwn.nil (B : Nat) (w : World) : TOwn B w [] none 0 [] := ⟨World.ownsRow_nil _ _ _ _, rfl, fun i hi => absurd hi (Nat.not_lt_zero _), by simp, by simp⟩
end
end Go.Proofs.YtlmdjkmcplobnaaDoor
