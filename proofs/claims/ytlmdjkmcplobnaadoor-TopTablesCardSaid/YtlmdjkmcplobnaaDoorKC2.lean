/-
  Steps of a walk call by call: what lies below, new rows, cells kept. Any program.
-/
import Derived.Test.YtlmdjkmcplobnaaDoorKC1
import Derived.Deep.QuietTactic
import Derived.Test.YtlmdjkmcplobnaaDoorProg
import Derived.BigQuiet
import Derived.Deep.Light
import Derived.Deep.RegionHeld3
import Derived.Lib.Hide
namespace Go.Proofs.YtlmdjkmcplobnaaDoor
open Go.RowKit
set_option linter.unusedSimpArgs false
set_option linter.unusedVariables false

theorem below_next {w W w' : World} (hb : Below W.heap.size W w') (hw : Below w.heap.size w W) : Below w.heap.size w w' := hw.trans (hb.mono hw.size)
theorem below_on {w W1 W w' : World} (h0 : Below w.heap.size w W1) (h1 : Below W1.heap.size W1 W) (hb : Below W.heap.size W w') : Below w.heap.size w w' := h0.trans ((h1.trans (hb.mono h1.size)).mono h0.size)
theorem below_on2 {w W1 W : World} (h0 : Below w.heap.size w W1) (h1 : Below W1.heap.size W1 W) : Below w.heap.size w W := h0.trans (h1.mono h0.size)
theorem rowCells {w : World} {g : Nat} {T : TypeId} {xs : List Value} (h : Row w g T xs) {w' : World} (hb : Below w.heap.size w w') : Row w' g T xs := h.below hb h.lt
theorem rowNew1 (w : World) (o : Obj) (T : TypeId) (xs : List Value) : Row ((w.alloc o).alloc (.cells xs.toArray T)) (w.heap.size + 1) T xs := by
  have := Row.new (w.alloc o) T xs
  rw [World.size_alloc] at this
  exact this
theorem rowNew2 (w : World) (o o' : Obj) (T : TypeId) (xs : List Value) : Row (((w.alloc o).alloc o').alloc (.cells xs.toArray T)) (w.heap.size + 1 + 1) T xs := by
  have := Row.new ((w.alloc o).alloc o') T xs
  rw [World.size_alloc, World.size_alloc] at this
  exact this
/-- A callee that leaves the world as it is, within go_quiet. -/
theorem quiet_same {P : Program} {f : FuncId} {args : Array Value} {w : World} {n : Nat} {v : Value}
    (h : Calls P f args (w.drewN n) fun e w' => e = .returned v ∧ w.drewN n = w') : Calls P f args (w.drewN n) fun e w'' => e = .returned v ∧ ∃ m, w'' = w.drewN m :=
  h.mono fun _ _ h2 => ⟨h2.1, n, h2.2.symm⟩
end Go.Proofs.YtlmdjkmcplobnaaDoor

/-
  Comparing integers and points: cmp.Compare, cmp.Or, point.Compare, walked.
-/
namespace Go.Proofs.YtlmdjkmcplobnaaDoor
open Go.RowKit
set_option linter.unusedSimpArgs false
set_option linter.unusedVariables false

/-- -1, 0 or 1. -/
def cmpI (a b : Int) : Int := if a < b then -1 else if b < a then 1 else 0
theorem cmpI_zero (a b : Int) : cmpI a b = 0 ↔ a = b := by unfold cmpI; split <;> (try split) <;> omega
theorem cmpI_cases (a b : Int) : cmpI a b = -1 ∧ a < b ∨ cmpI a b = 1 ∧ b < a ∨ cmpI a b = 0 ∧ a = b := by unfold cmpI; split <;> (try split) <;> omega
set_option maxHeartbeats 400000 in
theorem isNaN_any (x : Int) (w : World) : Calls Tryd.prog 53 #[.int .i64 x] w fun e w' => e = .returned (.bool false) ∧ w = w' := by
  go_enter Tryd.func53, Tryd.ntmps53
  go_wp2
  go_ret
  exact ⟨ret_bool (by simp), rfl⟩

set_option maxHeartbeats 400000 in
theorem cmpCompare_any (a b : Int) (w : World) : Calls Tryd.prog 48 #[.int .i64 a, .int .i64 b] w fun e w' => e = .returned (.int .i64 (cmpI a b)) ∧ w = w' := by
  go_enter Tryd.func48, Tryd.ntmps48
  go_wp2_with fail
  refine (isNaN_any a _).mono ?_
  rintro e w1 ⟨rfl, rfl⟩
  go_wp2_with fail
  refine (isNaN_any b _).mono ?_
  rintro e w1 ⟨rfl, rfl⟩
  go_wp2
  all_goals go_ret
  all_goals refine ⟨ret_i64 ?_, rfl⟩
  all_goals (unfold cmpI; split <;> (try split) <;> omega)

set_option maxHeartbeats 400000 in
theorem cmpOr_any (A : Option Addr) (c : Nat) (a b : Int) (w : World) (h : Rd w w.heap.size 1 A 2 (ints [a, b])) : Calls Tryd.prog 47 #[.slice A 2 c] w fun e w' => e = .returned (.int .i64 (if a ≠ 0 then a else b)) ∧ w = w' := by
  obtain ⟨ad, rfl, hb, h0⟩ := h.int (k := 0) (by omega)
  obtain ⟨ad', e', hb', h1⟩ := h.int (k := 1) (by omega)
  cases e'
  simp only [List.getD_cons_zero, List.getD_cons_succ] at h0 h1
  have H0 : Hid (w.cell? (ad.add 0) = some (.int .i64 a)) := h0
  have H1 : Hid (w.cell? (ad.add 1) = some (.int .i64 b)) := h1
  clear h0 h1 h
  go_enter Tryd.func47, Tryd.ntmps47
  go_wp2
  go_loopg [5, 8] 2 (fun gg _ s8 wr => ∃ kk : Nat, kk ≤ 2 ∧ 2 - kk ≤ gg ∧ s8 = .int .i64 kk ∧ wr = w ∧ Aside (0 < kk → a = 0) ∧ Aside (1 < kk → b = 0))
  case atStart => exact ⟨0, by omega, by omega, rfl, rfl, fun h => absurd h (by omega), fun h => absurd h (by omega)⟩
  case round =>
    obtain ⟨kk, hkk, hg, rfl, rfl, A0, A1⟩ := hrel
    have hc : kk = 0 ∨ kk = 1 ∨ kk = 2 := by omega
    rcases hc with rfl | rfl | rfl
    · have h0 : wr.cell? ad = some (.int .i64 a) := H0.out
      by_cases hz : a = 0
      · subst hz
        go_wp2
        go_roundg 1
        case measure => omega
        case rel => exact ⟨1, by omega, by omega, by go_num, rfl, (by first | exact trivial | exact fun _ => trivial | exact fun _ => rfl), (show Aside _ from fun h => absurd h (by omega))⟩
      · have hz' : (a != 0) = true := by simpa using hz
        go_wp2
        go_ret
        exact ⟨ret_i64 (by simp [hz]), rfl⟩
    · have h1 : wr.cell? ⟨ad.block, ad.off + 1, none⟩ = some (.int .i64 b) := H1.out
      have ha := A0.out (by omega)
      by_cases hz : b = 0
      · subst hz
        go_wp2
        go_roundg 0
        case measure => omega
        case rel => exact ⟨2, by omega, by omega, by go_num, rfl, (show Aside _ from fun _ => ha), (by first | exact trivial | exact fun _ => trivial | exact fun _ => rfl)⟩
      · have hz' : (b != 0) = true := by simpa using hz
        have HA : Hid (a = 0) := ha
        clear ha
        go_wp2
        go_ret
        exact ⟨ret_i64 (by have h1 := HA.out; simp [h1]), rfl⟩
    · have HA : Hid (a = 0) := A0.out (by omega)
      have HB : Hid (b = 0) := A1.out (by omega)
      go_wp2
      go_ret
      exact ⟨ret_i64 (by have h1 := HA.out; have h2 := HB.out; simp [h1, h2]), rfl⟩

set_option maxRecDepth 100000 in
set_option maxHeartbeats 1000000 in
theorem pointCompare_any (a b c d : Int) (w : World) : Calls Tryd.prog 38 #[.agg #[.int .i64 a, .int .i64 b], .agg #[.int .i64 c, .int .i64 d]] w fun e w' => e = .returned (.int .i64 (if cmpI b d ≠ 0 then cmpI b d else cmpI a c)) ∧ Below w.heap.size w w' := by
  generalize hp : cmpI b d = p
  generalize hq : cmpI a c = q
  have HP : Hid (cmpI b d = p) := hp
  have HQ : Hid (cmpI a c = q) := hq
  clear hp hq
  generalize hr : (if p ≠ 0 then p else q) = r
  have HR : Hid ((if p ≠ 0 then p else q) = r) := hr
  clear hr
  go_enter Tryd.func38, Tryd.ntmps38
  go_wp2_with fail
  have RA : Hid (Row (World.alloc (World.alloc w _) _) w.heap.size 70 [.int .i64 a, .int .i64 b]) := (Row.new w 70 [.int .i64 a, .int .i64 b]).alloc (.cells #[.int .i64 c, .int .i64 d] 70)
  have RB : Hid (Row (World.alloc (World.alloc w (.cells #[.int .i64 a, .int .i64 b] 70)) _) (w.heap.size + 1) 70 [.int .i64 c, .int .i64 d]) := rowNew1 w _ 70 [.int .i64 c, .int .i64 d]
  have HB : Hid (Below w.heap.size w (World.alloc (World.alloc w (.cells #[.int .i64 a, .int .i64 b] 70)) (.cells #[.int .i64 c, .int .i64 d] 70))) := by show Below _ _ _; go_grown
  revert RA RB HB
  generalize World.alloc (World.alloc w (.cells #[.int .i64 a, .int .i64 b] 70)) (.cells #[.int .i64 c, .int .i64 d] 70) = w1
  intro RA RB HB
  have HS : ∀ w', Below w1.heap.size w1 w' → w'.cell? ⟨w.heap.size, 0, none⟩ = some (.int .i64 a) ∧ w'.cell? ⟨w.heap.size, 1, none⟩ = some (.int .i64 b) ∧ w'.cell? ⟨w.heap.size + 1, 0, none⟩ = some (.int .i64 c) ∧ w'.cell? ⟨w.heap.size + 1, 1, none⟩ = some (.int .i64 d) := fun w' hw => ⟨(rowCells RA.out hw).cell 0, (rowCells RA.out hw).cell 1, (rowCells RB.out hw).cell 0, (rowCells RB.out hw).cell 1⟩
  have HN : Hid (Below w1.heap.size w1 w1) := Below.refl _ _
  clear RA RB
  go_region_held3 (fun w' => w'.cell? ⟨w.heap.size, 0, none⟩ = some (.int .i64 a) ∧ w'.cell? ⟨w.heap.size, 1, none⟩ = some (.int .i64 b) ∧ w'.cell? ⟨w.heap.size + 1, 0, none⟩ = some (.int .i64 c) ∧ w'.cell? ⟨w.heap.size + 1, 1, none⟩ = some (.int .i64 d)) (exact HS _ (by first | exact below_on2 HN.out (by go_grown) | go_grown)) (first
    | (go_at_call_of 48 (Value.int .i64 b)
       refine (cmpCompare_any b d _).mono ?_
       rw [HP.out]
       rintro e w7 ⟨rfl, rfl⟩)
    | (go_at_call 48
       refine (cmpCompare_any a c _).mono ?_
       rw [HQ.out]
       rintro e w7 ⟨rfl, rfl⟩)
    | (go_at_call 47
       refine (cmpOr_any _ _ p q _ (by first | exact ((Row.new w1 3 (ints [p, q])).drew).rd rfl | exact (Row.new w1 3 (ints [p, q])).rd rfl | exact ((Row.new w1 3 (ints [p, q])).drewN _).rd rfl)).mono ?_
       rw [HR.out]
       rintro e w7 ⟨rfl, rfl⟩))
  all_goals
    go_wp2
    go_ret
    exact ⟨rfl, below_on2 HB.out (by go_grown)⟩
end Go.Proofs.YtlmdjkmcplobnaaDoor

/-
  Rule tables in plain terms: the rows that decide, and the tree that is built. Nothing of the program stands here.
-/
namespace Go.Proofs.YtlmdjkmcplobnaaDoor
set_option linter.unusedSimpArgs false
set_option linter.unusedVariables false
namespace KT
structure Rw where
  ins : List Int
  out : Int
instance : Inhabited Rw := ⟨⟨[], 0⟩⟩
structure Tab where
  states : Int
  sym : Int
  hood : List Pt
  vars : List (List Int)
  rows : List Rw
def matL : List (List Int) := [[1, 0, 0, 1], [0, -1, 1, 0], [-1, 0, 0, -1], [0, 1, -1, 0], [-1, 0, 0, 1], [0, -1, -1, 0], [1, 0, 0, -1], [0, 1, 1, 0]]
def mat (k i : Nat) : Int := (matL.getD k []).getD i 0
def applyS (k : Nat) (p : Pt) : Pt := ⟨mat k 0 * p.x + mat k 1 * p.y, mat k 2 * p.x + mat k 3 * p.y⟩
def samePt (a b : Pt) : Bool := a.x == b.x && a.y == b.y
theorem samePt_eq {a b : Pt} : samePt a b = true ↔ a = b := by
  cases a; cases b; simp [samePt]
def hasPt (l : List Pt) (p : Pt) : Bool := l.any (samePt p)
theorem hasPt_mem {l : List Pt} {p : Pt} : hasPt l p = true ↔ p ∈ l := by
  unfold hasPt
  rw [List.any_eq_true]
  exact ⟨fun ⟨q, hq, e⟩ => by rw [samePt_eq.1 e]; exact hq, fun h => ⟨p, h, samePt_eq.2 rfl⟩⟩
def idxPt (l : List Pt) (p : Pt) : Option Nat := l.findIdx? (samePt p)
def mapsTo (l : List Pt) (k : Nat) : Bool := l.all (fun p => hasPt l (applyS k p))
def symsL (l : List Pt) : List Nat := if hoodOk l = true then (List.range 8).filter (mapsTo l) else []
def permitsK (l : List Pt) (sym : Int) : Bool :=
  if sym = 0 then true else if sym = 1 then (symsL l).contains 1 else if sym = 2 then decide ((symsL l).length = 8) else if sym = 3 then decide (l.length ≤ 9) else false
def varOk (t : Tab) (l : List Int) : Bool := decide (l.length ≠ 0 ∧ ∀ i, i < l.length → (0 ≤ l.getD i 0 ∧ l.getD i 0 < t.states) ∧ (i = 0 ∨ l.getD (i - 1) 0 < l.getD i 0))
def elemOk (t : Tab) (n : Int) : Bool := decide (n < t.states ∧ -(t.vars.length : Int) ≤ n)
def rowOk (t : Tab) (r : Rw) : Bool := decide (r.ins.length = t.hood.length) && (elemOk t r.out && ((decide (0 ≤ r.out) || r.ins.contains r.out) && r.ins.all (elemOk t)))
def headK (t : Tab) : Bool := decide (2 ≤ t.states ∧ t.states ≤ 8) && (hoodOk t.hood && (permitsK t.hood t.sym && decide (t.vars.length ≤ 40 ∧ t.rows.length ≤ 400)))
def rightK (t : Tab) : Bool := headK t && (t.vars.all (varOk t) && t.rows.all (rowOk t))
/-- Bindings: the values of the variables, -1 for none. -/
def noneB : List Int := List.replicate 40 (-1)
def vix (e : Int) : Nat := (-1 - e).toNat
def acceptK (t : Tab) (b : List Int) (e s : Int) : List Int × Bool × Bool :=
  if 0 ≤ e then (b, e == s, false)
  else if 0 ≤ b.getD (vix e) 0 then (b, b.getD (vix e) 0 == s, false)
  else if (t.vars.getD (vix e) []).contains s = true then (b.set (vix e) s, true, true) else (b, false, false)
def outK (b : List Int) (r : Rw) : Int := if 0 ≤ r.out then r.out else b.getD (vix r.out) 0
def plainGo (t : Tab) (ins : List Int) : List Int → Nat → List Int → Option (List Int)
  | [], _, b => some b
  | e :: es, i, b => if (acceptK t b e (ins.getD i 0)).2.1 = true then plainGo t ins es (i + 1) (acceptK t b e (ins.getD i 0)).1 else none
def plainK (t : Tab) (r : Rw) (ins : List Int) : Option Int := (plainGo t ins r.ins 0 noneB).map (fun b => outK b r)
def turnK (t : Tab) (k : Nat) (ins : List Int) : List Int := t.hood.map (fun q => ins.getD ((idxPt t.hood (applyS k q)).getD 0) 0)
def least (acc : Option Int) (n : Int) : Option Int := match acc with
  | none => some n
  | some m => some (if n < m then n else m)
def hasBit (m s : Int) : Bool := decide (m / 2 ^ s.toNat % 2 = 1)
def putBit (m s : Int) : Int := if hasBit m s = true then m else m + 2 ^ s.toNat
/-- The centre's index, or -1. -/
def centreK (l : List Pt) : Int := if hoodOk l = true then (match idxPt l ⟨0, 0⟩ with | some i => (i : Int) | none => -1) else -1
/-- All orders of the elements, from the position i on: c the centre, f fuel. -/
def placeK (t : Tab) (r : Rw) (ins : List Int) (c : Int) : Nat → Nat → List Int → List Bool → Option Int → Option Int
  | 0, _, _, _, acc => acc
  | f + 1, i, b, used, acc =>
    if i = ins.length then least acc (outK b r)
    else if (i : Int) = c then placeK t r ins c f (i + 1) b used acc
    else ((List.range ins.length).foldl (fun (q : Int × Option Int) (k : Nat) =>
      if (k : Int) = c ∨ used.getD k false = true ∨ hasBit q.1 (ins.getD k 0) = true then q
      else (putBit q.1 (ins.getD k 0), if (acceptK t b (r.ins.getD i 0) (ins.getD k 0)).2.1 = true then placeK t r ins c f (i + 1) (acceptK t b (r.ins.getD i 0) (ins.getD k 0)).1 (used.set k true) q.2 else q.2)) (0, acc)).2
def permK (t : Tab) (r : Rw) (ins : List Int) : Option Int :=
  if 0 ≤ centreK t.hood then
    if (acceptK t noneB (r.ins.getD (centreK t.hood).toNat 0) (ins.getD (centreK t.hood).toNat 0)).2.1 = true then
      placeK t r ins (centreK t.hood) (ins.length + 1) 0 (acceptK t noneB (r.ins.getD (centreK t.hood).toNat 0) (ins.getD (centreK t.hood).toNat 0)).1 (List.replicate ins.length false) none
    else none
  else placeK t r ins (centreK t.hood) (ins.length + 1) 0 noneB (List.replicate ins.length false) none
def turnsN (sym : Int) : Nat := if sym = 1 then 4 else if sym = 2 then 8 else 1
def decideK (t : Tab) (r : Rw) (ins : List Int) : Option Int :=
  if t.sym = 3 then permK t r ins
  else (List.range (turnsN t.sym)).foldl (fun (acc : Option Int) (k : Nat) => match plainK t r (turnK t k ins) with | some s => least acc s | none => acc) none
def stOk (t : Tab) (s : Int) : Bool := decide (0 ≤ s ∧ s < t.states)
def rowsK (t : Tab) (ins : List Int) : List Rw → Option Int
  | [] => none
  | r :: rs => match decideK t r ins with | some s => some s | none => rowsK t ins rs
def valueK (t : Tab) (ins : List Int) : Int := match rowsK t ins t.rows with
  | some s => s
  | none => if 0 ≤ centreK t.hood then ins.getD (centreK t.hood).toNat 0 else 0
def nextErr (t : Tab) (ins : List Int) : Int := if rightK t = true ∧ ins.length = t.hood.length then (if ins.all (stOk t) = true then 0 else 10) else 2
def nextK (t : Tab) (ins : List Int) : Int := if nextErr t ins = 0 then valueK t ins else 0
/-- The tree that is built. -/
def findNd (ns : List Nd) (lev : Int) (next : List Int) : Option Nat := ns.findIdx? (fun x => x.level == lev && x.next == next)
def loopB (rec : Int → List Nd → Int × List Nd) : Nat → Nat → List Int → List Nd → List Int × List Nd
  | 0, _, next, ns => (next, ns)
  | m + 1, s, next, ns => loopB rec m (s + 1) (next ++ [(rec (s : Int) ns).1]) (rec (s : Int) ns).2
def endB (lev : Int) (q : List Int × List Nd) : Int × List Nd := match findNd q.2 lev q.1 with
  | some i => ((i : Int), q.2)
  | none => ((q.2.length : Int), q.2 ++ [⟨lev, q.1⟩])
def buildK (S : Nat) (val : List Int → Int) : Nat → List Int → List Nd → Int × List Nd
  | 0, ins, ns => (val ins, ns)
  | L + 1, ins, ns => endB ((L : Int) + 1) (loopB (fun s ns => buildK S val L (ins ++ [s]) ns) S 0 [] ns)
/-- What holds of the nodes at all times (H: the length of the neighbourhood). -/
structure NOk (S H : Nat) (ns : List Nd) : Prop where
  lev : ∀ i, i < ns.length → 1 ≤ (ns.getD i default).level ∧ (ns.getD i default).level ≤ H ∧ (ns.getD i default).next.length = S
  link : ∀ i, i < ns.length → ∀ k ∈ (ns.getD i default).next, 0 ≤ k ∧ ((ns.getD i default).level = 1 → k < S) ∧ (1 < (ns.getD i default).level → k < i ∧ (ns.getD k.toNat default).level = (ns.getD i default).level - 1)
/-- From k on, all of ext leads to val of ins and what follows. -/
def Leads (S : Nat) (val : List Int → Int) (ns : List Nd) (L : Nat) (ins : List Int) (k : Int) : Prop :=
  ∀ ext, ∀ hood suf, suf.length = L → (∀ s ∈ suf, 0 ≤ s ∧ s < (S : Int)) → walkT ⟨S, hood, ns ++ ext⟩ k suf = val (ins ++ suf)
structure BOut (S H : Nat) (val : List Int → Int) (L : Nat) (ins : List Int) (ns : List Nd) (r : Int × List Nd) : Prop where
  ok : NOk S H r.2
  ext : ∃ e, r.2 = ns ++ e
  at0 : L = 0 → r.1 = val ins ∧ r.2 = ns
  atL : 0 < L → 0 ≤ r.1 ∧ r.1.toNat < r.2.length ∧ (r.2.getD r.1.toNat default).level = L
  lead : Leads S val r.2 L ins r.1
  low : ∀ M : Int, (∀ i, i < ns.length → (ns.getD i default).level < M) → (L : Int) < M → ∀ i, i < r.2.length → (r.2.getD i default).level < M
end KT
end Go.Proofs.YtlmdjkmcplobnaaDoor

/-
  What stays where a call writes to a struct of its own and to a row of its own: all that lies below, and all blocks of other element types. Rows of rows. Any program.
-/
namespace Go.Proofs.YtlmdjkmcplobnaaDoor
open Go.RowKit
set_option linter.unusedSimpArgs false
set_option linter.unusedVariables false

structure Frm (B : Nat) (T1 T2 : TypeId) (w w' : World) : Prop where
  below : Below B w w'
  keep : ∀ (k : Nat) (cs : Array Value) (T : TypeId) (fz : Nat × Nat), T ≠ T1 → T ≠ T2 → w.heap[k]? = some (Obj.cells cs T fz) → w'.heap[k]? = some (Obj.cells cs T fz)
theorem heap_lt {w : World} {k : Nat} {o : Obj} (h : w.heap[k]? = some o) : k < w.heap.size := by
  rcases Nat.lt_or_ge k w.heap.size with hl | hge
  · exact hl
  · rw [Array.getElem?_eq_none hge] at h; cases h
section
variable {B : Nat} {T1 T2 : TypeId} {w w1 w' : World}
theorem Frm.refl (B : Nat) (T1 T2 : TypeId) (w : World) : Frm B T1 T2 w w := ⟨Below.refl _ _, fun _ _ _ _ _ _ h => h⟩
theorem Frm.trans (h : Frm B T1 T2 w w1) (k : Frm B T1 T2 w1 w') : Frm B T1 T2 w w' := ⟨h.below.trans k.below, fun b cs T fz h1 h2 hh => k.keep b cs T fz h1 h2 (h.keep b cs T fz h1 h2 hh)⟩
theorem Frm.drewN (h : Frm B T1 T2 w w1) (n : Nat) : Frm B T1 T2 w (w1.drewN n) := ⟨below_drewN h.below n, h.keep⟩
theorem Frm.alloc (h : Frm B T1 T2 w w1) (hB : B ≤ w1.heap.size) (o : Obj) : Frm B T1 T2 w (w1.alloc o) :=
  ⟨h.below.alloc hB o, fun b cs T fz h1 h2 hh => by
    have := h.keep b cs T fz h1 h2 hh
    rw [Below.heap_alloc w1 o b (heap_lt this)]; exact this⟩
theorem Frm.set {xs : List Value} {p : Addr} (h : Frm B T1 T2 w w1) (hr : Row w1 p.block T1 xs) (hB : B ≤ p.block) (u : Value) : Frm B T1 T2 w (w1.setCell p u) :=
  ⟨h.below.setCell hB u, fun b cs T fz h1 h2 hh => by
    have := h.keep b cs T fz h1 h2 hh
    rw [Below.heap_setCell w1 p u b (fun e => by
      subst e
      unfold Row at hr
      rw [hr] at this
      injection this with this
      injection this with _ ht
      exact h1 ht.symm)]
    exact this⟩
theorem own_block_type {base sz n : Nat} {e : TypeId} {v : Value} {xs : List Value} {k : Nat} (h : w.ownsRow base e sz v n xs) (hk : v.ownBlock = some k) : ∃ cur, w.heap[k]? = some (Obj.cells cur e (0, 0)) ∧ base ≤ k := by
  rcases h.2 with ⟨rfl, _⟩ | ⟨g, cap, cur, rfl, hb, hg, _⟩
  · cases hk
  · obtain rfl : g = k := by simpa [Value.ownBlock] using hk
    exact ⟨cur, hg, hb⟩
theorem Frm.grown2 {base sz n : Nat} {v : Value} {xs : List Value} (h : Frm B T1 T2 w w1) (ho : w1.ownsRow base T2 sz v n xs) (hB : B ≤ base) (hS : B ≤ w1.heap.size) (hg : w1.grownBy w' v.ownBlock) : Frm B T1 T2 w w' := by
  refine ⟨h.below.grown hg hS (fun k hk => Nat.le_trans hB (own_block_type ho hk).choose_spec.2), fun b cs T fz h1 h2 hh => ?_⟩
  have := h.keep b cs T fz h1 h2 hh
  rw [hg.block b (heap_lt this) (fun e => by
    obtain ⟨cur, hc, _⟩ := own_block_type ho e.symm
    rw [hc] at this
    injection this with this
    injection this with _ ht
    exact h2 ht.symm)]
  exact this
theorem Frm.grownNew {row : Option Nat} (h : Frm B T1 T2 w w1) (hg : w1.grownBy w' row) (hrow : ∀ k, row = some k → w.heap.size ≤ k) (hB : B ≤ w.heap.size) : Frm B T1 T2 w w' := by
  refine ⟨h.below.grown hg (Nat.le_trans hB h.below.size) (fun k hk => Nat.le_trans hB (hrow k hk)), fun b cs T fz h1 h2 hh => ?_⟩
  have hlt := heap_lt hh
  have := h.keep b cs T fz h1 h2 hh
  rw [hg.block b (heap_lt this) (fun e => by have := hrow b e.symm; omega)]
  exact this
theorem Frm.ofBelow (h : Below w.heap.size w w') (hB : B ≤ w.heap.size) : Frm B T1 T2 w w' :=
  ⟨h.mono hB, fun b cs T fz _ _ hh => by rw [h.block b (heap_lt hh)]; exact hh⟩
theorem Frm.own {base sz n : Nat} {e : TypeId} {v : Value} {xs : List Value} (h : Frm B T1 T2 w w') (ho : w.ownsRow base e sz v n xs) (h1 : e ≠ T1) (h2 : e ≠ T2) : w'.ownsRow base e sz v n xs :=
  ⟨ho.1, ho.2.imp id (fun ⟨g, cap, cur, a, b, c, d⟩ => ⟨g, cap, cur, a, b, h.keep g cur e (0, 0) h1 h2 c, d⟩)⟩
theorem Frm.row {g : Nat} {T : TypeId} {xs : List Value} (h : Frm B T1 T2 w w') (hr : Row w g T xs) (h1 : T ≠ T1) (h2 : T ≠ T2) : Row w' g T xs := h.keep g _ T (0, 0) h1 h2 hr
theorem own_grown {base sz n : Nat} {e : TypeId} {v : Value} {xs : List Value} {row : Option Nat} (ho : w.ownsRow base e sz v n xs) (hg : w.grownBy w' row) (hne : ∀ k, v.ownBlock = some k → row ≠ some k) : w'.ownsRow base e sz v n xs := by
  refine ⟨ho.1, ho.2.imp id (fun ⟨g, cap, cur, a, b, c, d⟩ => ⟨g, cap, cur, a, b, ?_, d⟩)⟩
  subst a
  rw [hg.block g (heap_lt c) (fun e => hne g rfl e.symm)]
  exact c
theorem own_old {base sz n : Nat} {e : TypeId} {v : Value} {xs : List Value} {row : Option Nat} {S : Nat} (ho : w.ownsRow base e sz v n xs) (hb : ∀ k, v.ownBlock = some k → k < S) (hg : w.grownBy w' row) (hr : ∀ k, row = some k → S ≤ k) : w'.ownsRow base e sz v n xs :=
  own_grown ho hg (fun k hk e => by have := hb k hk; have := hr k e; omega)
theorem own_lt {base sz n : Nat} {e : TypeId} {v : Value} {xs : List Value} (ho : w.ownsRow base e sz v n xs) : ∀ k, v.ownBlock = some k → k < w.heap.size := fun k hk => by
  obtain ⟨cur, hc, _⟩ := own_block_type ho hk
  exact heap_lt hc
theorem row_set {p : Addr} {g : Nat} {T : TypeId} {xs : List Value} (h : Row w g T xs) (i : Nat) (u : Value) : Row (w.setCell ⟨g, i, none⟩ u) g T (xs.set i u) := h.set i u
theorem own_set {base sz n : Nat} {e T : TypeId} {v : Value} {xs cs : List Value} {p : Addr} (ho : w.ownsRow base e sz v n xs) (hr : Row w p.block T cs) (hne : e ≠ T) (u : Value) : (w.setCell p u).ownsRow base e sz v n xs :=
  own_far ho (own_ne_row ho hr hne) u
end

/-- Rows of rows of integers: the outer row's elements are of type E, the inner rows' of type I; all from block base on. -/
def Rows2At (w : World) (base : Nat) (E I : TypeId) (v : Value) (rows : List (List Int)) : Prop :=
  ∃ vs : List Value, w.ownsRow base E 1 v rows.length vs ∧ vs.length = rows.length ∧ ∀ i, i < rows.length → w.ownsRow base I 1 (vs.getD i undef) (rows.getD i []).length (ints (rows.getD i []))
section
variable {w w' : World} {base : Nat} {E I : TypeId} {v : Value} {rows : List (List Int)}
theorem Rows2At.nil (w : World) (base : Nat) (E I : TypeId) : Rows2At w base E I (.slice none 0 0) [] := ⟨[], World.ownsRow_nil _ _ _ _, rfl, fun i hi => absurd hi (Nat.not_lt_zero _)⟩
theorem Rows2At.frm {B : Nat} {T1 T2 : TypeId} (h : Rows2At w base E I v rows) (f : Frm B T1 T2 w w') (e1 : E ≠ T1) (e2 : E ≠ T2) (i1 : I ≠ T1) (i2 : I ≠ T2) : Rows2At w' base E I v rows := by
  obtain ⟨vs, h1, h2, h3⟩ := h
  exact ⟨vs, f.own h1 e1 e2, h2, fun i hi => f.own (h3 i hi) i1 i2⟩
theorem Rows2At.grown {row : Option Nat} (h : Rows2At w base E I v rows) (hg : w.grownBy w' row) (hr : ∀ k, row = some k → w.heap.size ≤ k) : Rows2At w' base E I v rows := by
  obtain ⟨vs, h1, h2, h3⟩ := h
  exact ⟨vs, own_old h1 (own_lt h1) hg hr, h2, fun i hi => own_old (h3 i hi) (own_lt (h3 i hi)) hg hr⟩
theorem Rows2At.below {B : Nat} (h : Rows2At w base E I v rows) (hb : Below B w w') (hB : w.heap.size ≤ B) : Rows2At w' base E I v rows := by
  obtain ⟨vs, h1, h2, h3⟩ := h
  exact ⟨vs, own_below h1 hb hB, h2, fun i hi => own_below (h3 i hi) hb hB⟩
end
end Go.Proofs.YtlmdjkmcplobnaaDoor

/-
  Points of neighbourhoods: slices.Index, Contains, IndexFunc, ContainsFunc; the symmetries' table.
-/
namespace Go.Proofs.YtlmdjkmcplobnaaDoor
open Go.RowKit
set_option linter.unusedSimpArgs false
set_option linter.unusedVariables false
theorem hood_rowK {w : World} {B n : Nat} {A : Option Addr} {l : List Pt} (h : Rd w B 2 A n (hoodCells l)) {k : Nat} (hk : k < n) :
    ∃ ad, A = some ad ∧ ad.block < B ∧ w.cell? (ad.add (k * 2)) = some (.int .i64 (l.getD k default).x) ∧ w.cell? ⟨(ad.add (k * 2)).block, (ad.add (k * 2)).off + 1, none⟩ = some (.int .i64 (l.getD k default).y) := by
  have hl : l.length = n := by have := h.1; rw [hoodCells, flat2_length _ (fun _ => rfl)] at this; omega
  obtain ⟨h0, h1⟩ := flat2_get ptCells (fun _ => rfl) l k (by omega)
  exact h.row2 hk h0 h1
theorem pt_eql (a b : Pt) (W : World) : (binOp .eql 70 (.agg #[.int .i64 a.x, .int .i64 a.y]) (.agg #[.int .i64 b.x, .int .i64 b.y])).run Tryd.prog W = .ok (.bool (KT.samePt a b)) W := by
  unfold KT.samePt
  cases h1 : (a.x == b.x) <;> cases h2 : (a.y == b.y) <;> (simp only [beq_eq_false_iff_ne, beq_iff_eq] at h1 h2; go_simp)
def idxI (l : List Pt) (q : Pt) : Int := match KT.idxPt l q with | some i => (i : Int) | none => -1
/-- The variable symmetry.matrices (number 0) holds its table. -/
def MatAt (w : World) : Prop := (∀ i, i < 32 → w.cell? ⟨0, i, none⟩ = some (.int .i64 (KT.matL.flatten.getD i 0))) ∧ 0 < w.heap.size
theorem MatAt.up {w w' : World} (h : MatAt w) (hb : Below w.heap.size w w') : MatAt w' :=
  ⟨fun i hi => (hb.cell (p := ⟨0, i, none⟩) h.2).trans (h.1 i hi), Nat.lt_of_lt_of_le h.2 hb.size⟩
set_option maxHeartbeats 1000000 in
theorem apply_0 (p : Pt) (w : World) (hm : MatAt w) (hp : ptOk p = true) :
    Calls Tryd.prog 45 #[.int .i64 0, .agg #[.int .i64 p.x, .int .i64 p.y]] w fun e w' => e = .returned (.agg #[.int .i64 (KT.applyS 0 p).x, .int .i64 (KT.applyS 0 p).y]) ∧ Below w.heap.size w w' := by
  have m0 : w.cell? ⟨0, 0, none⟩ = some (.int .i64 1) := hm.1 0 (by omega)
  have m1 : w.cell? ⟨0, 1, none⟩ = some (.int .i64 0) := hm.1 1 (by omega)
  have m2 : w.cell? ⟨0, 2, none⟩ = some (.int .i64 0) := hm.1 2 (by omega)
  have m3 : w.cell? ⟨0, 3, none⟩ = some (.int .i64 1) := hm.1 3 (by omega)
  have hb0 := hm.2
  have hbit : bits .and .i64 0 7 = 0 := by kernel_rfl
  have hpp := of_decide_eq_true hp
  unfold radius at hpp
  obtain ⟨⟨x1, x2⟩, y1, y2⟩ := hpp
  clear hm hp
  obtain ⟨x, y⟩ := p
  dsimp only at x1 x2 y1 y2
  go_enter Tryd.func45, Tryd.ntmps45
  go_wp2
  refine bodyPost_ret (v := .agg #[.int .i64 (x), .int .i64 (y)]) (by simp [results, Tryd.results45, go_sem]) rfl ?_
  refine ⟨?_, by go_grown⟩
  simp [KT.applyS, KT.mat, KT.matL]
set_option maxHeartbeats 1000000 in
theorem apply_1 (p : Pt) (w : World) (hm : MatAt w) (hp : ptOk p = true) :
    Calls Tryd.prog 45 #[.int .i64 1, .agg #[.int .i64 p.x, .int .i64 p.y]] w fun e w' => e = .returned (.agg #[.int .i64 (KT.applyS 1 p).x, .int .i64 (KT.applyS 1 p).y]) ∧ Below w.heap.size w w' := by
  have m0 : w.cell? ⟨0, 4, none⟩ = some (.int .i64 0) := hm.1 4 (by omega)
  have m1 : w.cell? ⟨0, 5, none⟩ = some (.int .i64 (-1)) := hm.1 5 (by omega)
  have m2 : w.cell? ⟨0, 6, none⟩ = some (.int .i64 1) := hm.1 6 (by omega)
  have m3 : w.cell? ⟨0, 7, none⟩ = some (.int .i64 0) := hm.1 7 (by omega)
  have hb0 := hm.2
  have hbit : bits .and .i64 1 7 = 1 := by kernel_rfl
  have hpp := of_decide_eq_true hp
  unfold radius at hpp
  obtain ⟨⟨x1, x2⟩, y1, y2⟩ := hpp
  clear hm hp
  obtain ⟨x, y⟩ := p
  dsimp only at x1 x2 y1 y2
  go_enter Tryd.func45, Tryd.ntmps45
  go_wp2
  refine bodyPost_ret (v := .agg #[.int .i64 (-y), .int .i64 (x)]) (by simp [results, Tryd.results45, go_sem]) rfl ?_
  refine ⟨?_, by go_grown⟩
  simp [KT.applyS, KT.mat, KT.matL]
set_option maxHeartbeats 1000000 in
theorem apply_2 (p : Pt) (w : World) (hm : MatAt w) (hp : ptOk p = true) :
    Calls Tryd.prog 45 #[.int .i64 2, .agg #[.int .i64 p.x, .int .i64 p.y]] w fun e w' => e = .returned (.agg #[.int .i64 (KT.applyS 2 p).x, .int .i64 (KT.applyS 2 p).y]) ∧ Below w.heap.size w w' := by
  have m0 : w.cell? ⟨0, 8, none⟩ = some (.int .i64 (-1)) := hm.1 8 (by omega)
  have m1 : w.cell? ⟨0, 9, none⟩ = some (.int .i64 0) := hm.1 9 (by omega)
  have m2 : w.cell? ⟨0, 10, none⟩ = some (.int .i64 0) := hm.1 10 (by omega)
  have m3 : w.cell? ⟨0, 11, none⟩ = some (.int .i64 (-1)) := hm.1 11 (by omega)
  have hb0 := hm.2
  have hbit : bits .and .i64 2 7 = 2 := by kernel_rfl
  have hpp := of_decide_eq_true hp
  unfold radius at hpp
  obtain ⟨⟨x1, x2⟩, y1, y2⟩ := hpp
  clear hm hp
  obtain ⟨x, y⟩ := p
  dsimp only at x1 x2 y1 y2
  go_enter Tryd.func45, Tryd.ntmps45
  go_wp2
  refine bodyPost_ret (v := .agg #[.int .i64 (-x), .int .i64 (-y)]) (by simp [results, Tryd.results45, go_sem]) rfl ?_
  refine ⟨?_, by go_grown⟩
  simp [KT.applyS, KT.mat, KT.matL]
set_option maxHeartbeats 1000000 in
theorem apply_3 (p : Pt) (w : World) (hm : MatAt w) (hp : ptOk p = true) :
    Calls Tryd.prog 45 #[.int .i64 3, .agg #[.int .i64 p.x, .int .i64 p.y]] w fun e w' => e = .returned (.agg #[.int .i64 (KT.applyS 3 p).x, .int .i64 (KT.applyS 3 p).y]) ∧ Below w.heap.size w w' := by
  have m0 : w.cell? ⟨0, 12, none⟩ = some (.int .i64 0) := hm.1 12 (by omega)
  have m1 : w.cell? ⟨0, 13, none⟩ = some (.int .i64 1) := hm.1 13 (by omega)
  have m2 : w.cell? ⟨0, 14, none⟩ = some (.int .i64 (-1)) := hm.1 14 (by omega)
  have m3 : w.cell? ⟨0, 15, none⟩ = some (.int .i64 0) := hm.1 15 (by omega)
  have hb0 := hm.2
  have hbit : bits .and .i64 3 7 = 3 := by kernel_rfl
  have hpp := of_decide_eq_true hp
  unfold radius at hpp
  obtain ⟨⟨x1, x2⟩, y1, y2⟩ := hpp
  clear hm hp
  obtain ⟨x, y⟩ := p
  dsimp only at x1 x2 y1 y2
  go_enter Tryd.func45, Tryd.ntmps45
  go_wp2
  refine bodyPost_ret (v := .agg #[.int .i64 (y), .int .i64 (-x)]) (by simp [results, Tryd.results45, go_sem]) rfl ?_
  refine ⟨?_, by go_grown⟩
  simp [KT.applyS, KT.mat, KT.matL]
set_option maxHeartbeats 1000000 in
theorem apply_4 (p : Pt) (w : World) (hm : MatAt w) (hp : ptOk p = true) :
    Calls Tryd.prog 45 #[.int .i64 4, .agg #[.int .i64 p.x, .int .i64 p.y]] w fun e w' => e = .returned (.agg #[.int .i64 (KT.applyS 4 p).x, .int .i64 (KT.applyS 4 p).y]) ∧ Below w.heap.size w w' := by
  have m0 : w.cell? ⟨0, 16, none⟩ = some (.int .i64 (-1)) := hm.1 16 (by omega)
  have m1 : w.cell? ⟨0, 17, none⟩ = some (.int .i64 0) := hm.1 17 (by omega)
  have m2 : w.cell? ⟨0, 18, none⟩ = some (.int .i64 0) := hm.1 18 (by omega)
  have m3 : w.cell? ⟨0, 19, none⟩ = some (.int .i64 1) := hm.1 19 (by omega)
  have hb0 := hm.2
  have hbit : bits .and .i64 4 7 = 4 := by kernel_rfl
  have hpp := of_decide_eq_true hp
  unfold radius at hpp
  obtain ⟨⟨x1, x2⟩, y1, y2⟩ := hpp
  clear hm hp
  obtain ⟨x, y⟩ := p
  dsimp only at x1 x2 y1 y2
  go_enter Tryd.func45, Tryd.ntmps45
  go_wp2
  refine bodyPost_ret (v := .agg #[.int .i64 (-x), .int .i64 (y)]) (by simp [results, Tryd.results45, go_sem]) rfl ?_
  refine ⟨?_, by go_grown⟩
  simp [KT.applyS, KT.mat, KT.matL]
set_option maxHeartbeats 1000000 in
theorem apply_5 (p : Pt) (w : World) (hm : MatAt w) (hp : ptOk p = true) :
    Calls Tryd.prog 45 #[.int .i64 5, .agg #[.int .i64 p.x, .int .i64 p.y]] w fun e w' => e = .returned (.agg #[.int .i64 (KT.applyS 5 p).x, .int .i64 (KT.applyS 5 p).y]) ∧ Below w.heap.size w w' := by
  have m0 : w.cell? ⟨0, 20, none⟩ = some (.int .i64 0) := hm.1 20 (by omega)
  have m1 : w.cell? ⟨0, 21, none⟩ = some (.int .i64 (-1)) := hm.1 21 (by omega)
  have m2 : w.cell? ⟨0, 22, none⟩ = some (.int .i64 (-1)) := hm.1 22 (by omega)
  have m3 : w.cell? ⟨0, 23, none⟩ = some (.int .i64 0) := hm.1 23 (by omega)
  have hb0 := hm.2
  have hbit : bits .and .i64 5 7 = 5 := by kernel_rfl
  have hpp := of_decide_eq_true hp
  unfold radius at hpp
  obtain ⟨⟨x1, x2⟩, y1, y2⟩ := hpp
  clear hm hp
  obtain ⟨x, y⟩ := p
  dsimp only at x1 x2 y1 y2
  go_enter Tryd.func45, Tryd.ntmps45
  go_wp2
  refine bodyPost_ret (v := .agg #[.int .i64 (-y), .int .i64 (-x)]) (by simp [results, Tryd.results45, go_sem]) rfl ?_
  refine ⟨?_, by go_grown⟩
  simp [KT.applyS, KT.mat, KT.matL]
set_option maxHeartbeats 1000000 in
theorem apply_6 (p : Pt) (w : World) (hm : MatAt w) (hp : ptOk p = true) :
    Calls Tryd.prog 45 #[.int .i64 6, .agg #[.int .i64 p.x, .int .i64 p.y]] w fun e w' => e = .returned (.agg #[.int .i64 (KT.applyS 6 p).x, .int .i64 (KT.applyS 6 p).y]) ∧ Below w.heap.size w w' := by
  have m0 : w.cell? ⟨0, 24, none⟩ = some (.int .i64 1) := hm.1 24 (by omega)
  have m1 : w.cell? ⟨0, 25, none⟩ = some (.int .i64 0) := hm.1 25 (by omega)
  have m2 : w.cell? ⟨0, 26, none⟩ = some (.int .i64 0) := hm.1 26 (by omega)
  have m3 : w.cell? ⟨0, 27, none⟩ = some (.int .i64 (-1)) := hm.1 27 (by omega)
  have hb0 := hm.2
  have hbit : bits .and .i64 6 7 = 6 := by kernel_rfl
  have hpp := of_decide_eq_true hp
  unfold radius at hpp
  obtain ⟨⟨x1, x2⟩, y1, y2⟩ := hpp
  clear hm hp
  obtain ⟨x, y⟩ := p
  dsimp only at x1 x2 y1 y2
  go_enter Tryd.func45, Tryd.ntmps45
  go_wp2
  refine bodyPost_ret (v := .agg #[.int .i64 (x), .int .i64 (-y)]) (by simp [results, Tryd.results45, go_sem]) rfl ?_
  refine ⟨?_, by go_grown⟩
  simp [KT.applyS, KT.mat, KT.matL]
set_option maxHeartbeats 1000000 in
theorem apply_7 (p : Pt) (w : World) (hm : MatAt w) (hp : ptOk p = true) :
    Calls Tryd.prog 45 #[.int .i64 7, .agg #[.int .i64 p.x, .int .i64 p.y]] w fun e w' => e = .returned (.agg #[.int .i64 (KT.applyS 7 p).x, .int .i64 (KT.applyS 7 p).y]) ∧ Below w.heap.size w w' := by
  have m0 : w.cell? ⟨0, 28, none⟩ = some (.int .i64 0) := hm.1 28 (by omega)
  have m1 : w.cell? ⟨0, 29, none⟩ = some (.int .i64 1) := hm.1 29 (by omega)
  have m2 : w.cell? ⟨0, 30, none⟩ = some (.int .i64 1) := hm.1 30 (by omega)
  have m3 : w.cell? ⟨0, 31, none⟩ = some (.int .i64 0) := hm.1 31 (by omega)
  have hb0 := hm.2
  have hbit : bits .and .i64 7 7 = 7 := by kernel_rfl
  have hpp := of_decide_eq_true hp
  unfold radius at hpp
  obtain ⟨⟨x1, x2⟩, y1, y2⟩ := hpp
  clear hm hp
  obtain ⟨x, y⟩ := p
  dsimp only at x1 x2 y1 y2
  go_enter Tryd.func45, Tryd.ntmps45
  go_wp2
  refine bodyPost_ret (v := .agg #[.int .i64 (y), .int .i64 (x)]) (by simp [results, Tryd.results45, go_sem]) rfl ?_
  refine ⟨?_, by go_grown⟩
  simp [KT.applyS, KT.mat, KT.matL]
theorem apply_any (k : Nat) (hk : k < 8) (p : Pt) (w : World) (hm : MatAt w) (hp : ptOk p = true) :
    Calls Tryd.prog 45 #[.int .i64 (k : Int), .agg #[.int .i64 p.x, .int .i64 p.y]] w fun e w' => e = .returned (.agg #[.int .i64 (KT.applyS k p).x, .int .i64 (KT.applyS k p).y]) ∧ Below w.heap.size w w' := by
  match k, hk with
  | 0, _ => exact apply_0 p w hm hp
  | 1, _ => exact apply_1 p w hm hp
  | 2, _ => exact apply_2 p w hm hp
  | 3, _ => exact apply_3 p w hm hp
  | 4, _ => exact apply_4 p w hm hp
  | 5, _ => exact apply_5 p w hm hp
  | 6, _ => exact apply_6 p w hm hp
  | 7, _ => exact apply_7 p w hm hp
set_option maxHeartbeats 400000 in
theorem index_pts (A : Option Addr) (n c : Nat) (l : List Pt) (q : Pt) (w : World) (hr : Rd w w.heap.size 2 A n (hoodCells l)) (hbig : n ≤ 9223372036854775807) :
    Calls Tryd.prog 34 #[.slice A n c, .agg #[.int .i64 q.x, .int .i64 q.y]] w fun e w' => e = .returned (.int .i64 (idxI l q)) ∧ Below w.heap.size w w' := by
  have hl : l.length = n := by have := hr.1; rw [hoodCells, flat2_length _ (fun _ => rfl)] at this; omega
  have HL : Hid (l.length = n) := hl
  have HR : Hid (Rd w w.heap.size 2 A n (hoodCells l)) := hr
  clear hl hr
  go_enter Tryd.func34, Tryd.ntmps34
  go_upto_region 1 with fail
  have HB0 : Hid (Below w.heap.size w (World.alloc w (.cells #[.int .i64 q.x, .int .i64 q.y] 70))) := (show Below _ _ _ by go_grown)
  have RP0 : Hid (Row (World.alloc w (.cells #[.int .i64 q.x, .int .i64 q.y] 70)) w.heap.size 70 [.int .i64 q.x, .int .i64 q.y]) := Row.new w _ [.int .i64 q.x, .int .i64 q.y]
  revert HB0 RP0
  generalize World.alloc w (.cells #[.int .i64 q.x, .int .i64 q.y] 70) = w1
  intro HB0 RP0
  go_wp2
  go_loopg [5, 8] n (fun gg _ s8 wr => ∃ kk : Nat, kk ≤ n ∧ n - kk ≤ gg ∧ s8 = .int .i64 kk ∧ Aside (Below w.heap.size w wr) ∧ Aside (Row wr w.heap.size 70 [.int .i64 q.x, .int .i64 q.y]) ∧ Aside (∀ j, j < kk → KT.samePt q (l.getD j default) = false))
  case atStart => exact ⟨0, Nat.zero_le _, by omega, rfl, HB0.out, RP0.out, fun j hj => absurd hj (Nat.not_lt_zero _)⟩
  case round =>
    obtain ⟨kk, hkk, hg, rfl, BW, RP, AA⟩ := hrel
    have HBW := Lib.hid BW.out
    have RPr := Lib.hid RP.out
    clear BW RP
    by_cases hlt : kk < n
    · have hltz : (kk : Int) < (n : Int) := by omega
      obtain ⟨ad, rfl, hb, hcell, hcell1⟩ := hood_rowK (HR.out.below HBW.out (Nat.le_refl _)) hlt
      generalize hy : l.getD kk default = y at hcell hcell1
      have HY : Aside (l.getD kk default = y) := hy
      clear hy
      have k0 := RPr.out.cell 0
      have k1 := RPr.out.cell 1
      have kl := RPr.out.lt
      simp only [List.getElem?_cons_zero, List.getElem?_cons_succ] at k0 k1
      cases hq : KT.samePt q y with
      | true =>
        have HQ : Hid (∀ _ : Unit, KT.samePt q y = true) := fun _ => hq
        have hqq := fun W => pt_eql q y W
        simp only [hq] at hqq
        clear hq
        go_wp2_with fail
        go_quiet (fail)
        go_wp2
        go_ret
        refine ⟨?_, below_drewN HBW.out _⟩
        have : KT.idxPt l q = some kk := List.findIdx?_eq_some_iff_getElem.2 ⟨by rw [HL.out]; exact hlt, by
          have h1 := HQ.out ()
          rw [← HY.out, List.getD_eq_getElem?_getD, List.getElem?_eq_getElem (by rw [HL.out]; exact hlt)] at h1
          exact h1, fun j hj => by
          have h1 := AA.out j hj
          rw [List.getD_eq_getElem?_getD, List.getElem?_eq_getElem (by rw [HL.out]; omega)] at h1
          simpa using h1⟩
        unfold idxI
        rw [this]; rfl
      | false =>
        have HQ : Hid (∀ _ : Unit, KT.samePt q y = false) := fun _ => hq
        have hqq := fun W => pt_eql q y W
        simp only [hq] at hqq
        clear hq
        go_wp2_with fail
        go_quiet (fail)
        go_wp2
        go_roundg (n - (kk + 1))
        case measure => omega
        case rel =>
          refine ⟨kk + 1, by omega, by omega, by go_num, below_drewN HBW.out _, RPr.out.drewN _, (show Aside _ from fun j hj => ?_)⟩
          by_cases e : j = kk
          · subst e
            rw [HY.out]; exact HQ.out ()
          · exact AA.out j (by omega)
    · have hltz : ¬ (kk : Int) < (n : Int) := by omega
      have : kk = n := by omega
      subst this
      go_wp2
      go_ret
      refine ⟨?_, HBW.out⟩
      have : KT.idxPt l q = none := List.findIdx?_eq_none_iff.2 fun x hx => by
        obtain ⟨j, hj, rfl⟩ := List.getElem_of_mem hx
        have h1 := AA.out j (by rw [← HL.out]; exact hj)
        rw [List.getD_eq_getElem?_getD, List.getElem?_eq_getElem hj] at h1
        simpa using h1
      unfold idxI
      rw [this]; rfl
set_option maxHeartbeats 400000 in
theorem contains_pts (A : Option Addr) (n c : Nat) (l : List Pt) (q : Pt) (w : World) (hr : Rd w w.heap.size 2 A n (hoodCells l)) (hbig : n ≤ 9223372036854775807) :
    Calls Tryd.prog 51 #[.slice A n c, .agg #[.int .i64 q.x, .int .i64 q.y]] w fun e w' => e = .returned (.bool (KT.hasPt l q)) ∧ Below w.heap.size w w' := by
  have HR := Lib.hid hr
  have HE : Hid (decide (0 ≤ (idxI l q)) = KT.hasPt l q) := by
    show _ = _
    unfold KT.hasPt idxI
    cases h : KT.idxPt l q with
    | none =>
      have h1 := List.findIdx?_eq_none_iff.1 h
      have : l.any (KT.samePt q) = false := by rw [List.any_eq_false]; intro x hx; rw [h1 x hx]; decide
      rw [this]; rfl
    | some i =>
      obtain ⟨hi, hp, _⟩ := List.findIdx?_eq_some_iff_getElem.1 h
      have : l.any (KT.samePt q) = true := List.any_eq_true.2 ⟨_, List.getElem_mem hi, hp⟩
      rw [this]; simp
  clear hr
  go_enter Tryd.func51, Tryd.ntmps51
  go_upto_region 1 with fail
  have HB0 : Hid (Below w.heap.size w (World.alloc w (.cells #[.int .i64 q.x, .int .i64 q.y] 70))) := (show Below _ _ _ by go_grown)
  have RP0 : Hid (Row (World.alloc w (.cells #[.int .i64 q.x, .int .i64 q.y] 70)) w.heap.size 70 [.int .i64 q.x, .int .i64 q.y]) := Row.new w _ [.int .i64 q.x, .int .i64 q.y]
  revert HB0 RP0
  generalize World.alloc w (.cells #[.int .i64 q.x, .int .i64 q.y] 70) = w1
  intro HB0 RP0
  have HC := index_pts A n c l q w1 (HR.out.up HB0.out) hbig
  revert HC HE
  generalize (idxI l q) = v
  intro HE HC
  have HC := Lib.hid HC
  have k0 := RP0.out.cell 0
  have k1 := RP0.out.cell 1
  have kl := RP0.out.lt
  simp only [List.getElem?_cons_zero, List.getElem?_cons_succ] at k0 k1
  go_wp2_with fail
  refine HC.out.mono ?_
  rintro e w' ⟨rfl, hb⟩
  have HB2 := Lib.hid (HB0.out.trans (hb.mono HB0.out.size))
  clear hb
  go_wp2
  go_ret
  rw [← HE.out]
  exact ⟨rfl, HB2.out⟩
/-- What is asked of a predicate at points that lies in world w. -/
def PredPts (P : Program) (g : Nat) (lb : Array Value) (p : Pt → Bool) (l : List Pt) (w : World) : Prop :=
  ∀ (W : World) (x : Pt), x ∈ l → Below w.heap.size w W → Calls P g (#[.agg #[.int .i64 x.x, .int .i64 x.y]] ++ lb) W fun e w' => e = .returned (.bool (p x)) ∧ Below w.heap.size w w'
def findP (p : Pt → Bool) (l : List Pt) : Int := match l.findIdx? p with | some i => i | none => -1
theorem findP_nonneg (p : Pt → Bool) (l : List Pt) : decide (0 ≤ findP p l) = l.any p := by
  unfold findP
  cases h : l.findIdx? p with
  | none =>
    have h1 := List.findIdx?_eq_none_iff.1 h
    have : l.any p = false := by rw [List.any_eq_false]; intro x hx; rw [h1 x hx]; decide
    rw [this]; rfl
  | some i =>
    obtain ⟨hi, hp, _⟩ := List.findIdx?_eq_some_iff_getElem.1 h
    have : l.any p = true := List.any_eq_true.2 ⟨_, List.getElem_mem hi, hp⟩
    rw [this]; simp
set_option maxHeartbeats 400000 in
theorem indexFunc_pts (A : Option Addr) (n c : Nat) (l : List Pt) (g : Nat) (lb : Array Value) (p : Pt → Bool) (w : World)
    (eg : ∀ args w, (callFunc g args).run Tryd.prog w = .ok (.enter g args) w)
    (hr : Rd w w.heap.size 2 A n (hoodCells l)) (hbig : n ≤ 9223372036854775807) (hp : PredPts Tryd.prog g lb p l w) :
    Calls Tryd.prog 54 #[.slice A n c, .func (.func g) #[] lb] w fun e w' => e = .returned (.int .i64 (findP p l)) ∧ Below w.heap.size w w' := by
  have hl : l.length = n := by have := hr.1; rw [hoodCells, flat2_length _ (fun _ => rfl)] at this; omega
  have HL : Hid (l.length = n) := hl
  have HR : Hid (Rd w w.heap.size 2 A n (hoodCells l)) := hr
  have HP : Hid (PredPts Tryd.prog g lb p l w) := hp
  clear hl hr hp
  go_enter Tryd.func54, Tryd.ntmps54
  go_wp2
  go_loopg [5, 8] n (fun gg _ s8 wr => ∃ kk : Nat, kk ≤ n ∧ n - kk ≤ gg ∧ s8 = .int .i64 kk ∧ Aside (Below w.heap.size w wr) ∧ Aside (∀ j, j < kk → p (l.getD j default) = false))
  case atStart => exact ⟨0, Nat.zero_le _, by omega, rfl, Below.refl _ w, fun j hj => absurd hj (Nat.not_lt_zero _)⟩
  case round =>
    obtain ⟨kk, hkk, hg, rfl, BW, AA⟩ := hrel
    by_cases hlt : kk < n
    · have hltz : (kk : Int) < (n : Int) := by omega
      obtain ⟨ad, rfl, hb, hcell, hcell1⟩ := hood_rowK (HR.out.below BW.out (Nat.le_refl _)) hlt
      have hcall := HP.out wr (l.getD kk default) (by rw [List.getD_eq_getElem?_getD, List.getElem?_eq_getElem (by rw [HL.out]; exact hlt)]; exact List.getElem_mem _) BW.out
      generalize hy : l.getD kk default = y at hcell hcell1 hcall
      have HY : Aside (l.getD kk default = y) := hy
      clear hy
      cases hq : p y with
      | true =>
        rw [hq] at hcall
        go_wp2_with fail
        refine hcall.mono ?_
        rintro e w' ⟨rfl, hb'⟩
        go_wp2
        go_ret
        refine ⟨?_, hb'⟩
        have : l.findIdx? p = some kk := List.findIdx?_eq_some_iff_getElem.2 ⟨by rw [HL.out]; exact hlt, by
          have h1 := hq
          rw [← HY.out, List.getD_eq_getElem?_getD, List.getElem?_eq_getElem (by rw [HL.out]; exact hlt)] at h1
          exact h1, fun j hj => by
          have h1 := AA.out j hj
          rw [List.getD_eq_getElem?_getD, List.getElem?_eq_getElem (by rw [HL.out]; omega)] at h1
          simpa using h1⟩
        unfold findP
        rw [this]; rfl
      | false =>
        rw [hq] at hcall
        have HQ : Hid (∀ _ : Unit, p y = false) := fun _ => hq
        go_wp2_with fail
        refine hcall.mono ?_
        rintro e w' ⟨rfl, hb'⟩
        go_wp2
        go_roundg (n - (kk + 1))
        case measure => omega
        case rel =>
          refine ⟨kk + 1, by omega, by omega, by go_num, hb', (show Aside _ from fun j hj => ?_)⟩
          by_cases e : j = kk
          · subst e
            rw [HY.out]; exact HQ.out ()
          · exact AA.out j (by omega)
    · have hltz : ¬ (kk : Int) < (n : Int) := by omega
      have : kk = n := by omega
      subst this
      go_wp2
      go_ret
      refine ⟨?_, BW.out⟩
      have : l.findIdx? p = none := List.findIdx?_eq_none_iff.2 fun x hx => by
        obtain ⟨j, hj, rfl⟩ := List.getElem_of_mem hx
        have h1 := AA.out j (by rw [← HL.out]; exact hj)
        rw [List.getD_eq_getElem?_getD, List.getElem?_eq_getElem hj] at h1
        simpa using h1
      unfold findP
      rw [this]; rfl
theorem containsFunc_pts (A : Option Addr) (n c : Nat) (l : List Pt) (g : Nat) (lb : Array Value) (p : Pt → Bool) (w : World)
    (eg : ∀ args w, (callFunc g args).run Tryd.prog w = .ok (.enter g args) w)
    (hr : Rd w w.heap.size 2 A n (hoodCells l)) (hbig : n ≤ 9223372036854775807) (hp : PredPts Tryd.prog g lb p l w) :
    Calls Tryd.prog 49 #[.slice A n c, .func (.func g) #[] lb] w fun e w' => e = .returned (.bool (l.any p)) ∧ Below w.heap.size w w' := by
  rw [← findP_nonneg]
  go_enter Tryd.func49, Tryd.ntmps49
  go_wp2_with (go_at_call 54; refine (indexFunc_pts A n c l g lb p _ eg hr hbig hp).mono ?_; rintro e w' ⟨rfl, hb'⟩)
  go_ret
  exact ⟨rfl, hb'⟩
end Go.Proofs.YtlmdjkmcplobnaaDoor

/-
  Formulas as plain data, and what the functions of package encode and of its reference compute. Nothing of the program stands here.
-/
namespace Go.Proofs.YtlmdjkmcplobnaaDoor
open Go.RowKit
set_option linter.unusedSimpArgs false
set_option linter.unusedVariables false

structure Fml where
  vars : Int
  cls : List (List Int)
def noFml : Fml := ⟨0, []⟩
theorem Fml.ext' {a b : Fml} (h1 : a.vars = b.vars) (h2 : a.cls = b.cls) : a = b := by
  cases a; cases b; simp only at h1 h2; rw [h1, h2]
def sameF (a b : Fml) : Bool := decide (a.vars = b.vars ∧ a.cls = b.cls)
theorem sameF_self (a : Fml) : sameF a a = true := decide_eq_true ⟨rfl, rfl⟩
def litOk (v x : Int) : Bool := decide (x ≠ 0 ∧ -v ≤ x ∧ x ≤ v)
def sizesF (f : Fml) : Bool := decide (0 ≤ f.vars ∧ f.vars ≤ 65536 ∧ f.cls.length ≤ 262144)
def rightF (f : Fml) : Bool := sizesF f && f.cls.all (fun c => c.all (litOk f.vars))
def varOk (v x : Int) : Bool := decide (1 ≤ x ∧ x ≤ v)
def varsOk (v : Int) (l : List Int) : Bool := l.all (varOk v)
def fitsErr (f : Fml) : Int := if f.vars ≤ 65536 ∧ f.cls.length ≤ 262144 then 0 else 6
def fitsR (f : Fml) : Fml := if fitsErr f = 0 then f else noFml
/-- The clauses of a gate. -/
def clausesF (op g a b : Int) : List (List Int) :=
  if op = 0 then [[-g]] else if op = 1 then [[g]] else if op = 2 then [[g, a], [-g, -a]] else if op = 3 then [[-g, a], [-g, b], [g, -a, -b]]
  else if op = 4 then [[g, -a], [g, -b], [-g, a, b]] else [[-g, a, b], [-g, -a, -b], [g, -a, b], [g, a, -b]]
theorem clausesF_len (op g a b : Int) : (clausesF op g a b).length ≤ 4 := by
  unfold clausesF; split <;> (try split) <;> (try split) <;> (try split) <;> (try split) <;> simp
/-- Operands that an operation does not have do not matter. -/
theorem clausesF_0 {op : Int} (h : op = 0 ∨ op = 1) (g a b a' b' : Int) : clausesF op g a b = clausesF op g a' b' := by
  rcases h with rfl | rfl <;> rfl
theorem clausesF_1 (g a b b' : Int) : clausesF 2 g a b = clausesF 2 g a b' := rfl

/-- The variables of the wires while k gates are placed. -/
def wiresV (nv : Int) (ins : List Int) (k : Nat) : List Int := ins ++ (List.range k).map (fun i => nv + ((i : Nat) : Int) + 1)
theorem wiresV_length (nv : Int) (ins : List Int) (k : Nat) : (wiresV nv ins k).length = ins.length + k := by simp [wiresV]
theorem wiresV_succ (nv : Int) (ins : List Int) (k : Nat) : wiresV nv ins (k + 1) = wiresV nv ins k ++ [nv + k + 1] := by simp [wiresV, List.range_succ]
theorem wiresV_zero (nv : Int) (ins : List Int) : wiresV nv ins 0 = ins := by simp [wiresV]
theorem wiresV_more (nv : Int) (ins : List Int) (k j w : Nat) (h : w < ins.length + k) (hk : k ≤ j) : (wiresV nv ins j).getD w 0 = (wiresV nv ins k).getD w 0 := by
  induction j with
  | zero => have : k = 0 := by omega
            rw [this]
  | succ j ih =>
    by_cases e : k = j + 1
    · rw [e]
    · rw [wiresV_succ, List.getD_eq_getElem?_getD, List.getElem?_append_left (by rw [wiresV_length]; omega), ← List.getD_eq_getElem?_getD, ih (by omega)]
/-- The clauses of gate i, its wires' variables as wiresV says. -/
def gateCls (nv : Int) (ins : List Int) (gs : List Gt) (i : Nat) : List (List Int) :=
  clausesF (gs.getD i default).op (nv + (i : Int) + 1) ((wiresV nv ins i).getD (gs.getD i default).a.toNat 0) ((wiresV nv ins i).getD (gs.getD i default).b.toNat 0)
def placeTo (nv : Int) (ins : List Int) (gs : List Gt) (k : Nat) : List (List Int) := (List.range k).flatMap (gateCls nv ins gs)
theorem placeTo_succ (nv : Int) (ins : List Int) (gs : List Gt) (k : Nat) : placeTo nv ins gs (k + 1) = placeTo nv ins gs k ++ gateCls nv ins gs k := by simp [placeTo, List.range_succ]
theorem placeTo_len (nv : Int) (ins : List Int) (gs : List Gt) (k : Nat) : (placeTo nv ins gs k).length ≤ 4 * k := by
  induction k with
  | zero => simp [placeTo]
  | succ k ih =>
    rw [placeTo_succ, List.length_append]
    have := clausesF_len (gs.getD k default).op (nv + (k : Int) + 1) ((wiresV nv ins k).getD (gs.getD k default).a.toNat 0) ((wiresV nv ins k).getD (gs.getD k default).b.toNat 0)
    unfold gateCls
    omega
def placeF (f : Fml) (c : Circ) (ins : List Int) : Fml := ⟨f.vars + c.gates.length, f.cls ++ placeTo f.vars ins c.gates c.gates.length⟩
def placeO (f : Fml) (c : Circ) (ins : List Int) : List Int := c.outs.map (fun w => (wiresV f.vars ins c.gates.length).getD w.toNat 0)
def placeOk (f : Fml) (c : Circ) (ins : List Int) : Bool := rightF f && (rightC c && (decide ((ins.length : Int) = c.inputs) && varsOk f.vars ins))
def placeErr (f : Fml) (c : Circ) (ins : List Int) : Int := if placeOk f c ins = true then fitsErr (placeF f c ins) else 2
def placeR (f : Fml) (c : Circ) (ins : List Int) : Fml := if placeErr f c ins = 0 then placeF f c ins else noFml
def placeOuts (f : Fml) (c : Circ) (ins : List Int) : List Int := if placeErr f c ins = 0 then placeO f c ins else []
/-- 1, 2, .. n. -/
def upto1 (n : Nat) : List Int := (List.range n).map (fun i => ((i : Nat) : Int) + 1)
theorem upto1_length (n : Nat) : (upto1 n).length = n := by simp [upto1]
theorem upto1_succ (n : Nat) : upto1 (n + 1) = upto1 n ++ [(n : Int) + 1] := by simp [upto1, List.range_succ]
def circErr (c : Circ) : Int := if rightC c = true then fitsErr (placeF ⟨c.inputs, []⟩ c (upto1 c.inputs.toNat)) else 2
def circR (c : Circ) : Fml := if circErr c = 0 then placeF ⟨c.inputs, []⟩ c (upto1 c.inputs.toNat) else noFml
theorem rightF_nil {v : Int} (h0 : 0 ≤ v) (h1 : v ≤ 65536) : rightF ⟨v, []⟩ = true := by simp [rightF, sizesF, h0, h1]
theorem varsOk_upto1 (n : Nat) : varsOk n (upto1 n) = true := by
  unfold varsOk
  rw [List.all_eq_true]
  intro x hx
  simp only [upto1, List.mem_map, List.mem_range] at hx
  obtain ⟨i, hi, rfl⟩ := hx
  simp [varOk]; omega
theorem circ_place (c : Circ) : placeErr ⟨c.inputs, []⟩ c (upto1 c.inputs.toNat) = circErr c ∧ placeR ⟨c.inputs, []⟩ c (upto1 c.inputs.toNat) = circR c := by
  have h : placeErr ⟨c.inputs, []⟩ c (upto1 c.inputs.toNat) = circErr c := by
    unfold placeErr circErr
    cases hr : rightC c
    · have : placeOk ⟨c.inputs, []⟩ c (upto1 c.inputs.toNat) = false := by unfold placeOk; rw [hr]; simp
      rw [this]
    · have hs : 0 ≤ c.inputs ∧ c.inputs ≤ 1000 := by
        simp only [rightC, Bool.and_eq_true, decide_eq_true_eq] at hr
        exact ⟨hr.1.1.1, hr.1.1.2.1⟩
      have : placeOk ⟨c.inputs, []⟩ c (upto1 c.inputs.toNat) = true := by
        unfold placeOk
        rw [rightF_nil hs.1 (by omega), hr, upto1_length, Int.toNat_of_nonneg hs.1]
        have h3 := varsOk_upto1 c.inputs.toNat
        rw [Int.toNat_of_nonneg hs.1] at h3
        show (true && (true && (decide (c.inputs = c.inputs) && varsOk c.inputs (upto1 c.inputs.toNat)))) = true
        rw [h3, decide_eq_true rfl]; rfl
      rw [this]
  exact ⟨h, by unfold placeR circR; rw [h]⟩
/-- Fix. -/
def fixTo (vs : List Int) (bs : List Bool) (k : Nat) : List (List Int) := (List.range k).map (fun i => [if bs.getD i false = true then vs.getD i 0 else -(vs.getD i 0)])
theorem fixTo_succ (vs : List Int) (bs : List Bool) (k : Nat) : fixTo vs bs (k + 1) = fixTo vs bs k ++ [[if bs.getD k false = true then vs.getD k 0 else -(vs.getD k 0)]] := by simp [fixTo, List.range_succ]
theorem fixTo_length (vs : List Int) (bs : List Bool) (k : Nat) : (fixTo vs bs k).length = k := by simp [fixTo]
def fixF (f : Fml) (vs : List Int) (bs : List Bool) : Fml := ⟨f.vars, f.cls ++ fixTo vs bs vs.length⟩
def fixOk (f : Fml) (vs : List Int) (bs : List Bool) : Bool := rightF f && (decide (vs.length = bs.length) && varsOk f.vars vs)
def fixErr (f : Fml) (vs : List Int) (bs : List Bool) : Int := if fixOk f vs bs = true then fitsErr (fixF f vs bs) else 2
def fixR (f : Fml) (vs : List Int) (bs : List Bool) : Fml := if fixErr f vs bs = 0 then fixF f vs bs else noFml
/-- Same. -/
def eqTo (a b : List Int) (k : Nat) : List (List Int) := (List.range k).flatMap (fun i => [[-(a.getD i 0), b.getD i 0], [a.getD i 0, -(b.getD i 0)]])
theorem eqTo_succ (a b : List Int) (k : Nat) : eqTo a b (k + 1) = eqTo a b k ++ [[-(a.getD k 0), b.getD k 0], [a.getD k 0, -(b.getD k 0)]] := by simp [eqTo, List.range_succ]
theorem eqTo_length (a b : List Int) (k : Nat) : (eqTo a b k).length = 2 * k := by
  induction k with
  | zero => rfl
  | succ k ih => rw [eqTo_succ, List.length_append, ih]; simp; omega
def eqF (f : Fml) (a b : List Int) : Fml := ⟨f.vars, f.cls ++ eqTo a b a.length⟩
def eqOk (f : Fml) (a b : List Int) : Bool := rightF f && (decide (a.length = b.length) && (varsOk f.vars a && varsOk f.vars b))
def eqErr (f : Fml) (a b : List Int) : Int := if eqOk f a b = true then fitsErr (eqF f a b) else 2
def eqR (f : Fml) (a b : List Int) : Fml := if eqErr f a b = 0 then eqF f a b else noFml
end Go.Proofs.YtlmdjkmcplobnaaDoor
