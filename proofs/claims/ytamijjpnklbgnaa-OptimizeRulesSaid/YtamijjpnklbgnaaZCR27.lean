/-
  lower.Inputs and the reference's Inputs, walked.
-/
import Derived.Test.YtamijjpnklbgnaaZCR25
import Derived.Test.YtamijjpnklbgnaaZCR20
import Derived.Test.YtamijjpnklbgnaaZCR2
namespace Go.Proofs.Ytamijjpnklbgnaa
open Go.RowKit
set_option linter.unusedSimpArgs false
set_option linter.unusedVariables false

def InputsPost (t : Tre) (ins : List Int) (w : World) (e : Ending) (w' : World) : Prop :=
  ∃ (A : Option Addr) (n c : Nat), e = .returned (.tuple #[.slice A n c, .int .i64 (evalErr t ins)]) ∧ Rd w' w'.heap.size 1 A n (bools (inputsR t ins)) ∧ n ≤ maxLen ∧ Below w.heap.size w w'
theorem inputsPost_err {t : Tre} {ins : List Int} {w w' : World} {k : Int} (h : evalErr t ins = k) (h0 : k ≠ 0) (hb : Below w.heap.size w w') : InputsPost t ins w (.returned (.tuple #[.slice none 0 0, .int .i64 k])) w' := by
  refine ⟨none, 0, 0, by rw [h], ?_, by unfold maxLen; omega, hb⟩
  rw [inputsR, if_neg (by rw [h]; exact h0)]
  exact Rd.empty none
theorem bool_infoL : (Try.prog.info? 4).map (fun i => (i.zero, i.size, i.bytes)) = some (some (.bool false), 1, 1) := by kernel_rfl
theorem bitsOf_get' (b : Nat) (v : Int) (k : Nat) (h : k < b) : (bitsOf b v).getD k false = bitI v k := by
  simp [bitsOf, List.getD_eq_getElem?_getD, List.getElem?_map, List.getElem?_range h]

set_option maxRecDepth 100000 in
set_option maxHeartbeats 4000000 in
theorem lInputs_any (t : Tre) (HA NA IA : Option Addr) (hn hc nn nc n ic : Nat) (sl : List Sl) (ins : List Int) (w : World) (h : TAt w t HA NA hn nn sl) (hI : Rd w w.heap.size 1 IA n (ints ins)) (hm : n ≤ maxLen) :
    Calls Try.prog 30 #[.agg #[.int .i64 t.states, .slice HA hn hc, .slice NA nn nc], .slice IA n ic] w (InputsPost t ins w) := by
  have H : Hid (TAt w t HA NA hn nn sl) := h
  have HLH : Hid (t.hood.length = hn) := h.hl
  have HI : Hid (Rd w w.heap.size 1 IA n (ints ins)) := hI
  have HIL : Hid (ins.length = n) := by have := hI.1; rw [ints_length, Nat.mul_one] at this; exact this
  have hm1 := h.h63
  clear h hI
  unfold maxLen at hm hm1
  go_enter Try.func30, Try.ntmps30
  go_wp2_with fail
  refine (treeRight_any t HA NA hn hc nn nc sl _ (H.out.up (by go_grown))).mono ?_
  rintro e w1 ⟨rfl, hb⟩
  have HB : Hid (Below w.heap.size w w1) := below_next hb (by go_grown)
  have RA : Hid (Row w1 w.heap.size 40 [.int .i64 t.states, .slice HA hn hc, .slice NA nn nc]) := rowCells (Row.new w 40 [.int .i64 t.states, .slice HA hn hc, .slice NA nn nc]) hb
  clear hb
  have k0 := RA.out.cell 0
  have k1 := RA.out.cell 1
  have k2 := RA.out.cell 2
  have kl := RA.out.lt
  simp only [List.getElem?_cons_zero, List.getElem?_cons_succ] at k0 k1 k2
  cases hr : rightT t
  · have HE : Hid (evalErr t ins = 11) := evalErr_11 hr
    clear hr
    go_wp2
    go_ret2
    exact inputsPost_err HE.out (by decide) HB.out
  have HR : Hid (rightT t = true) := hr
  clear hr
  cases hne : ((n : Int) != (hn : Int))
  case true =>
    have HE : Hid (evalErr t ins = 2) := evalErr_2 HR.out (by rw [HIL.out, HLH.out]; intro e; rw [e] at hne; simp at hne)
    go_wp2
    go_ret2
    exact inputsPost_err HE.out (by decide) HB.out
  have hqq : (n : Int) = (hn : Int) := by simpa using hne
  obtain rfl : n = hn := by omega
  clear hne hqq
  have HLI : Hid (ins.length = t.hood.length) := HIL.out.trans HLH.out.symm
  have hn25 : n ≤ 25 := by
    have hh := (rightT_parts HR.out).1
    simp only [hoodOk, Bool.and_eq_true, decide_eq_true_eq] at hh
    rw [HLH.out] at hh; omega
  have hst : 2 ≤ t.states ∧ t.states ≤ 8 := (rightT_parts HR.out).2.1.1
  have hnn : ((n : Int) != (n : Int)) = false := by simp
  go_wp2
  clear hnn k0 k1 k2 kl
  generalize hbb : bitsF t.states = b at *
  have HBB : Hid (bitsF t.states = b) := hbb
  have hb3 : b ≤ 3 := by rw [← hbb]; exact bitsF_bd _
  clear hbb
  go_loopg [6, 8, 9, 21] n (fun gg s6 _ _ s21 wr => ∃ kk : Nat, kk ≤ n ∧ n - kk ≤ gg ∧ s21 = .int .i64 kk ∧ Aside (Below w1.heap.size w1 wr) ∧ Aside (wr.ownsRow w1.heap.size 4 1 s6 (kk * b) (bools ((ins.take kk).flatMap (bitsOf b)))) ∧ Aside (∀ j, j < kk → stateIn t (ins.getD j 0) = true))
  case atStart => exact ⟨0, Nat.zero_le _, by omega, rfl, Below.refl _ _, (by show World.ownsRow _ _ _ _ _ _ _; simpa [bools] using World.ownsRow_nil _ _ _ _), fun j hj => absurd hj (Nat.not_lt_zero _)⟩
  case round =>
    obtain ⟨kk, hkk, hgg, rfl, BW, OW, AA⟩ := hrel
    have RW : Hid (Row wr w.heap.size 40 [.int .i64 t.states, .slice HA n hc, .slice NA nn nc]) := rowCells RA.out BW.out
    have HBr : Hid (Below w.heap.size w wr) := below_on2 HB.out BW.out
    have k0 := RW.out.cell 0
    have k1 := RW.out.cell 1
    have k2 := RW.out.cell 2
    have kl := RW.out.lt
    simp only [List.getElem?_cons_zero, List.getElem?_cons_succ] at k0 k1 k2
    by_cases hlt : kk < n
    · have hltz : (kk : Int) < (n : Int) := by omega
      obtain ⟨ad, rfl, hb', hz⟩ := (HI.out.up HBr.out).int hlt
      generalize hzz : ins.getD kk 0 = z at hz
      have HZ : Hid (ins.getD kk 0 = z) := hzz
      clear hzz
      by_cases a1 : z < 0
      · have HE : Hid (evalErr t ins = 10) := evalErr_10 HR.out HLI.out (all_false_at _ _ kk (by rw [HIL.out]; exact hlt) (by rw [HZ.out]; exact decide_eq_false (by omega)))
        have d1 : decide (z < 0) = true := by simpa using a1
        go_wp2
        go_ret2
        exact inputsPost_err HE.out (by decide) HBr.out
      have d1 : decide (z < 0) = false := by simpa using a1
      by_cases a2 : t.states ≤ z
      · have HE : Hid (evalErr t ins = 10) := evalErr_10 HR.out HLI.out (all_false_at _ _ kk (by rw [HIL.out]; exact hlt) (by rw [HZ.out]; exact decide_eq_false (by omega)))
        have d2 : decide (t.states ≤ z) = true := by simpa using a2
        go_wp2
        go_ret2
        exact inputsPost_err HE.out (by decide) HBr.out
      have d2 : decide (t.states ≤ z) = false := by simpa using a2
      have HK : Hid (stateIn t z = true) := decide_eq_true (by omega)
      have z0 : 0 ≤ z := by omega
      have z7 : z ≤ 7 := by omega
      go_wp2_with (go_at_call 57; refine (lBits_any _ _).mono ?_; rw [HBB.out]; rintro e w4 ⟨rfl, rfl⟩)
      obtain ⟨wo, rfl⟩ : ∃ wo : World, wo = wr := ⟨_, rfl⟩
      go_loopg [6, 9, 36] b (fun gg s6 _ s36 wi => ∃ j : Nat, j ≤ b ∧ b - j ≤ gg ∧ s36 = .int .i64 j ∧ Aside (Below w1.heap.size w1 wi) ∧ Aside (wi.ownsRow w1.heap.size 4 1 s6 (kk * b + j) (bools ((ins.take kk).flatMap (bitsOf b) ++ (bitsOf b z).take j))))
      case atStart => exact ⟨0, Nat.zero_le _, by omega, rfl, BW.out, (by show World.ownsRow _ _ _ _ _ _ _; simpa using OW.out)⟩
      case round =>
        clear OW BW RW k0 k1 k2 kl hz HBr
        obtain ⟨j, hj, hgj, rfl, BW, OW⟩ := hrel
        have RW : Hid (Row wr w.heap.size 40 [.int .i64 t.states, .slice HA n hc, .slice NA nn nc]) := rowCells RA.out BW.out
        have HBr : Hid (Below w.heap.size w wr) := below_on2 HB.out BW.out
        have k0 := RW.out.cell 0
        have k1 := RW.out.cell 1
        have k2 := RW.out.cell 2
        have kl := RW.out.lt
        simp only [List.getElem?_cons_zero, List.getElem?_cons_succ] at k0 k1 k2
        have hbs : w1.heap.size ≤ wr.heap.size := BW.out.size
        by_cases hlj : j < b
        · have hljz : (j : Int) < (b : Int) := by omega
          have hbit : (bits BinOp.and IntKind.i64 (z / 2 ^ j) 1 == 1) = bitI z j := by rw [bit_run z j z0 z7]; rfl
          have HT : Hid ((bitsOf b z).take (j + 1) = (bitsOf b z).take j ++ [bitI z j]) := by
            show _ = _
            rw [bl_snoc _ _ (by rw [bitsOf_length]; exact hlj), bitsOf_get' b z j hlj]
          have hkb : kk * b ≤ 75 := by have := Nat.mul_le_mul (show kk ≤ 25 by omega) hb3; omega
          have hkj : kk * b + j ≤ 100 := by omega
          generalize hp : kk * b + j = p at OW hkj
          have HP : Hid (kk * b + j = p) := hp
          generalize hxs : (ins.take kk).flatMap (bitsOf b) ++ (bitsOf b z).take j = xs at OW
          have HX : Hid ((ins.take kk).flatMap (bitsOf b) ++ (bitsOf b z).take j = xs) := hxs
          clear hp hxs hkb
          go_wp2_with (at_builtin; refine wpList_app rfl (.tmp 39) (.tmp 45) 30 rfl w1.heap.size 4 (.bool false) 1 1 Try.underlying30 bool_infoL rfl (by decide) (by decide) u6 (p) (bools xs) rfl ?own (wr.heap.size + 1) (some ⟨wr.heap.size, 0, none⟩) 1 1 [.bool (bitI z j)] rfl ?rd ?one ?hb ?hbase ?_)
          case own => exact (OW.out).alloc _
          case rd => exact Rd.lit wr #[.bool (bitI z j)] 4 (sz := 1) (m := 1) rfl
          case one => intro u hu; simp at hu; subst hu; rfl
          case hb => omega
          case hbase => simp; omega
          intro v' w' hown' hgrow' hat'
          have BB := BW.out
          have B3 : Below w1.heap.size w1 (wr.alloc (.cells #[.bool (bitI z j)] 4)) := by go_grown
          have HB4 : Aside (Below w1.heap.size w1 w') := B3.grown hgrow' (by simp; omega) (fun k hk => (OW.out.lt k hk).1)
          have HOWN' : Aside (w'.ownsRow w1.heap.size 4 1 v' (p + 1) (bools (xs ++ [bitI z j]))) := by
            show w'.ownsRow _ _ _ _ _ _
            simpa [bools] using hown'
          clear B3 BB hown' hgrow' hat' hbit
          go_wp2
          go_roundg (b - (j + 1))
          case measure => omega
          case rel =>
            refine ⟨j + 1, by omega, by omega, by go_num, HB4.out, ?_⟩
            show World.ownsRow _ _ _ _ _ _ _
            rw [HT.out, ← List.append_assoc, HX.out, ← Nat.add_assoc, HP.out]
            exact HOWN'.out
        · have hljz : ¬ (j : Int) < (b : Int) := by omega
          obtain rfl : j = b := by omega
          have OW' : Aside (wr.ownsRow w1.heap.size 4 1 u6 ((kk + 1) * j) (bools ((ins.take (kk + 1)).flatMap (bitsOf j)))) := by
            show World.ownsRow _ _ _ _ _ _ _
            have := OW.out
            have e9 : (bitsOf j z).take j = bitsOf j z := List.take_of_length_le (by rw [bitsOf_length]; exact Nat.le_refl _)
            rw [e9] at this
            rw [il_snoc _ _ (by rw [HIL.out]; exact hlt), List.flatMap_append, HZ.out, Nat.add_mul, Nat.one_mul]
            simpa using this
          go_wp2
          go_roundg (n - (kk + 1))
          case measure => omega
          case rel =>
            refine ⟨kk + 1, by omega, by omega, by go_num, BW.out, OW'.out, (show Aside _ from fun i hi => ?_)⟩
            by_cases e : i = kk
            · subst e; rw [HZ.out]; exact HK.out
            · exact AA.out i (by omega)
    · have hltz : ¬ (kk : Int) < (n : Int) := by omega
      obtain rfl : kk = n := by omega
      have HAL : Hid (ins.all (stateIn t) = true) := all_true_at _ _ (fun j hj => AA.out j (by rw [HIL.out] at hj; exact hj))
      have HE : Hid (evalErr t ins = 0) := evalErr_0 HR.out HLI.out HAL.out
      obtain ⟨VA, vc, rfl, hrd⟩ := Rd.own OW.out
      have HRD : Hid (Rd wr wr.heap.size 1 VA (kk * b) (bools (inputsR t ins))) := by
        show Rd _ _ _ _ _ _
        rw [inputsR, if_pos HE.out, inputsB, HBB.out]
        rw [List.take_of_length_le (by rw [HIL.out]; exact Nat.le_refl _)] at hrd
        exact hrd
      clear hrd OW
      have hkb : Hid (kk * b ≤ 75) := by have := Nat.mul_le_mul (show kk ≤ 25 by omega) hb3; show _ ≤ _; omega
      go_wp2
      go_ret2
      exact ⟨VA, kk * b, vc, by rw [HE.out]; rfl, HRD.out, by have := hkb.out; unfold maxLen; omega, HBr.out⟩

end Go.Proofs.Ytamijjpnklbgnaa

/-
  Trees of constants and of positions, plain: what tree.Constant and tree.Read build, that the trees are valid, and to which states they lead. Nothing of the program stands here.
-/
namespace Go.Proofs.Ytamijjpnklbgnaa
open Go.RowKit
set_option linter.unusedSimpArgs false
set_option linter.unusedVariables false

def noTre : Tre := ⟨0, [], []⟩
/-- c nodes, from level lo on, each of whose elements lead to what lies below. -/
def nodesIn (S : Nat) (ns : List Nd) (lo : Nat) (b : Int) : Nat → List Nd × Int
  | 0 => (ns, b)
  | c + 1 => ((nodesIn S ns lo b c).1 ++ [⟨((lo + c : Nat) : Int), List.replicate S (nodesIn S ns lo b c).2⟩], (((nodesIn S ns lo b c).1.length : Nat) : Int))
theorem nodesIn_length (S : Nat) (ns : List Nd) (lo : Nat) (b : Int) (c : Nat) : (nodesIn S ns lo b c).1.length = ns.length + c := by
  induction c with
  | zero => rfl
  | succ c ih => simp only [nodesIn, List.length_append, List.length_singleton, ih]; omega
def constT (st : Int) (l : List Pt) (s : Int) : Tre := ⟨st, l, (nodesIn st.toNat [] 1 s l.length).1⟩
def statesOk (st : Int) : Bool := decide (2 ≤ st ∧ st ≤ 8)
def constErr (st : Int) (l : List Pt) (s : Int) : Int := if statesOk st = true ∧ hoodOk l = true then (if 0 ≤ s ∧ s < st then 0 else 10) else 2
def constR (st : Int) (l : List Pt) (s : Int) : Tre := if constErr st l s = 0 then constT st l s else noTre
/-- One chain of nodes for each state. -/
def readC (S : Nat) (at_ : Nat) : Nat → List Nd × List Int
  | 0 => ([], [])
  | s + 1 => ((nodesIn S (readC S at_ s).1 1 (s : Int) (at_ - 1)).1, (readC S at_ s).2 ++ [(nodesIn S (readC S at_ s).1 1 (s : Int) (at_ - 1)).2])
theorem readC_length (S at_ s : Nat) : (readC S at_ s).1.length = s * (at_ - 1) ∧ (readC S at_ s).2.length = s := by
  induction s with
  | zero => simp [readC]
  | succ s ih => simp [readC, nodesIn_length, ih.1, ih.2, Nat.add_mul]
def readM (S at_ : Nat) : List Nd := (readC S at_ S).1 ++ [⟨(at_ : Int), (readC S at_ S).2⟩]
def readNs (S at_ n : Nat) : List Nd := (nodesIn S (readM S at_) (at_ + 1) (((readM S at_).length : Int) - 1) (n - at_)).1
def readT (st : Int) (l : List Pt) (k : Nat) : Tre := ⟨st, l, readNs st.toNat (l.length - k) l.length⟩
def readErr (st : Int) (l : List Pt) (k : Int) : Int := if statesOk st = true ∧ hoodOk l = true ∧ 0 ≤ k ∧ k < l.length then 0 else 2
def readR (st : Int) (l : List Pt) (k : Int) : Tre := if readErr st l k = 0 then readT st l k.toNat else noTre

/- Valid lists of nodes. -/
def prefOf (ns ms : List Nd) : Prop := ∃ more, ms = ns ++ more
theorem prefOf.refl (ns : List Nd) : prefOf ns ns := ⟨[], by simp⟩
theorem prefOf.trans {a b c : List Nd} (h1 : prefOf a b) (h2 : prefOf b c) : prefOf a c := by
  obtain ⟨x, rfl⟩ := h1
  obtain ⟨y, rfl⟩ := h2
  exact ⟨x ++ y, by simp⟩
theorem prefOf.snoc (a : List Nd) (x : Nd) : prefOf a (a ++ [x]) := ⟨[x], rfl⟩
theorem prefOf.get {a b : List Nd} (h : prefOf a b) (i : Nat) (hi : i < a.length) : b.getD i default = a.getD i default := by
  obtain ⟨x, rfl⟩ := h
  rw [List.getD_eq_getElem?_getD, List.getElem?_append_left hi, ← List.getD_eq_getElem?_getD]
theorem prefOf.len {a b : List Nd} (h : prefOf a b) : a.length ≤ b.length := by
  obtain ⟨x, rfl⟩ := h
  simp
theorem gnd_snoc (ns : List Nd) (x : Nd) : (ns ++ [x]).getD ns.length default = x := by
  rw [List.getD_eq_getElem?_getD, List.getElem?_append_right (Nat.le_refl _)]; simp
/-- A node fits behind ns: its elements lead to states, or to nodes of the level below. -/
def fits (S n : Nat) (ns : List Nd) (x : Nd) : Prop :=
  (1 ≤ x.level ∧ x.level ≤ n ∧ x.next.length = S) ∧ ∀ k ∈ x.next, 0 ≤ k ∧ (x.level = 1 → k < S) ∧ (1 < x.level → k < ns.length ∧ (ns.getD k.toNat default).level = x.level - 1)
def allFit (S n : Nat) (ns : List Nd) : Prop := ∀ i, i < ns.length → fits S n (ns.take i) (ns.getD i default)
theorem allFit_nil (S n : Nat) : allFit S n [] := fun i hi => absurd hi (Nat.not_lt_zero _)
theorem allFit_snoc {S n : Nat} {ns : List Nd} {x : Nd} (h : allFit S n ns) (hx : fits S n ns x) : allFit S n (ns ++ [x]) := by
  intro i hi
  simp only [List.length_append, List.length_singleton] at hi
  by_cases e : i < ns.length
  · rw [(prefOf.snoc ns x).get i e, List.take_append_of_le_length (by omega)]
    exact h i e
  · obtain rfl : i = ns.length := by omega
    rw [gnd_snoc, List.take_left' rfl]
    exact hx
theorem allFit_right {S n : Nat} {t : Tre} (h : allFit S n t.nodes) (hs : t.states = (S : Int)) (hn : t.hood.length = n) (h2 : 2 ≤ S ∧ S ≤ 8) (hh : hoodOk t.hood = true) (h1 : 1 ≤ t.nodes.length) (h4 : t.nodes.length ≤ 4096)
    (hl : (t.nodes.getD (t.nodes.length - 1) default).level = n) : rightT t = true := by
  have hnodes : nodesOk t = true := decide_eq_true (fun i hi => by
    obtain ⟨⟨a1, a2, a3⟩, a4⟩ := h i hi
    rw [nodeOk, decide_eq_true ⟨a1, by rw [hn]; exact a2, by rw [hs, a3]⟩, Bool.true_and, List.all_eq_true]
    intro k hk
    obtain ⟨b1, b2, b3⟩ := a4 k hk
    refine decide_eq_true ⟨b1, fun e => by rw [hs]; exact b2 e, fun e => ?_⟩
    obtain ⟨c1, c2⟩ := b3 e
    rw [List.length_take] at c1
    refine ⟨by omega, ?_⟩
    rw [← c2, List.getD_eq_getElem?_getD, List.getD_eq_getElem?_getD, List.getElem?_take, if_pos (by omega)])
  have hhead : headOk t = true := decide_eq_true ⟨by omega, h1, h4, by rw [hn]; exact hl⟩
  rw [rightT, hh, hhead, hnodes]; rfl

/-- From index i on, l states lead to f of them, in every tree whose nodes begin with ns. -/
def Comp (S : Nat) (ns : List Nd) (i : Int) (l : Nat) (f : List Int → Int) : Prop :=
  ∀ t : Tre, prefOf ns t.nodes → ∀ ins : List Int, ins.length = l → (∀ x ∈ ins, 0 ≤ x ∧ x < (S : Int)) → walkT t i ins = f ins
theorem Comp.ext {S : Nat} {ns ms : List Nd} {i : Int} {l : Nat} {f : List Int → Int} (h : Comp S ns i l f) (hp : prefOf ns ms) : Comp S ms i l f :=
  fun t ht ins hl hs => h t (hp.trans ht) ins hl hs
theorem Comp.state (S : Nat) (ns : List Nd) (s : Int) : Comp S ns s 0 (fun _ => s) := fun t _ ins hl _ => by
  rw [List.eq_nil_of_length_eq_zero hl]; rfl
/-- A wire of level l: a state (l = 0), or a node of that level. -/
def Wire (S : Nat) (ns : List Nd) (i : Int) (l : Nat) : Prop := 0 ≤ i ∧ (l = 0 → i < (S : Int)) ∧ (0 < l → i < ns.length ∧ (ns.getD i.toNat default).level = (l : Int))
theorem Wire.ext {S : Nat} {ns ms : List Nd} {i : Int} {l : Nat} (h : Wire S ns i l) (hp : prefOf ns ms) : Wire S ms i l := by
  obtain ⟨h1, h2, h3⟩ := h
  refine ⟨h1, h2, fun hl => ?_⟩
  obtain ⟨a, b⟩ := h3 hl
  have := hp.len
  exact ⟨by omega, by rw [hp.get _ (by omega)]; exact b⟩
theorem node_wire {S n l : Nat} {ns : List Nd} {x : Nd} (hl : x.level = ((l + 1 : Nat) : Int)) : Wire S (ns ++ [x]) (ns.length : Int) (l + 1) :=
  ⟨by omega, fun h => by omega, fun _ => ⟨by simp; omega, by rw [Int.toNat_natCast, gnd_snoc, hl]⟩⟩
theorem node_fits {S n l : Nat} {ns : List Nd} {x : Nd} (hl : x.level = ((l + 1 : Nat) : Int)) (hn : l + 1 ≤ n) (hx : x.next.length = S) (hw : ∀ k ∈ x.next, Wire S ns k l) : fits S n ns x := by
  refine ⟨⟨by omega, by omega, hx⟩, fun k hk => ?_⟩
  obtain ⟨h1, h2, h3⟩ := hw k hk
  refine ⟨h1, fun e => h2 (by omega), fun e => ?_⟩
  obtain ⟨a, b⟩ := h3 (by omega)
  exact ⟨a, by rw [b]; omega⟩
theorem node_comp {S l : Nat} {ns : List Nd} {x : Nd} {f : Int → List Int → Int} (hx : x.next.length = S) (hc : ∀ s, s < S → Comp S ns (x.next.getD s 0) l (f (s : Int))) :
    Comp S (ns ++ [x]) (ns.length : Int) (l + 1) (fun ins => f (ins.getD 0 0) (ins.drop 1)) := fun t ht ins hil his => by
  cases ins with
  | nil => simp at hil
  | cons s rest =>
    have hs := his s (by simp)
    have e : walkT t (ns.length : Int) (s :: rest) = walkT t (x.next.getD s.toNat 0) rest := by
      simp only [walkT, List.foldl_cons, stepT, Int.toNat_natCast]
      rw [ht.get ns.length (by simp), gnd_snoc]
    rw [e]
    have := hc s.toNat (by omega) t ((prefOf.snoc ns x).trans ht) rest (by simpa using hil) (fun y hy => his y (by simp [hy]))
    rw [Int.toNat_of_nonneg hs.1] at this
    simpa using this
theorem getD_rep (S s : Nat) (b : Int) (h : s < S) : (List.replicate S b).getD s 0 = b := by
  rw [List.getD_eq_getElem?_getD, List.getElem?_replicate, if_pos h]; rfl
/-- A chain of nodes: all fit, and it leads to where what lies below leads, some states later. -/
theorem chain_good {S n : Nat} (ns : List Nd) (l0 : Nat) (b : Int) (f : List Int → Int) (hS : 0 < S) (hf : allFit S n ns) (hw : Wire S ns b l0) (hc : Comp S ns b l0 f) (c : Nat) (hn : l0 + c ≤ n) :
    prefOf ns (nodesIn S ns (l0 + 1) b c).1 ∧ allFit S n (nodesIn S ns (l0 + 1) b c).1 ∧ Wire S (nodesIn S ns (l0 + 1) b c).1 (nodesIn S ns (l0 + 1) b c).2 (l0 + c) ∧
      Comp S (nodesIn S ns (l0 + 1) b c).1 (nodesIn S ns (l0 + 1) b c).2 (l0 + c) (fun ins => f (ins.drop c)) := by
  induction c with
  | zero => exact ⟨prefOf.refl _, hf, hw, by simpa [nodesIn] using hc⟩
  | succ c ih =>
    obtain ⟨i1, i2, i3, i4⟩ := ih (by omega)
    simp only [nodesIn]
    generalize nodesIn S ns (l0 + 1) b c = p at i1 i2 i3 i4
    obtain ⟨ms, z⟩ := p
    dsimp only at i1 i2 i3 i4 ⊢
    have hlev : ((⟨((l0 + 1 + c : Nat) : Int), List.replicate S z⟩ : Nd).level) = ((l0 + c + 1 : Nat) : Int) := by show ((l0 + 1 + c : Nat) : Int) = _; omega
    refine ⟨i1.trans (prefOf.snoc _ _), allFit_snoc i2 (node_fits hlev (by omega) (by simp) (fun k hk => ?_)), node_wire (n := n) hlev, ?_⟩
    · rw [List.eq_of_mem_replicate hk]; exact i3
    · have h := node_comp (S := S) (ns := ms) (l := l0 + c) (x := ⟨((l0 + 1 + c : Nat) : Int), List.replicate S z⟩) (f := fun _ rest => f (rest.drop c)) (by simp) (fun s hs => by
        show Comp S ms ((List.replicate S z).getD s 0) _ _
        rw [getD_rep S s z hs]; exact i4)
      intro t ht ins hl hs
      have := h t ht ins (by omega) hs
      rw [this]
      simp [List.drop_drop, Nat.add_comm]
theorem statesOk_parts {st : Int} (h : statesOk st = true) : 2 ≤ st.toNat ∧ st.toNat ≤ 8 ∧ st = (st.toNat : Int) := by
  have := of_decide_eq_true h
  omega
theorem hoodOk_len {l : List Pt} (h : hoodOk l = true) : 1 ≤ l.length ∧ l.length ≤ 25 := by
  simp only [hoodOk, Bool.and_eq_true, decide_eq_true_eq] at h
  exact h.1
theorem last_level {S : Nat} {ns : List Nd} {i : Int} {l : Nat} (h : Wire S ns i l) (hl : 0 < l) (hi : i = (ns.length : Int) - 1) : (ns.getD (ns.length - 1) default).level = (l : Int) := by
  have := (h.2.2 hl).2
  rw [hi, show ((ns.length : Int) - 1).toNat = ns.length - 1 by omega] at this
  exact this
theorem nodesIn_last (S : Nat) (ns : List Nd) (lo : Nat) (b : Int) (c : Nat) (hc : 0 < c) : (nodesIn S ns lo b c).2 = ((nodesIn S ns lo b c).1.length : Int) - 1 := by
  obtain ⟨c, rfl⟩ : ∃ d, c = d + 1 := ⟨c - 1, by omega⟩
  simp only [nodesIn, List.length_append, List.length_singleton]
  omega
theorem constErr_parts {st s : Int} {l : List Pt} (h : constErr st l s = 0) : statesOk st = true ∧ hoodOk l = true ∧ 0 ≤ s ∧ s < st := by
  unfold constErr at h
  split at h
  · rename_i h1
    split at h
    · rename_i h2; exact ⟨h1.1, h1.2, h2.1, h2.2⟩
    · omega
  · omega
theorem readErr_parts {st k : Int} {l : List Pt} (h : readErr st l k = 0) : statesOk st = true ∧ hoodOk l = true ∧ 0 ≤ k ∧ k < l.length := by
  unfold readErr at h
  split at h
  · assumption
  · omega
/-- A tree of Constant: valid, as many nodes as positions, and it leads to the constant. -/
theorem const_good {st s : Int} {l : List Pt} (h : constErr st l s = 0) : rightT (constT st l s) = true ∧ (constT st l s).nodes.length = l.length ∧
    ∀ ins, ins.length = l.length → ins.all (stateIn (constT st l s)) = true → valueT (constT st l s) ins = s := by
  obtain ⟨h1, h2, h3, h4⟩ := constErr_parts h
  obtain ⟨s2, s8, hst⟩ := statesOk_parts h1
  obtain ⟨l1, l25⟩ := hoodOk_len h2
  obtain ⟨g1, g2, g3, g4⟩ := chain_good (S := st.toNat) (n := l.length) [] 0 s (fun _ => s) (by omega) (allFit_nil _ _) ⟨h3, fun _ => by omega, fun h => absurd h (by omega)⟩ (Comp.state _ _ _) l.length (by omega)
  simp only [Nat.zero_add] at g1 g2 g3 g4
  have hlast := nodesIn_last st.toNat [] 1 s l.length (by omega)
  have hlen : (constT st l s).nodes.length = l.length := by show (nodesIn _ _ _ _ _).1.length = _; rw [nodesIn_length]; simp
  refine ⟨allFit_right (S := st.toNat) (n := l.length) g2 hst rfl ⟨s2, s8⟩ h2 (by omega) (by omega) (last_level g3 (by omega) hlast), hlen, fun ins hi hs => ?_⟩
  have := g4 (constT st l s) (prefOf.refl _) ins hi (fun x hx => by
    rw [List.all_eq_true] at hs
    have := hs x hx
    simp only [stateIn, decide_eq_true_eq] at this
    refine ⟨this.1, ?_⟩
    have h9 : (constT st l s).states = st := rfl
    omega)
  rw [valueT]
  refine Eq.trans ?_ this
  rw [hlast]; rfl
theorem readC_good {S n at_ : Nat} (hS : 0 < S) (ha : 1 ≤ at_) (hn : at_ ≤ n) (s : Nat) (hs : s ≤ S) : allFit S n (readC S at_ s).1 ∧ ∀ j, j < s → Wire S (readC S at_ s).1 ((readC S at_ s).2.getD j 0) (at_ - 1) ∧ Comp S (readC S at_ s).1 ((readC S at_ s).2.getD j 0) (at_ - 1) (fun _ => (j : Int)) := by
  induction s with
  | zero => exact ⟨allFit_nil _ _, fun j hj => absurd hj (by omega)⟩
  | succ s ih =>
    obtain ⟨i1, i2⟩ := ih (by omega)
    have hl := (readC_length S at_ s).2
    obtain ⟨g1, g2, g3, g4⟩ := chain_good (S := S) (n := n) (readC S at_ s).1 0 (s : Int) (fun _ => (s : Int)) hS i1 ⟨by omega, fun _ => by omega, fun h => absurd h (by omega)⟩ (Comp.state _ _ _) (at_ - 1) (by omega)
    simp only [Nat.zero_add] at g1 g2 g3 g4
    simp only [readC]
    refine ⟨g2, fun j hj => ?_⟩
    by_cases e : j = s
    · subst e
      have : ((readC S at_ j).2 ++ [(nodesIn S (readC S at_ j).1 1 (j : Int) (at_ - 1)).2]).getD j 0 = (nodesIn S (readC S at_ j).1 1 (j : Int) (at_ - 1)).2 := by
        rw [List.getD_eq_getElem?_getD, List.getElem?_append_right (by omega), hl, Nat.sub_self]; rfl
      rw [this]
      exact ⟨g3, g4⟩
    · have : ((readC S at_ s).2 ++ [(nodesIn S (readC S at_ s).1 1 (s : Int) (at_ - 1)).2]).getD j 0 = (readC S at_ s).2.getD j 0 := by
        rw [List.getD_eq_getElem?_getD, List.getElem?_append_left (by omega), ← List.getD_eq_getElem?_getD]
      rw [this]
      obtain ⟨a, b⟩ := i2 j (by omega)
      exact ⟨a.ext g1, b.ext g1⟩
/-- A tree of Read: valid, its number of nodes, and it leads to the state of the position. -/
theorem read_good {st : Int} {l : List Pt} {k : Nat} (h : readErr st l k = 0) : rightT (readT st l k) = true ∧ (readT st l k).nodes.length = k + 1 + (l.length - k - 1) * st.toNat ∧
    ∀ ins, ins.length = l.length → ins.all (stateIn (readT st l k)) = true → valueT (readT st l k) ins = ins.getD k 0 := by
  obtain ⟨h1, h2, h3, h4⟩ := readErr_parts h
  obtain ⟨s2, s8, hst⟩ := statesOk_parts h1
  obtain ⟨l1, l25⟩ := hoodOk_len h2
  have hk : k < l.length := by omega
  obtain ⟨at_, ha⟩ : ∃ a, a = l.length - k := ⟨_, rfl⟩
  have ha1 : 1 ≤ at_ := by omega
  have han : at_ ≤ l.length := by omega
  obtain ⟨c1, c2⟩ := readC_good (S := st.toNat) (n := l.length) (by omega) ha1 han st.toNat (Nat.le_refl _)
  obtain ⟨cl1, cl2⟩ := readC_length st.toNat at_ st.toNat
  have hlev : ((⟨(at_ : Int), (readC st.toNat at_ st.toNat).2⟩ : Nd).level) = ((at_ - 1 + 1 : Nat) : Int) := by show (at_ : Int) = _; omega
  have hM : allFit st.toNat l.length (readM st.toNat at_) := allFit_snoc c1 (node_fits hlev (by omega) cl2 (fun k hk => by
    obtain ⟨j, hj, rfl⟩ := List.getElem_of_mem hk
    have := (c2 j (by simp only at hj; omega)).1
    rw [List.getD_eq_getElem?_getD, List.getElem?_eq_getElem (by simpa using hj)] at this
    exact this))
  have hMl : (readM st.toNat at_).length = st.toNat * (at_ - 1) + 1 := by simp [readM, cl1]
  have hidx : ((readM st.toNat at_).length : Int) - 1 = ((readC st.toNat at_ st.toNat).1.length : Int) := by rw [hMl, cl1]; omega
  have hMw : Wire st.toNat (readM st.toNat at_) (((readM st.toNat at_).length : Int) - 1) at_ := by
    rw [hidx]
    have := node_wire (S := st.toNat) (n := l.length) (ns := (readC st.toNat at_ st.toNat).1) hlev
    rw [show at_ - 1 + 1 = at_ by omega] at this
    exact this
  have hMc : Comp st.toNat (readM st.toNat at_) (((readM st.toNat at_).length : Int) - 1) at_ (fun ins => ins.getD 0 0) := by
    rw [hidx]
    have := node_comp (S := st.toNat) (ns := (readC st.toNat at_ st.toNat).1) (l := at_ - 1) (x := ⟨(at_ : Int), (readC st.toNat at_ st.toNat).2⟩) (f := fun s _ => s) cl2 (fun s hs => (c2 s hs).2)
    rw [show at_ - 1 + 1 = at_ by omega] at this
    exact this
  obtain ⟨g1, g2, g3, g4⟩ := chain_good (S := st.toNat) (n := l.length) (readM st.toNat at_) at_ (((readM st.toNat at_).length : Int) - 1) _ (by omega) hM hMw hMc (l.length - at_) (by omega)
  rw [show at_ + (l.length - at_) = l.length by omega] at g3 g4
  have hns : (readT st l k).nodes = (nodesIn st.toNat (readM st.toNat at_) (at_ + 1) (((readM st.toNat at_).length : Int) - 1) (l.length - at_)).1 := by
    show readNs _ _ _ = _
    rw [← ha]; rfl
  have hlast : (nodesIn st.toNat (readM st.toNat at_) (at_ + 1) (((readM st.toNat at_).length : Int) - 1) (l.length - at_)).2 = ((readT st l k).nodes.length : Int) - 1 := by
    rw [hns]
    rcases Nat.eq_zero_or_pos (l.length - at_) with e | e
    · rw [e]; rfl
    · exact nodesIn_last _ _ _ _ _ e
  have hlen : (readT st l k).nodes.length = k + 1 + (l.length - k - 1) * st.toNat := by
    rw [hns, nodesIn_length, hMl, Nat.mul_comm st.toNat, show at_ - 1 = l.length - k - 1 by omega, show l.length - at_ = k by omega]
    omega
  have hbig : (l.length - k - 1) * st.toNat ≤ 24 * 8 := Nat.mul_le_mul (by omega) s8
  rw [hlast] at g3 g4
  rw [← hns] at g2 g3 g4
  refine ⟨allFit_right (S := st.toNat) (n := l.length) g2 hst rfl ⟨s2, s8⟩ h2 (by omega) (by omega) (last_level g3 (by omega) rfl), hlen, fun ins hi hs => ?_⟩
  have := g4 (readT st l k) (prefOf.refl _) ins hi (fun x hx => by
    rw [List.all_eq_true] at hs
    have := hs x hx
    simp only [stateIn, decide_eq_true_eq] at this
    refine ⟨this.1, ?_⟩
    have h9 : (readT st l k).states = st := rfl
    omega)
  rw [valueT, this]
  show (ins.drop (l.length - at_)).getD 0 0 = _
  rw [List.getD_eq_getElem?_getD, List.getElem?_drop, List.getD_eq_getElem?_getD, show l.length - at_ + 0 = k by omega]
end Go.Proofs.Ytamijjpnklbgnaa

/-
  Rule trees, plain: equality, sizes, quiet rules, and a tree with a node in front that nobody needs. Nothing of the program stands here.
-/
namespace Go.Proofs.Ytamijjpnklbgnaa
open Go.RowKit
set_option linter.unusedSimpArgs false
set_option linter.unusedVariables false

instance : DecidableEq Pt := fun a b => if h : a.x = b.x ∧ a.y = b.y then isTrue (by cases a; cases b; simp only at h; rw [h.1, h.2]) else isFalse (fun e => h (by rw [e]; exact ⟨rfl, rfl⟩))
instance : DecidableEq Nd := fun a b => if h : a.level = b.level ∧ a.next = b.next then isTrue (by cases a; cases b; simp only at h; rw [h.1, h.2]) else isFalse (fun e => h (by rw [e]; exact ⟨rfl, rfl⟩))
def sameT (a b : Tre) : Bool := decide (a.states = b.states ∧ a.hood = b.hood ∧ a.nodes = b.nodes)
theorem sameT_self (a : Tre) : sameT a a = true := decide_eq_true ⟨rfl, rfl, rfl⟩
theorem sameT_iff (a b : Tre) : sameT a b = true ↔ a = b := by
  unfold sameT
  rw [decide_eq_true_iff]
  constructor
  · intro h; cases a; cases b; simp only at h; rw [h.1, h.2.1, h.2.2]
  · rintro rfl; exact ⟨rfl, rfl, rfl⟩
def quietT (t : Tre) : Bool := rightT t && decide (valueT t (List.replicate t.hood.length 0) = 0)
def bump (l : List Int) (i : Nat) : List Int := l.set i (l.getD i 0 + 1)
theorem bump_length (l : List Int) (i : Nat) : (bump l i).length = l.length := by simp [bump]
def sizeN (n : Nat) (ns : List Nd) : List Int := ns.foldl (fun l x => bump l (x.level - 1).toNat) (List.replicate n 0)
def sizeT (t : Tre) : List Int := if rightT t = true then sizeN t.hood.length t.nodes else []
theorem sizeN_length (n : Nat) (ns : List Nd) : (sizeN n ns).length = n := by
  unfold sizeN
  have : ∀ l : List Int, (ns.foldl (fun l x => bump l (x.level - 1).toNat) l).length = l.length := by
    induction ns with
    | nil => intro l; rfl
    | cons x ns ih => intro l; simp only [List.foldl_cons]; rw [ih, bump_length]
  rw [this]; simp
theorem nd_snoc (l : List Nd) (k : Nat) (h : k < l.length) : l.take (k + 1) = l.take k ++ [l.getD k default] := by
  rw [List.take_succ_eq_append_getElem h, List.getD_eq_getElem?_getD, List.getElem?_eq_getElem h]; rfl
theorem sizeN_snoc (n : Nat) (ns : List Nd) (k : Nat) (h : k < ns.length) : sizeN n (ns.take (k + 1)) = bump (sizeN n (ns.take k)) ((ns.getD k default).level - 1).toNat := by
  rw [nd_snoc ns k h, sizeN, List.foldl_append]; rfl
theorem zeros_in {t : Tre} (h : rightT t = true) : (List.replicate t.hood.length (0 : Int)).all (stateIn t) = true := by
  obtain ⟨_, ⟨⟨h1, _⟩, _⟩, _⟩ := rightT_parts h
  rw [List.all_eq_true]
  intro x hx
  rw [List.eq_of_mem_replicate hx]
  exact decide_eq_true ⟨by omega, by omega⟩

/- A node in front. -/
def shiftI (l k : Int) : Int := if 1 < l then k + 1 else k
def shiftNd (x : Nd) : Nd := ⟨x.level, x.next.map (shiftI x.level)⟩
def shiftT (t : Tre) : Tre := ⟨t.states, t.hood, ⟨1, List.replicate t.states.toNat 0⟩ :: t.nodes.map shiftNd⟩
theorem shiftNd_get (l : List Nd) (k : Nat) (h : k < l.length) : (l.map shiftNd).getD k default = shiftNd (l.getD k default) := by
  simp [List.getD_eq_getElem?_getD, List.getElem?_map, List.getElem?_eq_getElem h]
theorem shiftNext_get (x : Nd) (s : Nat) (h : s < x.next.length) : (shiftNd x).next.getD s 0 = shiftI x.level (x.next.getD s 0) := by
  simp [shiftNd, List.getD_eq_getElem?_getD, List.getElem?_map, List.getElem?_eq_getElem h]
theorem shift_right {t : Tre} (h : rightT t = true) (hn : t.nodes.length ≤ 4000) : rightT (shiftT t) = true := by
  obtain ⟨hh, ⟨⟨h1, h2⟩, h3, h4, h5⟩, h6⟩ := rightT_parts h
  obtain ⟨l1, l25⟩ := hoodOk_len hh
  have hL : (shiftT t).nodes.length = t.nodes.length + 1 := by simp [shiftT]
  have hg : ∀ k, k < t.nodes.length → (shiftT t).nodes.getD (k + 1) default = shiftNd (t.nodes.getD k default) := fun k hk => by
    show (_ :: t.nodes.map shiftNd).getD (k + 1) default = _
    rw [List.getD_cons_succ, shiftNd_get _ _ hk]
  have hhead : headOk (shiftT t) = true := decide_eq_true ⟨⟨h1, h2⟩, by omega, by omega, by
    rw [hL, show t.nodes.length + 1 - 1 = (t.nodes.length - 1) + 1 by omega, hg _ (by omega)]
    exact h5⟩
  have hnodes : nodesOk (shiftT t) = true := decide_eq_true (fun i hi => by
    cases i with
    | zero =>
      show nodeOk (shiftT t) 0 = true
      have e : (shiftT t).nodes.getD 0 default = ⟨1, List.replicate t.states.toNat 0⟩ := rfl
      rw [nodeOk, e, Bool.and_eq_true]
      refine ⟨decide_eq_true ⟨by show (1 : Int) ≤ 1; omega, by show (1 : Int) ≤ t.hood.length; omega, by show ((List.replicate t.states.toNat (0 : Int)).length : Int) = t.states; rw [List.length_replicate]; omega⟩, ?_⟩
      rw [List.all_eq_true]
      intro k hk
      have hk0 : k = 0 := List.eq_of_mem_replicate hk
      subst hk0
      exact decide_eq_true ⟨by omega, fun _ => by show (0 : Int) < t.states; omega, fun h => absurd h (by show ¬ (1 : Int) < 1; omega)⟩
    | succ i =>
      have hi' : i < t.nodes.length := by omega
      obtain ⟨⟨a1, a2, a3⟩, a4⟩ := nodeOk_parts (h6 i hi')
      rw [nodeOk, hg _ hi', Bool.and_eq_true]
      refine ⟨decide_eq_true ⟨a1, a2, by show (((t.nodes.getD i default).next.map _).length : Int) = _; rw [List.length_map]; exact a3⟩, ?_⟩
      rw [List.all_eq_true]
      intro k hk
      obtain ⟨s, hs, rfl⟩ := List.getElem_of_mem hk
      have hs' : s < (t.nodes.getD i default).next.length := by simpa [shiftNd] using hs
      have hl := a4 s hs'
      have hget : (shiftNd (t.nodes.getD i default)).next[s] = shiftI (t.nodes.getD i default).level ((t.nodes.getD i default).next.getD s 0) := by
        have h1 := shiftNext_get _ _ hs'
        rw [List.getD_eq_getElem?_getD, List.getElem?_eq_getElem hs] at h1
        exact h1
      rw [hget]
      generalize (t.nodes.getD i default).next.getD s 0 = k at hl
      generalize t.nodes.getD i default = x at hl a1
      simp only [linkOk, decide_eq_true_eq] at hl
      obtain ⟨b1, b2, b3⟩ := hl
      show linkOk (shiftT t) (i + 1) (shiftNd x) (shiftI x.level k) = true
      unfold shiftI
      by_cases hlev : 1 < x.level
      · rw [if_pos hlev]
        obtain ⟨c1, c2⟩ := b3 hlev
        refine decide_eq_true ⟨by omega, fun e => absurd hlev (by rw [show x.level = 1 from e]; omega), fun _ => ⟨by omega, ?_⟩⟩
        rw [show (k + 1).toNat = k.toNat + 1 by omega, hg _ (by omega)]
        exact c2
      · rw [if_neg hlev]
        exact decide_eq_true ⟨b1, fun e => b2 e, fun e => absurd e hlev⟩)
  rw [rightT, Bool.and_eq_true, Bool.and_eq_true]
  exact ⟨hh, hhead, hnodes⟩
theorem shift_walk {t : Tre} (h : rightT t = true) (ins : List Int) : ∀ k : Nat, k < t.nodes.length → (t.nodes.getD k default).level = (ins.length : Int) → ins.all (stateIn t) = true → walkT (shiftT t) ((k : Int) + 1) ins = walkT t k ins := by
  obtain ⟨_, ⟨⟨h1, h2⟩, _⟩, h6⟩ := rightT_parts h
  induction ins with
  | nil =>
    intro k hk hl
    have := (nodeOk_parts (h6 k hk)).1.1
    rw [hl] at this
    simp at this
  | cons s rest ih =>
    intro k hk hl hs
    rw [List.all_cons, Bool.and_eq_true] at hs
    obtain ⟨hs1, hs2⟩ := hs
    simp only [stateIn, decide_eq_true_eq] at hs1
    obtain ⟨⟨a1, a2, a3⟩, a4⟩ := nodeOk_parts (h6 k hk)
    have hsl : s.toNat < (t.nodes.getD k default).next.length := by omega
    have hl2 := a4 _ hsl
    show walkT (shiftT t) (stepT (shiftT t) ((k : Int) + 1) s) rest = walkT t (stepT t k s) rest
    have e1 : stepT (shiftT t) ((k : Int) + 1) s = shiftI (t.nodes.getD k default).level (stepT t k s) := by
      unfold stepT
      rw [show ((k : Int) + 1).toNat = k + 1 by omega]
      show ((_ :: t.nodes.map shiftNd).getD (k + 1) default).next.getD s.toNat 0 = _
      rw [List.getD_cons_succ, shiftNd_get _ _ hk, shiftNext_get _ _ hsl, Int.toNat_natCast]
    have e2 : stepT t k s = (t.nodes.getD k default).next.getD s.toNat 0 := by unfold stepT; rw [Int.toNat_natCast]
    rw [e1]
    rw [← e2] at hl2
    generalize stepT t k s = u at hl2
    simp only [linkOk, decide_eq_true_eq] at hl2
    obtain ⟨b1, b2, b3⟩ := hl2
    unfold shiftI
    by_cases hlev : 1 < (t.nodes.getD k default).level
    · rw [if_pos hlev]
      obtain ⟨c1, c2⟩ := b3 hlev
      obtain ⟨m, rfl⟩ : ∃ m : Nat, u = (m : Int) := ⟨u.toNat, by omega⟩
      rw [Int.toNat_natCast] at c2
      refine ih m (by omega) ?_ hs2
      rw [c2, hl]; simp
    · rw [if_neg hlev]
      have : rest.length = 0 := by rw [hl] at hlev; simp at hlev; omega
      rw [List.eq_nil_of_length_eq_zero this]; rfl
/-- The node in front changes no value. -/
theorem shift_eval {t : Tre} (h : rightT t = true) (hn : t.nodes.length ≤ 4000) (ins : List Int) : evalErr (shiftT t) ins = evalErr t ins ∧ evalV (shiftT t) ins = evalV t ins := by
  have hr := shift_right h hn
  have e : evalErr (shiftT t) ins = evalErr t ins := by
    unfold evalErr
    rw [if_pos hr, if_pos h]; rfl
  refine ⟨e, ?_⟩
  unfold evalV
  rw [e]
  by_cases h0 : evalErr t ins = 0
  · rw [if_pos h0, if_pos h0]
    obtain ⟨_, ⟨_, h3, h4, h5⟩, _⟩ := rightT_parts h
    have hl : ins.length = t.hood.length ∧ ins.all (stateIn t) = true := by
      unfold evalErr at h0
      rw [if_pos h] at h0
      split at h0
      · split at h0
        · exact ⟨by assumption, by assumption⟩
        · omega
      · omega
    have hs := shift_walk h ins (t.nodes.length - 1) (by omega) (by rw [h5, hl.1]) hl.2
    unfold valueT
    have e1 : ((shiftT t).nodes.length : Int) - 1 = ((t.nodes.length - 1 : Nat) : Int) + 1 := by simp [shiftT]; omega
    have e2 : (t.nodes.length : Int) - 1 = ((t.nodes.length - 1 : Nat) : Int) := by omega
    rw [e1, e2, hs]
  · rw [if_neg h0, if_neg h0]
end Go.Proofs.Ytamijjpnklbgnaa
