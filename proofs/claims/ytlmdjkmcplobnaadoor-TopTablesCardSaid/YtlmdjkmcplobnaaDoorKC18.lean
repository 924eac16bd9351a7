/-
  totaltree's build, Elementary and what it needs; cellulartop's awakeTree, walked.
-/
import Derived.Test.YtlmdjkmcplobnaaDoorKC15
import Derived.Test.YtlmdjkmcplobnaaDoorKC17
import Derived.Test.YtlmdjkmcplobnaaDoorKC9
import Derived.Laws.EntriesVeiled
namespace Go.Proofs.YtlmdjkmcplobnaaDoor
open Go.RowKit Go.Maps
set_option linter.unusedSimpArgs false
set_option linter.unusedVariables false
/-- What a call of build returns. -/
def TrPost (t : Tre) (LA : Option Addr) (ln lc : Nat) (w : World) (e : Ending) (w' : World) : Prop := ∃ NA nc sl, e = .returned (.agg #[.int .i64 t.states, .slice LA ln lc, .slice NA t.nodes.length nc]) ∧ TOwn w.heap.size w' t.nodes NA nc sl ∧ Below w.heap.size w w'
set_option maxRecDepth 100000 in
set_option maxHeartbeats 4000000 in
theorem buildI_any (w : World) (S : Nat) (LA : Option Addr) (ln lc : Nat) (s : Int) (ip : FuncId) (cp : Array Value) (ie : FuncId) (ce : Array Value) (hood : List Pt) (step : Int → Int → Int → Int) (fin : Int → Int) (K : Nat → Int → Prop) (M : Nat) (Us : List (Int × Int))
    (hx : VHyp w ⟨w.heap.size, S, LA, ln, lc, ip, cp, ie, ce⟩ step fin K ln M Us) (hk : K 0 s) :
    Calls Tryd.prog 20 #[.int .i64 (S : Int), .slice LA ln lc, .int .i64 s, .func (.func ip) #[] cp, .func (.func ie) #[] ce] w (TrPost ⟨(S : Int), hood, (KU.visitT S ln step fin ln s ⟨[], []⟩).2.ns⟩ LA ln lc w) := by
  have HX := Lib.hid hx
  have HK := Lib.hid hk
  have h25 := hx.hyp.H25
  clear hx hk
  have hmm := @run_makeMap Tryd.prog
  go_enter Tryd.func20, Tryd.ntmps20
  go_upto_region 5 with fail
  simp only [Nat.add_assoc, Nat.reduceAdd]
  have R0 : Row (((((((((((w.alloc (.cells #[.int .i64 (S : Int)] 3)).alloc (.cells #[.slice LA ln lc] 22)).alloc (.cells #[.func (.func ip) #[] cp] 57)).alloc (.cells #[.func (.func ie) #[] ce] 58)).alloc (.cells #[.int .i64 0, .slice none 0 0, .slice none 0 0] 31)).alloc (.cells #[.int .i64 (S : Int), .slice LA ln lc, .slice none 0 0] 31)).alloc (.map #[] 0)).alloc (.cells #[.map (some (w.heap.size + 6))] 74)).alloc (.map #[] 0)).alloc (.cells #[.map (some (w.heap.size + 8))] 63)).alloc (.cells #[.nilFunc] 75)) (w.heap.size) 3 [.int .i64 (S : Int)] := by
    have h0 := Row.new w 3 [.int .i64 (S : Int)]
    try simp only [World.size_alloc, Nat.add_assoc, Nat.reduceAdd] at h0
    exact ((((((((((h0.alloc _).alloc _).alloc _).alloc _).alloc _).alloc _).alloc _).alloc _).alloc _).alloc _)
  have R1 : Row (((((((((((w.alloc (.cells #[.int .i64 (S : Int)] 3)).alloc (.cells #[.slice LA ln lc] 22)).alloc (.cells #[.func (.func ip) #[] cp] 57)).alloc (.cells #[.func (.func ie) #[] ce] 58)).alloc (.cells #[.int .i64 0, .slice none 0 0, .slice none 0 0] 31)).alloc (.cells #[.int .i64 (S : Int), .slice LA ln lc, .slice none 0 0] 31)).alloc (.map #[] 0)).alloc (.cells #[.map (some (w.heap.size + 6))] 74)).alloc (.map #[] 0)).alloc (.cells #[.map (some (w.heap.size + 8))] 63)).alloc (.cells #[.nilFunc] 75)) (w.heap.size + 1) 22 [.slice LA ln lc] := by
    have h0 := Row.new (w.alloc (.cells #[.int .i64 (S : Int)] 3)) 22 [.slice LA ln lc]
    try simp only [World.size_alloc, Nat.add_assoc, Nat.reduceAdd] at h0
    exact (((((((((h0.alloc _).alloc _).alloc _).alloc _).alloc _).alloc _).alloc _).alloc _).alloc _)
  have R2 : Row (((((((((((w.alloc (.cells #[.int .i64 (S : Int)] 3)).alloc (.cells #[.slice LA ln lc] 22)).alloc (.cells #[.func (.func ip) #[] cp] 57)).alloc (.cells #[.func (.func ie) #[] ce] 58)).alloc (.cells #[.int .i64 0, .slice none 0 0, .slice none 0 0] 31)).alloc (.cells #[.int .i64 (S : Int), .slice LA ln lc, .slice none 0 0] 31)).alloc (.map #[] 0)).alloc (.cells #[.map (some (w.heap.size + 6))] 74)).alloc (.map #[] 0)).alloc (.cells #[.map (some (w.heap.size + 8))] 63)).alloc (.cells #[.nilFunc] 75)) (w.heap.size + 2) 57 [.func (.func ip) #[] cp] := by
    have h0 := Row.new ((w.alloc (.cells #[.int .i64 (S : Int)] 3)).alloc (.cells #[.slice LA ln lc] 22)) 57 [.func (.func ip) #[] cp]
    try simp only [World.size_alloc, Nat.add_assoc, Nat.reduceAdd] at h0
    exact ((((((((h0.alloc _).alloc _).alloc _).alloc _).alloc _).alloc _).alloc _).alloc _)
  have R3 : Row (((((((((((w.alloc (.cells #[.int .i64 (S : Int)] 3)).alloc (.cells #[.slice LA ln lc] 22)).alloc (.cells #[.func (.func ip) #[] cp] 57)).alloc (.cells #[.func (.func ie) #[] ce] 58)).alloc (.cells #[.int .i64 0, .slice none 0 0, .slice none 0 0] 31)).alloc (.cells #[.int .i64 (S : Int), .slice LA ln lc, .slice none 0 0] 31)).alloc (.map #[] 0)).alloc (.cells #[.map (some (w.heap.size + 6))] 74)).alloc (.map #[] 0)).alloc (.cells #[.map (some (w.heap.size + 8))] 63)).alloc (.cells #[.nilFunc] 75)) (w.heap.size + 3) 58 [.func (.func ie) #[] ce] := by
    have h0 := Row.new (((w.alloc (.cells #[.int .i64 (S : Int)] 3)).alloc (.cells #[.slice LA ln lc] 22)).alloc (.cells #[.func (.func ip) #[] cp] 57)) 58 [.func (.func ie) #[] ce]
    try simp only [World.size_alloc, Nat.add_assoc, Nat.reduceAdd] at h0
    exact (((((((h0.alloc _).alloc _).alloc _).alloc _).alloc _).alloc _).alloc _)
  have R4 : Row (((((((((((w.alloc (.cells #[.int .i64 (S : Int)] 3)).alloc (.cells #[.slice LA ln lc] 22)).alloc (.cells #[.func (.func ip) #[] cp] 57)).alloc (.cells #[.func (.func ie) #[] ce] 58)).alloc (.cells #[.int .i64 0, .slice none 0 0, .slice none 0 0] 31)).alloc (.cells #[.int .i64 (S : Int), .slice LA ln lc, .slice none 0 0] 31)).alloc (.map #[] 0)).alloc (.cells #[.map (some (w.heap.size + 6))] 74)).alloc (.map #[] 0)).alloc (.cells #[.map (some (w.heap.size + 8))] 63)).alloc (.cells #[.nilFunc] 75)) (w.heap.size + 4) 31 [.int .i64 0, .slice none 0 0, .slice none 0 0] := by
    have h0 := Row.new ((((w.alloc (.cells #[.int .i64 (S : Int)] 3)).alloc (.cells #[.slice LA ln lc] 22)).alloc (.cells #[.func (.func ip) #[] cp] 57)).alloc (.cells #[.func (.func ie) #[] ce] 58)) 31 [.int .i64 0, .slice none 0 0, .slice none 0 0]
    try simp only [World.size_alloc, Nat.add_assoc, Nat.reduceAdd] at h0
    exact ((((((h0.alloc _).alloc _).alloc _).alloc _).alloc _).alloc _)
  have R5 : Row (((((((((((w.alloc (.cells #[.int .i64 (S : Int)] 3)).alloc (.cells #[.slice LA ln lc] 22)).alloc (.cells #[.func (.func ip) #[] cp] 57)).alloc (.cells #[.func (.func ie) #[] ce] 58)).alloc (.cells #[.int .i64 0, .slice none 0 0, .slice none 0 0] 31)).alloc (.cells #[.int .i64 (S : Int), .slice LA ln lc, .slice none 0 0] 31)).alloc (.map #[] 0)).alloc (.cells #[.map (some (w.heap.size + 6))] 74)).alloc (.map #[] 0)).alloc (.cells #[.map (some (w.heap.size + 8))] 63)).alloc (.cells #[.nilFunc] 75)) (w.heap.size + 5) 31 [.int .i64 (S : Int), .slice LA ln lc, .slice none 0 0] := by
    have h0 := Row.new (((((w.alloc (.cells #[.int .i64 (S : Int)] 3)).alloc (.cells #[.slice LA ln lc] 22)).alloc (.cells #[.func (.func ip) #[] cp] 57)).alloc (.cells #[.func (.func ie) #[] ce] 58)).alloc (.cells #[.int .i64 0, .slice none 0 0, .slice none 0 0] 31)) 31 [.int .i64 (S : Int), .slice LA ln lc, .slice none 0 0]
    try simp only [World.size_alloc, Nat.add_assoc, Nat.reduceAdd] at h0
    exact (((((h0.alloc _).alloc _).alloc _).alloc _).alloc _)
  have R7 : Row (((((((((((w.alloc (.cells #[.int .i64 (S : Int)] 3)).alloc (.cells #[.slice LA ln lc] 22)).alloc (.cells #[.func (.func ip) #[] cp] 57)).alloc (.cells #[.func (.func ie) #[] ce] 58)).alloc (.cells #[.int .i64 0, .slice none 0 0, .slice none 0 0] 31)).alloc (.cells #[.int .i64 (S : Int), .slice LA ln lc, .slice none 0 0] 31)).alloc (.map #[] 0)).alloc (.cells #[.map (some (w.heap.size + 6))] 74)).alloc (.map #[] 0)).alloc (.cells #[.map (some (w.heap.size + 8))] 63)).alloc (.cells #[.nilFunc] 75)) (w.heap.size + 7) 74 [.map (some (w.heap.size + 6))] := by
    have h0 := Row.new (((((((w.alloc (.cells #[.int .i64 (S : Int)] 3)).alloc (.cells #[.slice LA ln lc] 22)).alloc (.cells #[.func (.func ip) #[] cp] 57)).alloc (.cells #[.func (.func ie) #[] ce] 58)).alloc (.cells #[.int .i64 0, .slice none 0 0, .slice none 0 0] 31)).alloc (.cells #[.int .i64 (S : Int), .slice LA ln lc, .slice none 0 0] 31)).alloc (.map #[] 0)) 74 [.map (some (w.heap.size + 6))]
    try simp only [World.size_alloc, Nat.add_assoc, Nat.reduceAdd] at h0
    exact (((h0.alloc _).alloc _).alloc _)
  have R9 : Row (((((((((((w.alloc (.cells #[.int .i64 (S : Int)] 3)).alloc (.cells #[.slice LA ln lc] 22)).alloc (.cells #[.func (.func ip) #[] cp] 57)).alloc (.cells #[.func (.func ie) #[] ce] 58)).alloc (.cells #[.int .i64 0, .slice none 0 0, .slice none 0 0] 31)).alloc (.cells #[.int .i64 (S : Int), .slice LA ln lc, .slice none 0 0] 31)).alloc (.map #[] 0)).alloc (.cells #[.map (some (w.heap.size + 6))] 74)).alloc (.map #[] 0)).alloc (.cells #[.map (some (w.heap.size + 8))] 63)).alloc (.cells #[.nilFunc] 75)) (w.heap.size + 9) 63 [.map (some (w.heap.size + 8))] := by
    have h0 := Row.new (((((((((w.alloc (.cells #[.int .i64 (S : Int)] 3)).alloc (.cells #[.slice LA ln lc] 22)).alloc (.cells #[.func (.func ip) #[] cp] 57)).alloc (.cells #[.func (.func ie) #[] ce] 58)).alloc (.cells #[.int .i64 0, .slice none 0 0, .slice none 0 0] 31)).alloc (.cells #[.int .i64 (S : Int), .slice LA ln lc, .slice none 0 0] 31)).alloc (.map #[] 0)).alloc (.cells #[.map (some (w.heap.size + 6))] 74)).alloc (.map #[] 0)) 63 [.map (some (w.heap.size + 8))]
    try simp only [World.size_alloc, Nat.add_assoc, Nat.reduceAdd] at h0
    exact (h0.alloc _)
  have R10 : Row (((((((((((w.alloc (.cells #[.int .i64 (S : Int)] 3)).alloc (.cells #[.slice LA ln lc] 22)).alloc (.cells #[.func (.func ip) #[] cp] 57)).alloc (.cells #[.func (.func ie) #[] ce] 58)).alloc (.cells #[.int .i64 0, .slice none 0 0, .slice none 0 0] 31)).alloc (.cells #[.int .i64 (S : Int), .slice LA ln lc, .slice none 0 0] 31)).alloc (.map #[] 0)).alloc (.cells #[.map (some (w.heap.size + 6))] 74)).alloc (.map #[] 0)).alloc (.cells #[.map (some (w.heap.size + 8))] 63)).alloc (.cells #[.nilFunc] 75)) (w.heap.size + 10) 75 [.nilFunc] := by
    have h0 := Row.new ((((((((((w.alloc (.cells #[.int .i64 (S : Int)] 3)).alloc (.cells #[.slice LA ln lc] 22)).alloc (.cells #[.func (.func ip) #[] cp] 57)).alloc (.cells #[.func (.func ie) #[] ce] 58)).alloc (.cells #[.int .i64 0, .slice none 0 0, .slice none 0 0] 31)).alloc (.cells #[.int .i64 (S : Int), .slice LA ln lc, .slice none 0 0] 31)).alloc (.map #[] 0)).alloc (.cells #[.map (some (w.heap.size + 6))] 74)).alloc (.map #[] 0)).alloc (.cells #[.map (some (w.heap.size + 8))] 63)) 75 [.nilFunc]
    try simp only [World.size_alloc, Nat.add_assoc, Nat.reduceAdd] at h0
    exact h0
  have R6 : MK (((((((((((w.alloc (.cells #[.int .i64 (S : Int)] 3)).alloc (.cells #[.slice LA ln lc] 22)).alloc (.cells #[.func (.func ip) #[] cp] 57)).alloc (.cells #[.func (.func ie) #[] ce] 58)).alloc (.cells #[.int .i64 0, .slice none 0 0, .slice none 0 0] 31)).alloc (.cells #[.int .i64 (S : Int), .slice LA ln lc, .slice none 0 0] 31)).alloc (.map #[] 0)).alloc (.cells #[.map (some (w.heap.size + 6))] 74)).alloc (.map #[] 0)).alloc (.cells #[.map (some (w.heap.size + 8))] 63)).alloc (.cells #[.nilFunc] 75)) Tryd.prog 77 (w.heap.size + 6) (fun _ => none) := by
    have h0 := MK.made ((((((w.alloc (.cells #[.int .i64 (S : Int)] 3)).alloc (.cells #[.slice LA ln lc] 22)).alloc (.cells #[.func (.func ip) #[] cp] 57)).alloc (.cells #[.func (.func ie) #[] ce] 58)).alloc (.cells #[.int .i64 0, .slice none 0 0, .slice none 0 0] 31)).alloc (.cells #[.int .i64 (S : Int), .slice LA ln lc, .slice none 0 0] 31)) Tryd.prog 77
    simp only [World.size_alloc, Nat.add_assoc, Nat.reduceAdd] at h0
    exact ((((h0.alloc _).alloc _).alloc _).alloc _)
  have R8 : MK (((((((((((w.alloc (.cells #[.int .i64 (S : Int)] 3)).alloc (.cells #[.slice LA ln lc] 22)).alloc (.cells #[.func (.func ip) #[] cp] 57)).alloc (.cells #[.func (.func ie) #[] ce] 58)).alloc (.cells #[.int .i64 0, .slice none 0 0, .slice none 0 0] 31)).alloc (.cells #[.int .i64 (S : Int), .slice LA ln lc, .slice none 0 0] 31)).alloc (.map #[] 0)).alloc (.cells #[.map (some (w.heap.size + 6))] 74)).alloc (.map #[] 0)).alloc (.cells #[.map (some (w.heap.size + 8))] 63)).alloc (.cells #[.nilFunc] 75)) Tryd.prog 9 (w.heap.size + 8) (fun _ => none) := by
    have h0 := MK.made ((((((((w.alloc (.cells #[.int .i64 (S : Int)] 3)).alloc (.cells #[.slice LA ln lc] 22)).alloc (.cells #[.func (.func ip) #[] cp] 57)).alloc (.cells #[.func (.func ie) #[] ce] 58)).alloc (.cells #[.int .i64 0, .slice none 0 0, .slice none 0 0] 31)).alloc (.cells #[.int .i64 (S : Int), .slice LA ln lc, .slice none 0 0] 31)).alloc (.map #[] 0)).alloc (.cells #[.map (some (w.heap.size + 6))] 74)) Tryd.prog 9
    simp only [World.size_alloc, Nat.add_assoc, Nat.reduceAdd] at h0
    exact ((h0.alloc _).alloc _)
  have hBW : Below w.heap.size w (((((((((((w.alloc (.cells #[.int .i64 (S : Int)] 3)).alloc (.cells #[.slice LA ln lc] 22)).alloc (.cells #[.func (.func ip) #[] cp] 57)).alloc (.cells #[.func (.func ie) #[] ce] 58)).alloc (.cells #[.int .i64 0, .slice none 0 0, .slice none 0 0] 31)).alloc (.cells #[.int .i64 (S : Int), .slice LA ln lc, .slice none 0 0] 31)).alloc (.map #[] 0)).alloc (.cells #[.map (some (w.heap.size + 6))] 74)).alloc (.map #[] 0)).alloc (.cells #[.map (some (w.heap.size + 8))] 63)).alloc (.cells #[.nilFunc] 75)) := by go_grown
  have hsz : (((((((((((w.alloc (.cells #[.int .i64 (S : Int)] 3)).alloc (.cells #[.slice LA ln lc] 22)).alloc (.cells #[.func (.func ip) #[] cp] 57)).alloc (.cells #[.func (.func ie) #[] ce] 58)).alloc (.cells #[.int .i64 0, .slice none 0 0, .slice none 0 0] 31)).alloc (.cells #[.int .i64 (S : Int), .slice LA ln lc, .slice none 0 0] 31)).alloc (.map #[] 0)).alloc (.cells #[.map (some (w.heap.size + 6))] 74)).alloc (.map #[] 0)).alloc (.cells #[.map (some (w.heap.size + 8))] 63)).alloc (.cells #[.nilFunc] 75)).heap.size = w.heap.size + 11 := by simp only [World.size_alloc, Nat.add_assoc, Nat.reduceAdd]
  clear hmm
  revert R0 R1 R2 R3 R4 R5 R7 R9 R10 R6 R8 hBW hsz
  generalize (((((((((((w.alloc (.cells #[.int .i64 (S : Int)] 3)).alloc (.cells #[.slice LA ln lc] 22)).alloc (.cells #[.func (.func ip) #[] cp] 57)).alloc (.cells #[.func (.func ie) #[] ce] 58)).alloc (.cells #[.int .i64 0, .slice none 0 0, .slice none 0 0] 31)).alloc (.cells #[.int .i64 (S : Int), .slice LA ln lc, .slice none 0 0] 31)).alloc (.map #[] 0)).alloc (.cells #[.map (some (w.heap.size + 6))] 74)).alloc (.map #[] 0)).alloc (.cells #[.map (some (w.heap.size + 8))] 63)).alloc (.cells #[.nilFunc] 75)) = w1
  intro R0 R1 R2 R3 R4 R5 R7 R9 R10 R6 R8 hBW hsz
  have HS : Hid (USt w ⟨w.heap.size, S, LA, ln, lc, ip, cp, ie, ce⟩ ⟨none, 0, []⟩ [] (KU.idsB []) (KU.seenF []) (w1.setCell ⟨w.heap.size + 10, 0, none⟩ (.func (.func 36) #[] #[.pointer (some ⟨w.heap.size + 1, 0, none⟩), .pointer (some ⟨w.heap.size + 3, 0, none⟩), .pointer (some ⟨w.heap.size + 7, 0, none⟩), .pointer (some ⟨w.heap.size, 0, none⟩), .pointer (some ⟨w.heap.size + 10, 0, none⟩), .pointer (some ⟨w.heap.size + 2, 0, none⟩), .pointer (some ⟨w.heap.size + 9, 0, none⟩), .pointer (some ⟨w.heap.size + 5, 0, none⟩)]))) := Lib.hid
    ⟨hBW.setCell (p := ⟨w.heap.size + 10, 0, none⟩) (by show w.heap.size ≤ w.heap.size + 10; omega) _, Nat.le_refl _, ⟨(R0.far (p := ⟨w.heap.size + 10, 0, none⟩) (by show w.heap.size ≠ w.heap.size + 10; omega) _), (R1.far (p := ⟨w.heap.size + 10, 0, none⟩) (by show w.heap.size + 1 ≠ w.heap.size + 10; omega) _), (R2.far (p := ⟨w.heap.size + 10, 0, none⟩) (by show w.heap.size + 2 ≠ w.heap.size + 10; omega) _), (R3.far (p := ⟨w.heap.size + 10, 0, none⟩) (by show w.heap.size + 3 ≠ w.heap.size + 10; omega) _), (R7.far (p := ⟨w.heap.size + 10, 0, none⟩) (by show w.heap.size + 7 ≠ w.heap.size + 10; omega) _), (R9.far (p := ⟨w.heap.size + 10, 0, none⟩) (by show w.heap.size + 9 ≠ w.heap.size + 10; omega) _), R10.set 0 _⟩, (R5.far (p := ⟨w.heap.size + 10, 0, none⟩) (by show w.heap.size + 5 ≠ w.heap.size + 10; omega) _), World.ownsRow_nil _ _ _ _, rfl, fun i hi => absurd hi (Nat.not_lt_zero _), (R8.set (p := ⟨w.heap.size + 10, 0, none⟩) (by show w.heap.size + 8 ≠ w.heap.size + 10; omega) _).congr (fun v => KU.idsB_nil v), (R6.set (p := ⟨w.heap.size + 10, 0, none⟩) (by show w.heap.size + 6 ≠ w.heap.size + 10; omega) _).congr (fun v => KU.seenF_nil v)⟩
  have HR4 : Hid (Row (w1.setCell ⟨w.heap.size + 10, 0, none⟩ (.func (.func 36) #[] #[.pointer (some ⟨w.heap.size + 1, 0, none⟩), .pointer (some ⟨w.heap.size + 3, 0, none⟩), .pointer (some ⟨w.heap.size + 7, 0, none⟩), .pointer (some ⟨w.heap.size, 0, none⟩), .pointer (some ⟨w.heap.size + 10, 0, none⟩), .pointer (some ⟨w.heap.size + 2, 0, none⟩), .pointer (some ⟨w.heap.size + 9, 0, none⟩), .pointer (some ⟨w.heap.size + 5, 0, none⟩)])) (w.heap.size + 4) 31 [.int .i64 0, .slice none 0 0, .slice none 0 0]) := Lib.hid (R4.far (p := ⟨w.heap.size + 10, 0, none⟩) (by show w.heap.size + 4 ≠ w.heap.size + 10; omega) _)
  have z0 := R10.cell 0
  have zf := R10.frozen 0
  have zl := R10.lt
  simp only [List.getElem?_cons_zero] at z0
  clear R0 R1 R2 R3 R4 R5 R7 R9 R10 R6 R8 hBW hsz
  go_upto_region 6 with fail
  clear z0 zf zl
  revert HS HR4
  generalize (w1.setCell ⟨w.heap.size + 10, 0, none⟩ (.func (.func 36) #[] #[.pointer (some ⟨w.heap.size + 1, 0, none⟩), .pointer (some ⟨w.heap.size + 3, 0, none⟩), .pointer (some ⟨w.heap.size + 7, 0, none⟩), .pointer (some ⟨w.heap.size, 0, none⟩), .pointer (some ⟨w.heap.size + 10, 0, none⟩), .pointer (some ⟨w.heap.size + 2, 0, none⟩), .pointer (some ⟨w.heap.size + 9, 0, none⟩), .pointer (some ⟨w.heap.size + 5, 0, none⟩)])) = w2
  intro HS HR4
  have HOK : Hid (KU.UOk S M Us ⟨[], []⟩) := Lib.hid ⟨⟨by simp, by simp⟩, Nat.le_refl _, by simp, by simp, by simp⟩
  have HC := Lib.hid (visit_any w ⟨w.heap.size, S, LA, ln, lc, ip, cp, ie, ce⟩ step fin K ln M Us HX.out ln 0 s ⟨[], []⟩ ⟨none, 0, []⟩ w2 (by omega) HK.out HOK.out HS.out)
  have HVR := Lib.hid (KU.visit_res HX.out.hyp ln s ⟨[], []⟩ (Nat.le_refl _) (by rw [Nat.sub_self]; exact HK.out) HOK.out)
  have HM3 := HX.out.hyp.M30
  have HUM := HX.out.hyp.UM
  have HS8 := HX.out.s8
  dsimp only at HVR HS8
  have v0 := HS.out.box.q10.cell 0
  have vl := HS.out.box.q10.lt
  dsimp only [UEnv.vf] at v0 vl HC
  simp only [List.getElem?_cons_zero] at v0
  rw [Int.natCast_zero] at HC
  go_wp2_with fail
  refine HC.out.mono ?_
  rintro e w3 ⟨p, rfl, hb, hm⟩
  have HB3 := Lib.hid hb
  have HR3 : Hid (Row w3 (w.heap.size + 4) 31 [.int .i64 0, .slice none 0 0, .slice none 0 0]) := Lib.hid (hm.kept.row HR4.out (HS.out.notFix (.inl (by show w.heap.size + 4 < w.heap.size + 5; omega))))
  clear hb hm HC v0 vl HS HR4
  obtain ⟨r, hr⟩ : ∃ r, KU.visitT S ln step fin ln s ⟨[], []⟩ = r := ⟨_, rfl⟩
  have HVT := Lib.hid hr
  rw [hr]
  rw [hr] at HVR HB3
  clear hr
  obtain ⟨k, bt⟩ := r
  dsimp only at HVR HB3 ⊢
  obtain ⟨NA, nc, sl⟩ := p
  have t0 := HB3.out.row.cell 0
  have t1 := HB3.out.row.cell 1
  have t2 := HB3.out.row.cell 2
  have tl := HB3.out.row.lt
  dsimp only [UEnv.cells] at t0 t1 t2 tl
  simp only [List.getElem?_cons_zero, List.getElem?_cons_succ] at t0 t1 t2
  have z0 := HR3.out.cell 0
  have z1 := HR3.out.cell 1
  have z2 := HR3.out.cell 2
  have zl := HR3.out.lt
  simp only [List.getElem?_cons_zero, List.getElem?_cons_succ] at z0 z1 z2
  have zf0 := HR3.out.frozen 0
  have zf1 := HR3.out.frozen 1
  have zf2 := HR3.out.frozen 2
  have HRZ : Hid (Row (((w3.setCell ⟨w.heap.size + 4, 0, none⟩ (.int .i64 (S : Int))).setCell ⟨w.heap.size + 4, 1, none⟩ (.slice LA ln lc)).setCell ⟨w.heap.size + 4, 2, none⟩ (.slice NA bt.ns.length nc)) (w.heap.size + 4) 31 [.int .i64 (S : Int), .slice LA ln lc, .slice NA bt.ns.length nc]) := Lib.hid (((HR3.out.set 0 (.int .i64 (S : Int))).set 1 (.slice LA ln lc)).set 2 (.slice NA bt.ns.length nc))
  have HK4 : Hid (Kept (· = w.heap.size + 4) w3 (((w3.setCell ⟨w.heap.size + 4, 0, none⟩ (.int .i64 (S : Int))).setCell ⟨w.heap.size + 4, 1, none⟩ (.slice LA ln lc)).setCell ⟨w.heap.size + 4, 2, none⟩ (.slice NA bt.ns.length nc))) := Lib.hid (((Kept.set (S := (· = w.heap.size + 4)) (Kept.refl _ w3) (p := ⟨w.heap.size + 4, 0, none⟩) (.inl rfl) _).set (p := ⟨w.heap.size + 4, 1, none⟩) (.inl rfl) _).set (p := ⟨w.heap.size + 4, 2, none⟩) (.inl rfl) _)
  have HTT : Hid (TOwn w.heap.size (((w3.setCell ⟨w.heap.size + 4, 0, none⟩ (.int .i64 (S : Int))).setCell ⟨w.heap.size + 4, 1, none⟩ (.slice LA ln lc)).setCell ⟨w.heap.size + 4, 2, none⟩ (.slice NA bt.ns.length nc)) bt.ns NA nc sl ∧ Below w.heap.size w (((w3.setCell ⟨w.heap.size + 4, 0, none⟩ (.int .i64 (S : Int))).setCell ⟨w.heap.size + 4, 1, none⟩ (.slice LA ln lc)).setCell ⟨w.heap.size + 4, 2, none⟩ (.slice NA bt.ns.length nc))) := Lib.hid (by
    have hbw := HK4.out.below (B := w.heap.size) (fun k hk => by omega) HB3.out.bel.size
    have hB := HB3.out.bel.trans hbw
    have hR : ∀ k, (⟨NA, nc, sl⟩ : UPos).R ⟨w.heap.size, S, LA, ln, lc, ip, cp, ie, ce⟩ k → ¬ k = w.heap.size + 4 := fun k hk e => by have := (HB3.out.lt hk).1; dsimp only at this; omega
    refine ⟨⟨own_base (HK4.out.own HB3.out.nown (fun k hk => hR k (.inr (.inr (.inr (.inl (by rw [← own_blk]; exact hk))))))) (by dsimp only; omega), HB3.out.sll, fun i hi => own_base (HK4.out.own (HB3.out.nxt i hi) (fun k hk => hR k (.inr (.inr (.inr (.inr ⟨i, by rw [HB3.out.sll]; exact hi, by rw [← own_blk]; exact hk⟩)))))) (by dsimp only; omega), fun x hx => ?_, ?_⟩, hB⟩
    · have h2 := (HVR.out.ok.ok.lev x hx).2
      omega
    · have := HVR.out.ok.le
      dsimp only at this
      omega)
  have d0 := HRZ.out.cell 0
  have d1 := HRZ.out.cell 1
  have d2 := HRZ.out.cell 2
  simp only [List.getElem?_cons_zero, List.getElem?_cons_succ] at d0 d1 d2
  go_wp2
  refine bodyPost_ret (v := .agg #[.int .i64 (S : Int), .slice LA ln lc, .slice NA bt.ns.length nc]) (by simp [results, Tryd.results20, go_sem, d0, d1, d2]) rfl ?_
  rw [HVT.out]
  exact ⟨NA, nc, sl, rfl, HTT.out.1, HTT.out.2⟩
end Go.Proofs.YtlmdjkmcplobnaaDoor

/-
  Elementary of the packages wolfram and totaltree; cellulartop's awakeTree, walked.
-/
namespace Go.Proofs.YtlmdjkmcplobnaaDoor
open Go.RowKit Go.Maps
set_option linter.unusedSimpArgs false
set_option linter.unusedVariables false
def wolfOk (n : Int) : Prop := 0 ≤ n ∧ n ≤ 255
instance (n : Int) : Decidable (wolfOk n) := by unfold wolfOk; exact inferInstance
def wolfAt (n : Int) (i : Nat) : List Int := (List.range 8).map (fun j => if j < i then n / 2 ^ j % 2 else 0)
def wolfL (n : Int) : List Int := if wolfOk n then wolfAt n 8 else List.replicate 8 0
def wolfErr (n : Int) : Int := if wolfOk n then 0 else 5
theorem wolfAt_len (n : Int) (i : Nat) : (wolfAt n i).length = 8 := by simp [wolfAt]
theorem wolfAt_get (n : Int) (i j : Nat) (h : j < 8) : (wolfAt n i).getD j 0 = if j < i then n / 2 ^ j % 2 else 0 := by
  simp [wolfAt, List.getD_eq_getElem?_getD, List.getElem?_range h]
theorem wolfAt_set (n : Int) (i : Nat) (h : i < 8) : (wolfAt n i).set i (n / 2 ^ i % 2) = wolfAt n (i + 1) := by
  apply List.ext_getElem (by simp [wolfAt])
  intro j h1 h2
  have hj : j < 8 := by simpa [wolfAt] using h2
  rw [List.getElem_set]
  simp only [wolfAt, List.getElem_map, List.getElem_range]
  by_cases e : i = j
  · subst e; simp
  · rw [if_neg e]
    by_cases e2 : j < i
    · rw [if_pos e2, if_pos (by omega)]
    · rw [if_neg e2, if_neg (by omega)]
theorem wolf_in (n : Int) (j : Nat) (h : j < 8) : 0 ≤ (wolfL n).getD j 0 ∧ (wolfL n).getD j 0 < 2 := by
  unfold wolfL
  split
  · rw [wolfAt_get n 8 j h, if_pos h]
    omega
  · have key : ∀ j, j < 8 → (List.replicate 8 (0 : Int)).getD j 0 = 0 := by decide
    rw [key j h]; omega
theorem eight (l : List Int) (h : l.length = 8) : ∃ a0 a1 a2 a3 a4 a5 a6 a7, l = [a0, a1, a2, a3, a4, a5, a6, a7] := by
  match l, h with
  | [a0, a1, a2, a3, a4, a5, a6, a7], _ => exact ⟨a0, a1, a2, a3, a4, a5, a6, a7, rfl⟩
set_option maxRecDepth 100000 in
set_option maxHeartbeats 4000000 in
theorem wolf_any (n : Int) (w : World) (hn64 : -9223372036854775808 ≤ n ∧ n ≤ 9223372036854775807) :
    Calls Tryd.prog 19 #[.int .i64 n] w fun e w' => e = .returned (.tuple #[.agg (ints (wolfL n)).toArray, .int .i64 (wolfErr n)]) ∧ Below w.heap.size w w' := by
  go_enter Tryd.func19, Tryd.ntmps19
  go_upto_region 2 with fail
  have RZ : Hid (Row (World.alloc (World.alloc w (.cells #[.int .i64 0, .int .i64 0, .int .i64 0, .int .i64 0, .int .i64 0, .int .i64 0, .int .i64 0, .int .i64 0] 52)) (.cells #[.int .i64 0, .int .i64 0, .int .i64 0, .int .i64 0, .int .i64 0, .int .i64 0, .int .i64 0, .int .i64 0] 52)) (w.heap.size) 52 [.int .i64 0, .int .i64 0, .int .i64 0, .int .i64 0, .int .i64 0, .int .i64 0, .int .i64 0, .int .i64 0]) := by
    have h0 := Row.new w 52 [.int .i64 0, .int .i64 0, .int .i64 0, .int .i64 0, .int .i64 0, .int .i64 0, .int .i64 0, .int .i64 0]
    try simp only [World.size_alloc] at h0
    exact (h0.alloc _)
  have RA : Hid (Row (World.alloc (World.alloc w (.cells #[.int .i64 0, .int .i64 0, .int .i64 0, .int .i64 0, .int .i64 0, .int .i64 0, .int .i64 0, .int .i64 0] 52)) (.cells #[.int .i64 0, .int .i64 0, .int .i64 0, .int .i64 0, .int .i64 0, .int .i64 0, .int .i64 0, .int .i64 0] 52)) (w.heap.size + 1) 52 [.int .i64 0, .int .i64 0, .int .i64 0, .int .i64 0, .int .i64 0, .int .i64 0, .int .i64 0, .int .i64 0]) := by
    have h0 := Row.new (World.alloc w (.cells #[.int .i64 0, .int .i64 0, .int .i64 0, .int .i64 0, .int .i64 0, .int .i64 0, .int .i64 0, .int .i64 0] 52)) 52 [.int .i64 0, .int .i64 0, .int .i64 0, .int .i64 0, .int .i64 0, .int .i64 0, .int .i64 0, .int .i64 0]
    try simp only [World.size_alloc] at h0
    exact h0
  have hgr9 : Below w.heap.size w (World.alloc (World.alloc w (.cells #[.int .i64 0, .int .i64 0, .int .i64 0, .int .i64 0, .int .i64 0, .int .i64 0, .int .i64 0, .int .i64 0] 52)) (.cells #[.int .i64 0, .int .i64 0, .int .i64 0, .int .i64 0, .int .i64 0, .int .i64 0, .int .i64 0, .int .i64 0] 52)) := by go_grown
  have B_w : Hid (Below w.heap.size w (World.alloc (World.alloc w (.cells #[.int .i64 0, .int .i64 0, .int .i64 0, .int .i64 0, .int .i64 0, .int .i64 0, .int .i64 0, .int .i64 0] 52)) (.cells #[.int .i64 0, .int .i64 0, .int .i64 0, .int .i64 0, .int .i64 0, .int .i64 0, .int .i64 0, .int .i64 0] 52))) := hgr9
  clear hgr9
  revert RZ RA B_w
  generalize (World.alloc (World.alloc w (.cells #[.int .i64 0, .int .i64 0, .int .i64 0, .int .i64 0, .int .i64 0, .int .i64 0, .int .i64 0, .int .i64 0] 52)) (.cells #[.int .i64 0, .int .i64 0, .int .i64 0, .int .i64 0, .int .i64 0, .int .i64 0, .int .i64 0, .int .i64 0] 52)) = w1
  intro RZ RA B_w
  by_cases hok : wolfOk n
  · have hok2 := hok
    obtain ⟨n0, n1⟩ := hok2
    have d0 : decide (n < 0) = false := decide_eq_false (by omega)
    have d1 : decide (255 < n) = false := decide_eq_false (by omega)
    have HE : Hid (wolfL n = wolfAt n 8 ∧ wolfErr n = 0) := Lib.hid ⟨if_pos hok, if_pos hok⟩
    clear hok
    have HRA : Hid (Row w1 (w.heap.size + 1) 52 (ints (wolfAt n 0))) := RA
    go_wp2
    go_loopg [5, 13] 8 (fun gg _ s13 wr => ∃ i : Nat, i ≤ 8 ∧ 8 - i ≤ gg ∧ s13 = .int .i64 (i : Int) ∧ Aside (Below w.heap.size w wr ∧ Row wr (w.heap.size + 1) 52 (ints (wolfAt n i)) ∧ Row wr w.heap.size 52 [.int .i64 0, .int .i64 0, .int .i64 0, .int .i64 0, .int .i64 0, .int .i64 0, .int .i64 0, .int .i64 0]))
    case atStart => exact ⟨0, by omega, by omega, rfl, B_w.out, HRA.out, RZ.out⟩
    case round =>
      obtain ⟨i, hi, hgg, rfl, hv⟩ := hrel
      have HB := Lib.hid hv.out.1
      have HR := Lib.hid hv.out.2.1
      have HZ := Lib.hid hv.out.2.2
      clear hv RZ RA B_w HRA
      by_cases hlt : i < 8
      · have hltz : (i : Int) < 8 := by omega
        have hi0 : (0 : Int) ≤ (i : Int) := by omega
        have hmin : min i 64 = i := by omega
        have HBT : Hid (bits .and .i64 (n / 2 ^ i) 1 = n / 2 ^ i % 2) := i64_and1 _
        have c0 := HR.out.cell i
        rw [ints_get _ _ (by rw [wolfAt_len]; exact hlt)] at c0
        have cf := HR.out.frozen i
        have cl := HR.out.lt
        revert c0
        generalize (wolfAt n i).getD i 0 = z
        intro c0
        have HRN : Hid (Row (wr.setCell ⟨w.heap.size + 1, i, none⟩ (.int .i64 (bits .and .i64 (n / 2 ^ i) 1))) (w.heap.size + 1) 52 (ints (wolfAt n (i + 1)))) := Lib.hid (by
          have h1 := HR.out.set i (.int .i64 (bits .and .i64 (n / 2 ^ i) 1))
          rw [← wolfAt_set n i hlt, ← HBT.out]
          have h2 : (ints (wolfAt n i)).set i (.int .i64 (bits .and .i64 (n / 2 ^ i) 1)) = ints ((wolfAt n i).set i (bits .and .i64 (n / 2 ^ i) 1)) := by unfold ints; rw [List.map_set]
          rw [← h2]; exact h1)
        have HZN := Lib.hid (HZ.out.far (p := ⟨w.heap.size + 1, i, none⟩) (by show w.heap.size ≠ w.heap.size + 1; omega) (.int .i64 (bits .and .i64 (n / 2 ^ i) 1)))
        have HBN := Lib.hid (HB.out.setCell (p := ⟨w.heap.size + 1, i, none⟩) (by show _ ≤ w.heap.size + 1; omega) (.int .i64 (bits .and .i64 (n / 2 ^ i) 1)))
        go_wp2
        go_roundg (8 - (i + 1))
        case measure => omega
        case rel => exact ⟨i + 1, by omega, by omega, by go_num, HBN.out, HRN.out, HZN.out⟩
      · have hltz : ¬ (i : Int) < 8 := by omega
        obtain rfl : i = 8 := by omega
        obtain ⟨a0, a1, a2, a3, a4, a5, a6, a7, h8⟩ := eight (wolfAt n 8) (wolfAt_len n 8)
        have HL := Lib.hid h8
        rw [h8] at HR
        clear h8
        have HR8 : Hid (Row wr (w.heap.size + 1) 52 [.int .i64 a0, .int .i64 a1, .int .i64 a2, .int .i64 a3, .int .i64 a4, .int .i64 a5, .int .i64 a6, .int .i64 a7]) := HR
        clear HR
        have k0 := HR8.out.cell 0
        have k1 := HR8.out.cell 1
        have k2 := HR8.out.cell 2
        have k3 := HR8.out.cell 3
        have k4 := HR8.out.cell 4
        have k5 := HR8.out.cell 5
        have k6 := HR8.out.cell 6
        have k7 := HR8.out.cell 7
        have kl := HR8.out.lt
        simp only [List.getElem?_cons_zero, List.getElem?_cons_succ] at k0 k1 k2 k3 k4 k5 k6 k7
        have z0 := HZ.out.cell 0
        have z1 := HZ.out.cell 1
        have z2 := HZ.out.cell 2
        have z3 := HZ.out.cell 3
        have z4 := HZ.out.cell 4
        have z5 := HZ.out.cell 5
        have z6 := HZ.out.cell 6
        have z7 := HZ.out.cell 7
        have zl := HZ.out.lt
        simp only [List.getElem?_cons_zero, List.getElem?_cons_succ] at z0 z1 z2 z3 z4 z5 z6 z7
        have zf0 := HZ.out.frozen 0
        have zf1 := HZ.out.frozen 1
        have zf2 := HZ.out.frozen 2
        have zf3 := HZ.out.frozen 3
        have zf4 := HZ.out.frozen 4
        have zf5 := HZ.out.frozen 5
        have zf6 := HZ.out.frozen 6
        have zf7 := HZ.out.frozen 7
        have HRF : Hid (Row ((((((((wr.setCell ⟨w.heap.size, 0, none⟩ (.int .i64 a0)).setCell ⟨w.heap.size, 1, none⟩ (.int .i64 a1)).setCell ⟨w.heap.size, 2, none⟩ (.int .i64 a2)).setCell ⟨w.heap.size, 3, none⟩ (.int .i64 a3)).setCell ⟨w.heap.size, 4, none⟩ (.int .i64 a4)).setCell ⟨w.heap.size, 5, none⟩ (.int .i64 a5)).setCell ⟨w.heap.size, 6, none⟩ (.int .i64 a6)).setCell ⟨w.heap.size, 7, none⟩ (.int .i64 a7)) w.heap.size 52 [.int .i64 a0, .int .i64 a1, .int .i64 a2, .int .i64 a3, .int .i64 a4, .int .i64 a5, .int .i64 a6, .int .i64 a7]) := Lib.hid ((((((((HZ.out.set 0 (.int .i64 a0)).set 1 (.int .i64 a1)).set 2 (.int .i64 a2)).set 3 (.int .i64 a3)).set 4 (.int .i64 a4)).set 5 (.int .i64 a5)).set 6 (.int .i64 a6)).set 7 (.int .i64 a7))
        have HBF : Hid (Below w.heap.size w ((((((((wr.setCell ⟨w.heap.size, 0, none⟩ (.int .i64 a0)).setCell ⟨w.heap.size, 1, none⟩ (.int .i64 a1)).setCell ⟨w.heap.size, 2, none⟩ (.int .i64 a2)).setCell ⟨w.heap.size, 3, none⟩ (.int .i64 a3)).setCell ⟨w.heap.size, 4, none⟩ (.int .i64 a4)).setCell ⟨w.heap.size, 5, none⟩ (.int .i64 a5)).setCell ⟨w.heap.size, 6, none⟩ (.int .i64 a6)).setCell ⟨w.heap.size, 7, none⟩ (.int .i64 a7))) := Lib.hid ((((((((HB.out.setCell (p := ⟨w.heap.size, 0, none⟩) (Nat.le_refl _) (.int .i64 a0)).setCell (p := ⟨w.heap.size, 1, none⟩) (Nat.le_refl _) (.int .i64 a1)).setCell (p := ⟨w.heap.size, 2, none⟩) (Nat.le_refl _) (.int .i64 a2)).setCell (p := ⟨w.heap.size, 3, none⟩) (Nat.le_refl _) (.int .i64 a3)).setCell (p := ⟨w.heap.size, 4, none⟩) (Nat.le_refl _) (.int .i64 a4)).setCell (p := ⟨w.heap.size, 5, none⟩) (Nat.le_refl _) (.int .i64 a5)).setCell (p := ⟨w.heap.size, 6, none⟩) (Nat.le_refl _) (.int .i64 a6)).setCell (p := ⟨w.heap.size, 7, none⟩) (Nat.le_refl _) (.int .i64 a7))
        have d0 := HRF.out.cell 0
        have d1 := HRF.out.cell 1
        have d2 := HRF.out.cell 2
        have d3 := HRF.out.cell 3
        have d4 := HRF.out.cell 4
        have d5 := HRF.out.cell 5
        have d6 := HRF.out.cell 6
        have d7 := HRF.out.cell 7
        have dl := HRF.out.lt
        simp only [List.getElem?_cons_zero, List.getElem?_cons_succ] at d0 d1 d2 d3 d4 d5 d6 d7
        go_wp2
        refine bodyPost_ret (v := .tuple #[.agg #[.int .i64 a0, .int .i64 a1, .int .i64 a2, .int .i64 a3, .int .i64 a4, .int .i64 a5, .int .i64 a6, .int .i64 a7], .int .i64 0]) (by simp [results, Tryd.results19, go_sem, d0, d1, d2, d3, d4, d5, d6, d7]) rfl ?_
        rw [HE.out.1, HE.out.2, HL.out]
        exact ⟨rfl, HBF.out⟩
  · have HE : Hid (wolfL n = List.replicate 8 0 ∧ wolfErr n = 5) := Lib.hid ⟨if_neg hok, if_neg hok⟩
    have HF : Hid (∀ _ : Unit, Ending.returned (.tuple #[.agg #[.int .i64 0, .int .i64 0, .int .i64 0, .int .i64 0, .int .i64 0, .int .i64 0, .int .i64 0, .int .i64 0], .int .i64 5]) = Ending.returned (.tuple #[.agg (ints (wolfL n)).toArray, .int .i64 (wolfErr n)])) := fun _ => by rw [HE.out.1, HE.out.2]; rfl
    have HRF : Hid (Row ((((((((w1.setCell ⟨w.heap.size, 0, none⟩ (.int .i64 0)).setCell ⟨w.heap.size, 1, none⟩ (.int .i64 0)).setCell ⟨w.heap.size, 2, none⟩ (.int .i64 0)).setCell ⟨w.heap.size, 3, none⟩ (.int .i64 0)).setCell ⟨w.heap.size, 4, none⟩ (.int .i64 0)).setCell ⟨w.heap.size, 5, none⟩ (.int .i64 0)).setCell ⟨w.heap.size, 6, none⟩ (.int .i64 0)).setCell ⟨w.heap.size, 7, none⟩ (.int .i64 0)) w.heap.size 52 [.int .i64 0, .int .i64 0, .int .i64 0, .int .i64 0, .int .i64 0, .int .i64 0, .int .i64 0, .int .i64 0]) := Lib.hid ((((((((RZ.out.set 0 (.int .i64 0)).set 1 (.int .i64 0)).set 2 (.int .i64 0)).set 3 (.int .i64 0)).set 4 (.int .i64 0)).set 5 (.int .i64 0)).set 6 (.int .i64 0)).set 7 (.int .i64 0))
    have HBF : Hid (Below w.heap.size w ((((((((w1.setCell ⟨w.heap.size, 0, none⟩ (.int .i64 0)).setCell ⟨w.heap.size, 1, none⟩ (.int .i64 0)).setCell ⟨w.heap.size, 2, none⟩ (.int .i64 0)).setCell ⟨w.heap.size, 3, none⟩ (.int .i64 0)).setCell ⟨w.heap.size, 4, none⟩ (.int .i64 0)).setCell ⟨w.heap.size, 5, none⟩ (.int .i64 0)).setCell ⟨w.heap.size, 6, none⟩ (.int .i64 0)).setCell ⟨w.heap.size, 7, none⟩ (.int .i64 0))) := Lib.hid ((((((((B_w.out.setCell (p := ⟨w.heap.size, 0, none⟩) (Nat.le_refl _) (.int .i64 0)).setCell (p := ⟨w.heap.size, 1, none⟩) (Nat.le_refl _) (.int .i64 0)).setCell (p := ⟨w.heap.size, 2, none⟩) (Nat.le_refl _) (.int .i64 0)).setCell (p := ⟨w.heap.size, 3, none⟩) (Nat.le_refl _) (.int .i64 0)).setCell (p := ⟨w.heap.size, 4, none⟩) (Nat.le_refl _) (.int .i64 0)).setCell (p := ⟨w.heap.size, 5, none⟩) (Nat.le_refl _) (.int .i64 0)).setCell (p := ⟨w.heap.size, 6, none⟩) (Nat.le_refl _) (.int .i64 0)).setCell (p := ⟨w.heap.size, 7, none⟩) (Nat.le_refl _) (.int .i64 0))
    have k0 := RA.out.cell 0
    have k1 := RA.out.cell 1
    have k2 := RA.out.cell 2
    have k3 := RA.out.cell 3
    have k4 := RA.out.cell 4
    have k5 := RA.out.cell 5
    have k6 := RA.out.cell 6
    have k7 := RA.out.cell 7
    have kl := RA.out.lt
    simp only [List.getElem?_cons_zero, List.getElem?_cons_succ] at k0 k1 k2 k3 k4 k5 k6 k7
    have z0 := RZ.out.cell 0
    have z1 := RZ.out.cell 1
    have z2 := RZ.out.cell 2
    have z3 := RZ.out.cell 3
    have z4 := RZ.out.cell 4
    have z5 := RZ.out.cell 5
    have z6 := RZ.out.cell 6
    have z7 := RZ.out.cell 7
    have zl := RZ.out.lt
    simp only [List.getElem?_cons_zero, List.getElem?_cons_succ] at z0 z1 z2 z3 z4 z5 z6 z7
    have zf0 := RZ.out.frozen 0
    have zf1 := RZ.out.frozen 1
    have zf2 := RZ.out.frozen 2
    have zf3 := RZ.out.frozen 3
    have zf4 := RZ.out.frozen 4
    have zf5 := RZ.out.frozen 5
    have zf6 := RZ.out.frozen 6
    have zf7 := RZ.out.frozen 7
    have d0 := HRF.out.cell 0
    have d1 := HRF.out.cell 1
    have d2 := HRF.out.cell 2
    have d3 := HRF.out.cell 3
    have d4 := HRF.out.cell 4
    have d5 := HRF.out.cell 5
    have d6 := HRF.out.cell 6
    have d7 := HRF.out.cell 7
    have dl := HRF.out.lt
    simp only [List.getElem?_cons_zero, List.getElem?_cons_succ] at d0 d1 d2 d3 d4 d5 d6 d7
    by_cases h0 : n < 0
    · have d0' : decide (n < 0) = true := decide_eq_true h0
      clear hok
      go_wp2
      refine bodyPost_ret (v := .tuple #[.agg #[.int .i64 0, .int .i64 0, .int .i64 0, .int .i64 0, .int .i64 0, .int .i64 0, .int .i64 0, .int .i64 0], .int .i64 5]) (by simp [results, Tryd.results19, go_sem, d0, d1, d2, d3, d4, d5, d6, d7]) rfl ?_
      exact ⟨HF.out (), HBF.out⟩
    · have d0' : decide (n < 0) = false := decide_eq_false h0
      have d1' : decide (255 < n) = true := decide_eq_true (by unfold wolfOk at hok; omega)
      clear hok
      go_wp2
      refine bodyPost_ret (v := .tuple #[.agg #[.int .i64 0, .int .i64 0, .int .i64 0, .int .i64 0, .int .i64 0, .int .i64 0, .int .i64 0, .int .i64 0], .int .i64 5]) (by simp [results, Tryd.results19, go_sem, d0, d1, d2, d3, d4, d5, d6, d7]) rfl ?_
      exact ⟨HF.out (), HBF.out⟩
def rowL : List Pt := [⟨-1, 0⟩, ⟨0, 0⟩, ⟨1, 0⟩]
theorem row_any (w : World) : Calls Tryd.prog 21 #[] w fun e w' => e = .returned (.slice (some ⟨w.heap.size, 0, none⟩) 3 3) ∧ Row w' w.heap.size 70 (hoodCells rowL) ∧ Below w.heap.size w w' := by
  go_enter Tryd.func21, Tryd.ntmps21
  go_wp2
  go_ret
  exact ⟨rfl, Row.new w 70 (hoodCells rowL), by go_grown⟩
theorem clos1_any (s a j : Int) (w : World) (hs : -1000 ≤ s ∧ s ≤ 1000) (hj : -1000 ≤ j ∧ j ≤ 1000) : Calls Tryd.prog 22 #[.int .i64 s, .int .i64 a, .int .i64 j] w fun e w' => e = .returned (.int .i64 (2 * s + j)) ∧ Below w.heap.size w w' := by
  go_enter Tryd.func22, Tryd.ntmps22
  go_wp2
  go_ret
  exact ⟨rfl, Below.refl _ _⟩
theorem clos2_any (l : List Int) (hl : l.length = 8) (lb : Nat) (s : Nat) (hs : s < 8) (w : World) (hr : Row w lb 52 (ints l)) : Calls Tryd.prog 23 #[.int .i64 (s : Int), .pointer (some ⟨lb, 0, none⟩)] w fun e w' => e = .returned (.int .i64 (l.getD s 0)) ∧ Below w.heap.size w w' := by
  have c0 := hr.cell s
  rw [ints_get _ _ (by omega)] at c0
  have cl := hr.lt
  have h0 : (0 : Int) ≤ (s : Int) := by omega
  have h1 : (s : Int) < 8 := by omega
  revert c0
  generalize l.getD s 0 = z
  intro c0
  clear hr
  go_enter Tryd.func23, Tryd.ntmps23
  go_wp2
  go_ret
  exact ⟨rfl, Below.refl _ _⟩
/-- The places of an elementary rule. -/
def elemK (a : Nat) (s : Int) : Prop := a ≤ 3 ∧ 0 ≤ s ∧ s < 2 ^ a
def elemUs : List (Int × Int) := (List.range 3).flatMap (fun (a : Nat) => (List.range 8).map (fun (s : Nat) => ((a : Int), (s : Int))))
def elemFin (n s : Int) : Int := (wolfL n).getD s.toNat 0
def elemStep (s a j : Int) : Int := 2 * s + j
def elemNs (n : Int) : List Nd := (KU.visitT 2 3 elemStep (elemFin n) 3 0 ⟨[], []⟩).2.ns
def elemT (n : Int) : Tre := if wolfOk n then ⟨2, rowL, elemNs n⟩ else noTre
theorem elem_small {a : Nat} {s : Int} (h : elemK a s) : 0 ≤ s ∧ s < 8 := by
  obtain ⟨h1, h2, h3⟩ := h
  match a, h1 with
  | 0, _ => simp at h3; omega
  | 1, _ => simp at h3; omega
  | 2, _ => simp at h3; omega
  | 3, _ => simp at h3; omega
theorem elem_hyp (n : Int) : KU.UHyp 2 3 24 elemUs elemStep (elemFin n) elemK where
  step a s j ha hk hj := by
    obtain ⟨h1, h2, h3⟩ := hk
    refine ⟨by omega, by unfold elemStep; omega, ?_⟩
    unfold elemStep
    rw [Int.pow_succ]
    omega
  us a s ha hk := by
    have h8 := elem_small hk
    unfold elemUs
    rw [List.mem_flatMap]
    refine ⟨a, List.mem_range.2 ha, List.mem_map.2 ⟨s.toNat, List.mem_range.2 (by omega), ?_⟩⟩
    rw [Int.toNat_of_nonneg h8.1]
  fin s hk := by
    have h8 := elem_small hk
    have := wolf_in n s.toNat (by omega)
    unfold elemFin
    omega
  H25 := by omega
  UM := by decide
  M30 := by omega
set_option maxRecDepth 100000 in
set_option maxHeartbeats 4000000 in
theorem elementary_any (n : Int) (w : World) (hn64 : -9223372036854775808 ≤ n ∧ n ≤ 9223372036854775807) (htab : Lib.TabBelow Tryd.prog w.heap.size w "internal/strconv.uint64pow10" .u64 Lib.pow10Tab) :
    Calls Tryd.prog 8 #[.int .i64 n] w (TPost (elemT n) (wolfErr n) w) := by
  have HT := Lib.hid htab
  have HC := Lib.hid (fun W => wolf_any n W hn64)
  clear htab
  go_enter Tryd.func8, Tryd.ntmps8
  go_upto_region 1 with fail
  have RZ : Hid (Row (World.alloc w (.cells #[.int .i64 0, .slice none 0 0, .slice none 0 0] 31)) (w.heap.size) 31 [.int .i64 0, .slice none 0 0, .slice none 0 0]) := by
    have h0 := Row.new w 31 [.int .i64 0, .slice none 0 0, .slice none 0 0]
    try simp only [World.size_alloc] at h0
    exact h0
  have hgr9 : Below w.heap.size w (World.alloc w (.cells #[.int .i64 0, .slice none 0 0, .slice none 0 0] 31)) := by go_grown
  have B_w : Hid (Below w.heap.size w (World.alloc w (.cells #[.int .i64 0, .slice none 0 0, .slice none 0 0] 31))) := hgr9
  clear hgr9
  revert RZ B_w
  generalize (World.alloc w (.cells #[.int .i64 0, .slice none 0 0, .slice none 0 0] 31)) = w1
  intro RZ B_w
  have hl8 : (wolfL n).length = 8 := by
    unfold wolfL
    split
    · exact wolfAt_len n 8
    · rfl
  obtain ⟨a0, a1, a2, a3, a4, a5, a6, a7, h8⟩ := eight (wolfL n) hl8
  have HL := Lib.hid h8
  rw [h8] at HC
  clear h8 hl8
  go_wp2_with fail
  refine (HC.out _).mono ?_
  rintro e w2 ⟨rfl, hb⟩
  have hsh : (ints [a0, a1, a2, a3, a4, a5, a6, a7]).toArray = #[.int .i64 a0, .int .i64 a1, .int .i64 a2, .int .i64 a3, .int .i64 a4, .int .i64 a5, .int .i64 a6, .int .i64 a7] := rfl
  rw [hsh]
  clear hsh HC
  have B_w : Hid (Below w.heap.size w w2) := below_on2 B_w.out hb
  have B_w1 : Hid (Below w1.heap.size w1 w2) := hb
  clear hb
  go_upto_region 2 with fail
  have RL : Hid (Row (World.alloc w2 (.cells #[.int .i64 a0, .int .i64 a1, .int .i64 a2, .int .i64 a3, .int .i64 a4, .int .i64 a5, .int .i64 a6, .int .i64 a7] 52)) (w2.heap.size) 52 [.int .i64 a0, .int .i64 a1, .int .i64 a2, .int .i64 a3, .int .i64 a4, .int .i64 a5, .int .i64 a6, .int .i64 a7]) := by
    have h0 := Row.new w2 52 [.int .i64 a0, .int .i64 a1, .int .i64 a2, .int .i64 a3, .int .i64 a4, .int .i64 a5, .int .i64 a6, .int .i64 a7]
    try simp only [World.size_alloc] at h0
    exact h0
  have hgr9 : Below w2.heap.size w2 (World.alloc w2 (.cells #[.int .i64 a0, .int .i64 a1, .int .i64 a2, .int .i64 a3, .int .i64 a4, .int .i64 a5, .int .i64 a6, .int .i64 a7] 52)) := by go_grown
  have B_w : Hid (Below w.heap.size w (World.alloc w2 (.cells #[.int .i64 a0, .int .i64 a1, .int .i64 a2, .int .i64 a3, .int .i64 a4, .int .i64 a5, .int .i64 a6, .int .i64 a7] 52))) := below_on2 B_w.out hgr9
  have B_w1 : Hid (Below w1.heap.size w1 (World.alloc w2 (.cells #[.int .i64 a0, .int .i64 a1, .int .i64 a2, .int .i64 a3, .int .i64 a4, .int .i64 a5, .int .i64 a6, .int .i64 a7] 52))) := below_on2 B_w1.out hgr9
  have B_w2 : Hid (Below w2.heap.size w2 (World.alloc w2 (.cells #[.int .i64 a0, .int .i64 a1, .int .i64 a2, .int .i64 a3, .int .i64 a4, .int .i64 a5, .int .i64 a6, .int .i64 a7] 52))) := hgr9
  clear hgr9
  revert RL B_w B_w1 B_w2
  generalize (World.alloc w2 (.cells #[.int .i64 a0, .int .i64 a1, .int .i64 a2, .int .i64 a3, .int .i64 a4, .int .i64 a5, .int .i64 a6, .int .i64 a7] 52)) = w3
  intro RL B_w B_w1 B_w2
  have HS3 : Hid (w.heap.size < w3.heap.size) := Lib.hid (by have := (show Row w1 w.heap.size _ _ from RZ.out).lt; have := B_w1.out.size; omega)
  by_cases hok : wolfOk n
  · have HE : Hid (elemT n = ⟨2, rowL, elemNs n⟩) := if_pos hok
    have HE0 : Hid (wolfErr n = 0) := if_pos hok
    rw [show wolfErr n = 0 from if_pos hok]
    clear hok
    go_wp2_with fail
    refine (row_any w3).mono ?_
    rintro e w4 ⟨rfl, hrow, hb⟩
    have HRow := Lib.hid hrow
    clear hrow
    have B_w : Hid (Below w.heap.size w w4) := below_on2 B_w.out hb
    have B_w1 : Hid (Below w1.heap.size w1 w4) := below_on2 B_w1.out hb
    have B_w2 : Hid (Below w2.heap.size w2 w4) := below_on2 B_w2.out hb
    have B_w3 : Hid (Below w3.heap.size w3 w4) := hb
    clear hb
    have RL4 : Hid (Row w4 w2.heap.size 52 (ints (wolfL n))) := Lib.hid (by
      rw [HL.out]
      exact (rowCells RL.out B_w3.out))
    have HV : VHyp w4 ⟨w4.heap.size, 2, some ⟨w3.heap.size, 0, none⟩, 3, 3, 22, #[], 23, #[.pointer (some ⟨w2.heap.size, 0, none⟩)]⟩ elemStep (elemFin n) elemK 3 24 elemUs :=
      { hyp := elem_hyp n
        ln := rfl
        s8 := by show 2 ≤ 8; omega
        ep := enters Tryd.func22 (by kernel_rfl) rfl
        ee := enters Tryd.func23 (by kernel_rfl) rfl
        cstep := fun a s j W ha hk hj hb => by
          have h8 := elem_small hk
          dsimp only at hj
          exact clos1_any s a j W (by omega) (by omega)
        cfin := fun s W hk hb => by
          have h8 := elem_small hk
          have := clos2_any (wolfL n) (by rw [HL.out]; rfl) w2.heap.size s.toNat (by omega) W (rowCells RL4.out hb)
          rw [Int.toNat_of_nonneg h8.1] at this
          exact this
        sb := fun a s ha hk => wf_small (by have := elem_small hk; omega)
        tab := tab_up HT.out B_w.out B_w.out.size }
    have HB : Hid (Calls Tryd.prog 20 #[.int .i64 2, .slice (some ⟨w3.heap.size, 0, none⟩) 3 3, .int .i64 0, .func (.func 22) #[] #[], .func (.func 23) #[] #[.pointer (some ⟨w2.heap.size, 0, none⟩)]] w4 (TrPost ⟨2, rowL, elemNs n⟩ (some ⟨w3.heap.size, 0, none⟩) 3 3 w4)) :=
      Lib.hid (buildI_any w4 2 (some ⟨w3.heap.size, 0, none⟩) 3 3 0 _ _ _ _ rowL elemStep (elemFin n) elemK 24 elemUs HV ⟨by omega, by decide, by decide⟩)
    clear HV RL4
    go_wp2_with fail
    refine HB.out.mono ?_
    rintro e w5 ⟨NA, nc, sl, rfl, hat, hb⟩
    have HAT := Lib.hid hat
    dsimp only
    clear hat HB
    have B_w : Hid (Below w.heap.size w w5) := below_on2 B_w.out hb
    have B_w1 : Hid (Below w1.heap.size w1 w5) := below_on2 B_w1.out hb
    have B_w2 : Hid (Below w2.heap.size w2 w5) := below_on2 B_w2.out hb
    have B_w3 : Hid (Below w3.heap.size w3 w5) := below_on2 B_w3.out hb
    have B_w4 : Hid (Below w4.heap.size w4 w5) := hb
    clear hb
    have HH5 : Hid (Row w5 w3.heap.size 70 (hoodCells rowL)) := Lib.hid (rowCells HRow.out B_w4.out)
    have HR5 : Hid (Row w5 w.heap.size 31 [.int .i64 0, .slice none 0 0, .slice none 0 0]) := (rowCells RZ.out B_w1.out)
    have z0 := HR5.out.cell 0
    have z1 := HR5.out.cell 1
    have z2 := HR5.out.cell 2
    have zl := HR5.out.lt
    simp only [List.getElem?_cons_zero, List.getElem?_cons_succ] at z0 z1 z2
    have zf0 := HR5.out.frozen 0
    have zf1 := HR5.out.frozen 1
    have zf2 := HR5.out.frozen 2
    have hs3 := HS3.out
    have hs4 : w.heap.size < w4.heap.size := by have := (show Row w3 w2.heap.size _ _ from RL.out).lt; have := HRow.out.lt; omega
    have HRF : Hid (Row (((w5.setCell ⟨w.heap.size, 0, none⟩ (.int .i64 2)).setCell ⟨w.heap.size, 1, none⟩ (.slice (some ⟨w3.heap.size, 0, none⟩) 3 3)).setCell ⟨w.heap.size, 2, none⟩ (.slice NA (elemNs n).length nc)) w.heap.size 31 [.int .i64 2, .slice (some ⟨w3.heap.size, 0, none⟩) 3 3, .slice NA (elemNs n).length nc]) := Lib.hid (((HR5.out.set 0 _).set 1 _).set 2 _)
    have HTF : Hid (TOwn w4.heap.size (((w5.setCell ⟨w.heap.size, 0, none⟩ (.int .i64 2)).setCell ⟨w.heap.size, 1, none⟩ (.slice (some ⟨w3.heap.size, 0, none⟩) 3 3)).setCell ⟨w.heap.size, 2, none⟩ (.slice NA (elemNs n).length nc)) (elemNs n) NA nc sl) := Lib.hid (((HAT.out.set (p := ⟨w.heap.size, 0, none⟩) hs4 _).set (p := ⟨w.heap.size, 1, none⟩) hs4 _).set (p := ⟨w.heap.size, 2, none⟩) hs4 _)
    have HHF : Hid (Row (((w5.setCell ⟨w.heap.size, 0, none⟩ (.int .i64 2)).setCell ⟨w.heap.size, 1, none⟩ (.slice (some ⟨w3.heap.size, 0, none⟩) 3 3)).setCell ⟨w.heap.size, 2, none⟩ (.slice NA (elemNs n).length nc)) w3.heap.size 70 (hoodCells rowL)) := Lib.hid (((HH5.out.far (p := ⟨w.heap.size, 0, none⟩) (by show w3.heap.size ≠ w.heap.size; omega) _).far (p := ⟨w.heap.size, 1, none⟩) (by show w3.heap.size ≠ w.heap.size; omega) _).far (p := ⟨w.heap.size, 2, none⟩) (by show w3.heap.size ≠ w.heap.size; omega) _)
    have HBF : Hid (Below w.heap.size w (((w5.setCell ⟨w.heap.size, 0, none⟩ (.int .i64 2)).setCell ⟨w.heap.size, 1, none⟩ (.slice (some ⟨w3.heap.size, 0, none⟩) 3 3)).setCell ⟨w.heap.size, 2, none⟩ (.slice NA (elemNs n).length nc))) := Lib.hid (((B_w.out.setCell (p := ⟨w.heap.size, 0, none⟩) (Nat.le_refl _) _).setCell (p := ⟨w.heap.size, 1, none⟩) (Nat.le_refl _) _).setCell (p := ⟨w.heap.size, 2, none⟩) (Nat.le_refl _) _)
    have d0 := HRF.out.cell 0
    have d1 := HRF.out.cell 1
    have d2 := HRF.out.cell 2
    have dl := HRF.out.lt
    simp only [List.getElem?_cons_zero, List.getElem?_cons_succ] at d0 d1 d2
    go_wp2
    refine bodyPost_ret (v := .tuple #[.agg #[.int .i64 2, .slice (some ⟨w3.heap.size, 0, none⟩) 3 3, .slice NA (elemNs n).length nc], .int .i64 0]) (by simp [results, Tryd.results8, go_sem, d0, d1, d2]) rfl ?_
    rw [HE.out, HE0.out]
    exact ⟨_, _, 3, 3, _, _, _, rfl, HTF.out.tat (HHF.out.rd rfl) (by unfold maxLen; omega), HBF.out⟩
  · have HE : Hid (elemT n = noTre) := if_neg hok
    have HE0 : Hid (wolfErr n = 5) := if_neg hok
    rw [show wolfErr n = 5 from if_neg hok]
    clear hok
    have HR5 : Hid (Row w3 w.heap.size 31 [.int .i64 0, .slice none 0 0, .slice none 0 0]) := (rowCells RZ.out B_w1.out)
    have z0 := HR5.out.cell 0
    have z1 := HR5.out.cell 1
    have z2 := HR5.out.cell 2
    have zl := HR5.out.lt
    simp only [List.getElem?_cons_zero, List.getElem?_cons_succ] at z0 z1 z2
    have zf0 := HR5.out.frozen 0
    have zf1 := HR5.out.frozen 1
    have zf2 := HR5.out.frozen 2
    have HRF : Hid (Row (((w3.setCell ⟨w.heap.size, 0, none⟩ (.int .i64 0)).setCell ⟨w.heap.size, 1, none⟩ (.slice none 0 0)).setCell ⟨w.heap.size, 2, none⟩ (.slice none 0 0)) w.heap.size 31 [.int .i64 0, .slice none 0 0, .slice none 0 0]) := Lib.hid (((HR5.out.set 0 _).set 1 _).set 2 _)
    have HBF : Hid (Below w.heap.size w (((w3.setCell ⟨w.heap.size, 0, none⟩ (.int .i64 0)).setCell ⟨w.heap.size, 1, none⟩ (.slice none 0 0)).setCell ⟨w.heap.size, 2, none⟩ (.slice none 0 0))) := Lib.hid (((B_w.out.setCell (p := ⟨w.heap.size, 0, none⟩) (Nat.le_refl _) _).setCell (p := ⟨w.heap.size, 1, none⟩) (Nat.le_refl _) _).setCell (p := ⟨w.heap.size, 2, none⟩) (Nat.le_refl _) _)
    have d0 := HRF.out.cell 0
    have d1 := HRF.out.cell 1
    have d2 := HRF.out.cell 2
    have dl := HRF.out.lt
    simp only [List.getElem?_cons_zero, List.getElem?_cons_succ] at d0 d1 d2
    go_wp2
    refine bodyPost_ret (v := .tuple #[.agg #[.int .i64 0, .slice none 0 0, .slice none 0 0], .int .i64 5]) (by simp [results, Tryd.results8, go_sem, d0, d1, d2]) rfl ?_
    rw [HE.out, HE0.out]
    exact tpost_err rfl HBF.out
end Go.Proofs.YtlmdjkmcplobnaaDoor
