/-
  solve's engine: newEngine, walked.
-/
import Derived.Test.YtbomfekfebamkaaVC11
import Derived.Test.YtbomfekfebamkaaVC5
import Derived.Test.YtbomfekfebamkaaVC2
import Derived.Test.YtbomfekfebamkaaVC7
namespace Go.Proofs.Ytbomfekfebamkaa
open Go.RowKit Go.Maps
set_option linter.unusedSimpArgs false
set_option linter.unusedVariables false
theorem new_snoc (n : Nat) (N : List (List Int)) (l : List Int) : V.newAll (V.startE n, false) (N ++ [l]) = V.newStep (V.newAll (V.startE n, false) N) l := by
  simp [V.newAll, List.foldl_append]
theorem new_wf {n : Nat} (N : List (List Int)) (hN : ∀ c ∈ N, V.litsOk n c) : ∃ F, V.WF n F (V.newAll (V.startE n, false) N).1 := by
  obtain ⟨F, k1, _⟩ := V.new_spec (n := n) N [] [] (V.startE n, false) (V.start_wf n) rfl hN (fun q => by simp at q) (fun _ A => by simp [V.SatN, V.SatF, V.startE])
  exact ⟨F, k1⟩
theorem nrm_ok {n : Nat} {c : List Int} (h : ∀ x ∈ c, V.lit n x) : V.litsOk n (nrmI c) := ⟨nrm_nodup c, fun x hx => h x ((nrm_mem c x).1 hx)⟩
theorem new_cl (n : Nat) : ∀ (N : List (List Int)) (s : V.En × Bool), (V.newAll s N).1.cl.length ≤ s.1.cl.length + N.length
  | [], s => by simp [V.newAll]
  | l :: N, s => by
    have h := new_cl n N (V.newStep s l)
    have h2 : (V.newStep s l).1.cl.length ≤ s.1.cl.length + 1 := by
      unfold V.newStep
      split
      · exact Nat.le_succ _
      · split
        · exact Nat.le_succ _
        · split
          · exact Nat.le_succ _
          · exact Nat.le_succ _
      · simp [V.addCl]
    simp only [V.newAll, List.foldl_cons, List.length_cons] at h ⊢
    omega
theorem val_infoV : (Try.prog.info? 60).map (fun i => (i.zero, i.size, i.bytes)) = some (some (.int .i8 0), 1, 1) := by kernel_rfl
theorem new_start (n : Nat) (hn : n ≤ 1000000) (A : Option Addr) (m c : Nat) (w : World) : ∃ G, EngS ((World.alloc (World.alloc (World.alloc (World.alloc w (.cells #[.int .i64 (n : Int), .slice A m c] 24)) (.map #[] 0)) (.cells (likeRow (.int .i8 0) (n + 1)) 60)) (.cells #[.slice none 0 0, .map (some (w.heap.size + 1)), .slice (some ⟨w.heap.size + 1 + 1, 0, none⟩) (n + 1) (n + 1), .slice none 0 0, .int .i64 0, .slice none 0 0, .bool false] 56))) w.heap.size (w.heap.size + 1 + 1 + 1) (V.startE n) (fun _ => False) [] false G (.slice none 0 0) := by
  have hm := ((MI.made (P := Try.prog) (k := 3) (World.alloc w (.cells #[.int .i64 (n : Int), .slice A m c] 24)) (.slice none 0 0)).alloc (.cells (likeRow (.int .i8 0) (n + 1)) 60)).alloc (.cells #[.slice none 0 0, .map (some (w.heap.size + 1)), .slice (some ⟨w.heap.size + 1 + 1, 0, none⟩) (n + 1) (n + 1), .slice none 0 0, .int .i64 0, .slice none 0 0, .bool false] 56)
  have hv := (Row.new (World.alloc (World.alloc w (.cells #[.int .i64 (n : Int), .slice A m c] 24)) (.map #[] 0)) 60 (List.replicate (n + 1) (.int .i8 0))).alloc (.cells #[.slice none 0 0, .map (some (w.heap.size + 1)), .slice (some ⟨w.heap.size + 1 + 1, 0, none⟩) (n + 1) (n + 1), .slice none 0 0, .int .i64 0, .slice none 0 0, .bool false] 56)
  have hr := Row.new (World.alloc (World.alloc (World.alloc w (.cells #[.int .i64 (n : Int), .slice A m c] 24)) (.map #[] 0)) (.cells (likeRow (.int .i8 0) (n + 1)) 60)) 56 [.slice none 0 0, .map (some (w.heap.size + 1)), .slice (some ⟨w.heap.size + 1 + 1, 0, none⟩) (n + 1) (n + 1), .slice none 0 0, .int .i64 0, .slice none 0 0, .bool false]
  simp only [World.size_alloc] at hm hv hr
  have hown := hv.own (base := w.heap.size) (sz := 1) (n := n + 1) (by omega) (by simp) (by unfold maxLen; omega)
  refine ⟨_, EngS.start (O := fun g => if g = w.heap.size + 1 then .map else if g = w.heap.size + 1 + 1 then .vals else .box) n hm (by omega) (by simp) ⟨?_, fun g hg => ?_⟩ hr (by omega) (by show (if _ then _ else _) = _; rw [if_neg (by omega), if_neg (by omega)])⟩
  · rw [show i8s (List.replicate (n + 1) 0) = List.replicate (n + 1) (.int .i8 0) by simp [i8s]]
    exact hown
  · have : w.heap.size + 1 + 1 = g := by simpa [Value.ownBlock] using hg
    subst this
    simp
theorem row_infoV : (Try.prog.info? 26).map (fun i => (i.zero, i.size, i.bytes)) = some (some (.slice none 0 0), 1, 24) := by kernel_rfl
/-- The watches behind the first j literals of a clause. -/
def waJ (wa : Int → List Nat) (k : Nat) (l : List Int) : Int → List Nat := l.foldl (fun f x => V.upd f x (f x ++ [k])) wa
theorem waJ_snoc (wa : Int → List Nat) (k : Nat) (l : List Int) (x : Int) : waJ wa k (l ++ [x]) = V.upd (waJ wa k l) x (waJ wa k l x ++ [k]) := by
  simp [waJ, List.foldl_append]
theorem waJ_len (wa : Int → List Nat) (k : Nat) (x : Int) : ∀ l : List Int, (waJ wa k l x).length ≤ (wa x).length + l.length := by
  intro l
  induction l generalizing wa with
  | nil => simp [waJ]
  | cons y l ih =>
    have h := ih (V.upd wa y (wa y ++ [k]))
    have h2 : (V.upd wa y (wa y ++ [k]) x).length ≤ (wa x).length + 1 := by
      by_cases e : x = y
      · subst e; rw [V.upd_same]; simp
      · rw [V.upd_other _ _ e]; omega
    show (waJ (V.upd wa y (wa y ++ [k])) k l x).length ≤ _
    simp only [List.length_cons]
    omega
set_option maxRecDepth 100000 in
set_option maxHeartbeats 4000000 in
theorem sNew_any (f : Fml) (n : Nat) (A : Option Addr) (m c : Nat) (sl : List Sl) (w : World) (h : FAt w f A m sl) (hv : f.vars = n) (hn : n ≤ 1000000) (hm : m ≤ 1000000) (hl : ∀ c ∈ f.cls, c.length ≤ 1000000 ∧ ∀ x ∈ c, V.lit n x) :
    Calls Try.prog 10 #[.agg #[.int .i64 f.vars, .slice A m c]] w fun e w' => ∃ b G DE, e = .returned (.pointer (some ⟨b, 0, none⟩)) ∧ Below w.heap.size w w' ∧ EngS w' w.heap.size b (V.newAll (V.startE n, false) (f.cls.map nrmI)).1 (fun _ => False) [] (V.newAll (V.startE n, false) (f.cls.map nrmI)).2 G DE := by
  have H := Lib.hid h
  have HL := Lib.hid hl
  rw [hv]
  clear h hl hv
  have hmm := @run_makeMap Try.prog
  have hmk := fun W => make_like (P := Try.prog) Try.underlying53 val_infoV rfl (n + 1) ((n : Int) + 1) (by omega) (by omega) (by omega) W
  go_enter Try.func10, Try.ntmps10
  go_wp2
  have HB0 : Hid (Below w.heap.size w ((World.alloc (World.alloc (World.alloc (World.alloc w (.cells #[.int .i64 (n : Int), .slice A m c] 24)) (.map #[] 0)) (.cells (likeRow (.int .i8 0) (n + 1)) 60)) (.cells #[.slice none 0 0, .map (some (w.heap.size + 1)), .slice (some ⟨w.heap.size + 1 + 1, 0, none⟩) (n + 1) (n + 1), .slice none 0 0, .int .i64 0, .slice none 0 0, .bool false] 56)))) := (show Below _ _ _ by go_grown)
  have HE0 : Hid (∃ G, EngS ((World.alloc (World.alloc (World.alloc (World.alloc w (.cells #[.int .i64 (n : Int), .slice A m c] 24)) (.map #[] 0)) (.cells (likeRow (.int .i8 0) (n + 1)) 60)) (.cells #[.slice none 0 0, .map (some (w.heap.size + 1)), .slice (some ⟨w.heap.size + 1 + 1, 0, none⟩) (n + 1) (n + 1), .slice none 0 0, .int .i64 0, .slice none 0 0, .bool false] 56))) w.heap.size (w.heap.size + 1 + 1 + 1) (V.startE n) (fun _ => False) [] false G (.slice none 0 0)) := new_start n hn A m c w
  revert HB0 HE0
  generalize (World.alloc (World.alloc (World.alloc (World.alloc w (.cells #[.int .i64 (n : Int), .slice A m c] 24)) (.map #[] 0)) (.cells (likeRow (.int .i8 0) (n + 1)) 60)) (.cells #[.slice none 0 0, .map (some (w.heap.size + 1)), .slice (some ⟨w.heap.size + 1 + 1, 0, none⟩) (n + 1) (n + 1), .slice none 0 0, .int .i64 0, .slice none 0 0, .bool false] 56)) = w4
  intro HB0 HE0
  clear hmm hmk
  go_loopg [5, 6, 7, 9, 20] m (fun gg _ _ _ _ s20 wr => ∃ i : Nat, i ≤ m ∧ m - i ≤ gg ∧ s20 = .int .i64 (i : Int) ∧ ∃ G, Aside (EngS wr w.heap.size (w.heap.size + 1 + 1 + 1) (V.newAll (V.startE n, false) ((f.cls.take i).map nrmI)).1 (fun _ => False) [] (V.newAll (V.startE n, false) ((f.cls.take i).map nrmI)).2 G (.slice none 0 0) ∧ Below w.heap.size w wr))
  case atStart =>
    obtain ⟨G, hG⟩ := HE0.out
    exact ⟨0, Nat.zero_le _, by omega, rfl, G, hG, HB0.out⟩
  case round =>
    obtain ⟨i, hi, hgg, rfl, G, hv⟩ := hrel
    have HE := Lib.hid hv.out.1
    have HB := Lib.hid hv.out.2
    clear hv
    by_cases hlt : i < m
    · have hltz : (i : Int) < (m : Int) := by omega
      obtain ⟨ad, rfl, hbl, hc, hrd, hlm, hle⟩ := (H.out.up HB.out).row hlt
      have hcm : f.cls.getD i [] ∈ f.cls := by
        have := H.out.wl
        rw [List.getD_eq_getElem?_getD, List.getElem?_eq_getElem (by omega)]; exact List.getElem_mem _
      have htk : f.cls.take (i + 1) = f.cls.take i ++ [f.cls.getD i []] := by
        have := H.out.wl
        rw [List.take_succ_eq_append_getElem (by omega), List.getD_eq_getElem?_getD, List.getElem?_eq_getElem (by omega)]; rfl
      have HTK := Lib.hid htk
      have hcl := (HL.out _ hcm).1
      have hcx := (HL.out _ hcm).2
      generalize sl.getD i default = sx at hc hrd hlm hle
      obtain ⟨sa, sn, sc⟩ := sx
      dsimp only at hc hrd hlm hle
      revert HTK hrd hle hcl hcx
      generalize f.cls.getD i [] = cc
      intro HTK hcl hcx hrd hle
      have HRD := Lib.hid hrd
      have HCX := Lib.hid hcx
      have hsn : sn ≤ 1000000 := by omega
      clear hcm htk hrd hcx hlm
      go_wp2_with fail
      with_reducible refine (clone_ints sa sn sc cc _ HRD.out hsn).mono ?_
      rintro e w5 ⟨A5, c5, rfl, hown5, hb5⟩
      have HO5 := Lib.hid hown5
      have HB5 := Lib.hid hb5
      clear hown5 hb5 hc
      go_wp2_with fail
      with_reducible refine (sSort_own A5 sn c5 wr.heap.size cc _ HO5.out hsn).mono ?_
      rintro e w6 ⟨rfl, hown6, hb6⟩
      have HO6 := Lib.hid hown6
      have HB6 := Lib.hid (HB5.out.trans hb6)
      clear hown6 hb6
      go_wp2_with fail
      have HCO : Hid (Calls Try.prog 23 #[.slice A5 sn c5] w6 fun e w' => e = .returned (.slice A5 (nrmI cc).length c5) ∧ w'.ownsRow wr.heap.size 3 1 (.slice A5 (nrmI cc).length c5) (nrmI cc).length (ints (nrmI cc)) ∧ Below wr.heap.size w6 w') := sCompact_own A5 sn c5 wr.heap.size (cc.mergeSort fun x y => decide (x ≤ y)) w6 HO6.out hsn
      refine HCO.out.mono ?_
      rintro e w7 ⟨rfl, hown7, hb7⟩
      have HB7 := Lib.hid (HB6.out.trans hb7)
      have HO7 : Hid (w7.ownsRow wr.heap.size 3 1 (.slice A5 (nrmI cc).length c5) (nrmI cc).length (ints (nrmI cc))) := hown7
      have HLO := Lib.hid (nrm_ok HCX.out)
      have HNL := Lib.hid (nrm_len cc)
      clear hown7 hb7 HCO
      have hst : V.newAll (V.startE n, false) ((f.cls.take (i + 1)).map nrmI) = V.newStep (V.newAll (V.startE n, false) ((f.cls.take i).map nrmI)) (nrmI cc) := by
        rw [HTK.out, List.map_append, List.map_cons, List.map_nil, new_snoc]
      obtain ⟨F, hwf⟩ := new_wf (n := n) ((f.cls.take i).map nrmI) (fun c hc => by
        obtain ⟨c', h1, rfl⟩ := List.mem_map.1 hc
        exact nrm_ok (HL.out c' (List.mem_of_mem_take h1)).2)
      have hclb := new_cl n ((f.cls.take i).map nrmI) (V.startE n, false)
      have HST := Lib.hid hst
      have HWF := Lib.hid hwf
      have HE7 := Lib.hid (HE.out.below HB7.out)
      have HBW := Lib.hid (HB.out.trans (HB7.out.mono HB.out.size))
      have hclb' : (V.newAll (V.startE n, false) ((f.cls.take i).map nrmI)).1.cl.length ≤ 1000000 := by
        have : (V.startE n).cl.length = 0 := rfl
        simp only [this, List.length_map, List.length_take] at hclb; omega
      obtain ⟨r, hr⟩ : ∃ r, r = V.newAll (V.startE n, false) ((f.cls.take i).map nrmI) := ⟨_, rfl⟩
      obtain ⟨nc, hnc⟩ : ∃ nc, nc = nrmI cc := ⟨_, rfl⟩
      rw [← hr] at HE HST HWF HE7 hclb'
      rw [← hnc] at HST HO7 HLO HNL ⊢
      clear hr hnc hst hwf hclb HTK HB5 HB6 HO5 HO6 HRD HCX hcl hle
      obtain ⟨s, bd⟩ := r
      dsimp only at HE HST HWF HE7 hclb'
      have R7 : Hid (Row w7 (w.heap.size + 1 + 1 + 1) 56 [G.CL, .map (some G.mb), G.VA, G.TR, .int .i64 (s.hd : Int), .slice none 0 0, .bool bd]) := HE7.out.row
      have hwb : w.heap.size ≤ w7.heap.size := HBW.out.size
      cases nc with
      | nil =>
        have k0 := R7.out.cell 0
        have k1 := R7.out.cell 1
        have k2 := R7.out.cell 2
        have k3 := R7.out.cell 3
        have k4 := R7.out.cell 4
        have k5 := R7.out.cell 5
        have k6 := R7.out.cell 6
        have kl := R7.out.lt
        simp only [List.getElem?_cons_zero, List.getElem?_cons_succ] at k0 k1 k2 k3 k4 k5 k6
        have kf0 := R7.out.frozen 0
        have kf1 := R7.out.frozen 1
        have kf2 := R7.out.frozen 2
        have kf3 := R7.out.frozen 3
        have kf4 := R7.out.frozen 4
        have kf5 := R7.out.frozen 5
        have kf6 := R7.out.frozen 6
        have HR := HE7.out.raise
        have HR := Lib.hid HR
        clear HE7
        go_wp2
        go_roundg (m - (i + 1))
        case measure => omega
        case rel =>
          refine ⟨i + 1, by omega, by omega, by go_num, G, ?_, HBW.out.trans HR.out.2⟩
          rw [HST.out]
          exact HR.out.1
      | cons a nc =>
        cases nc with
        | nil =>
          have hv5 : Value.slice A5 [a].length c5 ≠ .slice none 0 0 := by simp
          obtain ⟨g5, c6, e5, hg5, hlt5, hc5, _, _, hH⟩ := Lib.holds_of_ownsRow (enc := Value.int .i64) HO7.out hv5
          cases e5
          have z0 : w7.cell? ⟨g5, 0, none⟩ = some (.int .i64 a) := by have := (hH 0 (by simp)).1; simpa using this
          have hla : V.lit n a := HLO.out.2 a (by simp)
          have hrg := HWF.out.tk.rng a hla
          have HOF := Lib.hid (sOf_any w.heap.size (w.heap.size + 1 + 1 + 1) n s _ [] bd G _ a w7 HE7.out hn hla HWF.out.tk)
          have HSE := Lib.hid (sSet_any w.heap.size (w.heap.size + 1 + 1 + 1) n s _ [] bd G _ a w7 HE7.out hn hla HWF.out.tk.len (by have := HWF.out.tk.le; omega))
          have HLA := Lib.hid hla
          clear hv5 hH hla
          rcases hrg with e | e | e
          · rw [e] at HOF
            have HVL : Hid (∀ _ : Unit, V.valL s.va a = 0) := fun _ => e
            clear e
            go_wp2_with fail
            refine HOF.out.mono ?_
            rintro e w8 ⟨rfl, rfl⟩
            go_wp2_with fail
            refine HOF.out.mono ?_
            rintro e w8 ⟨rfl, rfl⟩
            go_wp2_with fail
            refine HSE.out.mono ?_
            rintro e w8 ⟨rfl, G8, hE8, hK8⟩
            have HE8 := Lib.hid hE8
            have HB8 := Lib.hid (HBW.out.trans hK8.below)
            clear hE8 hK8
            go_wp2
            go_roundg (m - (i + 1))
            case measure => omega
            case rel =>
              refine ⟨i + 1, by omega, by omega, by go_num, G8, ?_, HB8.out⟩
              rw [HST.out]
              have e2 : V.newStep (s, bd) [a] = (s.put a, bd) := by
                show (if V.valL s.va a = -1 then _ else if V.valL s.va a = 0 then _ else _) = _
                rw [HVL.out ()]; rfl
              rw [e2]
              exact HE8.out
          · rw [e] at HOF
            have HVL : Hid (∀ _ : Unit, V.valL s.va a = 1) := fun _ => e
            clear e HSE
            go_wp2_with fail
            refine HOF.out.mono ?_
            rintro e w8 ⟨rfl, rfl⟩
            go_wp2_with fail
            refine HOF.out.mono ?_
            rintro e w8 ⟨rfl, rfl⟩
            go_wp2
            go_roundg (m - (i + 1))
            case measure => omega
            case rel =>
              refine ⟨i + 1, by omega, by omega, by go_num, G, ?_, HBW.out⟩
              rw [HST.out]
              have e2 : V.newStep (s, bd) [a] = (s, bd) := by
                show (if V.valL s.va a = -1 then _ else if V.valL s.va a = 0 then _ else _) = _
                rw [HVL.out ()]; rfl
              rw [e2]
              exact HE7.out
          · rw [e] at HOF
            have HVL : Hid (∀ _ : Unit, V.valL s.va a = -1) := fun _ => e
            clear e HSE
            have k0 := R7.out.cell 0
            have k1 := R7.out.cell 1
            have k2 := R7.out.cell 2
            have k3 := R7.out.cell 3
            have k4 := R7.out.cell 4
            have k5 := R7.out.cell 5
            have k6 := R7.out.cell 6
            have kl := R7.out.lt
            simp only [List.getElem?_cons_zero, List.getElem?_cons_succ] at k0 k1 k2 k3 k4 k5 k6
            have kf0 := R7.out.frozen 0
            have kf1 := R7.out.frozen 1
            have kf2 := R7.out.frozen 2
            have kf3 := R7.out.frozen 3
            have kf4 := R7.out.frozen 4
            have kf5 := R7.out.frozen 5
            have kf6 := R7.out.frozen 6
            have HR := HE7.out.raise
            have HR := Lib.hid HR
            clear HE7
            go_wp2_with fail
            refine HOF.out.mono ?_
            rintro e w8 ⟨rfl, rfl⟩
            go_wp2
            go_roundg (m - (i + 1))
            case measure => omega
            case rel =>
              refine ⟨i + 1, by omega, by omega, by go_num, G, ?_, HBW.out.trans HR.out.2⟩
              rw [HST.out]
              have e2 : V.newStep (s, bd) [a] = (s, true) := by
                show (if V.valL s.va a = -1 then _ else _) = _
                rw [HVL.out ()]; rfl
              rw [e2]
              exact HR.out.1
        | cons b' tl =>
          have hv5 : Value.slice A5 (a :: b' :: tl).length c5 ≠ .slice none 0 0 := by simp
          obtain ⟨g5, c6, e5, hg5, hlt5, hc5, hcm5, _, hH⟩ := Lib.holds_of_ownsRow (enc := Value.int .i64) HO7.out hv5
          cases e5
          have hHL : EngS w7 w.heap.size (w.heap.size + 1 + 1 + 1) s (fun _ => False) [] bd { G with O := newO G.O wr.heap.size (.clause s.cl.length) } (.slice none 0 0) := HE.out.tag (.clause s.cl.length) HB7.out
          have hL : Hd w7 (newO G.O wr.heap.size (.clause s.cl.length)) w.heap.size (.clause s.cl.length) 3 1 (.slice (some ⟨g5, 0, none⟩) (a :: b' :: tl).length c5) (a :: b' :: tl).length (ints (a :: b' :: tl)) := Hd.new0 HO7.out HB.out.size
          obtain ⟨AC, cc', hCL, _⟩ := HE7.out.core.cl.rd
          have hhl := HE7.out.core.hl
          have hlz : ((a :: b' :: tl).length : Int) = (tl.length : Int) + 2 := by simp; omega
          have HHL := Lib.hid hHL
          have HHD := Lib.hid hL
          have HHL2 := Lib.hid hhl
          have HCL : Hid (∀ _ : Unit, G.CL = .slice AC G.hs.length cc') := fun _ => hCL
          have k0 := R7.out.cell 0
          have k1 := R7.out.cell 1
          have k2 := R7.out.cell 2
          have k3 := R7.out.cell 3
          have k4 := R7.out.cell 4
          have k5 := R7.out.cell 5
          have k6 := R7.out.cell 6
          have kl := R7.out.lt
          simp only [List.getElem?_cons_zero, List.getElem?_cons_succ] at k0 k1 k2 k3 k4 k5 k6
          rw [hCL] at k0
          clear hHL hL hv5 hH hCL hhl
          generalize hm5 : (a :: b' :: tl).length = m5 at *
          have hm50 : ¬ (m5 : Int) = 0 := by simp at hm5; omega
          have hm51 : ¬ (m5 : Int) = 1 := by simp at hm5; omega
          have HM5 : Hid (∀ _ : Unit, (a :: b' :: tl).length = m5) := fun _ => hm5
          clear hm5 hlz
          have hhs : G.hs.length ≤ 1000000 := by rw [HHL2.out]; exact hclb'
          go_upto_region 10 with fail
          go_wp2_with (at_builtin; refine wpList_app rfl (.tmp 41) (.tmp 43) 22 rfl w.heap.size 26 (.slice none 0 0) 1 24 Try.underlying22 row_infoV rfl (by decide) (by decide) (.slice AC G.hs.length cc') (G.hs.length) (G.hs) rfl ?own (w7.heap.size + 1) (some ⟨w7.heap.size, 0, none⟩) 1 1 [.slice (some ⟨g5, 0, none⟩) m5 c5] rfl ?rd ?one ?hb ?hbase ?_)
          case own => exact (by have := HE7.out.core.cl.1; rw [HCL.out ()] at this; exact this.alloc _)
          case rd => exact Rd.lit w7 #[.slice (some ⟨g5, 0, none⟩) m5 c5] 26 (sz := 1) (m := 1) rfl
          case one => first | (intro u hu; simp at hu; subst hu; rfl) | rfl
          case hb => omega
          case hbase => first | (simp; omega) | omega
          intro v' w8 hown' hgrow' hat'
          obtain ⟨A8, c8, rfl, _⟩ := Rd.own hown'
          have hgr : (World.alloc w7 (.cells #[.slice (some ⟨g5, 0, none⟩) m5 c5] 26)).grownBy w8 G.CL.ownBlock := by rw [HCL.out ()]; exact hgrow'
          have hat : (Value.slice A8 (G.hs.length + 1) c8).ownBlock = G.CL.ownBlock ∨ (Value.slice A8 (G.hs.length + 1) c8).ownBlock = some (World.alloc w7 (.cells #[.slice (some ⟨g5, 0, none⟩) m5 c5] 26)).heap.size := by rw [HCL.out (), World.size_alloc]; exact hat'
          have HA := EngS.addCl (HHL.out.alloc (.cells #[.slice (some ⟨g5, 0, none⟩) m5 c5] 26)) (l := a :: b' :: tl) (lv := .slice (some ⟨g5, 0, none⟩) m5 c5) (by rw [HM5.out ()]; exact HHD.out.alloc _) hown' hgr hat
          have HA := Lib.hid HA
          have R8 : Hid (Row w8 (w.heap.size + 1 + 1 + 1) 56 [G.CL, .map (some G.mb), G.VA, G.TR, .int .i64 (s.hd : Int), .slice none 0 0, .bool bd]) := HA.out.2.1
          clear hgr hat hown' hgrow' hat' k0 k1 k2 k3 k4 k5 k6 kl
          have k0 := R8.out.cell 0
          have k1 := R8.out.cell 1
          have k2 := R8.out.cell 2
          have k3 := R8.out.cell 3
          have k4 := R8.out.cell 4
          have k5 := R8.out.cell 5
          have k6 := R8.out.cell 6
          have kl := R8.out.lt
          simp only [List.getElem?_cons_zero, List.getElem?_cons_succ] at k0 k1 k2 k3 k4 k5 k6
          have kf0 := R8.out.frozen 0
          have kf1 := R8.out.frozen 1
          have kf2 := R8.out.frozen 2
          have kf3 := R8.out.frozen 3
          have kf4 := R8.out.frozen 4
          have kf5 := R8.out.frozen 5
          have kf6 := R8.out.frozen 6
          have HB8 : Hid (Below w.heap.size w (w8.setCell ⟨w.heap.size + 1 + 1 + 1, 0, none⟩ (.slice A8 (G.hs.length + 1) c8))) := (HBW.out.alloc hwb _).trans HA.out.2.2
          have HE8 : Hid (∃ G2, EngS (w8.setCell ⟨w.heap.size + 1 + 1 + 1, 0, none⟩ (.slice A8 (G.hs.length + 1) c8)) w.heap.size (w.heap.size + 1 + 1 + 1) { s with cl := s.cl ++ [a :: b' :: tl] } (fun _ => False) [] bd G2 (.slice none 0 0) ∧ G2.hs.getD s.cl.length undef = .slice (some ⟨g5, 0, none⟩) m5 c5) :=
            ⟨_, HA.out.1, by show (G.hs ++ [_]).getD s.cl.length undef = _; rw [← HHL2.out]; simp [List.getD_eq_getElem?_getD]⟩
          clear HA
          have e1 : ¬ m5 < 2 := by have := HM5.out (); simp at this; omega
          go_upto_region 12 with fail
          have hkn : (G.hs.length : Int) = (s.cl.length : Int) := by rw [HHL2.out]
          rw [hkn]
          clear k0 k1 k2 k3 k4 k5 k6 kl kf0 kf1 kf2 kf3 kf4 kf5 kf6 R8 R7 HE HE7 HB HB7 HBW HO7 HHL HHD HHL2 HCL hlt5 hg5 hwb hhs hkn
          revert HB8 HE8
          generalize World.setCell w8 ⟨w.heap.size + 1 + 1 + 1, 0, none⟩ (.slice A8 (G.hs.length + 1) c8) = w9
          intro HB8 HE8
          go_loopg [9, 50] 2 (fun gg _ s50 wq => ∃ j : Nat, j ≤ 2 ∧ 2 - j ≤ gg ∧ s50 = .int .i64 (j : Int) ∧ ∃ G2, Aside (EngS wq w.heap.size (w.heap.size + 1 + 1 + 1) { s with cl := s.cl ++ [a :: b' :: tl], wa := waJ s.wa s.cl.length ([a, b'].take j) } (fun _ => False) [] bd G2 (.slice none 0 0) ∧ G2.hs.getD s.cl.length undef = .slice (some ⟨g5, 0, none⟩) m5 c5 ∧ Below w.heap.size w wq))
          case atStart =>
            obtain ⟨G2, hE, hs⟩ := HE8.out
            exact ⟨0, by omega, by omega, rfl, G2, hE, hs, HB8.out⟩
          case round =>
            rename World => wq
            obtain ⟨j, hj, hgj, rfl, G2, hv⟩ := hrel
            have HEq := Lib.hid hv.out.1
            have HHS := Lib.hid hv.out.2.1
            have HBq := Lib.hid hv.out.2.2
            clear hv
            by_cases hj2 : j < 2
            · have hj2z : (j : Int) < 2 := by omega
              obtain ⟨x, hx⟩ : ∃ x, ([a, b'] : List Int)[j]? = some x := ⟨_, List.getElem?_eq_getElem hj2⟩
              have hxl : V.lit n x := HLO.out.2 x (by have := List.mem_of_getElem? hx; simp at this; rcases this with e | e <;> simp [e])
              have hxt : (a :: b' :: tl)[j]? = some x := by
                have : (a :: b' :: tl) = [a, b'] ++ tl := rfl
                rw [this, List.getElem?_append_left hj2]; exact hx
              have htj : ([a, b'] : List Int).take (j + 1) = [a, b'].take j ++ [x] := by rw [List.take_add_one, hx]; rfl
              have hcs := HEq.out.core.cs s.cl.length (by simp)
              have hgl : (s.cl ++ [a :: b' :: tl]).getD s.cl.length [] = a :: b' :: tl := by simp [List.getD_eq_getElem?_getD]
              have hcs : Hd wq G2.O w.heap.size (.clause s.cl.length) 3 1 (.slice (some ⟨g5, 0, none⟩) m5 c5) (a :: b' :: tl).length (ints (a :: b' :: tl)) := by
                have h9 : Hd wq G2.O w.heap.size (.clause s.cl.length) 3 1 (G2.hs.getD s.cl.length undef) ((s.cl ++ [a :: b' :: tl]).getD s.cl.length []).length (ints ((s.cl ++ [a :: b' :: tl]).getD s.cl.length [])) := hcs
                rwa [HHS.out, hgl] at h9
              obtain ⟨g6, c7, e6, _, _, _, _, hcell, _⟩ := hcs.at_ (i := 0) (by simp)
              cases e6
              have z0 : wq.cell? ⟨g5, j, none⟩ = some (.int .i64 x) := hcell _ _ (by simp only [ints, List.getElem?_map, hxt]; rfl)
              have RQ : Hid (Row wq (w.heap.size + 1 + 1 + 1) 56 [G2.CL, .map (some G2.mb), G2.VA, G2.TR, .int .i64 (s.hd : Int), .slice none 0 0, .bool bd]) := HEq.out.row
              have HXL := Lib.hid hxl
              have HTJ := Lib.hid htj
              have HMI := Lib.hid HEq.out.core.mp
              have HBQ := Lib.hid HBq.out.size
              have HwN : Hid ((waJ s.wa s.cl.length ([a, b'].take j) x).length ≤ 1000002) := by
                have h1 := waJ_len s.wa s.cl.length x ([a, b'].take j)
                have h2 := HWF.out.wle x
                have h3 := HWF.out.clen
                have h4 : (([a, b'] : List Int).take j).length ≤ 2 := by simp; omega
                show _ ≤ _
                omega
              clear hx hxl hxt htj hcs hgl hcell
              go_upto_region 14 with fail
              have k0 := RQ.out.cell 0
              have k1 := RQ.out.cell 1
              have k2 := RQ.out.cell 2
              have k3 := RQ.out.cell 3
              have k4 := RQ.out.cell 4
              have k5 := RQ.out.cell 5
              have k6 := RQ.out.cell 6
              have kl := RQ.out.lt
              simp only [List.getElem?_cons_zero, List.getElem?_cons_succ] at k0 k1 k2 k3 k4 k5 k6
              refine wp_region_L (fun w' => w'.cell? ⟨w.heap.size + 1 + 1 + 1, 1, none⟩ = some (.map (some G2.mb)) ∧ MI w' Try.prog 3 G2.mb G2.fn (.slice none 0 0)) [14] (by kernel_rfl) (by exact ⟨k1, HMI.out⟩) (fun hHeld => ?_)
              refine restL_pure (i := 0) (v := ?vp1) rfl (by kernel_rfl) (by kernel_rfl) (by kernel_rfl) (fun _ _ _ h => h) (Or.inl ⟨by rfl, ?yp1⟩) ?rp1
              case yp1 => intro w' hSw; clear hSw; go_simp; try (with_reducible rfl)
              go_simp
              refine restL_pure (i := 1) (v := ?vp2) rfl (by kernel_rfl) (by kernel_rfl) (by kernel_rfl) (fun _ _ _ h => h) (Or.inl ⟨by rfl, ?yp2⟩) ?rp2
              case yp2 => intro w' hSw; clear hSw; go_simp; try (with_reducible rfl)
              go_simp
              refine restL_pure (i := 2) (v := ?vp3) rfl (by kernel_rfl) (by kernel_rfl) (by kernel_rfl) (fun _ _ _ h => h) (Or.inl ⟨by rfl, ?yp3⟩) ?rp3
              case yp3 => intro w' hSw; clear hSw; go_simp; try (with_reducible rfl)
              go_simp
              refine restL_pure (i := 4) (v := ?vp4) rfl (by kernel_rfl) (by kernel_rfl) (by kernel_rfl) (fun _ _ _ h => h) (Or.inl ⟨by rfl, ?yp4⟩) ?rp4
              case yp4 => intro w' hSw; clear hSw; go_simp; try (with_reducible rfl)
              go_simp
              refine restL_pure (i := 5) (v := ?vp5) rfl (by kernel_rfl) (by kernel_rfl) (by kernel_rfl) (fun _ _ _ h => h) (Or.inl ⟨by rfl, ?yp5⟩) ?rp5
              case yp5 => intro w' hSw; clear hSw; go_simp; try (with_reducible rfl)
              go_simp
              refine restL_pure (i := 6) (v := ?vp6) rfl (by kernel_rfl) (by kernel_rfl) (by kernel_rfl) (fun _ _ _ h => h) (Or.inl ⟨by rfl, ?yp6⟩) ?rp6
              case yp6 => intro w' hSw; clear hSw; go_simp; try (with_reducible rfl)
              go_simp
              refine restL_pure (i := 7) (v := ?vp7) rfl (by kernel_rfl) (by kernel_rfl) (by kernel_rfl) (fun _ _ _ h => h) (Or.inl ⟨by rfl, ?yp7⟩) ?rp7
              case yp7 => intro w' hSw; clear hSw; go_simp; try (with_reducible rfl)
              go_simp
              refine restL_pure (i := 9) (v := ?vp8) rfl (by kernel_rfl) (by kernel_rfl) (by kernel_rfl) (fun _ _ _ h => h) (Or.inl ⟨by rfl, ?yp8⟩) ?rp8
              case yp8 => intro w' hSw; clear hSw; go_simp; try (with_reducible rfl)
              go_simp
              refine restL_pure (i := 11) (v := ?vp9) rfl (by kernel_rfl) (by kernel_rfl) (by kernel_rfl) (fun _ _ _ h => h) (Or.inl ⟨by rfl, ?yp9⟩) ?rp9
              case yp9 => intro w' hSw; clear hSw; go_simp; try (with_reducible rfl)
              go_simp
              refine restL_take (i := 3) (v := ?vp10) [[14]] rfl (by kernel_rfl) (by kernel_rfl) (by kernel_rfl) (by kernel_rfl) (fun _ _ _ h => h) (Or.inl ⟨by rfl, ?yp10⟩) hHeld ?rp10
              case yp10 =>
                intro w' hSw
                obtain ⟨q1, q3⟩ := hSw
                have q4 := q3.lookup int_keyedV Try.underlying43 (Try.zeroValue26 w') (keyV x (lit_wf hn HXL.out))
                go_simp
                try (with_reducible rfl)
              go_simp
              refine restL_take (i := 8) (v := ?vp11) [[14]] rfl (by kernel_rfl) (by kernel_rfl) (by kernel_rfl) (by kernel_rfl) (fun _ _ _ h => h) (Or.inl ⟨by rfl, ?yp11⟩) hHeld ?rp11
              case yp11 =>
                intro w' hSw
                obtain ⟨q1, q3⟩ := hSw
                have q4 := q3.lookup int_keyedV Try.underlying43 (Try.zeroValue26 w') (keyV x (lit_wf hn HXL.out))
                go_simp
                try (with_reducible rfl)
              go_simp
              refine restL_take (i := 10) (v := ?vp12) [[14]] rfl (by kernel_rfl) (by kernel_rfl) (by kernel_rfl) (by kernel_rfl) (fun _ _ _ h => h) (Or.inl ⟨by rfl, ?yp12⟩) hHeld ?rp12
              case yp12 =>
                intro w' hSw
                obtain ⟨q1, q3⟩ := hSw
                have q4 := q3.lookup int_keyedV Try.underlying43 (Try.zeroValue26 w') (keyV x (lit_wf hn HXL.out))
                go_simp
                try (with_reducible rfl)
              go_simp
              refine restL_one (i := 12) (by kernel_rfl) rfl (fun K hK => ?_)
              go_simp
              have S7 : Hid ((World.drew (World.alloc wq (.cells #[.int .i64 (s.cl.length : Int)] 3))).cell? ⟨w.heap.size + 1 + 1 + 1, 1, none⟩ = some (.map (some G2.mb)) ∧ MI (World.drew (World.alloc wq (.cells #[.int .i64 (s.cl.length : Int)] 3))) Try.prog 3 G2.mb G2.fn (.slice none 0 0)) := And.intro ((World.cell?_alloc_lt _ _ _ kl).trans k1) ((HMI.out.alloc _).drew)
              have HL7 : Hid (Rd (World.drew (World.alloc wq (.cells #[.int .i64 (s.cl.length : Int)] 3))) (wq.heap.size + 1) 1 (some ⟨wq.heap.size, 0, none⟩) 1 [.int .i64 (s.cl.length : Int)]) := Rd.lit wq #[.int .i64 (s.cl.length : Int)] 3 (sz := 1) (m := 1) rfl
              have E7 : Hid (EngS (World.drew (World.alloc wq (.cells #[.int .i64 (s.cl.length : Int)] 3))) w.heap.size (w.heap.size + 1 + 1 + 1) { s with cl := s.cl ++ [a :: b' :: tl], wa := waJ s.wa s.cl.length ([a, b'].take j) } (fun _ => False) [] bd G2 (.slice none 0 0)) := (HEq.out.alloc _).drew
              have BE7 : Hid (Below w.heap.size w (World.drew (World.alloc wq (.cells #[.int .i64 (s.cl.length : Int)] 3)))) := (HBq.out.alloc HBQ.out _).drew
              have hsz7 : (World.drew (World.alloc wq (.cells #[.int .i64 (s.cl.length : Int)] 3))).heap.size = wq.heap.size + 1 := by simp
              revert S7 HL7 E7 BE7 hsz7
              generalize (World.drew (World.alloc wq (.cells #[.int .i64 (s.cl.length : Int)] 3))) = wa7
              intro S7 HL7 E7 BE7 hsz7
              have HSZ7 := Lib.hid hsz7
              clear hsz7
              refine hK.out _ _ (fun _ => ?keep) (fun hHeld => ?_)
              case keep => exact S7.out
              have hHeld := hHeld rfl
              clear hK K
              try go_simp
              refine restL_one (i := 13) (by kernel_rfl) rfl (fun K hK => ?_)
              refine step_app rfl (.tmp 64) (.tmp 66) 26 rfl w.heap.size 3 (.int .i64 0) 1 8 Try.underlying26 int_infoV rfl (by decide) (by decide) (G2.fn x) (waJ s.wa s.cl.length ([a, b'].take j) x).length (nats (waJ s.wa s.cl.length ([a, b'].take j) x)) rfl (E7.out.core.wt x id).1 (wq.heap.size + 1) (some ⟨wq.heap.size, 0, none⟩) 1 1 [.int .i64 (s.cl.length : Int)] rfl HL7.out (by intro u hu; simp at hu; subst hu; rfl) (by have := HwN.out; omega) (by rw [HSZ7.out]; omega) ?_
              intro v' wa8 hown' hgrow' hat'
              obtain ⟨hE8, hH8⟩ := E7.out.watchApp (y := x) id hown' hgrow' hat'
              have HE8 := Lib.hid hE8
              have HH8 := Lib.hid hH8
              have hfy : ∀ q, (G2.fn x).ownBlock = some q → G2.O q = .watch x := (E7.out.core.wt x id).2
              have hS8 : Hid (wa8.cell? ⟨w.heap.size + 1 + 1 + 1, 1, none⟩ = some (.map (some G2.mb)) ∧ MI wa8 Try.prog 3 G2.mb G2.fn (.slice none 0 0)) := And.intro (hgrow'.cell S7.out.1 (fun e => by have := hfy _ e.symm; rw [E7.out.ob] at this; cases this)) (S7.out.2.kept hgrow' (fun e => by have := hfy _ e; rw [E7.out.core.om] at this; cases this))
              have BE8 : Hid (Below w.heap.size w wa8) := BE7.out.grown hgrow' (by have := HBQ.out; rw [HSZ7.out]; omega) (fun q e => ((E7.out.core.wt x id).1.lt q e).1)
              have hsz8 : wa7.heap.size ≤ wa8.heap.size := hgrow'.size
              clear hE8 hH8 hown' hgrow' hat' hfy
              refine hK.out _ _ (fun _ => ?keep) (fun hHeld => ?_)
              case keep => exact hS8.out
              have hHeld := hHeld rfl
              clear hK K
              try go_simp
              refine restL_one (i := 14) (by kernel_rfl) rfl (fun K hK => ?_)
              refine step_mapUpd rfl (.tmp 57) (.tmp 58) (.tmp 67) rfl hS8.out.2 int_keyedV Try.underlying43 rfl (keyV x (lit_wf hn HXL.out)) rfl v' rfl ?_
              intro wa9 hm9 hg9
              have HE9 := Lib.hid ((HE8.out.mapUpd HH8.out hm9 hg9).weak (X' := fun _ => False) (fun z q => q.2 (q.1.resolve_left id)))
              have BE9 : Hid (Below w.heap.size w wa9) := map_below hg9 E7.out.core.hmb (by have := HBQ.out; rw [HSZ7.out] at hsz8; omega) BE8.out
              clear hm9 hg9
              refine hK.out _ _ (fun h => absurd h (by decide)) (fun _ => ?_)
              clear hK K
              try go_simp
              refine restL_done (by kernel_rfl) ?_ _
              go_wp2_with fail
              go_roundg (2 - (j + 1))
              case measure => omega
              case rel =>
                refine ⟨j + 1, by omega, by omega, by go_num, { G2 with O := newO G2.O wa7.heap.size (.watch x), fn := updV G2.fn x v' }, ?_, HHS.out, BE9.out⟩
                rw [HTJ.out, waJ_snoc]
                exact HE9.out
            · have hj2z : ¬ (j : Int) < 2 := by omega
              obtain rfl : j = 2 := by omega
              go_wp2
              go_roundg (m - (i + 1))
              case measure => omega
              case rel =>
                refine ⟨i + 1, by omega, by omega, by go_num, G2, ?_, HBq.out⟩
                rw [HST.out]
                exact HEq.out
    · have hltz : ¬ (i : Int) < (m : Int) := by omega
      obtain rfl : i = m := by omega
      go_wp2
      go_ret
      have := H.out.wl
      rw [List.take_of_length_le (by omega)] at HE
      exact ⟨_, rfl, HB.out, G, _, HE.out⟩
end Go.Proofs.Ytbomfekfebamkaa

