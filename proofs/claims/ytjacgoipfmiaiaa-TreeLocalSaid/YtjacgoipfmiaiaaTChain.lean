/-
  tree.chain and the reference's all, walked.
-/
import Derived.Test.YtjacgoipfmiaiaaTSt
import Derived.Test.YtjacgoipfmiaiaaTRep
import Derived.Test.YtjacgoipfmiaiaaRegL
namespace Go.Proofs.Ytjacgoipfmiaiaa
open Go.RowKit
set_option linter.unusedSimpArgs false
set_option linter.unusedVariables false
theorem node_info : (Try.prog.info? 41).map (fun i => (i.zero, i.size, i.bytes)) = some (some (.agg #[.int .i64 0, .slice none 0 0]), 2, 32) := by kernel_rfl
theorem nd_one (a : Int) (A : Option Addr) (n c : Nat) : ∀ u ∈ [Value.int .i64 a, Value.slice A n c], u.oneCell' = true := by
  intro u hu
  simp only [List.mem_cons, List.not_mem_nil, or_false] at hu
  rcases hu with rfl | rfl <;> rfl

theorem repeat_at (x : Int) (n c : Nat) (A : Option Addr) (w : World) (st : Int) (hst : st = (n : Int)) (h1 : 2 ≤ n) (h2 : n ≤ 8) (hx : Rd w w.heap.size 1 A 1 (ints [x])) :
    Calls Try.prog 42 #[.slice A 1 c, .int .i64 st] w fun e w' => e = .returned (.slice (some ⟨w.heap.size, 0, none⟩) n n) ∧ Row w' w.heap.size 3 (ints (List.replicate n x)) ∧ Below w.heap.size w w' := by
  subst hst
  exact repeat_any x n c A w h1 h2 hx
set_option maxRecDepth 100000 in
set_option maxHeartbeats 4000000 in
/-- chain adds c nodes from level lo on. -/
theorem chain_any (B b S lo c : Nat) (below to : Int) (hv : Value) (ns : List Nd) (q : Option Nat) (w : World) (st : Int) (hst : st = (S : Int)) (hS : 2 ≤ S ∧ S ≤ 8) (ht : to = (lo : Int) + c - 1) (hlo : lo ≤ 100) (hc : c ≤ 100) (hl : ns.length ≤ 1000)
    (h : TSt w B b st hv ns q) (hBw : B ≤ w.heap.size) (hqw : ∀ k, q = some k → k < w.heap.size) :
    Calls Try.prog 33 #[.pointer (some ⟨b, 0, none⟩), .int .i64 lo, .int .i64 to, .int .i64 below] w fun e w' =>
      e = .returned (.int .i64 (nodesIn S ns lo below c).2) ∧ TSt w' B b st hv (nodesIn S ns lo below c).1 q ∧ TFr B b w w' := by
  have H : Hid (TSt w B b st hv ns q) := h
  have hbB : Hid (b ≤ B) := h.blk.2
  have HBW : Hid (B ≤ w.heap.size) := hBw
  have HQW : Hid (∀ k, q = some k → k < w.heap.size) := hqw
  subst hst
  obtain ⟨st, hst⟩ : ∃ st : Int, st = (S : Int) := ⟨_, rfl⟩
  have HST : Hid (st = (S : Int)) := hst
  rw [← hst] at H ⊢
  obtain ⟨hS2, hS8⟩ := hS
  clear h hqw hst
  subst ht
  go_enter Try.func33, Try.ntmps33
  go_wp2
  go_loopg [3, 9] c (fun gg s3 s9 wr => ∃ (kk : Nat) (z : Int), kk ≤ c ∧ c - kk ≤ gg ∧ s9 = .int .i64 ((lo : Int) + kk) ∧ s3 = .int .i64 z ∧ Aside (z = (nodesIn S ns lo below kk).2) ∧ Aside (TFr B b w wr) ∧ Aside (TSt wr B b st hv (nodesIn S ns lo below kk).1 q))
  case atStart => exact ⟨0, below, Nat.zero_le _, by omega, by go_num, rfl, rfl, TFr.refl _ _ _, H.out⟩
  case round =>
    obtain ⟨kk, z, hkk, hgg, rfl, rfl, HZ, FF, RS⟩ := hrel
    have hlen := nodesIn_length S ns lo below kk
    have hszr : B ≤ wr.heap.size := Nat.le_trans HBW.out FF.out.below.size
    by_cases hlt : kk < c
    · have hltz : (lo : Int) + (kk : Int) ≤ (lo : Int) + (c : Int) - 1 := by omega
      have HSU : Hid (nodesIn S ns lo below (kk + 1) = ((nodesIn S ns lo below kk).1 ++ [⟨((lo + kk : Nat) : Int), List.replicate S (nodesIn S ns lo below kk).2⟩], (((nodesIn S ns lo below kk).1.length : Nat) : Int))) := rfl
      generalize nodesIn S ns lo below kk = p at HZ RS HSU hlen
      obtain ⟨ms, pz⟩ := p
      dsimp only at hlen
      have HZ' : Hid (z = pz) := HZ.out
      have RS : Hid (TSt wr B b st hv ms q) := RS.out
      obtain ⟨NA, nc, sl, hrow9, hown9, hsl9, _, hx9⟩ := RS.out.op
      generalize hnn : ms.length = n at hrow9 hown9 hlen hsl9
      have HMN : Hid (ms.length = n) := hnn
      have HSL : Hid (sl.length = ms.length) := hsl9.trans hnn.symm
      have HROW : Hid (Row wr b 25 [.int .i64 st, hv, .slice NA n nc]) := hrow9
      have HOG : Hid (wr.ownsRow B 41 2 (.slice NA n nc) n (nodesCells ms sl)) := hown9
      have HX : Hid (NextAt wr ms sl q) := hx9
      have hqr : Hid (∀ k, q = some k → k < wr.heap.size) := fun k hk => Nat.lt_of_lt_of_le (HQW.out k hk) FF.out.below.size
      have hn5 : n ≤ 2000 := by omega
      have HNL : Hid (n = ns.length + kk) := hlen
      clear HZ hnn hrow9 hown9 hx9 hsl9 hlen
      have e0 := HROW.out.cell 0
      have e1 := HROW.out.cell 1
      have e2 := HROW.out.cell 2
      have el := HROW.out.lt
      simp only [List.getElem?_cons_zero, List.getElem?_cons_succ] at e0 e1 e2
      go_wp2_with fail
      refine wp_region_L (fun w' => Row w' b 25 [.int .i64 st, hv, .slice NA n nc]) [15, 16, 17, 18] (by kernel_rfl) (by exact HROW.out.drew) (fun hHeld => ?_)
      have HROWd : Hid (Row wr.drew b 25 [.int .i64 st, hv, .slice NA n nc]) := hHeld
      have HOGd : Hid (wr.drew.ownsRow B 41 2 (.slice NA n nc) n (nodesCells ms sl)) := HOG.out
      have HXd : Hid (NextAt wr.drew ms sl q) := HX.out
      have Fd : Hid (TFr B b w wr.drew) := FF.out.drew
      have hszd : Hid (B ≤ wr.drew.heap.size) := hszr
      have hqd : Hid (∀ k, q = some k → k < wr.drew.heap.size) := hqr.out
      clear HROW HOG HX FF hqr e0 e1 e2 el RS
      revert hHeld HROWd HOGd HXd Fd hszd hqd
      generalize wr.drew = wQ
      intro hHeld HROWd HOGd HXd Fd hszd hqd
      have hszd2 := hszd.out
      refine restL_pure (i := 0) (v := ?va1) rfl (by kernel_rfl) (by kernel_rfl) (by kernel_rfl) (fun _ _ _ h => h) (Or.inl ⟨by rfl, ?ya1⟩) ?ra1
      case ya1 => intro w' hSw; clear hSw; go_simp; try (with_reducible rfl)
      go_simp
      refine restL_pure (i := 1) (v := ?va2) rfl (by kernel_rfl) (by kernel_rfl) (by kernel_rfl) (fun _ _ _ h => h) (Or.inl ⟨by rfl, ?ya2⟩) ?ra2
      case ya2 => intro w' hSw; clear hSw; go_simp; try (with_reducible rfl)
      go_simp
      refine restL_pure (i := 2) (v := ?va3) rfl (by kernel_rfl) (by kernel_rfl) (by kernel_rfl) (fun _ _ _ h => h) (Or.inl ⟨by rfl, ?ya3⟩) ?ra3
      case ya3 => intro w' hSw; clear hSw; go_simp; try (with_reducible rfl)
      go_simp
      refine restL_pure (i := 3) (v := ?va4) rfl (by kernel_rfl) (by kernel_rfl) (by kernel_rfl) (fun _ _ _ h => h) (Or.inl ⟨by rfl, ?ya4⟩) ?ra4
      case ya4 => intro w' hSw; clear hSw; go_simp; try (with_reducible rfl)
      go_simp
      refine restL_pure (i := 5) (v := ?va5) rfl (by kernel_rfl) (by kernel_rfl) (by kernel_rfl) (fun _ _ _ h => h) (Or.inl ⟨by rfl, ?ya5⟩) ?ra5
      case ya5 => intro w' hSw; clear hSw; go_simp; try (with_reducible rfl)
      go_simp
      refine restL_pure (i := 6) (v := ?va6) rfl (by kernel_rfl) (by kernel_rfl) (by kernel_rfl) (fun _ _ _ h => h) (Or.inl ⟨by rfl, ?ya6⟩) ?ra6
      case ya6 => intro w' hSw; clear hSw; go_simp; try (with_reducible rfl)
      go_simp
      refine restL_pure (i := 8) (v := ?va7) rfl (by kernel_rfl) (by kernel_rfl) (by kernel_rfl) (fun _ _ _ h => h) (Or.inl ⟨by rfl, ?ya7⟩) ?ra7
      case ya7 => intro w' hSw; clear hSw; go_simp; try (with_reducible rfl)
      go_simp
      refine restL_pure (i := 9) (v := ?va8) rfl (by kernel_rfl) (by kernel_rfl) (by kernel_rfl) (fun _ _ _ h => h) (Or.inl ⟨by rfl, ?ya8⟩) ?ra8
      case ya8 => intro w' hSw; clear hSw; go_simp; try (with_reducible rfl)
      go_simp
      refine restL_pure (i := 10) (v := ?va9) rfl (by kernel_rfl) (by kernel_rfl) (by kernel_rfl) (fun _ _ _ h => h) (Or.inl ⟨by rfl, ?ya9⟩) ?ra9
      case ya9 => intro w' hSw; clear hSw; go_simp; try (with_reducible rfl)
      go_simp
      refine restL_take (i := 4) (v := ?va10) [[15], [16], [17], [18]] rfl (by kernel_rfl) (by kernel_rfl) (by kernel_rfl) (by kernel_rfl) (fun _ _ _ h => h) (Or.inl ⟨by rfl, ?ya10⟩) hHeld ?ra10
      case ya10 =>
        intro w' hSw
        have hSh : Hid (Row w' b 25 [.int .i64 st, hv, .slice NA n nc]) := hSw
        clear hSw
        have z0 := hSh.out.cell 0
        have z1 := hSh.out.cell 1
        have z2 := hSh.out.cell 2
        have zl := hSh.out.lt
        simp only [List.getElem?_cons_zero, List.getElem?_cons_succ] at z0 z1 z2
        go_simp
        try (with_reducible rfl)
      go_simp
      refine restL_take (i := 11) (v := ?va11) [[15, 12], [16], [17], [18]] rfl (by kernel_rfl) (by kernel_rfl) (by kernel_rfl) (by kernel_rfl) (fun _ _ _ h => h) (Or.inl ⟨by rfl, ?ya11⟩) hHeld ?ra11
      case ya11 =>
        intro w' hSw
        have hSh : Hid (Row w' b 25 [.int .i64 st, hv, .slice NA n nc]) := hSw
        clear hSw
        have z0 := hSh.out.cell 0
        have z1 := hSh.out.cell 1
        have z2 := hSh.out.cell 2
        have zl := hSh.out.lt
        simp only [List.getElem?_cons_zero, List.getElem?_cons_succ] at z0 z1 z2
        go_simp
        try (with_reducible rfl)
      go_simp
      refine restL_one (i := 7) (by kernel_rfl) rfl (fun K hK => ?_)
      go_simp
      refine hK.out _ _ (fun _ => ?keep) (fun hHeld => ?_)
      case keep => exact hHeld.alloc _
      have hHeld := hHeld rfl
      clear hK K
      try go_simp
      refine restL_one (i := 12) (by kernel_rfl) rfl (fun K hK => ?_)
      go_simp
      go_at_call 42
      refine (repeat_at z S 1 (some ⟨wQ.heap.size, 0, none⟩) _ st HST.out hS2 hS8 (by rw [World.size_alloc]; exact Rd.lit wQ #[.int .i64 z] 3 (sz := 1) (m := 1) rfl)).mono ?_
      rintro e w4 ⟨rfl, HR4, hb4⟩
      rw [World.size_alloc] at HR4
      have hn4 : Below wQ.heap.size wQ w4 := below_next hb4 (by go_grown)
      have HROWp : Hid (Row w4 b 25 [.int .i64 st, hv, .slice NA n nc]) := rowCells HROWd.out hn4
      have HOGp : Hid (w4.ownsRow B 41 2 (.slice NA n nc) n (nodesCells ms sl)) := own_below HOGd.out hn4 (Nat.le_refl _)
      have HXp : Hid (NextAt w4 ms sl q) := NextAt.keep HXd.out (fun k cs hk _ _ _ => (hn4.block k (heap_lt hk)).trans hk)
      have Fp : Hid (TFr B b w w4) := Fd.out.trans (TFr.ofBelow hn4 (Nat.le_trans hbB.out hszd.out))
      have hsz4 : Hid (B ≤ w4.heap.size) := Nat.le_trans hszd.out hn4.size
      have HRp : Hid (w4.ownsRow 0 3 1 (.slice (some ⟨wQ.heap.size + 1, 0, none⟩) S S) S (ints (List.replicate S z))) := Row.own HR4 (Nat.zero_le _) (by rw [ints_length, List.length_replicate, Nat.mul_one]) (by unfold maxLen; omega)
      have hqp : Hid (∀ k, q = some k → (Value.slice (some ⟨wQ.heap.size + 1, 0, none⟩) S S).ownBlock ≠ some k) := fun k hk e => by have := hqd.out k hk; have e2 : some (wQ.heap.size + 1) = some k := e; injection e2 with e2; omega
      have hbl4 := HROWp.out.lt
      clear HR4 hb4 hn4 hHeld HROWd HOGd HXd Fd hqd
      refine hK.out _ _ (fun _ => ?keep) (fun hHeld => ?_)
      case keep => exact HROWp.out
      have hHeld := hHeld rfl
      clear hK K
      try go_simp
      refine restL_pure (i := 13) (v := ?va12) rfl (by kernel_rfl) (by kernel_rfl) (by kernel_rfl) (fun _ _ _ h => h) (Or.inl ⟨by rfl, ?ya12⟩) ?ra12
      case ya12 => intro w' hSw; clear hSw; go_simp; try (with_reducible rfl)
      go_simp
      refine restL_one (i := 14) (by kernel_rfl) rfl (fun K hK => ?_)
      go_simp
      refine hK.out _ _ (fun _ => ?keep) (fun hHeld => ?_)
      case keep => exact HROWp.out.alloc _
      have hHeld := hHeld rfl
      clear hK K
      try go_simp
      refine restL_one (i := 15) (by kernel_rfl) rfl (fun K hK => ?_)
      refine step_app rfl (.tmp 20) (.tmp 30) 23 rfl B 41 (.agg #[.int .i64 0, .slice none 0 0]) 2 32 Try.underlying23 node_info rfl (by decide) (by decide) (.slice NA n nc) n (nodesCells ms sl) rfl ?own (w4.heap.size + 1) (some ⟨w4.heap.size, 0, none⟩) 1 1 [.int .i64 ((lo : Int) + (kk : Int)), .slice (some ⟨wQ.heap.size + 1, 0, none⟩) S S] rfl ?rd ?one ?hb ?hbase ?_
      case own => exact HOGp.out.alloc _
      case rd => exact Rd.lit w4 #[.int .i64 ((lo : Int) + (kk : Int)), .slice (some ⟨wQ.heap.size + 1, 0, none⟩) S S] 41 (sz := 2) (m := 1) rfl
      case one => first | exact nd_one _ _ _ _ | rfl
      case hb => omega
      case hbase => first | (have := hsz4.out; simp; omega) | (have := hsz4.out; omega)
      intro v' w' hown' hgrow' hat'
      obtain ⟨p1, p2, p3, p4⟩ := TSt.push (x := ⟨(lo : Int) + (kk : Int), List.replicate S z⟩) (s := ⟨some ⟨wQ.heap.size + 1, 0, none⟩, S, S⟩) (HROWp.out.alloc _) (HOGp.out.alloc _) HMN.out HSL.out hbB.out (NextAt.keep HXp.out (fun k cs hk _ _ _ => (Below.heap_alloc _ _ k (heap_lt hk)).trans hk)) (HRp.out.alloc _) hqp.out hgrow' hown' (Fp.out.alloc (Nat.le_trans hbB.out hsz4.out) _)
      obtain ⟨VA, vc, rfl, _⟩ := Rd.own hown'
      have PR : Hid (Row w' b 25 [.int .i64 st, hv, .slice NA n nc]) := p1
      have PS : Hid (TSt (w'.setCell ⟨b, 2, none⟩ (.slice VA (n + 1) vc)) B b st hv (ms ++ [⟨(lo : Int) + (kk : Int), List.replicate S z⟩]) q) := p2
      have PF : Hid (TFr B b w (w'.setCell ⟨b, 2, none⟩ (.slice VA (n + 1) vc))) := p3
      clear p1 p2 p3 p4
      have q2 := PR.out.cell 2
      have qf := PR.out.frozen 2
      simp only [List.getElem?_cons_zero, List.getElem?_cons_succ] at q2
      clear hown' hgrow' hat' HROWp HOGp HXp Fp hsz4 HRp hqp
      refine hK.out _ _ (fun h => absurd h (by decide)) (fun _ => ?_)
      clear hK K
      try go_simp
      refine restL_pure (i := 16) (v := ?va13) rfl (by kernel_rfl) (by kernel_rfl) (by kernel_rfl) (fun _ _ _ h => h) (Or.inl ⟨by rfl, ?ya13⟩) ?ra13
      case ya13 => intro w' hSw; clear hSw; go_simp; try (with_reducible rfl)
      go_simp
      refine restL_pure (i := 17) (v := ?va14) rfl (by kernel_rfl) (by kernel_rfl) (by kernel_rfl) (fun _ _ _ h => h) (Or.inl ⟨by rfl, ?ya14⟩) ?ra14
      case ya14 => intro w' hSw; clear hSw; go_simp; try (with_reducible rfl)
      go_simp
      refine restL_one (i := 18) (by kernel_rfl) rfl (fun K hK => ?_)
      go_simp
      refine hK.out _ _ (fun h => absurd h (by decide)) (fun _ => ?_)
      clear hK K
      try go_simp
      refine restL_done (by kernel_rfl) ?_ _
      have HR8 : Hid (Row (World.setCell w' ⟨b, 2, none⟩ (.slice VA (n + 1) vc)) b 25 [.int .i64 st, hv, .slice VA (n + 1) vc]) := PR.out.set 2 (.slice VA (n + 1) vc)
      clear q2 qf PR
      revert HR8 PS PF
      generalize World.setCell w' ⟨b, 2, none⟩ (.slice VA (n + 1) vc) = w8
      intro PS PF HR8
      have e0 := HR8.out.cell 0
      have e1 := HR8.out.cell 1
      have e2 := HR8.out.cell 2
      have el := HR8.out.lt
      simp only [List.getElem?_cons_zero, List.getElem?_cons_succ] at e0 e1 e2
      have hwn : IntKind.i64.wrap ((n : Int) + 1) = (n : Int) + 1 := IntWalk.i64_in _ (by omega)
      go_wp2
      go_roundg (c - (kk + 1))
      case measure => omega
      case rel =>
        refine ⟨kk + 1, (n : Int), by omega, by omega, by go_num, by go_num, ?_, PF.out, ?_⟩
        · show (n : Int) = _
          rw [HSU.out, HMN.out]
        · show TSt _ _ _ _ _ _ _
          rw [HSU.out]
          have h := PS.out
          rw [HZ'.out, show (lo : Int) + (kk : Int) = ((lo + kk : Nat) : Int) by omega] at h
          exact h
    · have hltz : ¬ (lo : Int) + (kk : Int) ≤ (lo : Int) + (c : Int) - 1 := by omega
      obtain rfl : kk = c := by omega
      go_wp2
      go_ret
      exact ⟨by rw [HZ.out]; rfl, RS.out, FF.out⟩
end Go.Proofs.Ytjacgoipfmiaiaa
