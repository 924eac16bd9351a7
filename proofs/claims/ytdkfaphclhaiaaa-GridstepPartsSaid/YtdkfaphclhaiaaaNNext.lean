/-
  next of package gridstep, walked.
-/
import Derived.Test.YtdkfaphclhaiaaaNPlain
import Derived.Test.YtdkfaphclhaiaaaTEvalB
import Derived.Test.YtdkfaphclhaiaaaGGetB
import Derived.Test.YtdkfaphclhaiaaaRegL
import Derived.StillTailTactics
namespace Go.Proofs.Ytdkfaphclhaiaaa
open Go.RowKit
set_option linter.unusedSimpArgs false
set_option linter.unusedVariables false
theorem int_infoN : (Try.prog.info? 3).map (fun i => (i.zero, i.size, i.bytes)) = some (some (.int .i64 0), 1, 8) := by kernel_rfl
def nextZ (t : Tre) (g : Grd) (W n k : Nat) : List Int := nextTo t g W k ++ List.replicate (n - k) 0
theorem nextZ_length {t : Tre} {g : Grd} {W n k : Nat} (h : k ≤ n) : (nextZ t g W n k).length = n := by simp [nextZ, nextTo_length]; omega
theorem nextZ_set {t : Tre} {g : Grd} {W n k : Nat} (h : k < n) : (nextZ t g W n k).set k (nextAt t g ((k % W : Nat) : Int) ((k / W : Nat) : Int)) = nextZ t g W n (k + 1) := by
  unfold nextZ
  rw [List.set_append_right _ _ (by rw [nextTo_length]; omega), nextTo_length, Nat.sub_self, nextTo_succ, List.append_assoc]
  congr 1
  obtain ⟨m, hm⟩ : ∃ m, n - k = m + 1 := ⟨n - k - 1, by omega⟩
  rw [hm, show n - (k + 1) = m by omega, List.replicate_succ]; rfl
theorem ints_setN (zs : List Int) (k : Nat) (z : Int) : (ints zs).set k (.int .i64 z) = ints (zs.set k z) := by simp [ints, List.map_set]
theorem cell_of {x y W : Nat} (hx : x < W) : (y * W + x) % W = x ∧ (y * W + x) / W = y := by
  have h0 : 0 < W := by omega
  refine ⟨?_, ?_⟩
  · rw [Nat.add_comm, Nat.add_mul_mod_self_right, Nat.mod_eq_of_lt hx]
  · rw [Nat.add_comm, Nat.add_mul_div_right _ _ h0, Nat.div_eq_of_lt hx, Nat.zero_add]
theorem cell_in {x y W H : Nat} (hx : x < W) (hy : y < H) : y * W + x < H * W := by
  have : (y + 1) * W ≤ H * W := Nat.mul_le_mul_right W hy
  rw [Nat.add_mul, Nat.one_mul] at this
  omega
theorem hood_pt {t : Tre} (h : rightT t = true) {k : Nat} (hk : k < t.hood.length) : (-2 ≤ (t.hood.getD k default).x ∧ (t.hood.getD k default).x ≤ 2) ∧ (-2 ≤ (t.hood.getD k default).y ∧ (t.hood.getD k default).y ≤ 2) := by
  have := (rightT_parts h).1
  simp only [hoodOk, hoodPts, Bool.and_eq_true, decide_eq_true_eq] at this
  have := (this.2 k hk).1
  simpa [ptOk, radius] using this
/-- What a call returns that returns a new grid. -/
def NewGrid (r : Grd) (w : World) (e : Ending) (w' : World) : Prop :=
  ∃ gb, e = .returned (.agg #[.int .i64 r.w, .int .i64 r.h, .int .i64 r.edge, .slice (some ⟨gb, 0, none⟩) r.cells.length r.cells.length]) ∧ Row w' gb 3 (ints r.cells) ∧ w.heap.size ≤ gb ∧ Below w.heap.size w w'
set_option maxRecDepth 100000 in
set_option maxHeartbeats 8000000 in
theorem next_any (t : Tre) (g : Grd) (HA NA A : Option Addr) (hn hc nn nc n ac : Nat) (sl : List Sl) (w : World) (ht : TAt w t HA NA hn nn sl) (hg : GAt w g A n) (hok : OkTG t g) :
    Calls Try.prog 30 #[.agg #[.int .i64 t.states, .slice HA hn hc, .slice NA nn nc], .agg #[.int .i64 g.w, .int .i64 g.h, .int .i64 g.edge, .slice A n ac]] w (NewGrid (nextG t g) w) := by
  have HT : Hid (TAt w t HA NA hn nn sl) := ht
  have HG : Hid (GAt w g A n) := hg
  have HL : Hid (g.cells.length = n) := hg.cl
  have HHL : Hid (t.hood.length = hn) := ht.hl
  have HNL : Hid (t.nodes.length = nn) := ht.nl
  have HOK : Hid (OkTG t g) := hok
  obtain ⟨g1, g2, g3⟩ := rightG_parts hok.rg
  obtain ⟨⟨s1, s2⟩, ⟨s3, s4⟩, s5, _⟩ := sizedF_parts g1
  obtain ⟨W, hW⟩ : ∃ W : Nat, g.w = (W : Int) := ⟨g.w.toNat, by omega⟩
  obtain ⟨Hh, hH⟩ : ∃ Hh : Nat, g.h = (Hh : Int) := ⟨g.h.toNat, by omega⟩
  have HW : Hid (g.w = (W : Int)) := hW
  have HH : Hid (g.h = (Hh : Int)) := hH
  have hnWH : n = Hh * W := by
    have h9 := g2
    rw [HL.out, hW, hH, Int.mul_comm] at h9
    exact_mod_cast h9
  have HNWH : Hid (n = Hh * W) := hnWH
  have hn4 : n ≤ 4096 := by rw [← g2, HL.out] at s5; omega
  have hW1 : 1 ≤ W ∧ W ≤ 256 := by omega
  have hH1 : 1 ≤ Hh ∧ Hh ≤ 256 := by omega
  obtain ⟨hp1, hp2⟩ := hood_pos hok.rt
  rw [HHL.out] at hp1 hp2
  obtain ⟨_, n1, n2, _⟩ := (rightT_parts hok.rt).2.1
  rw [HNL.out] at n1 n2
  clear ht hg hok g1 g2 g3 s1 s2 s3 s4 s5 hW hH hnWH
  have hmk := fun W9 => make_like (P := Try.prog) Try.underlying26 int_infoN rfl n (n : Int) rfl (by omega) (by omega) W9
  go_enter Try.func30, Try.ntmps30
  go_wp2
  have RT1 : Hid (Row (World.alloc (World.alloc (World.alloc (World.alloc (World.alloc w (.cells #[.int .i64 t.states, .slice HA hn hc, .slice NA nn nc] 25)) (.cells #[.int .i64 g.w, .int .i64 g.h, .int .i64 g.edge, .slice A n ac] 28)) (.cells #[.int .i64 0, .int .i64 0, .int .i64 0, .slice none 0 0] 28)) (.cells #[.int .i64 g.w, .int .i64 g.h, .int .i64 g.edge, .slice (some ⟨w.heap.size + 1 + 1 + 1 + 1, 0, none⟩) n n] 28)) (.cells (likeRow (Value.int .i64 0) n) 3)) w.heap.size 25 [.int .i64 t.states, .slice HA hn hc, .slice NA nn nc]) := (((((Row.new w 25 [.int .i64 t.states, .slice HA hn hc, .slice NA nn nc]).alloc _).alloc _).alloc _).alloc _)
  have RG1 : Hid (Row (World.alloc (World.alloc (World.alloc (World.alloc (World.alloc w (.cells #[.int .i64 t.states, .slice HA hn hc, .slice NA nn nc] 25)) (.cells #[.int .i64 g.w, .int .i64 g.h, .int .i64 g.edge, .slice A n ac] 28)) (.cells #[.int .i64 0, .int .i64 0, .int .i64 0, .slice none 0 0] 28)) (.cells #[.int .i64 g.w, .int .i64 g.h, .int .i64 g.edge, .slice (some ⟨w.heap.size + 1 + 1 + 1 + 1, 0, none⟩) n n] 28)) (.cells (likeRow (Value.int .i64 0) n) 3)) (w.heap.size + 1) 28 [.int .i64 g.w, .int .i64 g.h, .int .i64 g.edge, .slice A n ac]) := ((((rowNew1 w _ 28 [.int .i64 g.w, .int .i64 g.h, .int .i64 g.edge, .slice A n ac]).alloc _).alloc _).alloc _)
  have RZ1 : Hid (Row (World.alloc (World.alloc (World.alloc (World.alloc (World.alloc w (.cells #[.int .i64 t.states, .slice HA hn hc, .slice NA nn nc] 25)) (.cells #[.int .i64 g.w, .int .i64 g.h, .int .i64 g.edge, .slice A n ac] 28)) (.cells #[.int .i64 0, .int .i64 0, .int .i64 0, .slice none 0 0] 28)) (.cells #[.int .i64 g.w, .int .i64 g.h, .int .i64 g.edge, .slice (some ⟨w.heap.size + 1 + 1 + 1 + 1, 0, none⟩) n n] 28)) (.cells (likeRow (Value.int .i64 0) n) 3)) (w.heap.size + 1 + 1) 28 [.int .i64 0, .int .i64 0, .int .i64 0, .slice none 0 0]) := (((rowNew2 w _ _ 28 [.int .i64 0, .int .i64 0, .int .i64 0, .slice none 0 0]).alloc _).alloc _)
  have RO1 : Hid (Row (World.alloc (World.alloc (World.alloc (World.alloc (World.alloc w (.cells #[.int .i64 t.states, .slice HA hn hc, .slice NA nn nc] 25)) (.cells #[.int .i64 g.w, .int .i64 g.h, .int .i64 g.edge, .slice A n ac] 28)) (.cells #[.int .i64 0, .int .i64 0, .int .i64 0, .slice none 0 0] 28)) (.cells #[.int .i64 g.w, .int .i64 g.h, .int .i64 g.edge, .slice (some ⟨w.heap.size + 1 + 1 + 1 + 1, 0, none⟩) n n] 28)) (.cells (likeRow (Value.int .i64 0) n) 3)) (w.heap.size + 1 + 1 + 1) 28 [.int .i64 g.w, .int .i64 g.h, .int .i64 g.edge, .slice (some ⟨w.heap.size + 1 + 1 + 1 + 1, 0, none⟩) n n]) := (by
    have h0 := Row.new (World.alloc (World.alloc (World.alloc w (.cells #[.int .i64 t.states, .slice HA hn hc, .slice NA nn nc] 25)) (.cells #[.int .i64 g.w, .int .i64 g.h, .int .i64 g.edge, .slice A n ac] 28)) (.cells #[.int .i64 0, .int .i64 0, .int .i64 0, .slice none 0 0] 28)) 28 [.int .i64 g.w, .int .i64 g.h, .int .i64 g.edge, .slice (some ⟨w.heap.size + 1 + 1 + 1 + 1, 0, none⟩) n n]
    simp only [World.size_alloc] at h0
    exact h0.alloc _)
  have RV1 : Hid (Row (World.alloc (World.alloc (World.alloc (World.alloc (World.alloc w (.cells #[.int .i64 t.states, .slice HA hn hc, .slice NA nn nc] 25)) (.cells #[.int .i64 g.w, .int .i64 g.h, .int .i64 g.edge, .slice A n ac] 28)) (.cells #[.int .i64 0, .int .i64 0, .int .i64 0, .slice none 0 0] 28)) (.cells #[.int .i64 g.w, .int .i64 g.h, .int .i64 g.edge, .slice (some ⟨w.heap.size + 1 + 1 + 1 + 1, 0, none⟩) n n] 28)) (.cells (likeRow (Value.int .i64 0) n) 3)) (w.heap.size + 1 + 1 + 1 + 1) 3 (ints (nextZ t g W n 0))) := (by
    have h0 := Row.new (World.alloc (World.alloc (World.alloc (World.alloc w (.cells #[.int .i64 t.states, .slice HA hn hc, .slice NA nn nc] 25)) (.cells #[.int .i64 g.w, .int .i64 g.h, .int .i64 g.edge, .slice A n ac] 28)) (.cells #[.int .i64 0, .int .i64 0, .int .i64 0, .slice none 0 0] 28)) (.cells #[.int .i64 g.w, .int .i64 g.h, .int .i64 g.edge, .slice (some ⟨w.heap.size + 1 + 1 + 1 + 1, 0, none⟩) n n] 28)) 3 (List.replicate n (Value.int .i64 0))
    simp only [World.size_alloc] at h0
    have e : ints (nextZ t g W n 0) = List.replicate n (Value.int .i64 0) := by simp [nextZ, nextTo, ints]
    show Row _ _ _ _
    rw [e]; exact h0)
  have BW1 : Hid (Below w.heap.size w (World.alloc (World.alloc (World.alloc (World.alloc (World.alloc w (.cells #[.int .i64 t.states, .slice HA hn hc, .slice NA nn nc] 25)) (.cells #[.int .i64 g.w, .int .i64 g.h, .int .i64 g.edge, .slice A n ac] 28)) (.cells #[.int .i64 0, .int .i64 0, .int .i64 0, .slice none 0 0] 28)) (.cells #[.int .i64 g.w, .int .i64 g.h, .int .i64 g.edge, .slice (some ⟨w.heap.size + 1 + 1 + 1 + 1, 0, none⟩) n n] 28)) (.cells (likeRow (Value.int .i64 0) n) 3))) := (by show Below _ _ _; go_grown)
  clear hmk
  revert RT1 RG1 RZ1 RO1 RV1 BW1
  generalize (World.alloc (World.alloc (World.alloc (World.alloc (World.alloc w (.cells #[.int .i64 t.states, .slice HA hn hc, .slice NA nn nc] 25)) (.cells #[.int .i64 g.w, .int .i64 g.h, .int .i64 g.edge, .slice A n ac] 28)) (.cells #[.int .i64 0, .int .i64 0, .int .i64 0, .slice none 0 0] 28)) (.cells #[.int .i64 g.w, .int .i64 g.h, .int .i64 g.edge, .slice (some ⟨w.heap.size + 1 + 1 + 1 + 1, 0, none⟩) n n] 28)) (.cells (likeRow (Value.int .i64 0) n) 3)) = w1
  intro RT1 RG1 RZ1 RO1 RV1 BW1
  go_loopg [6, 7, 8, 10, 19, 24, 34] Hh (fun gg _ _ _ _ s19 _ _ wr => ∃ y : Nat, y ≤ Hh ∧ Hh - y ≤ gg ∧ s19 = .int .i64 y ∧ Aside (Below w.heap.size w wr) ∧ Aside (Row wr w.heap.size 25 [.int .i64 t.states, .slice HA hn hc, .slice NA nn nc]) ∧ Aside (Row wr (w.heap.size + 1) 28 [.int .i64 g.w, .int .i64 g.h, .int .i64 g.edge, .slice A n ac]) ∧ Aside (Row wr (w.heap.size + 1 + 1) 28 [.int .i64 0, .int .i64 0, .int .i64 0, .slice none 0 0]) ∧ Aside (Row wr (w.heap.size + 1 + 1 + 1) 28 [.int .i64 g.w, .int .i64 g.h, .int .i64 g.edge, .slice (some ⟨w.heap.size + 1 + 1 + 1 + 1, 0, none⟩) n n]) ∧ Aside (Row wr (w.heap.size + 1 + 1 + 1 + 1) 3 (ints (nextZ t g W n (y * W)))))
  case atStart => exact ⟨0, Nat.zero_le _, by omega, rfl, BW1.out, RT1.out, RG1.out, RZ1.out, RO1.out, (by rw [Nat.zero_mul]; exact RV1.out)⟩
  case round =>
    clear RT1 RG1 RZ1 RO1 RV1 BW1
    obtain ⟨y, hy, hgy, rfl, BW, RT, RG, RZ, RO, RV⟩ := hrel
    have k0 := RG.out.cell 0
    have k1 := RG.out.cell 1
    have k2 := RG.out.cell 2
    have k3 := RG.out.cell 3
    have kl := RG.out.lt
    simp only [List.getElem?_cons_zero, List.getElem?_cons_succ] at k0 k1 k2 k3
    by_cases hly : y < Hh
    · have hlyz : (y : Int) < g.h := by have := HH.out; omega
      go_wp2
      clear k0 k1 k2 k3 kl
      go_loopg [7, 8, 10, 24, 34] W (fun gg _ _ _ s24 _ wr => ∃ x : Nat, x ≤ W ∧ W - x ≤ gg ∧ s24 = .int .i64 x ∧ Aside (Below w.heap.size w wr) ∧ Aside (Row wr w.heap.size 25 [.int .i64 t.states, .slice HA hn hc, .slice NA nn nc]) ∧ Aside (Row wr (w.heap.size + 1) 28 [.int .i64 g.w, .int .i64 g.h, .int .i64 g.edge, .slice A n ac]) ∧ Aside (Row wr (w.heap.size + 1 + 1) 28 [.int .i64 0, .int .i64 0, .int .i64 0, .slice none 0 0]) ∧ Aside (Row wr (w.heap.size + 1 + 1 + 1) 28 [.int .i64 g.w, .int .i64 g.h, .int .i64 g.edge, .slice (some ⟨w.heap.size + 1 + 1 + 1 + 1, 0, none⟩) n n]) ∧ Aside (Row wr (w.heap.size + 1 + 1 + 1 + 1) 3 (ints (nextZ t g W n (y * W + x)))))
      case atStart => exact ⟨0, Nat.zero_le _, by omega, rfl, BW, RT, RG, RZ, RO, RV⟩
      case round =>
        clear BW RT RG RZ RO RV
        obtain ⟨x, hx, hgx, rfl, BW, RT, RG, RZ, RO, RV⟩ := hrel
        by_cases hlx : x < W
        · have hlxz : (x : Int) < g.w := by have := HW.out; omega
          obtain ⟨kk, hkk⟩ : ∃ kk, kk = y * W + x := ⟨_, rfl⟩
          have hkn : kk < n := by rw [hkk, HNWH.out]; exact cell_in hlx hly
          obtain ⟨mm, hmm⟩ : ∃ mm, mm = y * W := ⟨_, rfl⟩
          have HMM : Hid (mm = y * W ∧ kk = mm + x) := ⟨hmm, by rw [hmm]; exact hkk⟩
          have hmx : kk = mm + x := HMM.out.2
          clear hkk hmm
          have HIL : Hid ((hoodIn g t.hood (x : Int) (y : Int)).length = hn) := (by show _ = _; rw [hoodIn_length, HHL.out])
          have HIA : Hid ((hoodIn g t.hood (x : Int) (y : Int)).all (stateIn t) = true) := hoodIn_all HOK.out _ _ _
          have RV : Hid (Row wr (w.heap.size + 1 + 1 + 1 + 1) 3 (ints (nextZ t g W n kk))) := (by have h9 := RV.out; rw [← HMM.out.1, ← HMM.out.2] at h9; exact h9)
          have hwk : IntKind.i64.wrap ((nn : Int) - 1) = (nn : Int) - 1 := IntWalk.i64_in _ (by omega)
          have k0 := RT.out.cell 0
          have k1 := RT.out.cell 1
          have k2 := RT.out.cell 2
          have kl := RT.out.lt
          simp only [List.getElem?_cons_zero, List.getElem?_cons_succ] at k0 k1 k2
          go_wp2
          clear k0 k1 k2 kl hwk
          go_loopg [8, 10, 34] hn (fun gg s8 _ s34 wr => ∃ (j : Nat) (z : Int), j ≤ hn ∧ hn - j ≤ gg ∧ s34 = .int .i64 j ∧ s8 = .int .i64 z ∧ Aside (z = walkT t ((t.nodes.length : Int) - 1) ((hoodIn g t.hood (x : Int) (y : Int)).take j)) ∧ Aside (Below w.heap.size w wr) ∧ Aside (Row wr w.heap.size 25 [.int .i64 t.states, .slice HA hn hc, .slice NA nn nc]) ∧ Aside (Row wr (w.heap.size + 1) 28 [.int .i64 g.w, .int .i64 g.h, .int .i64 g.edge, .slice A n ac]) ∧ Aside (Row wr (w.heap.size + 1 + 1) 28 [.int .i64 0, .int .i64 0, .int .i64 0, .slice none 0 0]) ∧ Aside (Row wr (w.heap.size + 1 + 1 + 1) 28 [.int .i64 g.w, .int .i64 g.h, .int .i64 g.edge, .slice (some ⟨w.heap.size + 1 + 1 + 1 + 1, 0, none⟩) n n]) ∧ Aside (Row wr (w.heap.size + 1 + 1 + 1 + 1) 3 (ints (nextZ t g W n kk))))
          case atStart => exact ⟨0, _, Nat.zero_le _, by omega, rfl, rfl, (show _ = _ by rw [HNL.out]; rfl), BW.out, RT.out, RG.out, RZ.out, RO.out, RV.out⟩
          case round =>
            clear BW RT RG RZ RO RV
            obtain ⟨j, z, hj, hgj, rfl, rfl, HZ, BW, RT, RG, RZ, RO, RV⟩ := hrel
            by_cases hlj : j < hn
            · have hljz : (j : Int) < (hn : Int) := by omega
              obtain ⟨kn, sn, e1, e2, h1, h2, e3⟩ := walk_step HOK.out.rt (hoodIn g t.hood (x : Int) (y : Int)) (hoodIn_length _ _ _ _) HIA.out j (by rw [HIL.out]; exact hlj)
              rw [HZ.out.symm] at e1
              subst e1
              rw [HNL.out] at h1
              obtain ⟨pd, rfl, hpb, hp0, hp1⟩ := (HT.out.up BW.out).point hlj
              obtain ⟨pb1, pb2⟩ := hood_pt HOK.out.rt (k := j) (by rw [HHL.out]; exact hlj)
              have hget := hoodIn_getD g t.hood (x : Int) (y : Int) j (by rw [HHL.out]; exact hlj)
              rw [e2] at hget
              generalize t.hood.getD j default = pt at hp0 hp1 pb1 pb2 hget
              obtain ⟨px, py⟩ := pt
              dsimp only at hp0 hp1 pb1 pb2 hget
              obtain ⟨nd, rfl, hnb, _, gn1⟩ := (HT.out.up BW.out).node h1
              have HNX := (HT.out.up BW.out).next kn (by rw [HNL.out]; exact h1)
              have hql2 : (t.nodes.getD kn default).next.length = (sl.getD kn default).len := by have := HNX.1.1; rw [ints_length, Nat.mul_one] at this; exact this
              rw [hql2] at h2
              generalize sl.getD kn default = q at gn1 HNX h2 hql2
              obtain ⟨qa, ql, qc⟩ := q
              dsimp only at HNX gn1 h2
              obtain ⟨qd, rfl, hqb, gq⟩ := HNX.1.int h2
              rw [← e3] at gq
              obtain ⟨v, hv⟩ : ∃ v, v = walkT t ((t.nodes.length : Int) - 1) ((hoodIn g t.hood (x : Int) (y : Int)).take (j + 1)) := ⟨_, rfl⟩
              rw [← hv] at gq
              have HV : Hid (v = walkT t ((t.nodes.length : Int) - 1) ((hoodIn g t.hood (x : Int) (y : Int)).take (j + 1))) := hv
              have HGET : Hid (getF g ((x : Int) + px) ((y : Int) + py) = (sn : Int)) := hget.symm
              have HCN : Hid (∀ W9, Below wr.heap.size wr W9 → W9.cell? ⟨(nd.add (kn * 2)).block, (nd.add (kn * 2)).off + 1, none⟩ = some (.slice (some qd) ql qc) ∧ W9.cell? (qd.add sn) = some (.int .i64 v)) := fun W9 h9 => ⟨(h9.cell (by show (nd.add (kn * 2)).block < _; rw [add_block]; exact hnb)).trans gn1, (h9.cell (by rw [add_block]; exact hqb)).trans gq⟩
              have hi1 : (kn : Int) < (nn : Int) := by omega
              have hi2 : (0 : Int) ≤ (kn : Int) := by omega
              have hi3 : (sn : Int) < (ql : Int) := by omega
              have hi4 : (0 : Int) ≤ (sn : Int) := by omega
              have hwx : IntKind.i64.wrap ((x : Int) + px) = (x : Int) + px := IntWalk.i64_in _ (by omega)
              have hwy : IntKind.i64.wrap ((y : Int) + py) = (y : Int) + py := IntWalk.i64_in _ (by omega)
              clear hv hql2 HNX e2 e3 gn1 gq hget HZ h1 h2 hnb hqb
              have B_w : Hid (Below w.heap.size w wr) := BW.out
              clear BW
              have kR : Hid (Row wr (w.heap.size) 25 [.int .i64 t.states, .slice (some pd) hn hc, .slice (some nd) nn nc]) := RT.out
              have k0 := kR.out.cell 0
              have k1 := kR.out.cell 1
              have k2 := kR.out.cell 2
              have kl := kR.out.lt
              simp only [List.getElem?_cons_zero, List.getElem?_cons_succ] at k0 k1 k2
              clear kR
              go_wp2_with fail
              clear hp0 hp1 hpb
              have RD : Hid (Row (World.alloc wr (.cells #[.int .i64 px, .int .i64 py] 65)) (wr.heap.size) 65 [.int .i64 px, .int .i64 py]) := by
                have h0 := Row.new wr 65 [.int .i64 px, .int .i64 py]
                try simp only [World.size_alloc] at h0
                exact h0
              have hgr9 : Below wr.heap.size wr (World.alloc wr (.cells #[.int .i64 px, .int .i64 py] 65)) := by go_grown
              have B_w : Hid (Below w.heap.size w (World.alloc wr (.cells #[.int .i64 px, .int .i64 py] 65))) := below_on2 B_w.out hgr9
              have B_wr : Hid (Below wr.heap.size wr (World.alloc wr (.cells #[.int .i64 px, .int .i64 py] 65))) := hgr9
              clear hgr9
              clear k0 k1 k2 kl
              revert RD B_w B_wr
              generalize (World.alloc wr (.cells #[.int .i64 px, .int .i64 py] 65)) = w8
              intro RD B_w B_wr
              refine wp_region_L (fun w' => Row w' (w.heap.size) 25 [.int .i64 t.states, .slice (some pd) hn hc, .slice (some nd) nn nc] ∧ Row w' ((w.heap.size + 1)) 28 [.int .i64 g.w, .int .i64 g.h, .int .i64 g.edge, .slice A n ac] ∧ Row w' (wr.heap.size) 65 [.int .i64 px, .int .i64 py] ∧ w'.cell? ⟨(nd.add (kn * 2)).block, (nd.add (kn * 2)).off + 1, none⟩ = some (.slice (some qd) ql qc) ∧ w'.cell? (qd.add sn) = some (.int .i64 v)) [] (by kernel_rfl) (by exact ⟨Row.drew (rowCells RT.out B_wr.out), Row.drew (rowCells RG.out B_wr.out), Row.drew RD.out, (HCN.out _ B_wr.out).1, (HCN.out _ B_wr.out).2⟩) (fun hHeld => ?_)
              have B_w : Hid (Below w.heap.size w (World.drew w8)) := B_w.out.drew
              have B_wr : Hid (Below wr.heap.size wr (World.drew w8)) := B_wr.out.drew
              have B_w8 : Hid (Below w8.heap.size w8 (World.drew w8)) := (Below.refl _ _).drew
              revert hHeld B_w B_wr B_w8
              generalize World.drew w8 = w8q
              intro hHeld B_w B_wr B_w8
              refine restL_pure (i := 0) (v := ?va1) rfl (by kernel_rfl) (by kernel_rfl) (by kernel_rfl) (fun _ _ _ h => h) (Or.inl ⟨by rfl, ?ya1⟩) ?ra1
              case ya1 => intro w' hSw; clear hSw; go_simp; try (with_reducible rfl)
              go_simp
              refine restL_pure (i := 2) (v := ?va2) rfl (by kernel_rfl) (by kernel_rfl) (by kernel_rfl) (fun _ _ _ h => h) (Or.inl ⟨by rfl, ?ya2⟩) ?ra2
              case ya2 => intro w' hSw; clear hSw; go_simp; try (with_reducible rfl)
              go_simp
              refine restL_pure (i := 7) (v := ?va3) rfl (by kernel_rfl) (by kernel_rfl) (by kernel_rfl) (fun _ _ _ h => h) (Or.inl ⟨by rfl, ?ya3⟩) ?ra3
              case ya3 => intro w' hSw; clear hSw; go_simp; try (with_reducible rfl)
              go_simp
              refine restL_pure (i := 8) (v := ?va4) rfl (by kernel_rfl) (by kernel_rfl) (by kernel_rfl) (fun _ _ _ h => h) (Or.inl ⟨by rfl, ?ya4⟩) ?ra4
              case ya4 => intro w' hSw; clear hSw; go_simp; try (with_reducible rfl)
              go_simp
              refine restL_pure (i := 11) (v := ?va5) rfl (by kernel_rfl) (by kernel_rfl) (by kernel_rfl) (fun _ _ _ h => h) (Or.inl ⟨by rfl, ?ya5⟩) ?ra5
              case ya5 => intro w' hSw; clear hSw; go_simp; try (with_reducible rfl)
              go_simp
              refine restL_pure (i := 12) (v := ?va6) rfl (by kernel_rfl) (by kernel_rfl) (by kernel_rfl) (fun _ _ _ h => h) (Or.inl ⟨by rfl, ?ya6⟩) ?ra6
              case ya6 => intro w' hSw; clear hSw; go_simp; try (with_reducible rfl)
              go_simp
              refine restL_take (i := 1) (v := ?va7) [] rfl (by kernel_rfl) (by kernel_rfl) (by kernel_rfl) (by kernel_rfl) (fun _ _ _ h => h) (Or.inl ⟨by rfl, ?ya7⟩) hHeld ?ra7
              case ya7 =>
                intro w' hSw
                obtain ⟨hS0, hS1, hS2, hF0, hF1⟩ := hSw
                have hT0 : Hid (Row w' (w.heap.size) 25 [.int .i64 t.states, .slice (some pd) hn hc, .slice (some nd) nn nc]) := hS0
                clear hS0
                have z0_0 := hT0.out.cell 0
                have z0_1 := hT0.out.cell 1
                have z0_2 := hT0.out.cell 2
                have z0_l := hT0.out.lt
                simp only [List.getElem?_cons_zero, List.getElem?_cons_succ] at z0_0 z0_1 z0_2
                have hT1 : Hid (Row w' ((w.heap.size + 1)) 28 [.int .i64 g.w, .int .i64 g.h, .int .i64 g.edge, .slice A n ac]) := hS1
                clear hS1
                have z1_0 := hT1.out.cell 0
                have z1_1 := hT1.out.cell 1
                have z1_2 := hT1.out.cell 2
                have z1_3 := hT1.out.cell 3
                have z1_l := hT1.out.lt
                simp only [List.getElem?_cons_zero, List.getElem?_cons_succ] at z1_0 z1_1 z1_2 z1_3
                have hT2 : Hid (Row w' (wr.heap.size) 65 [.int .i64 px, .int .i64 py]) := hS2
                clear hS2
                have z2_0 := hT2.out.cell 0
                have z2_1 := hT2.out.cell 1
                have z2_l := hT2.out.lt
                simp only [List.getElem?_cons_zero, List.getElem?_cons_succ] at z2_0 z2_1
                go_simp
                try (with_reducible rfl)
              go_simp
              refine restL_take (i := 3) (v := ?va8) [] rfl (by kernel_rfl) (by kernel_rfl) (by kernel_rfl) (by kernel_rfl) (fun _ _ _ h => h) (Or.inl ⟨by rfl, ?ya8⟩) hHeld ?ra8
              case ya8 =>
                intro w' hSw
                obtain ⟨hS0, hS1, hS2, hF0, hF1⟩ := hSw
                have hT0 : Hid (Row w' (w.heap.size) 25 [.int .i64 t.states, .slice (some pd) hn hc, .slice (some nd) nn nc]) := hS0
                clear hS0
                have z0_0 := hT0.out.cell 0
                have z0_1 := hT0.out.cell 1
                have z0_2 := hT0.out.cell 2
                have z0_l := hT0.out.lt
                simp only [List.getElem?_cons_zero, List.getElem?_cons_succ] at z0_0 z0_1 z0_2
                have hT1 : Hid (Row w' ((w.heap.size + 1)) 28 [.int .i64 g.w, .int .i64 g.h, .int .i64 g.edge, .slice A n ac]) := hS1
                clear hS1
                have z1_0 := hT1.out.cell 0
                have z1_1 := hT1.out.cell 1
                have z1_2 := hT1.out.cell 2
                have z1_3 := hT1.out.cell 3
                have z1_l := hT1.out.lt
                simp only [List.getElem?_cons_zero, List.getElem?_cons_succ] at z1_0 z1_1 z1_2 z1_3
                have hT2 : Hid (Row w' (wr.heap.size) 65 [.int .i64 px, .int .i64 py]) := hS2
                clear hS2
                have z2_0 := hT2.out.cell 0
                have z2_1 := hT2.out.cell 1
                have z2_l := hT2.out.lt
                simp only [List.getElem?_cons_zero, List.getElem?_cons_succ] at z2_0 z2_1
                go_simp
                try (with_reducible rfl)
              go_simp
              refine restL_pure (i := 4) (v := ?va9) rfl (by kernel_rfl) (by kernel_rfl) (by kernel_rfl) (fun _ _ _ h => h) (Or.inl ⟨by rfl, ?ya9⟩) ?ra9
              case ya9 => intro w' hSw; clear hSw; go_simp; try (with_reducible rfl)
              go_simp
              refine restL_take (i := 5) (v := ?va10) [] rfl (by kernel_rfl) (by kernel_rfl) (by kernel_rfl) (by kernel_rfl) (fun _ _ _ h => h) (Or.inl ⟨by rfl, ?ya10⟩) hHeld ?ra10
              case ya10 =>
                intro w' hSw
                obtain ⟨hS0, hS1, hS2, hF0, hF1⟩ := hSw
                have hT0 : Hid (Row w' (w.heap.size) 25 [.int .i64 t.states, .slice (some pd) hn hc, .slice (some nd) nn nc]) := hS0
                clear hS0
                have z0_0 := hT0.out.cell 0
                have z0_1 := hT0.out.cell 1
                have z0_2 := hT0.out.cell 2
                have z0_l := hT0.out.lt
                simp only [List.getElem?_cons_zero, List.getElem?_cons_succ] at z0_0 z0_1 z0_2
                have hT1 : Hid (Row w' ((w.heap.size + 1)) 28 [.int .i64 g.w, .int .i64 g.h, .int .i64 g.edge, .slice A n ac]) := hS1
                clear hS1
                have z1_0 := hT1.out.cell 0
                have z1_1 := hT1.out.cell 1
                have z1_2 := hT1.out.cell 2
                have z1_3 := hT1.out.cell 3
                have z1_l := hT1.out.lt
                simp only [List.getElem?_cons_zero, List.getElem?_cons_succ] at z1_0 z1_1 z1_2 z1_3
                have hT2 : Hid (Row w' (wr.heap.size) 65 [.int .i64 px, .int .i64 py]) := hS2
                clear hS2
                have z2_0 := hT2.out.cell 0
                have z2_1 := hT2.out.cell 1
                have z2_l := hT2.out.lt
                simp only [List.getElem?_cons_zero, List.getElem?_cons_succ] at z2_0 z2_1
                go_simp
                try (with_reducible rfl)
              go_simp
              refine restL_take (i := 6) (v := ?va11) [] rfl (by kernel_rfl) (by kernel_rfl) (by kernel_rfl) (by kernel_rfl) (fun _ _ _ h => h) (Or.inl ⟨by rfl, ?ya11⟩) hHeld ?ra11
              case ya11 =>
                intro w' hSw
                obtain ⟨hS0, hS1, hS2, hF0, hF1⟩ := hSw
                have hT0 : Hid (Row w' (w.heap.size) 25 [.int .i64 t.states, .slice (some pd) hn hc, .slice (some nd) nn nc]) := hS0
                clear hS0
                have z0_0 := hT0.out.cell 0
                have z0_1 := hT0.out.cell 1
                have z0_2 := hT0.out.cell 2
                have z0_l := hT0.out.lt
                simp only [List.getElem?_cons_zero, List.getElem?_cons_succ] at z0_0 z0_1 z0_2
                have hT1 : Hid (Row w' ((w.heap.size + 1)) 28 [.int .i64 g.w, .int .i64 g.h, .int .i64 g.edge, .slice A n ac]) := hS1
                clear hS1
                have z1_0 := hT1.out.cell 0
                have z1_1 := hT1.out.cell 1
                have z1_2 := hT1.out.cell 2
                have z1_3 := hT1.out.cell 3
                have z1_l := hT1.out.lt
                simp only [List.getElem?_cons_zero, List.getElem?_cons_succ] at z1_0 z1_1 z1_2 z1_3
                have hT2 : Hid (Row w' (wr.heap.size) 65 [.int .i64 px, .int .i64 py]) := hS2
                clear hS2
                have z2_0 := hT2.out.cell 0
                have z2_1 := hT2.out.cell 1
                have z2_l := hT2.out.lt
                simp only [List.getElem?_cons_zero, List.getElem?_cons_succ] at z2_0 z2_1
                go_simp
                try (with_reducible rfl)
              go_simp
              refine restL_take (i := 9) (v := ?va12) [] rfl (by kernel_rfl) (by kernel_rfl) (by kernel_rfl) (by kernel_rfl) (fun _ _ _ h => h) (Or.inl ⟨by rfl, ?ya12⟩) hHeld ?ra12
              case ya12 =>
                intro w' hSw
                obtain ⟨hS0, hS1, hS2, hF0, hF1⟩ := hSw
                have hT0 : Hid (Row w' (w.heap.size) 25 [.int .i64 t.states, .slice (some pd) hn hc, .slice (some nd) nn nc]) := hS0
                clear hS0
                have z0_0 := hT0.out.cell 0
                have z0_1 := hT0.out.cell 1
                have z0_2 := hT0.out.cell 2
                have z0_l := hT0.out.lt
                simp only [List.getElem?_cons_zero, List.getElem?_cons_succ] at z0_0 z0_1 z0_2
                have hT1 : Hid (Row w' ((w.heap.size + 1)) 28 [.int .i64 g.w, .int .i64 g.h, .int .i64 g.edge, .slice A n ac]) := hS1
                clear hS1
                have z1_0 := hT1.out.cell 0
                have z1_1 := hT1.out.cell 1
                have z1_2 := hT1.out.cell 2
                have z1_3 := hT1.out.cell 3
                have z1_l := hT1.out.lt
                simp only [List.getElem?_cons_zero, List.getElem?_cons_succ] at z1_0 z1_1 z1_2 z1_3
                have hT2 : Hid (Row w' (wr.heap.size) 65 [.int .i64 px, .int .i64 py]) := hS2
                clear hS2
                have z2_0 := hT2.out.cell 0
                have z2_1 := hT2.out.cell 1
                have z2_l := hT2.out.lt
                simp only [List.getElem?_cons_zero, List.getElem?_cons_succ] at z2_0 z2_1
                go_simp
                try (with_reducible rfl)
              go_simp
              refine restL_pure (i := 10) (v := ?va13) rfl (by kernel_rfl) (by kernel_rfl) (by kernel_rfl) (fun _ _ _ h => h) (Or.inl ⟨by rfl, ?ya13⟩) ?ra13
              case ya13 => intro w' hSw; clear hSw; go_simp; try (with_reducible rfl)
              go_simp
              refine restL_take (i := 13) (v := ?va14) [] rfl (by kernel_rfl) (by kernel_rfl) (by kernel_rfl) (by kernel_rfl) (fun _ _ _ h => h) (Or.inl ⟨by rfl, ?ya14⟩) hHeld ?ra14
              case ya14 =>
                intro w' hSw
                obtain ⟨hS0, hS1, hS2, hF0, hF1⟩ := hSw
                have hT0 : Hid (Row w' (w.heap.size) 25 [.int .i64 t.states, .slice (some pd) hn hc, .slice (some nd) nn nc]) := hS0
                clear hS0
                have z0_0 := hT0.out.cell 0
                have z0_1 := hT0.out.cell 1
                have z0_2 := hT0.out.cell 2
                have z0_l := hT0.out.lt
                simp only [List.getElem?_cons_zero, List.getElem?_cons_succ] at z0_0 z0_1 z0_2
                have hT1 : Hid (Row w' ((w.heap.size + 1)) 28 [.int .i64 g.w, .int .i64 g.h, .int .i64 g.edge, .slice A n ac]) := hS1
                clear hS1
                have z1_0 := hT1.out.cell 0
                have z1_1 := hT1.out.cell 1
                have z1_2 := hT1.out.cell 2
                have z1_3 := hT1.out.cell 3
                have z1_l := hT1.out.lt
                simp only [List.getElem?_cons_zero, List.getElem?_cons_succ] at z1_0 z1_1 z1_2 z1_3
                have hT2 : Hid (Row w' (wr.heap.size) 65 [.int .i64 px, .int .i64 py]) := hS2
                clear hS2
                have z2_0 := hT2.out.cell 0
                have z2_1 := hT2.out.cell 1
                have z2_l := hT2.out.lt
                simp only [List.getElem?_cons_zero, List.getElem?_cons_succ] at z2_0 z2_1
                go_simp
                try (with_reducible rfl)
              go_simp
              refine restL_pure (i := 14) (v := ?va15) rfl (by kernel_rfl) (by kernel_rfl) (by kernel_rfl) (fun _ _ _ h => h) (Or.inl ⟨by rfl, ?ya15⟩) ?ra15
              case ya15 => intro w' hSw; clear hSw; go_simp; try (with_reducible rfl)
              go_simp
              refine restL_one (i := 15) (by kernel_rfl) rfl (fun K hK => ?_)
              go_simp
              go_at_call 42
              have HCT := gGet_any g A n ac ((x : Int) + px) ((y : Int) + py) w8q (HG.out.up B_w.out)
              rw [HGET.out] at HCT
              with_reducible refine HCT.mono ?_
              clear HCT
              rintro e w9 ⟨rfl, hb⟩
              have B_w : Hid (Below w.heap.size w w9) := below_on2 B_w.out hb
              have B_wr : Hid (Below wr.heap.size wr w9) := below_on2 B_wr.out hb
              have B_w8 : Hid (Below w8.heap.size w8 w9) := below_on2 B_w8.out hb
              have B_w8q : Hid (Below w8q.heap.size w8q w9) := hb
              clear hb
              clear hHeld
              refine hK.out _ _ (fun _ => ?keep) (fun hHeld => ?_)
              case keep => exact ⟨(rowCells RT.out B_wr.out), (rowCells RG.out B_wr.out), (rowCells RD.out B_w8.out), (HCN.out _ B_wr.out).1, (HCN.out _ B_wr.out).2⟩
              have hHeld := hHeld rfl
              clear hK K
              try go_simp
              refine restL_take (i := 16) (v := ?va16) [] rfl (by kernel_rfl) (by kernel_rfl) (by kernel_rfl) (by kernel_rfl) (fun _ _ _ h => h) (Or.inl ⟨by rfl, ?ya16⟩) hHeld ?ra16
              case ya16 =>
                intro w' hSw
                obtain ⟨hS0, hS1, hS2, hF0, hF1⟩ := hSw
                have hT0 : Hid (Row w' (w.heap.size) 25 [.int .i64 t.states, .slice (some pd) hn hc, .slice (some nd) nn nc]) := hS0
                clear hS0
                have z0_0 := hT0.out.cell 0
                have z0_1 := hT0.out.cell 1
                have z0_2 := hT0.out.cell 2
                have z0_l := hT0.out.lt
                simp only [List.getElem?_cons_zero, List.getElem?_cons_succ] at z0_0 z0_1 z0_2
                have hT1 : Hid (Row w' ((w.heap.size + 1)) 28 [.int .i64 g.w, .int .i64 g.h, .int .i64 g.edge, .slice A n ac]) := hS1
                clear hS1
                have z1_0 := hT1.out.cell 0
                have z1_1 := hT1.out.cell 1
                have z1_2 := hT1.out.cell 2
                have z1_3 := hT1.out.cell 3
                have z1_l := hT1.out.lt
                simp only [List.getElem?_cons_zero, List.getElem?_cons_succ] at z1_0 z1_1 z1_2 z1_3
                have hT2 : Hid (Row w' (wr.heap.size) 65 [.int .i64 px, .int .i64 py]) := hS2
                clear hS2
                have z2_0 := hT2.out.cell 0
                have z2_1 := hT2.out.cell 1
                have z2_l := hT2.out.lt
                simp only [List.getElem?_cons_zero, List.getElem?_cons_succ] at z2_0 z2_1
                go_simp
                try (with_reducible rfl)
              go_simp
              refine restL_take (i := 17) (v := ?va17) [] rfl (by kernel_rfl) (by kernel_rfl) (by kernel_rfl) (by kernel_rfl) (fun _ _ _ h => h) (Or.inl ⟨by rfl, ?ya17⟩) hHeld ?ra17
              case ya17 =>
                intro w' hSw
                obtain ⟨hS0, hS1, hS2, hF0, hF1⟩ := hSw
                have hT0 : Hid (Row w' (w.heap.size) 25 [.int .i64 t.states, .slice (some pd) hn hc, .slice (some nd) nn nc]) := hS0
                clear hS0
                have z0_0 := hT0.out.cell 0
                have z0_1 := hT0.out.cell 1
                have z0_2 := hT0.out.cell 2
                have z0_l := hT0.out.lt
                simp only [List.getElem?_cons_zero, List.getElem?_cons_succ] at z0_0 z0_1 z0_2
                have hT1 : Hid (Row w' ((w.heap.size + 1)) 28 [.int .i64 g.w, .int .i64 g.h, .int .i64 g.edge, .slice A n ac]) := hS1
                clear hS1
                have z1_0 := hT1.out.cell 0
                have z1_1 := hT1.out.cell 1
                have z1_2 := hT1.out.cell 2
                have z1_3 := hT1.out.cell 3
                have z1_l := hT1.out.lt
                simp only [List.getElem?_cons_zero, List.getElem?_cons_succ] at z1_0 z1_1 z1_2 z1_3
                have hT2 : Hid (Row w' (wr.heap.size) 65 [.int .i64 px, .int .i64 py]) := hS2
                clear hS2
                have z2_0 := hT2.out.cell 0
                have z2_1 := hT2.out.cell 1
                have z2_l := hT2.out.lt
                simp only [List.getElem?_cons_zero, List.getElem?_cons_succ] at z2_0 z2_1
                go_simp
                try (with_reducible rfl)
              go_simp
              refine restL_pure (i := 18) (v := ?va18) rfl (by kernel_rfl) (by kernel_rfl) (by kernel_rfl) (fun _ _ _ h => h) (Or.inl ⟨by rfl, ?ya18⟩) ?ra18
              case ya18 => intro w' hSw; clear hSw; go_simp; try (with_reducible rfl)
              go_simp
              refine restL_done (by kernel_rfl) ?_ _
              have RT9 : Hid (Row w9 w.heap.size 25 [.int .i64 t.states, .slice (some pd) hn hc, .slice (some nd) nn nc]) := (rowCells RT.out B_wr.out)
              have RG9 : Hid (Row w9 (w.heap.size + 1) 28 [.int .i64 g.w, .int .i64 g.h, .int .i64 g.edge, .slice A n ac]) := (rowCells RG.out B_wr.out)
              have RZ9 : Hid (Row w9 (w.heap.size + 1 + 1) 28 [.int .i64 0, .int .i64 0, .int .i64 0, .slice none 0 0]) := (rowCells RZ.out B_wr.out)
              have RO9 : Hid (Row w9 (w.heap.size + 1 + 1 + 1) 28 [.int .i64 g.w, .int .i64 g.h, .int .i64 g.edge, .slice (some ⟨w.heap.size + 1 + 1 + 1 + 1, 0, none⟩) n n]) := (rowCells RO.out B_wr.out)
              have RV9 : Hid (Row w9 (w.heap.size + 1 + 1 + 1 + 1) 3 (ints (nextZ t g W n kk))) := rowCells RV.out B_wr.out
              have BW9 : Hid (Below w.heap.size w w9) := B_w.out
              go_wp2
              go_roundg (hn - (j + 1))
              case measure => omega
              case rel => exact ⟨j + 1, v, by omega, by omega, by go_num, rfl, HV.out, BW9.out, RT9.out, RG9.out, RZ9.out, RO9.out, RV9.out⟩
            · have hljz : ¬ (j : Int) < (hn : Int) := by omega
              obtain rfl : hn = j := by omega
              have HZ2 : Hid (z = nextAt t g (x : Int) (y : Int)) := (by
                have h9 := HZ.out
                rw [List.take_of_length_le (by rw [HIL.out]; exact Nat.le_refl _)] at h9
                exact h9)
              have hmul : (y : Int) * g.w = (mm : Int) := by rw [HW.out, HMM.out.1, Int.natCast_mul]
              have hwm : IntKind.i64.wrap (mm : Int) = (mm : Int) := IntWalk.i64_in _ (by omega)
              have hwk2 : IntKind.i64.wrap ((mm : Int) + (x : Int)) = (mm : Int) + (x : Int) := IntWalk.i64_in _ (by omega)
              have hkz : (mm : Int) + (x : Int) < (n : Int) := by omega
              have hvc := RV.out.cell (mm + x)
              rw [ints_get _ _ (by rw [nextZ_length (by omega)]; omega)] at hvc
              generalize (nextZ t g W n kk).getD (mm + x) 0 = old at hvc
              have hvf := RV.out.frozen (mm + x)
              have hvl := RV.out.lt
              have k0 := RO.out.cell 0
              have k1 := RO.out.cell 1
              have k2 := RO.out.cell 2
              have k3 := RO.out.cell 3
              have kl := RO.out.lt
              simp only [List.getElem?_cons_zero, List.getElem?_cons_succ] at k0 k1 k2 k3
              have q0 := RG.out.cell 0
              have q1 := RG.out.cell 1
              have q2 := RG.out.cell 2
              have q3 := RG.out.cell 3
              have ql := RG.out.lt
              simp only [List.getElem?_cons_zero, List.getElem?_cons_succ] at q0 q1 q2 q3
              clear HZ
              go_wp2
              go_roundg (W - (x + 1))
              case measure => omega
              case rel =>
                refine ⟨x + 1, by omega, by omega, by go_num, BW.out.setCell (p := ⟨(w.heap.size + 1 + 1 + 1 + 1), mm + x, none⟩) (by show _ ≤ (w.heap.size + 1 + 1 + 1 + 1); omega) _, RT.out.far (p := ⟨(w.heap.size + 1 + 1 + 1 + 1), mm + x, none⟩) (by show w.heap.size ≠ (w.heap.size + 1 + 1 + 1 + 1); omega) _, RG.out.far (p := ⟨(w.heap.size + 1 + 1 + 1 + 1), mm + x, none⟩) (by show (w.heap.size + 1) ≠ (w.heap.size + 1 + 1 + 1 + 1); omega) _, RZ.out.far (p := ⟨(w.heap.size + 1 + 1 + 1 + 1), mm + x, none⟩) (by show (w.heap.size + 1 + 1) ≠ (w.heap.size + 1 + 1 + 1 + 1); omega) _, RO.out.far (p := ⟨(w.heap.size + 1 + 1 + 1 + 1), mm + x, none⟩) (by show (w.heap.size + 1 + 1 + 1) ≠ (w.heap.size + 1 + 1 + 1 + 1); omega) _, (show Row _ _ _ _ from ?_)⟩
                have h9 := RV.out.set (mm + x) (.int .i64 z)
                have hst : (nextZ t g W n kk).set (mm + x) z = nextZ t g W n (y * W + (x + 1)) := by
                  rw [← Nat.add_assoc, ← HMM.out.1, ← HMM.out.2, HZ2.out]
                  have h8 := nextZ_set (t := t) (g := g) (W := W) (n := n) (k := kk) hkn
                  rw [show kk = y * W + x by rw [HMM.out.2, HMM.out.1], (cell_of hlx).1, (cell_of hlx).2] at h8
                  rw [show kk = y * W + x by rw [HMM.out.2, HMM.out.1]]
                  exact h8
                rw [ints_setN, hst] at h9
                exact h9
        · have hlxz : ¬ (x : Int) < g.w := by have := HW.out; omega
          obtain rfl : W = x := by omega
          have RV : Hid (Row wr (w.heap.size + 1 + 1 + 1 + 1) 3 (ints (nextZ t g W n ((y + 1) * W)))) := (by show Row _ _ _ _; rw [Nat.add_mul, Nat.one_mul]; exact RV.out)
          go_wp2
          go_roundg (Hh - (y + 1))
          case measure => omega
          case rel => exact ⟨y + 1, by omega, by omega, by go_num, BW.out, RT.out, RG.out, RZ.out, RO.out, RV.out⟩
    · have hlyz : ¬ (y : Int) < g.h := by have := HH.out; omega
      obtain rfl : Hh = y := by omega
      have RVn : Hid (Row wr (w.heap.size + 1 + 1 + 1 + 1) 3 (ints (nextG t g).cells)) := (by
        have h9 := RV.out
        rw [← HNWH.out] at h9
        have e : nextZ t g W n n = (nextG t g).cells := by
          show _ = nextTo t g g.w.toNat g.cells.length
          rw [HL.out, HW.out, Int.toNat_natCast]; simp [nextZ]
        rw [e] at h9; exact h9)
      have HCLN : Hid ((nextG t g).cells.length = n) := (by show (nextTo _ _ _ _).length = _; rw [nextTo_length, HL.out])
      have HRES : Hid (NewGrid (nextG t g) w (.returned (.agg #[.int .i64 g.w, .int .i64 g.h, .int .i64 g.edge, (.slice (some ⟨(w.heap.size + 1 + 1 + 1 + 1), 0, none⟩) n n)])) (World.setCell (World.setCell (World.setCell (World.setCell wr ⟨(w.heap.size + 1 + 1), 0, none⟩ (.int .i64 g.w)) ⟨(w.heap.size + 1 + 1), 1, none⟩ (.int .i64 g.h)) ⟨(w.heap.size + 1 + 1), 2, none⟩ (.int .i64 g.edge)) ⟨(w.heap.size + 1 + 1), 3, none⟩ (.slice (some ⟨(w.heap.size + 1 + 1 + 1 + 1), 0, none⟩) n n))) := by
        refine ⟨(w.heap.size + 1 + 1 + 1 + 1), by rw [HCLN.out]; rfl, ?_, by omega, ?_⟩
        · exact (((RVn.out.far (p := ⟨(w.heap.size + 1 + 1), 0, none⟩) (by show (w.heap.size + 1 + 1 + 1 + 1) ≠ (w.heap.size + 1 + 1); omega) _).far (p := ⟨(w.heap.size + 1 + 1), 1, none⟩) (by show (w.heap.size + 1 + 1 + 1 + 1) ≠ (w.heap.size + 1 + 1); omega) _).far (p := ⟨(w.heap.size + 1 + 1), 2, none⟩) (by show (w.heap.size + 1 + 1 + 1 + 1) ≠ (w.heap.size + 1 + 1); omega) _).far (p := ⟨(w.heap.size + 1 + 1), 3, none⟩) (by show (w.heap.size + 1 + 1 + 1 + 1) ≠ (w.heap.size + 1 + 1); omega) _
        · exact (((BW.out.setCell (p := ⟨(w.heap.size + 1 + 1), 0, none⟩) (by show _ ≤ (w.heap.size + 1 + 1); omega) _).setCell (p := ⟨(w.heap.size + 1 + 1), 1, none⟩) (by show _ ≤ (w.heap.size + 1 + 1); omega) _).setCell (p := ⟨(w.heap.size + 1 + 1), 2, none⟩) (by show _ ≤ (w.heap.size + 1 + 1); omega) _).setCell (p := ⟨(w.heap.size + 1 + 1), 3, none⟩) (by show _ ≤ (w.heap.size + 1 + 1); omega) _
      have Z9 := (((RZ.out.set 0 (.int .i64 g.w)).set 1 (.int .i64 g.h)).set 2 (.int .i64 g.edge)).set 3 (.slice (some ⟨(w.heap.size + 1 + 1 + 1 + 1), 0, none⟩) n n)
      have r0 := Z9.cell 0
      have r1 := Z9.cell 1
      have r2 := Z9.cell 2
      have r3 := Z9.cell 3
      simp only [List.getElem?_cons_zero, List.getElem?_cons_succ, List.set_cons_zero, List.set_cons_succ] at r0 r1 r2 r3
      clear Z9 RVn RV
      have e0 := RO.out.cell 0
      have e1 := RO.out.cell 1
      have e2 := RO.out.cell 2
      have e3 := RO.out.cell 3
      have el := RO.out.lt
      simp only [List.getElem?_cons_zero, List.getElem?_cons_succ] at e0 e1 e2 e3
      have d0 := RZ.out.cell 0
      have d1 := RZ.out.cell 1
      have d2 := RZ.out.cell 2
      have d3 := RZ.out.cell 3
      have dl := RZ.out.lt
      simp only [List.getElem?_cons_zero, List.getElem?_cons_succ] at d0 d1 d2 d3
      have df0 := RZ.out.frozen 0
      have df1 := RZ.out.frozen 1
      have df2 := RZ.out.frozen 2
      have df3 := RZ.out.frozen 3
      go_wp2
      refine bodyPost_ret (v := .agg #[.int .i64 g.w, .int .i64 g.h, .int .i64 g.edge, (.slice (some ⟨(w.heap.size + 1 + 1 + 1 + 1), 0, none⟩) n n)]) (by simp [results, Try.results30, go_sem, r0, r1, r2, r3]) rfl ?_
      exact HRES.out
end Go.Proofs.Ytdkfaphclhaiaaa
