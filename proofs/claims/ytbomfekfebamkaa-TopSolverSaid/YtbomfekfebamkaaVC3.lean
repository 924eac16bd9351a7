/-
  The plain law of the solver and of the prover: unit propagation with two watched literals, the search in ascending order, the proof of its failure and its check. No program in sight.
-/
import Derived.Test.YtbomfekfebamkaaProg
set_option linter.unusedVariables false
set_option linter.unusedSimpArgs false
namespace Go.Proofs.Ytbomfekfebamkaa
namespace V
def lit (n : Nat) (x : Int) : Prop := x ≠ 0 ∧ -(n : Int) ≤ x ∧ x ≤ n
theorem lit.neg {n x} (h : lit n x) : lit n (-x) := by unfold lit at *; omega
def valL (va : List Int) (x : Int) : Int := if x < 0 then -(va.getD (-x).toNat 0) else va.getD x.toNat 0
def setL (va : List Int) (x : Int) : List Int := if 0 < x then va.set x.toNat 1 else va.set (-x).toNat (-1)
theorem setL_length (va : List Int) (x : Int) : (setL va x).length = va.length := by unfold setL; split <;> simp
theorem getD_set (l : List Int) (i j : Nat) (v : Int) (hi : i < l.length) : (l.set i v).getD j 0 = if i = j then v else l.getD j 0 := by
  simp only [List.getD_eq_getElem?_getD, List.getElem?_set]
  split
  · next h => subst h; simp [hi]
  · rfl
theorem val_setL {n : Nat} {va : List Int} (hl : va.length = n + 1) {x y : Int} (hx : lit n x) (hy : lit n y) :
    valL (setL va x) y = if y = x then 1 else if y = -x then -1 else valL va y := by
  obtain ⟨x0, x1, x2⟩ := hx
  obtain ⟨y0, y1, y2⟩ := hy
  unfold valL setL
  by_cases hx : 0 < x
  · rw [if_pos hx]
    by_cases hy : y < 0
    · rw [if_pos hy, if_pos hy, getD_set _ _ _ _ (by omega)]
      by_cases h : y = -x
      · rw [if_pos (by omega), if_neg (by omega), if_pos h]
      · rw [if_neg (by omega), if_neg (by omega), if_neg h]
    · rw [if_neg hy, if_neg hy, getD_set _ _ _ _ (by omega)]
      by_cases h : y = x
      · rw [if_pos (by omega), if_pos h]
      · rw [if_neg (by omega), if_neg (by omega), if_neg (by omega)]
  · rw [if_neg hx]
    by_cases hy : y < 0
    · rw [if_pos hy, if_pos hy, getD_set _ _ _ _ (by omega)]
      by_cases h : y = x
      · rw [if_pos (by omega), if_pos h]; rfl
      · rw [if_neg (by omega), if_neg (by omega), if_neg (by omega)]
    · rw [if_neg hy, if_neg hy, getD_set _ _ _ _ (by omega)]
      by_cases h : y = -x
      · rw [if_pos (by omega), if_neg (by omega), if_pos h]
      · rw [if_neg (by omega), if_neg (by omega), if_neg h]
theorem val_neg {n : Nat} (va : List Int) {x : Int} (hx : lit n x) : valL va (-x) = -valL va x := by
  obtain ⟨x0, _, _⟩ := hx
  unfold valL
  by_cases h : x < 0
  · rw [if_pos h, if_neg (by omega)]; omega
  · rw [if_neg h, if_pos (by omega), Int.neg_neg]
structure TrOk (n : Nat) (va tr : List Int) : Prop where
  len : va.length = n + 1
  lits : ∀ x ∈ tr, lit n x
  pos : ∀ x, lit n x → (valL va x = 1 ↔ x ∈ tr)
  rng : ∀ x, lit n x → valL va x = 0 ∨ valL va x = 1 ∨ valL va x = -1
  nd : tr.Nodup
section
variable {n : Nat} {va tr : List Int}
theorem TrOk.neg (h : TrOk n va tr) {x : Int} (hx : lit n x) : valL va x = -1 ↔ -x ∈ tr := by
  rw [← h.pos _ hx.neg, val_neg va hx]; omega
theorem TrOk.con (h : TrOk n va tr) {x : Int} (hx : x ∈ tr) : -x ∉ tr := fun hn => by
  have h1 := (h.pos x (h.lits x hx)).2 hx
  have h2 := (h.neg (h.lits x hx)).2 hn
  omega
theorem nodup_le : ∀ (N : Nat) (l : List Nat), l.Nodup → (∀ x ∈ l, x < N) → l.length ≤ N
  | 0, l, _, h => by
    cases l with
    | nil => simp
    | cons a l => exact absurd (h a (by simp)) (by omega)
  | N + 1, l, hn, h => by
    have := nodup_le N (l.erase N) (hn.erase N) (fun x hx => by
      have h1 := h x (List.mem_of_mem_erase hx)
      have h2 : x ≠ N := (hn.mem_erase_iff.1 hx).1
      omega)
    rw [List.length_erase] at this
    split at this <;> omega
theorem TrOk.le (h : TrOk n va tr) : tr.length ≤ n + 1 := by
  have h1 : (tr.map Int.natAbs).Nodup := by
    unfold List.Nodup
    rw [List.pairwise_map]
    exact h.nd.imp_of_mem fun {a b} ha hb hne e => by
      have h2 := h.con ha
      rcases Int.natAbs_eq_natAbs_iff.1 e with e | e
      · exact hne e
      · rw [e] at h2; simp at h2; exact h2 hb
  have h2 := nodup_le (n + 1) _ h1 (fun x hx => by
    obtain ⟨y, hy, rfl⟩ := List.mem_map.1 hx
    have := h.lits y hy
    unfold lit at this; omega)
  simpa using h2
theorem TrOk.put (h : TrOk n va tr) {x : Int} (hx : lit n x) (h0 : valL va x = 0) : TrOk n (setL va x) (tr ++ [x]) := by
  have hv : ∀ y, lit n y → valL (setL va x) y = if y = x then 1 else if y = -x then -1 else valL va y := fun y hy => val_setL h.len hx hy
  refine ⟨by rw [setL_length]; exact h.len, ?_, ?_, ?_, ?_⟩
  · intro y hy
    simp at hy
    rcases hy with hy | rfl
    · exact h.lits y hy
    · exact hx
  · intro y hy
    rw [hv y hy]
    by_cases e : y = x
    · rw [if_pos e]; simp [e]
    · rw [if_neg e]
      by_cases e2 : y = -x
      · rw [if_pos e2]
        have : valL va y = 0 := by rw [e2, val_neg va hx, h0]; rfl
        have hn : y ∉ tr := fun hm => by have := (h.pos y hy).2 hm; omega
        simp [hn, e]
      · rw [if_neg e2, h.pos y hy]; simp [e]
  · intro y hy
    rw [hv y hy]
    split
    · simp
    · split
      · simp
      · exact h.rng y hy
  · rw [List.nodup_append]
    refine ⟨h.nd, by simp, fun p hp q hq e => ?_⟩
    simp at hq; subst hq; subst e
    have := (h.pos p hx).2 hp; omega
end
structure En where
  cl : List (List Int)
  wa : Int → List Nat
  va : List Int
  tr : List Int
  hd : Nat
def upd (f : Int → List Nat) (x : Int) (l : List Nat) : Int → List Nat := fun y => if y = x then l else f y
theorem upd_same (f x l) : upd f x l x = l := by simp [upd]
theorem upd_other (f) {x y} (l) (h : y ≠ x) : upd f x l y = f y := by simp [upd, h]
theorem upd_twice (f x l m) : upd (upd f x l) x m = upd f x m := by funext y; unfold upd; split <;> rfl
def En.put (s : En) (x : Int) : En := { s with va := setL s.va x, tr := s.tr ++ [x] }
def frontC (x : Int) (c : List Int) : List Int := match c with
  | a :: b :: t => if a = x then b :: a :: t else a :: b :: t
  | r => r
def visitC (x : Int) : List Nat → List Nat → En → En × Bool
  | [], kept, s => ({ s with wa := upd s.wa x kept }, true)
  | k :: r, kept, s =>
    match frontC x (s.cl.getD k []) with
    | a :: b :: t =>
      if valL s.va a = 1 then visitC x r (kept ++ [k]) { s with cl := s.cl.set k (a :: b :: t) }
      else match t.findIdx? (fun y => decide (valL s.va y ≠ -1)) with
        | some j => visitC x r kept { s with cl := s.cl.set k (a :: t.getD j 0 :: t.set j b), wa := upd s.wa (t.getD j 0) (s.wa (t.getD j 0) ++ [k]) }
        | none =>
          if valL s.va a = -1 then ({ s with cl := s.cl.set k (a :: b :: t), wa := upd s.wa x (kept ++ [k] ++ r) }, false)
          else visitC x r (kept ++ [k]) ({ s with cl := s.cl.set k (a :: b :: t) }.put a)
    | _ => (s, false)
def propF : Nat → En → En × Bool
  | 0, s => (s, true)
  | f + 1, s => match s.tr[s.hd]? with
    | none => (s, true)
    | some l =>
      let r := visitC (-l) (s.wa (-l)) [] s
      if r.2 then propF f { r.1 with hd := s.hd + 1 } else (r.1, false)
def isW (c : List Int) (y : Int) : Prop := match c with
  | a :: b :: _ => a = y ∨ b = y
  | _ => False
def Pair (P Q : Int → Prop) (c : List Int) : Prop := match c with
  | a :: b :: _ => (P a → Q b) ∧ (P b → Q a)
  | _ => True
structure WF (n : Nat) (F : List (List Int)) (s : En) : Prop where
  tk : TrOk n s.va s.tr
  hdle : s.hd ≤ s.tr.length
  clen : s.cl.length = F.length
  cls : ∀ (k : Nat) (c : List Int), s.cl[k]? = some c → ∃ c0 : List Int, F[k]? = some c0 ∧ c.Perm c0
  good : ∀ c ∈ F, 2 ≤ c.length ∧ c.Nodup ∧ ∀ x ∈ c, lit n x
  wat : ∀ (y : Int) (k : Nat), k ∈ s.wa y ↔ ∃ c, s.cl[k]? = some c ∧ isW c y
  wnd : ∀ y : Int, (s.wa y).Nodup
section
variable {n : Nat} {F : List (List Int)} {s : En} {x : Int}
theorem WF.at (h : WF n F s) {k : Nat} {c : List Int} (hc : s.cl[k]? = some c) : (∃ c0 ∈ F, c.Perm c0) ∧ ∃ a b t, c = a :: b :: t ∧ a ≠ b ∧ a ∉ t ∧ b ∉ t ∧ t.Nodup ∧ ∀ y ∈ c, lit n y := by
  obtain ⟨c0, h0, hp⟩ := h.cls k c hc
  have hm := List.mem_of_getElem? h0
  obtain ⟨g1, g2, g3⟩ := h.good c0 hm
  refine ⟨⟨c0, hm, hp⟩, ?_⟩
  have hl : 2 ≤ c.length := by rw [hp.length_eq]; exact g1
  have hn : c.Nodup := hp.nodup_iff.2 g2
  match c, hl, hn, hp with
  | a :: b :: t, _, hn, hp =>
    simp only [List.nodup_cons, List.mem_cons, not_or] at hn
    exact ⟨a, b, t, rfl, hn.1.1, hn.1.2, hn.2.1, hn.2.2, fun y hy => g3 y (hp.mem_iff.1 hy)⟩
/-- One clause is respelled. -/
theorem WF.respell (h : WF n F s) {k : Nat} {c c1 : List Int} (hc : s.cl[k]? = some c) (hp : c1.Perm c) (hw : ∀ y, isW c1 y ↔ isW c y) : WF n F { s with cl := s.cl.set k c1 } := by
  have hk : k < s.cl.length := (List.getElem?_eq_some_iff.1 hc).1
  have hg : ∀ j d, (s.cl.set k c1)[j]? = some d → (j = k ∧ d = c1) ∨ (j ≠ k ∧ s.cl[j]? = some d) := by
    intro j d hd
    rw [List.getElem?_set] at hd
    by_cases e : k = j
    · subst e; simp [hk] at hd; exact .inl ⟨rfl, hd.symm⟩
    · rw [if_neg e] at hd; exact .inr ⟨fun q => e q.symm, hd⟩
  refine ⟨h.tk, h.hdle, by simp [h.clen], ?_, h.good, ?_, h.wnd⟩
  · intro j d hd
    rcases hg j d hd with ⟨rfl, rfl⟩ | ⟨_, hd⟩
    · obtain ⟨c0, h0, h1⟩ := h.cls _ _ hc
      exact ⟨c0, h0, hp.trans h1⟩
    · exact h.cls j d hd
  · intro y j
    rw [h.wat y j]
    constructor
    · rintro ⟨d, hd, hy⟩
      by_cases e : j = k
      · subst e
        rw [hc] at hd; cases hd
        exact ⟨c1, by simp [hk], (hw y).2 hy⟩
      · exact ⟨d, by simp only [List.getElem?_set]; rw [if_neg (fun q => e q.symm)]; exact hd, hy⟩
    · rintro ⟨d, hd, hy⟩
      rcases hg j d hd with ⟨rfl, rfl⟩ | ⟨_, hd⟩
      · exact ⟨c, hc, (hw y).1 hy⟩
      · exact ⟨d, hd, hy⟩
theorem perm_swap_in (a b : Int) : ∀ (t : List Int) (j : Nat), j < t.length → (t.getD j 0 :: t.set j b).Perm (b :: t)
  | y :: t, 0, _ => by simp; exact List.Perm.swap _ _ _
  | y :: t, j + 1, h => by
    have ih := perm_swap_in a b t j (by simpa using h)
    simp only [List.getD_cons_succ, List.set_cons_succ]
    exact (List.Perm.swap _ _ _).trans ((ih.cons y).trans (List.Perm.swap _ _ _))
/-- One clause gets another watch. -/
theorem WF.rewatch {kept r : List Nat} {k : Nat} {c : List Int} {a y : Int} {t' : List Int}
    (h : WF n F { s with wa := upd s.wa x (kept ++ k :: r) }) (hc : s.cl[k]? = some c) (hw : ∀ z, isW c z ↔ (a = z ∨ x = z)) (hp : (a :: y :: t').Perm c) (hax : a ≠ x) (hyx : y ≠ x) (hya : y ≠ a) :
    WF n F { s with cl := s.cl.set k (a :: y :: t'), wa := upd (upd s.wa y (s.wa y ++ [k])) x (kept ++ r) } := by
  have hk : k < s.cl.length := (List.getElem?_eq_some_iff.1 hc).1
  have hg : ∀ j d, (s.cl.set k (a :: y :: t'))[j]? = some d → (j = k ∧ d = a :: y :: t') ∨ (j ≠ k ∧ s.cl[j]? = some d) := by
    intro j d hd
    rw [List.getElem?_set] at hd
    by_cases e : k = j
    · subst e; simp [hk] at hd; exact .inl ⟨rfl, hd.symm⟩
    · rw [if_neg e] at hd; exact .inr ⟨fun q => e q.symm, hd⟩
  have hnew : ∀ j, j ≠ k → (s.cl.set k (a :: y :: t'))[j]? = s.cl[j]? := by
    intro j hj
    rw [List.getElem?_set, if_neg (fun q => hj q.symm)]
  have hnewk : (s.cl.set k (a :: y :: t'))[k]? = some (a :: y :: t') := by simp [hk]
  have hx := h.wat x
  have hndx := h.wnd x
  simp only [upd_same] at hx hndx
  have hko : k ∉ kept ∧ k ∉ r := by
    rw [List.nodup_append] at hndx
    obtain ⟨_, h2, h3⟩ := hndx
    refine ⟨fun hm => h3 k hm k (by simp) rfl, ?_⟩
    exact (List.nodup_cons.1 h2).1
  have hwy := h.wat y
  simp only [upd_other _ _ hyx] at hwy
  have hky : k ∉ s.wa y := fun hm => by
    obtain ⟨d, hd, hi⟩ := (hwy k).1 hm
    rw [hc] at hd; cases hd
    rcases (hw y).1 hi with e | e
    · exact hya e.symm
    · exact hyx e.symm
  refine ⟨h.tk, h.hdle, by simpa using h.clen, ?_, h.good, ?_, ?_⟩
  · intro j d hd
    rcases hg j d hd with ⟨rfl, rfl⟩ | ⟨_, hd⟩
    · obtain ⟨c0, h0, h1⟩ := h.cls _ _ hc
      exact ⟨c0, h0, hp.trans h1⟩
    · exact h.cls j d hd
  · intro z j
    show j ∈ upd (upd s.wa y (s.wa y ++ [k])) x (kept ++ r) z ↔ ∃ d, (s.cl.set k (a :: y :: t'))[j]? = some d ∧ isW d z
    by_cases hjk : j = k
    · subst hjk
      have hR : (∃ d, (s.cl.set j (a :: y :: t'))[j]? = some d ∧ isW d z) ↔ (a = z ∨ y = z) := by
        rw [hnewk]; simp [isW]
      rw [hR]
      by_cases hzx : z = x
      · subst hzx; rw [upd_same]
        constructor
        · intro hm; rw [List.mem_append] at hm; exact absurd hm (by simp [hko.1, hko.2])
        · rintro (e | e)
          · exact absurd e hax
          · exact absurd e hyx
      · rw [upd_other _ _ hzx]
        by_cases hzy : z = y
        · subst hzy; rw [upd_same]; simp
        · rw [upd_other _ _ hzy]
          have h1 := h.wat z j
          simp only [upd_other _ _ hzx] at h1
          rw [h1]
          constructor
          · rintro ⟨d, hd, hi⟩
            rw [hc] at hd; cases hd
            rcases (hw z).1 hi with e | e
            · exact .inl e
            · exact absurd e.symm hzx
          · rintro (e | e)
            · exact ⟨c, hc, (hw z).2 (.inl e)⟩
            · exact absurd e.symm hzy
    · rw [hnew j hjk]
      by_cases hzx : z = x
      · subst hzx; rw [upd_same]
        have h1 := hx j
        simp only [List.mem_append, List.mem_cons, hjk, false_or] at h1
        rw [List.mem_append]; exact h1
      · rw [upd_other _ _ hzx]
        have h1 := h.wat z j
        simp only [upd_other _ _ hzx] at h1
        by_cases hzy : z = y
        · subst hzy; rw [upd_same]
          rw [← h1]; simp [hjk]
        · rw [upd_other _ _ hzy]; exact h1
  · intro z
    show (upd (upd s.wa y (s.wa y ++ [k])) x (kept ++ r) z).Nodup
    by_cases hzx : z = x
    · subst hzx; rw [upd_same]
      exact hndx.sublist (List.Sublist.append_left (List.sublist_cons_self _ _) _)
    · rw [upd_other _ _ hzx]
      by_cases hzy : z = y
      · subst hzy; rw [upd_same]
        have h1 := h.wnd z
        simp only [upd_other _ _ hzx] at h1
        rw [List.nodup_append]
        exact ⟨h1, by simp, fun p hp q hq e => by simp at hq; subst hq; subst e; exact hky hp⟩
      · rw [upd_other _ _ hzy]
        have h1 := h.wnd z
        simpa only [upd_other _ _ hzx] using h1
theorem WF.put (h : WF n F s) {a : Int} (ha : lit n a) (h0 : valL s.va a = 0) : WF n F (s.put a) :=
  ⟨h.tk.put ha h0, by show s.hd ≤ (s.tr ++ [a]).length; have := h.hdle; simp; omega, h.clen, h.cls, h.good, h.wat, h.wnd⟩
end

section
variable {n : Nat} {F : List (List Int)} {x : Int}
/-- What holds of a clause's two watches: a false one (P) has a true partner (Q). -/
def Inv (s : En) (m : Nat) : Prop := ∀ c ∈ s.cl, Pair (fun a => -a ∈ s.tr.take m) (fun b => b ∈ s.tr.take m) c
def Inv2 (s : En) (m : Nat) : Prop := ∀ c ∈ s.cl, Pair (fun a => -a ∈ s.tr.take m) (fun b => b ∈ s.tr) c
def KX (x : Int) (s : En) (k : Nat) : Prop := ∀ c, s.cl[k]? = some c → Pair (fun a => a = x) (fun b => b ∈ s.tr) c
/-- Whence the literals of a trail are: from B, or the last of a clause. -/
def Der (B : Int → Prop) (F : List (List Int)) (tr : List Int) : Prop := ∀ (i : Nat) (l : Int), tr[i]? = some l → B l ∨ ∃ c ∈ F, l ∈ c ∧ ∀ y ∈ c, y ≠ l → -y ∈ tr.take i
def Falsified (F : List (List Int)) (tr : List Int) : Prop := ∃ c ∈ F, ∀ y ∈ c, -y ∈ tr
theorem Der.push {B : Int → Prop} {tr : List Int} (h : Der B F tr) {l : Int} (hl : B l ∨ ∃ c ∈ F, l ∈ c ∧ ∀ y ∈ c, y ≠ l → -y ∈ tr) : Der B F (tr ++ [l]) := by
  intro i z hz
  by_cases hi : i < tr.length
  · rw [List.getElem?_append_left hi] at hz
    rcases h i z hz with h1 | ⟨c, hc, h1, h2⟩
    · exact .inl h1
    · exact .inr ⟨c, hc, h1, fun y hy hn => by rw [List.take_append_of_le_length (by omega)]; exact h2 y hy hn⟩
  · have hi' : i = tr.length := by
      have := (List.getElem?_eq_some_iff.1 hz).1; simp at this; omega
    subst hi'
    simp at hz; subst hz
    rcases hl with h1 | ⟨c, hc, h1, h2⟩
    · exact .inl h1
    · exact .inr ⟨c, hc, h1, fun y hy hn => by simp; exact h2 y hy hn⟩
theorem Inv.set {s : En} {m k : Nat} {c1 : List Int} {w : Int → List Nat} (h : Inv s m) (h1 : Pair (fun a => -a ∈ s.tr.take m) (fun b => b ∈ s.tr.take m) c1) : Inv { s with cl := s.cl.set k c1, wa := w } m := fun c hc => by
  rcases List.mem_or_eq_of_mem_set hc with hc | rfl
  · exact h c hc
  · exact h1
theorem Inv2.set {s : En} {m k : Nat} {c1 : List Int} {w : Int → List Nat} (h : Inv2 s m) (h1 : Pair (fun a => -a ∈ s.tr.take m) (fun b => b ∈ s.tr) c1) : Inv2 { s with cl := s.cl.set k c1, wa := w } m := fun c hc => by
  rcases List.mem_or_eq_of_mem_set hc with hc | rfl
  · exact h c hc
  · exact h1
theorem Pair.imp {P Q P' Q' : Int → Prop} {c : List Int} (h : Pair P Q c) (hp : ∀ a, P' a → P a) (hq : ∀ a, Q a → Q' a) : Pair P' Q' c := by
  unfold Pair at *
  split
  · next a b t => exact ⟨fun q => hq _ (h.1 (hp _ q)), fun q => hq _ (h.2 (hp _ q))⟩
  · trivial
theorem Inv.put {s : En} {m : Nat} {a : Int} (h : Inv s m) (hm : m ≤ s.tr.length) : Inv (s.put a) m := fun c hc => by
  have e : (s.put a).tr.take m = s.tr.take m := List.take_append_of_le_length hm
  rw [e]; exact h c hc
theorem Inv2.put {s : En} {m : Nat} {a : Int} (h : Inv2 s m) (hm : m ≤ s.tr.length) : Inv2 (s.put a) m := fun c hc => by
  have e : (s.put a).tr.take m = s.tr.take m := List.take_append_of_le_length hm
  rw [e]; exact (h c hc).imp (fun _ q => q) (fun _ q => List.mem_append.2 (.inl q))
theorem frontC_spec {c : List Int} {a b : Int} {t : List Int} (hc : c = a :: b :: t) (hw : isW c x) (hab : a ≠ b) :
    ∃ d, frontC x c = d :: x :: t ∧ d ≠ x ∧ (d :: x :: t).Perm c ∧ (∀ y, isW c y ↔ (d = y ∨ x = y)) ∧ ∀ (P Q : Int → Prop), Pair P Q c → Pair P Q (d :: x :: t) := by
  subst hc
  rcases hw with e | e
  · subst e
    refine ⟨b, by simp [frontC], fun e => hab e.symm, List.Perm.swap _ _ _, fun y => by simp [isW]; exact Or.comm, fun P Q h => ⟨h.2, h.1⟩⟩
  · subst e
    refine ⟨a, by simp [frontC, hab], hab, List.Perm.refl _, fun y => by simp [isW], fun P Q h => h⟩
structure VisitOut (n : Nat) (F : List (List Int)) (x : Int) (s : En) (r : En × Bool) : Prop where
  wf : WF n F r.1
  hd : r.1.hd = s.hd
  ext : ∃ l, r.1.tr = s.tr ++ l
  inv : ∀ m, m ≤ s.hd → Inv s m → Inv r.1 m
  der : ∀ B, Der B F s.tr → Der B F r.1.tr
  good : r.2 = true → Inv2 r.1 s.hd ∧ ∀ k ∈ r.1.wa x, KX x r.1 k
  bad : r.2 = false → Falsified F r.1.tr
theorem VisitOut.after {s s1 : En} {r : En × Bool} (h : VisitOut n F x s1 r) (h1 : s1.hd = s.hd) (h2 : ∃ l, s1.tr = s.tr ++ l) (h3 : ∀ m, m ≤ s.hd → Inv s m → Inv s1 m) (h4 : ∀ B, Der B F s.tr → Der B F s1.tr) : VisitOut n F x s r := by
  obtain ⟨l, e⟩ := h2
  obtain ⟨l', e'⟩ := h.ext
  exact ⟨h.wf, h.hd.trans h1, ⟨l ++ l', by rw [e', e, List.append_assoc]⟩, fun m hm hi => h.inv m (by omega) (h3 m hm hi), fun B q => h.der B (h4 B q), fun q => by rw [← h1]; exact h.good q, h.bad⟩
theorem WF.cast {s s' : En} (h : WF n F s) (e : s = s') : WF n F s' := e ▸ h
theorem getD_of_get {c : List Int} {l : List (List Int)} {k : Nat} (h : l[k]? = some c) : l.getD k [] = c := by simp [List.getD_eq_getElem?_getD, h]
theorem visit_spec : ∀ (r kept : List Nat) (s : En), WF n F { s with wa := upd s.wa x (kept ++ r) } → -x ∈ s.tr → (∀ k ∈ kept, KX x s k) → Inv2 s s.hd → VisitOut n F x s (visitC x r kept s)
  | [], kept, s, hW, hx, hK, hI => by
    simp only [List.append_nil] at hW
    refine ⟨hW, rfl, ⟨[], by simp [visitC]⟩, fun m _ h => h, fun B h => h, fun _ => ⟨hI, ?_⟩, fun h => by simp [visitC] at h⟩
    intro k hk
    simp only [visitC, upd_same] at hk ⊢
    exact hK k hk
  | k :: r, kept, s, hW, hx, hK, hI => by
    have hk : k ∈ upd s.wa x (kept ++ k :: r) x := by rw [upd_same]; simp
    obtain ⟨c, hc, hwx⟩ := (hW.wat x k).1 hk
    simp only at hc
    obtain ⟨⟨c0, hc0, hp0⟩, a0, b0, t, hct, hab, hat, hbt, hnt, hlc⟩ := hW.at (s := { s with wa := upd s.wa x (kept ++ k :: r) }) hc
    obtain ⟨a, hfr, hax, hp, hw, hPQ⟩ := frontC_spec (x := x) hct hwx hab
    have hlc' : ∀ y ∈ a :: x :: t, lit n y := fun y hy => hlc y (hp.mem_iff.1 hy)
    have hn' : (a :: x :: t).Nodup := hp.nodup_iff.2 (by rw [hct]; simp [hab, hat, hbt, hnt])
    simp only [List.nodup_cons, List.mem_cons, not_or] at hn'
    obtain ⟨⟨_, hat'⟩, hxt, _⟩ := hn'
    have hla := hlc' a (by simp)
    have hlx := hlc' x (by simp)
    have htk := hW.tk
    simp only at htk
    have hxn : x ∉ s.tr := fun hm => by have := htk.con hx; simp at this; exact this hm
    have hcm : c ∈ s.cl := List.mem_of_getElem? hc
    have hkl : k < s.cl.length := (List.getElem?_eq_some_iff.1 hc).1
    -- the clause respelled
    have hW1 : WF n F { s with cl := s.cl.set k (a :: x :: t), wa := upd s.wa x (kept ++ k :: r) } := hW.respell hc hp (fun y => by rw [hw y]; simp [isW])
    have hI1 : Inv2 { s with cl := s.cl.set k (a :: x :: t) } s.hd := hI.set (w := s.wa) (hPQ _ _ (hI c hcm))
    have hV1 : ∀ m, m ≤ s.hd → Inv s m → Inv { s with cl := s.cl.set k (a :: x :: t) } m := fun m _ h => h.set (w := s.wa) (hPQ _ _ (h c hcm))
    have hget : ∀ c' j d, (s.cl.set k c')[j]? = some d → (j = k ∧ d = c') ∨ (j ≠ k ∧ s.cl[j]? = some d) := by
      intro c' j d hd
      rw [List.getElem?_set] at hd
      by_cases e : k = j
      · subst e; simp [hkl] at hd; exact .inl ⟨rfl, hd.symm⟩
      · rw [if_neg e] at hd; exact .inr ⟨fun q => e q.symm, hd⟩
    have hndx := hW.wnd x
    simp only [upd_same] at hndx
    have hko : k ∉ kept := fun hm => by
      rw [List.nodup_append] at hndx
      exact hndx.2.2 k hm k (by simp) rfl
    have hassoc : kept ++ k :: r = (kept ++ [k]) ++ r := by simp
    unfold visitC
    rw [getD_of_get hc, hfr]
    simp only
    by_cases h1 : valL s.va a = 1
    · rw [if_pos h1]
      have ha : a ∈ s.tr := (htk.pos a hla).1 h1
      refine (visit_spec r (kept ++ [k]) { s with cl := s.cl.set k (a :: x :: t) } (by rw [← hassoc]; exact hW1) hx ?_ hI1).after rfl ⟨[], by simp⟩ hV1 (fun B q => q)
      intro j hj d hd
      rcases hget _ j d hd with ⟨rfl, rfl⟩ | ⟨hjk, hd⟩
      · exact ⟨fun e => absurd e hax, fun _ => ha⟩
      · rw [List.mem_append] at hj
        rcases hj with hj | hj
        · exact hK j hj d hd
        · simp at hj; exact absurd hj hjk
    · rw [if_neg h1]
      cases hf : t.findIdx? (fun y => decide (valL s.va y ≠ -1)) with
      | some j =>
        simp only
        obtain ⟨hj, hjv, _⟩ := List.findIdx?_eq_some_iff_getElem.1 hf
        have hyg : t.getD j 0 = t[j] := by simp [List.getD_eq_getElem?_getD, List.getElem?_eq_getElem hj]
        have hym : t[j] ∈ t := List.getElem_mem hj
        simp at hjv
        have hyx : t[j] ≠ x := fun e => hxt (e ▸ hym)
        have hya : t[j] ≠ a := fun e => hat' (e ▸ hym)
        have hly : lit n t[j] := hlc' _ (by simp [hym])
        have hyn : -t[j] ∉ s.tr := fun hm => hjv ((htk.neg hly).2 hm)
        have hps : (t[j] :: t.set j x).Perm (x :: t) := by have := perm_swap_in 0 x t j hj; rwa [hyg] at this
        rw [hyg]
        have hW2 := hW.rewatch (a := a) (y := t[j]) (t' := t.set j x) hc hw ((hps.cons a).trans hp) hax hyx hya
        have hP2 : ∀ (P Q : Int → Prop), Pair P Q c → ¬ P t[j] → ¬ Q x → Pair P Q (a :: t[j] :: t.set j x) := fun P Q hq hny hnx => by
          have := hPQ P Q hq
          exact ⟨fun e => absurd (this.1 e) hnx, fun e => absurd e hny⟩
        refine (visit_spec r kept { s with cl := s.cl.set k (a :: t[j] :: t.set j x), wa := upd s.wa t[j] (s.wa t[j] ++ [k]) } hW2 hx ?_ ?_).after rfl ⟨[], by simp⟩ ?_ (fun B q => q)
        · intro i hi d hd
          rcases hget _ i d hd with ⟨rfl, rfl⟩ | ⟨hjk, hd⟩
          · exact absurd hi hko
          · exact hK i hi d hd
        · exact hI.set (hP2 _ _ (hI c hcm) (fun q => hyn (List.mem_of_mem_take q)) hxn)
        · exact fun m _ h => h.set (hP2 _ _ (h c hcm) (fun q => hyn (List.mem_of_mem_take q)) (fun q => hxn (List.mem_of_mem_take q)))
      | none =>
        simp only
        have hall : ∀ y ∈ t, -y ∈ s.tr := fun y hy => by
          have := List.findIdx?_eq_none_iff.1 hf y hy
          simp at this
          exact (htk.neg (hlc' y (by simp [hy]))).1 this
        by_cases h2 : valL s.va a = -1
        · rw [if_pos h2]
          have hna : -a ∈ s.tr := (htk.neg hla).1 h2
          refine ⟨?_, rfl, ⟨[], by simp⟩, fun m hm h => (hV1 m hm h : Inv { s with cl := s.cl.set k (a :: x :: t) } m), fun B q => q, fun q => by simp at q, fun _ => ⟨c0, hc0, fun y hy => ?_⟩⟩
          · have e : kept ++ [k] ++ r = kept ++ k :: r := by simp
            show WF n F { s with cl := s.cl.set k (a :: x :: t), wa := upd s.wa x (kept ++ [k] ++ r) }
            rw [e]; exact hW1
          · have hy' := hp.mem_iff.2 (hp0.mem_iff.2 hy)
            simp only [List.mem_cons] at hy'
            rcases hy' with rfl | rfl | hy'
            · exact hna
            · exact hx
            · exact hall y hy'
        · rw [if_neg h2]
          have h0 : valL s.va a = 0 := by exact (htk.rng a hla).elim id (fun h => h.elim (fun h => absurd h h1) (fun h => absurd h h2))
          have hle := hW.hdle
          simp only at hle
          have hWp : WF n F { ({ s with cl := s.cl.set k (a :: x :: t) } : En).put a with wa := upd s.wa x ((kept ++ [k]) ++ r) } := by
            rw [← hassoc]; exact hW1.put hla h0
          refine (visit_spec r (kept ++ [k]) (({ s with cl := s.cl.set k (a :: x :: t) } : En).put a) hWp (List.mem_append.2 (.inl hx)) ?_ (hI1.put hle)).after rfl ⟨[a], rfl⟩ ?_ ?_
          · intro j hj d hd
            show Pair _ (fun b => b ∈ s.tr ++ [a]) d
            rcases hget _ j d hd with ⟨rfl, rfl⟩ | ⟨hjk, hd⟩
            · exact ⟨fun e => absurd e hax, fun _ => by simp⟩
            · rw [List.mem_append] at hj
              rcases hj with hj | hj
              · exact (hK j hj d hd).imp (fun _ q => q) (fun _ q => List.mem_append.2 (.inl q))
              · simp at hj; exact absurd hj hjk
          · exact fun m hm h => (hV1 m hm h).put (by simp only; omega)
          · intro B q
            refine q.push (.inr ⟨c0, hc0, hp0.mem_iff.1 (hp.mem_iff.1 (by simp)), fun y hy hn => ?_⟩)
            have hy' := hp.mem_iff.2 (hp0.mem_iff.2 hy)
            simp only [List.mem_cons] at hy'
            rcases hy' with rfl | rfl | hy'
            · exact absurd rfl hn
            · exact hx
            · exact hall y hy'
end

section
variable {n : Nat} {F : List (List Int)} {s : En}
structure PropOut (n : Nat) (F : List (List Int)) (s : En) (r : En × Bool) : Prop where
  wf : WF n F r.1
  ext : ∃ l, r.1.tr = s.tr ++ l
  inv : ∀ m, m ≤ s.hd → Inv s m → Inv r.1 m
  der : ∀ B, Der B F s.tr → Der B F r.1.tr
  good : r.2 = true → r.1.hd = r.1.tr.length ∧ Inv r.1 r.1.tr.length
  bad : r.2 = false → Falsified F r.1.tr
theorem upd_self (f : Int → List Nat) (x : Int) : upd f x (f x) = f := by
  funext y; unfold upd; split
  · next h => rw [h]
  · rfl
theorem prop_spec : ∀ (f : Nat) (s : En), WF n F s → Inv2 s s.hd → n + 1 < f + s.hd → PropOut n F s (propF f s)
  | 0, s, hW, _, hf => by have := hW.hdle; have := hW.tk.le; omega
  | f + 1, s, hW, hI, hf => by
    unfold propF
    cases hl : s.tr[s.hd]? with
    | none =>
      have hlen : s.hd = s.tr.length := by
        have := List.getElem?_eq_none_iff.1 hl; have := hW.hdle; omega
      refine ⟨hW, ⟨[], by simp⟩, fun m _ h => h, fun B h => h, fun _ => ⟨hlen, ?_⟩, fun h => by simp at h⟩
      intro c hc
      have := hI c hc
      rw [hlen] at this
      refine this.imp (fun _ q => q) (fun b q => ?_)
      show b ∈ s.tr.take s.tr.length
      rw [List.take_length]; exact q
    | some l =>
      simp only
      have hhd : s.hd < s.tr.length := (List.getElem?_eq_some_iff.1 hl).1
      have hlm : l ∈ s.tr := List.mem_of_getElem? hl
      have hV := visit_spec (n := n) (F := F) (x := -l) (s.wa (-l)) [] s (by rw [List.nil_append, upd_self]; exact hW) (by simpa using hlm) (fun k hk => absurd hk (by simp)) hI
      revert hV
      generalize visitC (-l) (s.wa (-l)) [] s = r
      intro hV
      obtain ⟨ex, hex⟩ := hV.ext
      cases hr : r.2 with
      | false =>
        simp only [Bool.false_eq_true, if_false]
        exact ⟨hV.wf, hV.ext, hV.inv, hV.der, fun q => by simp at q, fun _ => hV.bad hr⟩
      | true =>
        simp only [if_true]
        obtain ⟨g1, g2⟩ := hV.good hr
        have hW' : WF n F { r.1 with hd := s.hd + 1 } := ⟨hV.wf.tk, by show s.hd + 1 ≤ r.1.tr.length; rw [hex]; simp; omega, hV.wf.clen, hV.wf.cls, hV.wf.good, hV.wf.wat, hV.wf.wnd⟩
        have htk : r.1.tr.take (s.hd + 1) = r.1.tr.take s.hd ++ [l] := by
          rw [List.take_add_one]
          have : r.1.tr[s.hd]? = some l := by rw [hex, List.getElem?_append_left hhd]; exact hl
          rw [this]; rfl
        have hI' : Inv2 { r.1 with hd := s.hd + 1 } (s.hd + 1) := by
          intro c hc
          have h1 := g1 c hc
          obtain ⟨k, hk⟩ := List.getElem?_of_mem hc
          have hk' : r.1.cl[k]? = some c := hk
          have h2 : isW c (-l) → Pair (fun a => a = -l) (fun b => b ∈ r.1.tr) c := fun hw => g2 k ((hV.wf.wat (-l) k).2 ⟨c, hk', hw⟩) c hk'
          show Pair (fun a => -a ∈ r.1.tr.take (s.hd + 1)) (fun b => b ∈ r.1.tr) c
          match c, h1, h2 with
          | [], _, _ => trivial
          | [_], _, _ => trivial
          | a :: b :: t, h1, h2 =>
            have e : ∀ z, -z ∈ r.1.tr.take (s.hd + 1) ↔ -z ∈ r.1.tr.take s.hd ∨ z = -l := fun z => by
              rw [htk, List.mem_append, List.mem_singleton]; exact or_congr Iff.rfl ⟨fun q => by omega, fun q => by omega⟩
            refine ⟨fun q => ?_, fun q => ?_⟩
            · rcases (e a).1 q with q | q
              · exact h1.1 q
              · exact (h2 (.inl q)).1 q
            · rcases (e b).1 q with q | q
              · exact h1.2 q
              · exact (h2 (.inr q)).2 q
        have ih := prop_spec f { r.1 with hd := s.hd + 1 } hW' hI' (by simp only; omega)
        obtain ⟨l2, e2⟩ := ih.ext
        refine ⟨ih.wf, ⟨ex ++ l2, by rw [e2]; show r.1.tr ++ l2 = _; rw [hex, List.append_assoc]⟩, fun m hm h => ih.inv m (by show m ≤ s.hd + 1; omega) (hV.inv m hm h), fun B h => ih.der B (hV.der B h), ih.good, ih.bad⟩
theorem WF.clause (h : WF n F s) {c : List Int} (hc : c ∈ F) : ∃ d ∈ s.cl, d.Perm c := by
  obtain ⟨k, hk⟩ := List.getElem?_of_mem hc
  have hk1 : k < s.cl.length := by rw [h.clen]; exact (List.getElem?_eq_some_iff.1 hk).1
  have hk2 := List.getElem?_eq_getElem hk1
  obtain ⟨c0, h0, h1⟩ := h.cls k _ hk2
  rw [hk] at h0; cases h0
  exact ⟨_, List.getElem_mem hk1, h1⟩
/-- What propagation leaves is closed: no clause is false but for one literal that is not true. -/
theorem closed (h : WF n F s) (hI : Inv s s.tr.length) {c : List Int} (hc : c ∈ F) {z : Int} (hz : z ∈ c) (hall : ∀ y ∈ c, y ≠ z → -y ∈ s.tr) : z ∈ s.tr := by
  obtain ⟨d, hd, hp⟩ := h.clause hc
  have hP := hI d hd
  obtain ⟨k, hk⟩ := List.getElem?_of_mem hd
  obtain ⟨_, a, b, t, hdt, hab, _, _, _, hlits⟩ := h.at hk
  subst hdt
  obtain ⟨p1, p2⟩ := hP
  rw [List.take_length] at p1 p2
  have ma : a ∈ c := hp.mem_iff.1 (by simp)
  have mb : b ∈ c := hp.mem_iff.1 (by simp)
  by_cases ea : a = z
  · subst ea; exact p2 (hall b mb (fun e => hab e.symm))
  · by_cases eb : b = z
    · subst eb; exact p1 (hall a ma hab)
    · have h1 := p1 (hall a ma ea)
      exact absurd (hall b mb eb) (h.tk.con h1)
theorem notFalsified (h : WF n F s) (hI : Inv s s.tr.length) : ¬ Falsified F s.tr := by
  rintro ⟨c, hc, hall⟩
  obtain ⟨g1, _, _⟩ := h.good c hc
  match c, g1 with
  | a :: _, _ =>
    have := closed h hI hc (z := a) (by simp) (fun y hy _ => hall y hy)
    exact h.tk.con this (hall a (by simp))
/-- The values of literals are forgotten. -/
def unsetL (va l : List Int) : List Int := l.foldl (fun v x => v.set x.natAbs 0) va
def En.cut (s : En) (m : Nat) : En := { s with va := unsetL s.va (s.tr.drop m), tr := s.tr.take m, hd := m }
theorem unsetL_length : ∀ (l va : List Int), (unsetL va l).length = va.length
  | [], _ => rfl
  | x :: l, va => by show (unsetL (va.set x.natAbs 0) l).length = _; rw [unsetL_length l]; simp
theorem val_set0 {va : List Int} (hl : va.length = n + 1) {x y : Int} (hx : lit n x) (hy : lit n y) : valL (va.set x.natAbs 0) y = if y = x ∨ y = -x then 0 else valL va y := by
  obtain ⟨x0, x1, x2⟩ := hx
  obtain ⟨y0, y1, y2⟩ := hy
  unfold valL
  by_cases h : y < 0
  · rw [if_pos h, if_pos h, getD_set _ _ _ _ (by omega)]
    by_cases e : x.natAbs = (-y).toNat
    · rw [if_pos e, if_pos (by omega)]; rfl
    · rw [if_neg e, if_neg (by omega)]
  · rw [if_neg h, if_neg h, getD_set _ _ _ _ (by omega)]
    by_cases e : x.natAbs = y.toNat
    · rw [if_pos e, if_pos (by omega)]
    · rw [if_neg e, if_neg (by omega)]
theorem val_unset : ∀ (l va : List Int), va.length = n + 1 → (∀ x ∈ l, lit n x) → ∀ y, lit n y → valL (unsetL va l) y = if y ∈ l ∨ -y ∈ l then 0 else valL va y
  | [], va, _, _, y, _ => by simp [unsetL]
  | x :: l, va, hl, h, y, hy => by
    have ih := val_unset l (va.set x.natAbs 0) (by simp [hl]) (fun z hz => h z (by simp [hz])) y hy
    show valL (unsetL (va.set x.natAbs 0) l) y = _
    rw [ih, val_set0 hl (h x (by simp)) hy]
    simp only [List.mem_cons]
    by_cases h1 : y ∈ l ∨ -y ∈ l
    · rw [if_pos h1, if_pos (by rcases h1 with h1 | h1 <;> simp [h1])]
    · rw [if_neg h1]
      by_cases h2 : y = x ∨ y = -x
      · rw [if_pos h2, if_pos (by omega)]
      · rw [if_neg h2, if_neg]
        intro h3
        rcases h3 with (h3 | h3) | (h3 | h3)
        · exact h2 (.inl h3)
        · exact h1 (.inl h3)
        · exact h2 (.inr (by omega))
        · exact h1 (.inr h3)
theorem TrOk.cut {va tr : List Int} (h : TrOk n va tr) (m : Nat) : TrOk n (unsetL va (tr.drop m)) (tr.take m) := by
  have hd : ∀ x ∈ tr.drop m, lit n x := fun x hx => h.lits x (List.mem_of_mem_drop hx)
  have hdis : ∀ x, x ∈ tr.take m → x ∉ tr.drop m := fun x h1 h2 => by
    have := h.nd
    rw [← List.take_append_drop m tr, List.nodup_append] at this
    exact this.2.2 x h1 x h2 rfl
  have hspl : ∀ x, x ∈ tr ↔ x ∈ tr.take m ∨ x ∈ tr.drop m := fun x => by
    rw [← List.mem_append, List.take_append_drop]
  refine ⟨by rw [unsetL_length]; exact h.len, fun x hx => h.lits x (List.mem_of_mem_take hx), ?_, ?_, h.nd.sublist (List.take_sublist m tr)⟩
  · intro y hy
    rw [val_unset _ _ h.len hd y hy]
    by_cases h1 : y ∈ tr.drop m ∨ -y ∈ tr.drop m
    · rw [if_pos h1]
      refine ⟨fun q => by omega, fun q => ?_⟩
      rcases h1 with h1 | h1
      · exact absurd h1 (hdis y q)
      · exact absurd ((hspl _).2 (.inr h1)) (h.con ((hspl y).2 (.inl q)))
    · rw [if_neg h1, h.pos y hy, hspl]
      exact ⟨fun q => q.elim id (fun q => absurd (.inl q) h1), .inl⟩
  · intro y hy
    rw [val_unset _ _ h.len hd y hy]
    split
    · simp
    · exact h.rng y hy
theorem WF.cut (h : WF n F s) {m : Nat} (hm : m ≤ s.tr.length) : WF n F (s.cut m) :=
  ⟨h.tk.cut m, by show m ≤ (s.tr.take m).length; simp; omega, h.clen, h.cls, h.good, h.wat, h.wnd⟩
theorem take_take_le {α : Type} (l : List α) {i j : Nat} (h : i ≤ j) : (l.take j).take i = l.take i := by
  rw [List.take_take, Nat.min_eq_left h]
theorem Inv.cut {m i : Nat} (h : Inv s i) (hi : i ≤ m) : Inv (s.cut m) i := fun c hc => by
  show Pair (fun a => -a ∈ (s.tr.take m).take i) (fun b => b ∈ (s.tr.take m).take i) c
  rw [take_take_le _ hi]; exact h c hc
theorem Inv.two {m : Nat} (h : Inv s m) : Inv2 s m := fun c hc => (h c hc).imp (fun _ q => q) (fun _ q => List.mem_of_mem_take q)
end


/-- A decision: the variable, where the trail stood, whether it was turned. -/
structure Dec where
  v : Nat
  t : Nat
  turned : Bool
def turnS : List Dec → En → Option (En × List Dec)
  | [], _ => none
  | d :: ds, s => if d.turned then turnS ds (s.cut d.t) else some ((s.cut d.t).put d.v, ⟨d.v, (s.cut d.t).tr.length, true⟩ :: ds)
def leastU (va : List Int) (n : Nat) : Option Nat := (List.range' 1 n).find? (fun v => decide (va.getD v 0 = 0))
def searchF (n : Nat) : Nat → En → List Dec → Option (En × List Dec)
  | 0, _, _ => none
  | f + 1, s, de =>
    let r := propF (n + 2) s
    if r.2 then match leastU r.1.va n with
      | some v => searchF n f (r.1.put (-(v : Int))) (⟨v, r.1.tr.length, false⟩ :: de)
      | none => some (r.1, de)
    else match turnS de r.1 with
      | none => none
      | some q => searchF n f q.1 q.2
def tru (A : Nat → Bool) (l : Int) : Prop := A l.natAbs = decide (0 < l)
theorem tru_neg (A : Nat → Bool) {l : Int} (h : l ≠ 0) : tru A (-l) ↔ ¬ tru A l := by
  unfold tru
  rw [Int.natAbs_neg]
  by_cases hp : 0 < l
  · rw [decide_eq_false (by omega : ¬ 0 < -l), decide_eq_true hp]; simp
  · rw [decide_eq_true (by omega : 0 < -l), decide_eq_false hp]; simp
def SatF (A : Nat → Bool) (F : List (List Int)) (U : List Int) : Prop := (∀ c ∈ F, ∃ l ∈ c, tru A l) ∧ ∀ u ∈ U, tru A u
structure DecOk (n : Nat) (s : En) (d : Dec) : Prop where
  inv : Inv s d.t
  hd : d.t ≤ s.hd
  lt : d.t < s.tr.length
  v1 : 1 ≤ d.v
  vn : d.v ≤ n
  low : ∀ u : Nat, 1 ≤ u → u < d.v → (u : Int) ∈ s.tr.take d.t ∨ -(u : Int) ∈ s.tr.take d.t
  at_ : s.tr[d.t]? = some (if d.turned then (d.v : Int) else -(d.v : Int))
structure SInv (n : Nat) (F : List (List Int)) (U : List Int) (s : En) (de : List Dec) : Prop where
  wf : WF n F s
  two : Inv2 s s.hd
  dec : ∀ d ∈ de, DecOk n s d
  srt : de.Pairwise (fun d d' => d'.t < d.t ∧ d'.v < d.v)
  un : ∀ u ∈ U, u ∈ s.tr ∧ ∀ d ∈ de, u ∈ s.tr.take d.t
  ent : ∀ A, SatF A F U → ∀ (i : Nat) (l : Int), s.tr[i]? = some l → (∀ d ∈ de, d.turned = false → d.t ≤ i → tru A (-(d.v : Int))) → tru A l
def wgt (n : Nat) (d : Dec) : Nat := (if d.turned then 2 else 1) * 3 ^ (n - d.v)
def PW (n : Nat) : List Dec → Nat
  | [] => 0
  | d :: ds => wgt n d + PW n ds
def topV : List Dec → Nat
  | [] => 0
  | d :: _ => d.v
theorem wgt_le (n : Nat) (d : Dec) : wgt n d ≤ 2 * 3 ^ (n - d.v) := by
  unfold wgt; split
  · exact Nat.le_refl _
  · exact Nat.mul_le_mul_right _ (by decide)
theorem pow_step {n v v' : Nat} (h : v' < v) (hv : v ≤ n) : 3 ^ (n - v) * 3 ≤ 3 ^ (n - v') := by
  rw [← Nat.pow_succ]
  exact Nat.pow_le_pow_right (by decide) (by omega)
theorem PW_bound (n : Nat) : ∀ de : List Dec, (∀ d ∈ de, 1 ≤ d.v ∧ d.v ≤ n) → de.Pairwise (fun d d' => d'.t < d.t ∧ d'.v < d.v) → PW n de + 3 ^ (n - topV de) ≤ 3 ^ n
  | [], _, _ => by simp [PW, topV]
  | d :: ds, h, hp => by
    have ih := PW_bound n ds (fun x hx => h x (by simp [hx])) (List.pairwise_cons.1 hp).2
    have hd := h d (by simp)
    have htop : topV ds < d.v := by
      cases ds with
      | nil => exact hd.1
      | cons e es => exact ((List.pairwise_cons.1 hp).1 e (by simp)).2
    have h1 := pow_step htop hd.2
    have h2 := wgt_le n d
    show wgt n d + PW n ds + 3 ^ (n - d.v) ≤ 3 ^ n
    omega
theorem find_range {p : Nat → Bool} {n v : Nat} (h : (List.range' 1 n).find? p = some v) : 1 ≤ v ∧ v ≤ n ∧ p v = true ∧ ∀ u, 1 ≤ u → u < v → p u = false := by
  have hm := List.mem_of_find?_eq_some h
  have hp := List.find?_some h
  rw [List.mem_range'_1] at hm
  refine ⟨hm.1, by omega, hp, fun u h1 h2 => ?_⟩
  obtain ⟨_, l1, l2, e, hn⟩ := List.find?_eq_some_iff_append.1 h
  have hu : u ∈ List.range' 1 n := List.mem_range'_1.2 ⟨h1, by omega⟩
  rw [e] at hu
  rcases List.mem_append.1 hu with hu | hu
  · simpa using hn u hu
  · have hs : (List.range' 1 n).Pairwise (· < ·) := List.pairwise_lt_range'
    rw [e, List.pairwise_append] at hs
    rcases List.mem_cons.1 hu with rfl | hu
    · omega
    · have := (List.pairwise_cons.1 hs.2.1).1 u hu; omega
theorem find_none_range {p : Nat → Bool} {n : Nat} (h : (List.range' 1 n).find? p = none) : ∀ u, 1 ≤ u → u ≤ n → p u = false := fun u h1 h2 => by
  have := List.find?_eq_none.1 h u (List.mem_range'_1.2 ⟨h1, by omega⟩)
  simpa using this
section
variable {n : Nat} {F : List (List Int)} {U : List Int} {s : En} {de : List Dec}
theorem val_nat {va : List Int} (v : Nat) : valL va (v : Int) = va.getD v 0 := by
  unfold valL; rw [if_neg (by omega)]; simp
theorem assigned {va tr : List Int} (h : TrOk n va tr) {v : Nat} (h1 : 1 ≤ v) (h2 : v ≤ n) (h0 : va.getD v 0 ≠ 0) : (v : Int) ∈ tr ∨ -(v : Int) ∈ tr := by
  have hl : lit n (v : Int) := ⟨by omega, by omega, by omega⟩
  rcases h.rng _ hl with h3 | h3 | h3
  · rw [val_nat] at h3; exact absurd h3 h0
  · exact .inl ((h.pos _ hl).1 h3)
  · exact .inr ((h.neg hl).1 h3)
/-- Propagation keeps what a search knows. -/
theorem SInv.prop (h : SInv n F U s de) {r : En × Bool} (hr : PropOut n F s r) :
    (∀ d ∈ de, Inv r.1 d.t ∧ d.t < r.1.tr.length ∧ 1 ≤ d.v ∧ d.v ≤ n ∧ (∀ u : Nat, 1 ≤ u → u < d.v → (u : Int) ∈ r.1.tr.take d.t ∨ -(u : Int) ∈ r.1.tr.take d.t) ∧ r.1.tr[d.t]? = some (if d.turned then (d.v : Int) else -(d.v : Int))) ∧
    (∀ u ∈ U, u ∈ r.1.tr ∧ ∀ d ∈ de, u ∈ r.1.tr.take d.t) ∧
    (∀ A, SatF A F U → ∀ (i : Nat) (l : Int), r.1.tr[i]? = some l → (∀ d ∈ de, d.turned = false → d.t ≤ i → tru A (-(d.v : Int))) → tru A l) := by
  obtain ⟨ex, hex⟩ := hr.ext
  have htake : ∀ m, m ≤ s.tr.length → r.1.tr.take m = s.tr.take m := fun m hm => by rw [hex]; exact List.take_append_of_le_length hm
  refine ⟨fun d hd => ?_, fun u hu => ?_, ?_⟩
  · have D := h.dec d hd
    have e := htake d.t (Nat.le_of_lt D.lt)
    refine ⟨hr.inv _ D.hd D.inv, by rw [hex]; have := D.lt; simp; omega, D.v1, D.vn, by rw [e]; exact D.low, ?_⟩
    rw [hex, List.getElem?_append_left D.lt]; exact D.at_
  · refine ⟨by rw [hex]; exact List.mem_append.2 (.inl (h.un u hu).1), fun d hd => ?_⟩
    rw [htake _ (Nat.le_of_lt (h.dec d hd).lt)]; exact (h.un u hu).2 d hd
  · intro A hA
    have hD := hr.der (fun l => l ∈ s.tr) (fun i l hl => .inl (List.mem_of_getElem? hl))
    intro i
    induction i using Nat.strongRecOn with
    | ind i ih =>
      intro l hl hde
      rcases hD i l hl with hm | ⟨c, hc, hlc, hall⟩
      · obtain ⟨j, hj⟩ := List.getElem?_of_mem hm
        have hjl := (List.getElem?_eq_some_iff.1 hj).1
        by_cases hij : i < s.tr.length
        · have : s.tr[i]? = some l := by rw [hex, List.getElem?_append_left hij] at hl; exact hl
          exact h.ent A hA i l this hde
        · exact h.ent A hA j l hj (fun d hd ht hle => hde d hd ht (by omega))
      · obtain ⟨z, hz, hzt⟩ := hA.1 c hc
        by_cases e : z = l
        · subst e; exact hzt
        · exfalso
          have hm := hall z hz e
          obtain ⟨j, hj⟩ := List.getElem?_of_mem hm
          have hjl := (List.getElem?_eq_some_iff.1 hj).1
          simp at hjl
          have hj' : r.1.tr[j]? = some (-z) := by
            rw [List.getElem?_take_of_lt (by omega)] at hj; exact hj
          have := ih j (by omega) (-z) hj' (fun d hd ht hle => hde d hd ht (by omega))
          have hz0 : z ≠ 0 := ((hr.wf.good c hc).2.2 z hz).1
          exact (tru_neg A hz0).1 this hzt
theorem getElem?_mid {α : Type} (l : List α) (x : α) {i : Nat} {z : α} (h : (l ++ [x])[i]? = some z) : l[i]? = some z ∨ (i = l.length ∧ z = x) := by
  by_cases hi : i < l.length
  · rw [List.getElem?_append_left hi] at h; exact .inl h
  · have h' := (List.getElem?_eq_some_iff.1 h).1
    simp at h'
    have e : i = l.length := by omega
    subst e
    simp at h
    exact .inr ⟨rfl, h.symm⟩
/-- A decision on the least variable without a value. -/
theorem SInv.decide (h : SInv n F U s de) {r : En × Bool} (hr : PropOut n F s r) (h2 : r.2 = true) {v : Nat} (hv : leastU r.1.va n = some v) :
    SInv n F U (r.1.put (-(v : Int))) (⟨v, r.1.tr.length, false⟩ :: de) ∧ PW n de < PW n (⟨v, r.1.tr.length, false⟩ :: de) := by
  obtain ⟨p1, p2, p3⟩ := h.prop hr
  obtain ⟨g1, g2⟩ := hr.good h2
  obtain ⟨v1, vn, v0, vl⟩ := find_range hv
  simp at v0
  have hlv : lit n (-(v : Int)) := ⟨by omega, by omega, by omega⟩
  have hlv' : lit n (v : Int) := ⟨by omega, by omega, by omega⟩
  have hval : valL r.1.va (-(v : Int)) = 0 := by rw [val_neg _ hlv', val_nat]; simp; exact v0
  have hlow : ∀ u : Nat, 1 ≤ u → u < v → (u : Int) ∈ r.1.tr ∨ -(u : Int) ∈ r.1.tr := fun u h1 h3 => by
    have := vl u h1 h3
    simp at this
    exact assigned hr.wf.tk h1 (by omega) (by simpa using this)
  have hnv : ∀ z, (z = (v : Int) ∨ z = -(v : Int)) → z ∉ r.1.tr := by
    intro z hz hm
    rcases hz with rfl | rfl
    · have := (hr.wf.tk.pos _ hlv').2 hm; rw [val_nat] at this; simp at this; omega
    · have := (hr.wf.tk.pos _ hlv).2 hm; omega
  refine ⟨⟨hr.wf.put hlv hval, ?_, ?_, ?_, ?_, ?_⟩, ?_⟩
  · have : (r.1.put (-(v : Int))).hd = r.1.tr.length := g1
    rw [this]
    exact (g2.put (Nat.le_refl _)).two
  · intro d hd
    rcases List.mem_cons.1 hd with rfl | hd
    · refine ⟨g2.put (Nat.le_refl _), by show _ ≤ r.1.hd; rw [g1]; exact Nat.le_refl _, by show r.1.tr.length < (r.1.tr ++ [-(v : Int)]).length; simp, v1, vn, ?_, by show (r.1.tr ++ [-(v : Int)])[r.1.tr.length]? = _; simp⟩
      intro u h1 h3
      show _ ∈ (r.1.tr ++ [-(v : Int)]).take r.1.tr.length ∨ _
      rw [List.take_append_of_le_length (Nat.le_refl _), List.take_length]
      have hp : (r.1.put (-(v : Int))).tr.take r.1.tr.length = r.1.tr := by
        show (r.1.tr ++ [-(v : Int)]).take r.1.tr.length = _
        rw [List.take_append_of_le_length (Nat.le_refl _), List.take_length]
      rw [hp]
      exact hlow u h1 h3
    · obtain ⟨q1, q2, q3, q4, q5, q6⟩ := p1 d hd
      refine ⟨q1.put (Nat.le_of_lt q2), by show d.t ≤ r.1.hd; rw [g1]; omega, by show d.t < (r.1.tr ++ [-(v : Int)]).length; simp; omega, q3, q4, ?_, ?_⟩
      · show ∀ u : Nat, 1 ≤ u → u < d.v → (u : Int) ∈ (r.1.tr ++ [-(v : Int)]).take d.t ∨ -(u : Int) ∈ (r.1.tr ++ [-(v : Int)]).take d.t
        rw [List.take_append_of_le_length (Nat.le_of_lt q2)]; exact q5
      · show (r.1.tr ++ [-(v : Int)])[d.t]? = _
        rw [List.getElem?_append_left q2]; exact q6
  · rw [List.pairwise_cons]
    refine ⟨fun d hd => ?_, h.srt⟩
    obtain ⟨_, q2, q3, q4, _, q6⟩ := p1 d hd
    refine ⟨q2, ?_⟩
    rcases Nat.lt_or_ge d.v v with hlt | hge
    · exact hlt
    · exfalso
      have hm := List.mem_of_getElem? q6
      by_cases e : d.v = v
      · refine hnv _ ?_ hm
        rw [e]; split
        · exact .inl rfl
        · exact .inr rfl
      · obtain ⟨_, _, _, _, q5, _⟩ := p1 d hd
        rcases q5 v v1 (by omega) with q | q
        · exact hnv _ (.inl rfl) (List.mem_of_mem_take q)
        · exact hnv _ (.inr rfl) (List.mem_of_mem_take q)
  · intro u hu
    refine ⟨List.mem_append.2 (.inl (p2 u hu).1), fun d hd => ?_⟩
    rcases List.mem_cons.1 hd with rfl | hd
    · show u ∈ (r.1.tr ++ [-(v : Int)]).take r.1.tr.length
      rw [List.take_append_of_le_length (Nat.le_refl _), List.take_length]; exact (p2 u hu).1
    · show u ∈ (r.1.tr ++ [-(v : Int)]).take d.t
      rw [List.take_append_of_le_length (Nat.le_of_lt (p1 d hd).2.1)]; exact (p2 u hu).2 d hd
  · intro A hA i l hl hde
    rcases getElem?_mid _ _ hl with hl | ⟨rfl, rfl⟩
    · exact p3 A hA i l hl (fun d hd => hde d (List.mem_cons_of_mem _ hd))
    · exact hde _ List.mem_cons_self rfl (Nat.le_refl _)
  · show PW n de < wgt n _ + PW n de
    have : 0 < wgt n ⟨v, r.1.tr.length, false⟩ := by
      unfold wgt; simp
      exact Nat.pow_pos (by decide)
    omega

/-- A conflict: no model has all the decisions that were not turned; then the last one of them is turned. -/
theorem turn_spec : ∀ (de : List Dec) (s : En), WF n F s → (∀ d ∈ de, Inv s d.t ∧ d.t ≤ s.tr.length ∧ 1 ≤ d.v ∧ d.v ≤ n ∧ (∀ u : Nat, 1 ≤ u → u < d.v → (u : Int) ∈ s.tr.take d.t ∨ -(u : Int) ∈ s.tr.take d.t) ∧ (∀ i, i < d.t → ∃ l, s.tr[i]? = some l) ∧ ((d.v : Int) ∉ s.tr.take d.t ∧ -(d.v : Int) ∉ s.tr.take d.t)) →
    (∀ d ∈ de, ∀ d' ∈ de, d'.t < d.t → s.tr[d'.t]? = some (if d'.turned then (d'.v : Int) else -(d'.v : Int))) →
    de.Pairwise (fun d d' => d'.t < d.t ∧ d'.v < d.v) →
    (∀ u ∈ U, u ∈ s.tr ∧ ∀ d ∈ de, u ∈ s.tr.take d.t) →
    (∀ A, SatF A F U → ∀ (i : Nat) (l : Int), s.tr[i]? = some l → (∀ d ∈ de, d.turned = false → d.t ≤ i → tru A (-(d.v : Int))) → tru A l) →
    (∀ A, SatF A F U → ¬ ∀ d ∈ de, d.turned = false → tru A (-(d.v : Int))) →
    match turnS de s with
    | none => ∀ A, ¬ SatF A F U
    | some q => SInv n F U q.1 q.2 ∧ PW n de + 3 ^ (n - topV de) ≤ PW n q.2
  | [], s, _, _, _, _, _, _, hC => by
    show ∀ A, ¬ SatF A F U
    exact fun A hA => hC A hA (fun d hd => absurd hd (by simp))
  | d :: ds, s, hW, hD, hat, hS, hU, hE, hC => by
    obtain ⟨d1, d2, d3, d4, d5, d6, d7⟩ := hD d (by simp)
    obtain ⟨hS1, hS2⟩ := List.pairwise_cons.1 hS
    have hW' : WF n F (s.cut d.t) := hW.cut d2
    have htr : (s.cut d.t).tr = s.tr.take d.t := rfl
    have hlen : (s.cut d.t).tr.length = d.t := by rw [htr, List.length_take]; omega
    have htt : ∀ m, m ≤ d.t → (s.tr.take d.t).take m = s.tr.take m := fun m hm => take_take_le _ hm
    have hget : ∀ i, i < d.t → (s.tr.take d.t)[i]? = s.tr[i]? := fun i hi => List.getElem?_take_of_lt hi
    have hE' : ∀ A, SatF A F U → ∀ (i : Nat) (l : Int), (s.tr.take d.t)[i]? = some l → (∀ d' ∈ ds, d'.turned = false → d'.t ≤ i → tru A (-(d'.v : Int))) → tru A l := by
      intro A hA i l hl hde
      have hi : i < d.t := by
        have := (List.getElem?_eq_some_iff.1 hl).1; rw [List.length_take] at this; omega
      rw [hget i hi] at hl
      refine hE A hA i l hl (fun d' hd' ht hle => ?_)
      rcases List.mem_cons.1 hd' with rfl | hd'
      · omega
      · exact hde d' hd' ht hle
    have htop : topV ds < d.v := by
      cases ds with
      | nil => exact d3
      | cons e es => exact (hS1 e (by simp)).2
    unfold turnS
    cases ht : d.turned with
    | true =>
      simp only [if_true]
      have ih := turn_spec ds (s.cut d.t) hW' (fun e he => by
          obtain ⟨e1, e2, e3, e4, e5, e6, e7⟩ := hD e (List.mem_cons_of_mem _ he)
          have hlt := (hS1 e he).1
          refine ⟨e1.cut (by omega), by rw [hlen]; omega, e3, e4, ?_, ?_, ?_⟩
          · rw [htr, htt _ (by omega)]; exact e5
          · intro i hi; rw [htr, hget i (by omega)]; exact e6 i hi
          · rw [htr, htt _ (by omega)]; exact e7)
        (fun a ha b hb hlt => by
          rw [htr, hget _ (hS1 b hb).1]; exact hat d (by simp) b (List.mem_cons_of_mem _ hb) (hS1 b hb).1)
        hS2
        (fun u hu => ⟨by rw [htr]; exact (hU u hu).2 d (by simp), fun e he => by rw [htr, htt _ (Nat.le_of_lt (hS1 e he).1)]; exact (hU u hu).2 e (List.mem_cons_of_mem _ he)⟩)
        hE'
        (fun A hA hall => hC A hA (fun e he hf => by
          rcases List.mem_cons.1 he with rfl | he
          · rw [ht] at hf; cases hf
          · exact hall e he hf))
      revert ih
      cases hq : turnS ds (s.cut d.t) with
      | none => exact fun ih => ih
      | some q =>
        rintro ⟨i1, i2⟩
        refine ⟨i1, ?_⟩
        have h1 := pow_step htop d4
        have h2 := wgt_le n d
        show wgt n d + PW n ds + 3 ^ (n - d.v) ≤ PW n q.2
        omega
    | false =>
      simp only [Bool.false_eq_true, if_false]
      have hlv : lit n (d.v : Int) := ⟨by omega, by omega, by omega⟩
      have hval : valL (s.cut d.t).va (d.v : Int) = 0 := by
        rcases hW'.tk.rng _ hlv with h | h | h
        · exact h
        · exact absurd ((hW'.tk.pos _ hlv).1 h) d7.1
        · exact absurd ((hW'.tk.neg hlv).1 h) d7.2
      rw [hlen]
      refine ⟨⟨hW'.put hlv hval, ?_, ?_, ?_, ?_, ?_⟩, ?_⟩
      · show Inv2 ((s.cut d.t).put d.v) d.t
        exact ((d1.cut (Nat.le_refl _)).put (by rw [hlen]; exact Nat.le_refl _)).two
      · intro e he
        have htp : ((s.cut d.t).put (d.v : Int)).tr = s.tr.take d.t ++ [(d.v : Int)] := rfl
        rcases List.mem_cons.1 he with rfl | he
        · refine ⟨(d1.cut (Nat.le_refl _)).put (by rw [hlen]; exact Nat.le_refl _), Nat.le_refl _, by rw [htp]; simp; omega, d3, d4, ?_, ?_⟩
          · show ∀ u : Nat, 1 ≤ u → u < d.v → (u : Int) ∈ (s.tr.take d.t ++ [(d.v : Int)]).take d.t ∨ -(u : Int) ∈ (s.tr.take d.t ++ [(d.v : Int)]).take d.t
            rw [List.take_append_of_le_length (by simp; omega), htt _ (Nat.le_refl _)]; exact d5
          · show (s.tr.take d.t ++ [(d.v : Int)])[d.t]? = _
            have : (s.tr.take d.t).length = d.t := hlen
            rw [List.getElem?_append_right (by omega), this]; simp
        · obtain ⟨e1, e2, e3, e4, e5, e6, e7⟩ := hD e (List.mem_cons_of_mem _ he)
          have hlt := (hS1 e he).1
          refine ⟨(e1.cut (by omega)).put (by rw [hlen]; omega), by show e.t ≤ d.t; omega, by rw [htp]; simp; omega, e3, e4, ?_, ?_⟩
          · show ∀ u : Nat, 1 ≤ u → u < e.v → (u : Int) ∈ (s.tr.take d.t ++ [(d.v : Int)]).take e.t ∨ -(u : Int) ∈ (s.tr.take d.t ++ [(d.v : Int)]).take e.t
            rw [List.take_append_of_le_length (by simp; omega), htt _ (by omega)]; exact e5
          · show (s.tr.take d.t ++ [(d.v : Int)])[e.t]? = _
            rw [List.getElem?_append_left (by simp; omega), hget _ hlt]
            exact hat d (by simp) e (List.mem_cons_of_mem _ he) hlt
      · rw [List.pairwise_cons]
        exact ⟨fun e he => hS1 e he, hS2⟩
      · intro u hu
        refine ⟨List.mem_append.2 (.inl ((hU u hu).2 d (by simp))), fun e he => ?_⟩
        have : e.t ≤ d.t := by
          rcases List.mem_cons.1 he with rfl | he
          · exact Nat.le_refl _
          · exact Nat.le_of_lt (hS1 e he).1
        show u ∈ (s.tr.take d.t ++ [(d.v : Int)]).take e.t
        rw [List.take_append_of_le_length (by simp; omega), htt _ this]
        rcases List.mem_cons.1 he with rfl | he
        · exact (hU u hu).2 d (by simp)
        · exact (hU u hu).2 e (List.mem_cons_of_mem _ he)
      · intro A hA i l hl hde
        rcases getElem?_mid _ _ hl with hl | ⟨rfl, rfl⟩
        · exact hE' A hA i l hl (fun e he => hde e (List.mem_cons_of_mem _ he))
        · rcases Classical.em (tru A (d.v : Int)) with h | h
          · exact h
          · exfalso
            refine hC A hA (fun e he hf => ?_)
            rcases List.mem_cons.1 he with rfl | he
            · exact (tru_neg A hlv.1).2 h
            · refine hde e (List.mem_cons_of_mem _ he) hf ?_
              rw [hlen]; exact Nat.le_of_lt (hS1 e he).1
      · show wgt n d + PW n ds + 3 ^ (n - d.v) ≤ wgt n ⟨d.v, d.t, true⟩ + PW n ds
        unfold wgt
        rw [ht]; simp; omega
theorem SInv.turn (h : SInv n F U s de) {r : En × Bool} (hr : PropOut n F s r) (h2 : r.2 = false) :
    match turnS de r.1 with
    | none => ∀ A, ¬ SatF A F U
    | some q => SInv n F U q.1 q.2 ∧ PW n de < PW n q.2 := by
  obtain ⟨p1, p2, p3⟩ := h.prop hr
  obtain ⟨c, hc, hall⟩ := hr.bad h2
  have hC : ∀ A, SatF A F U → ¬ ∀ d ∈ de, d.turned = false → tru A (-(d.v : Int)) := by
    intro A hA hde
    obtain ⟨z, hz, hzt⟩ := hA.1 c hc
    obtain ⟨i, hi⟩ := List.getElem?_of_mem (hall z hz)
    have := p3 A hA i _ hi (fun d hd ht _ => hde d hd ht)
    exact (tru_neg A ((hr.wf.good c hc).2.2 z hz).1).1 this hzt
  have hnd : ∀ d ∈ de, ∀ z, (z = (d.v : Int) ∨ z = -(d.v : Int)) → z ∉ r.1.tr.take d.t := by
    intro d hd z hz hm
    obtain ⟨_, q2, q3, q4, _, q6⟩ := p1 d hd
    have hx := List.mem_of_getElem? q6
    have hnod := hr.wf.tk.nd
    rw [← List.take_append_drop d.t r.1.tr, List.nodup_append] at hnod
    have hxd : (if d.turned then (d.v : Int) else -(d.v : Int)) ∈ r.1.tr.drop d.t := by
      apply List.mem_of_getElem? (i := 0)
      rw [List.getElem?_drop]; simpa using q6
    by_cases e : z = (if d.turned then (d.v : Int) else -(d.v : Int))
    · exact hnod.2.2 z hm _ hxd e
    · have e2 : z = -(if d.turned then (d.v : Int) else -(d.v : Int)) := by
        revert e; split <;> intro e <;> omega
      rw [e2] at hm
      exact hr.wf.tk.con hx (List.mem_of_mem_take hm)
  have key := turn_spec (n := n) (F := F) (U := U) de r.1 hr.wf (fun d hd => by
      obtain ⟨q1, q2, q3, q4, q5, q6⟩ := p1 d hd
      exact ⟨q1, Nat.le_of_lt q2, q3, q4, q5, fun i hi => ⟨_, List.getElem?_eq_getElem (by omega)⟩, hnd d hd _ (.inl rfl), hnd d hd _ (.inr rfl)⟩)
    (fun d _ e he _ => (p1 e he).2.2.2.2.2) h.srt p2 p3 hC
  revert key
  cases turnS de r.1 with
  | none => exact id
  | some q =>
    rintro ⟨k1, k2⟩
    exact ⟨k1, by have : 0 < 3 ^ (n - topV de) := Nat.pow_pos (by decide); omega⟩
/-- THE LAW OF THE SEARCH. -/
theorem search_spec : ∀ (f : Nat) (s : En) (de : List Dec), SInv n F U s de → 3 ^ n ≤ PW n de + f → 
    match searchF n f s de with
    | none => ∀ A, ¬ SatF A F U
    | some q => SInv n F U q.1 q.2 ∧ Inv q.1 q.1.tr.length ∧ leastU q.1.va n = none
  | 0, s, de, h, hf => by
    exfalso
    have := PW_bound n de (fun d hd => ⟨(h.dec d hd).v1, (h.dec d hd).vn⟩) h.srt
    have : 0 < 3 ^ (n - topV de) := Nat.pow_pos (by decide)
    omega
  | f + 1, s, de, h, hf => by
    have hr := prop_spec (n := n) (F := F) (n + 2) s h.wf h.two (by omega)
    unfold searchF
    simp only
    revert hr
    generalize propF (n + 2) s = r
    intro hr
    cases h2 : r.2 with
    | true =>
      simp only [if_true]
      cases hv : leastU r.1.va n with
      | some v =>
        obtain ⟨k1, k2⟩ := h.decide hr h2 hv
        exact search_spec f _ _ k1 (by omega)
      | none =>
        obtain ⟨p1, p2, p3⟩ := h.prop hr
        obtain ⟨g1, g2⟩ := hr.good h2
        refine ⟨⟨hr.wf, by rw [g1]; exact g2.two, fun d hd => ?_, h.srt, p2, p3⟩, g2, hv⟩
        obtain ⟨q1, q2, q3, q4, q5, q6⟩ := p1 d hd
        exact ⟨q1, by rw [g1]; omega, q2, q3, q4, q5, q6⟩
    | false =>
      simp only [Bool.false_eq_true, if_false]
      have ht := h.turn hr h2
      revert ht
      cases turnS de r.1 with
      | none => exact id
      | some q =>
        rintro ⟨k1, k2⟩
        exact search_spec f _ _ k1 (by omega)

def valOf (s : En) : Nat → Bool := fun v => decide ((v : Int) ∈ s.tr)
def litsOk (n : Nat) (c : List Int) : Prop := c.Nodup ∧ ∀ x ∈ c, lit n x
/-- A list of clauses holds under an assignment. -/
def SatN (A : Nat → Bool) (N : List (List Int)) : Prop := ∀ c ∈ N, ∃ l ∈ c, tru A l
theorem tru_valOf {va : List Int} (h : TrOk n va s.tr) {l : Int} (hl : l ∈ s.tr) : tru (valOf s) l := by
  unfold tru valOf
  have hx := h.lits l hl
  by_cases hp : 0 < l
  · have e : (l.natAbs : Int) = l := by omega
    rw [e]; simp [hl, hp]
  · have e : (l.natAbs : Int) = -l := by have := hx.1; omega
    rw [e]; simp [h.con hl, hp]
/-- All variables have values behind a search that ends well. -/
theorem all_assigned (h : WF n F s) (hn : leastU s.va n = none) {v : Nat} (h1 : 1 ≤ v) (h2 : v ≤ n) : (v : Int) ∈ s.tr ∨ -(v : Int) ∈ s.tr := by
  have := find_none_range hn v h1 h2
  simp at this
  exact assigned h.tk h1 h2 (by simpa using this)
theorem sat_of_full (h : WF n F s) (hI : Inv s s.tr.length) (hn : leastU s.va n = none) (hU : ∀ u ∈ U, u ∈ s.tr) : SatF (valOf s) F U := by
  refine ⟨fun c hc => ?_, fun u hu => tru_valOf h.tk (hU u hu)⟩
  refine Classical.byContradiction fun hno => notFalsified h hI ⟨c, hc, fun y hy => ?_⟩
  have hl := (h.good c hc).2.2 y hy
  have ha : y ∈ s.tr ∨ -y ∈ s.tr := by
    have hb := all_assigned (v := y.natAbs) h hn (by have := hl.1; omega) (by have := hl.2; omega)
    by_cases hp : 0 < y
    · have e : (y.natAbs : Int) = y := by omega
      rwa [e] at hb
    · have e : (y.natAbs : Int) = -y := by omega
      rw [e, Int.neg_neg] at hb; exact hb.symm
  rcases ha with ha | ha
  · exact absurd ⟨y, hy, tru_valOf h.tk ha⟩ hno
  · exact ha
theorem least_of_full (h : SInv n F U s de) (hI : Inv s s.tr.length) (hn : leastU s.va n = none) (B : Nat → Bool) (hB : SatF B F U) :
    (∀ v, 1 ≤ v → v ≤ n → B v = valOf s v) ∨ ∃ v, 1 ≤ v ∧ v ≤ n ∧ valOf s v = false ∧ B v = true ∧ ∀ u, 1 ≤ u → u < v → B u = valOf s u := by
  have hv : ∀ v, 1 ≤ v → v ≤ n → (∀ l, l ∈ s.tr → (l = (v : Int) ∨ l = -(v : Int)) → tru B l) → B v = valOf s v := by
    intro v h1 h2 hl
    rcases all_assigned h.wf hn h1 h2 with hm | hm
    · have := hl _ hm (.inl rfl)
      have h3 := tru_valOf h.wf.tk hm
      unfold tru at this h3
      simp at this h3
      rw [this, h3]
    · have := hl _ hm (.inr rfl)
      have h3 := tru_valOf h.wf.tk hm
      unfold tru at this h3
      simp at this h3
      rw [this, h3]
  by_cases hall : ∀ d ∈ de, d.turned = false → tru B (-(d.v : Int))
  · refine .inl fun v h1 h2 => hv v h1 h2 fun l hl _ => ?_
    obtain ⟨i, hi⟩ := List.getElem?_of_mem hl
    exact h.ent B hB i l hi (fun d hd ht _ => hall d hd ht)
  · -- the least decision that B does not share
    have key : ∀ ds : List Dec, (∀ d ∈ ds, d ∈ de) → ds.Pairwise (fun d d' => d'.t < d.t ∧ d'.v < d.v) → (¬ ∀ d ∈ ds, d.turned = false → tru B (-(d.v : Int))) → ∃ d ∈ ds, d.turned = false ∧ ¬ tru B (-(d.v : Int)) ∧ ∀ e ∈ ds, e.t < d.t → e.turned = false → tru B (-(e.v : Int)) := by
      intro ds
      induction ds with
      | nil => exact fun _ _ hno => absurd (fun d hd => absurd hd (by simp)) hno
      | cons d ds ih =>
        intro hm hp hno
        obtain ⟨hp1, hp2⟩ := List.pairwise_cons.1 hp
        by_cases hds : ∀ e ∈ ds, e.turned = false → tru B (-(e.v : Int))
        · refine ⟨d, by simp, ?_⟩
          have : d.turned = false ∧ ¬ tru B (-(d.v : Int)) := by
            refine Classical.byContradiction fun hq => hno fun e he ht => ?_
            rcases List.mem_cons.1 he with rfl | he
            · exact Classical.byContradiction fun hz => hq ⟨ht, hz⟩
            · exact hds e he ht
          refine ⟨this.1, this.2, fun e he hlt ht => ?_⟩
          rcases List.mem_cons.1 he with rfl | he
          · omega
          · exact hds e he ht
        · obtain ⟨e, he, h1, h2, h3⟩ := ih (fun z hz => hm z (by simp [hz])) hp2 hds
          refine ⟨e, by simp [he], h1, h2, fun z hz hlt ht => ?_⟩
          rcases List.mem_cons.1 hz with rfl | hz
          · have := (hp1 e he).1; omega
          · exact h3 z hz hlt ht
    obtain ⟨d, hd, ht, hnt, hbel⟩ := key de (fun _ q => q) h.srt hall
    have D := h.dec d hd
    have hat := D.at_
    rw [ht] at hat
    simp only [Bool.false_eq_true, if_false] at hat
    have hlv : (-(d.v : Int)) ≠ 0 := by have := D.v1; omega
    refine .inr ⟨d.v, D.v1, D.vn, ?_, ?_, fun u h1 h2 => ?_⟩
    · have := tru_valOf h.wf.tk (List.mem_of_getElem? hat)
      unfold tru at this; simp at this; exact this
    · have e : decide ((0 : Int) < -(d.v : Int)) = false := decide_eq_false (by omega)
      unfold tru at hnt
      rw [e] at hnt
      simp at hnt; exact hnt
    · refine hv u h1 (by have := D.vn; omega) fun l hl hlu => ?_
      -- l lies below d's place
      have hmem : l ∈ s.tr.take d.t := by
        rcases D.low u h1 h2 with q | q
        · rcases hlu with rfl | rfl
          · exact q
          · exact absurd (List.mem_of_mem_take q) (fun q' => by have := h.wf.tk.con hl; simp at this; exact this q')
        · rcases hlu with rfl | rfl
          · exact absurd (List.mem_of_mem_take q) (h.wf.tk.con hl)
          · exact q
      obtain ⟨i, hi⟩ := List.getElem?_of_mem hmem
      have hid := (List.getElem?_eq_some_iff.1 hi).1
      simp at hid
      rw [List.getElem?_take_of_lt (by omega)] at hi
      refine h.ent B hB i l hi (fun e he hte hle => hbel e he (by omega) hte)
/-- A clause is added. -/
def addCl (s : En) (l : List Int) : En := match l with
  | a :: b :: _ => { s with cl := s.cl ++ [l], wa := upd (upd s.wa a (s.wa a ++ [s.cl.length])) b ((upd s.wa a (s.wa a ++ [s.cl.length])) b ++ [s.cl.length]) }
  | _ => s
theorem WF.withC {l : List Int} (h : WF n F s) (h2 : 2 ≤ l.length) (hl : litsOk n l) : WF n (F ++ [l]) (addCl s l) := by
  match l, h2, hl with
  | a :: b :: t, _, hl =>
    have hab : a ≠ b := by
      have := hl.1; simp only [List.nodup_cons, List.mem_cons, not_or] at this; exact this.1.1
    have hnew : ∀ y, s.cl.length ∉ s.wa y := fun y hm => by
      obtain ⟨c, hc, _⟩ := (h.wat y _).1 hm
      exact absurd (List.getElem?_eq_some_iff.1 hc).1 (by omega)
    have hwa : ∀ y, (addCl s (a :: b :: t)).wa y = if y = a ∨ y = b then s.wa y ++ [s.cl.length] else s.wa y := by
      intro y
      show upd (upd s.wa a _) b _ y = _
      by_cases e : y = b
      · subst e; rw [upd_same, upd_other _ _ (fun q => hab q.symm), if_pos (.inr rfl)]
      · rw [upd_other _ _ e]
        by_cases e2 : y = a
        · subst e2; rw [upd_same, if_pos (.inl rfl)]
        · rw [upd_other _ _ e2, if_neg (by simp [e, e2])]
    refine ⟨h.tk, h.hdle, by show (s.cl ++ [_]).length = _; simp [h.clen], ?_, ?_, ?_, ?_⟩
    · intro k c hc
      rcases getElem?_mid _ _ hc with hc | ⟨rfl, rfl⟩
      · obtain ⟨c0, h0, h1⟩ := h.cls k c hc
        exact ⟨c0, by rw [List.getElem?_append_left (List.getElem?_eq_some_iff.1 h0).1]; exact h0, h1⟩
      · exact ⟨_, by rw [h.clen]; simp, List.Perm.refl _⟩
    · intro c hc
      rcases List.mem_append.1 hc with hc | hc
      · exact h.good c hc
      · simp at hc; subst hc; exact ⟨by simp, hl.1, hl.2⟩
    · intro y k
      rw [hwa y]
      have hold : (∃ c, (s.cl ++ [a :: b :: t])[k]? = some c ∧ isW c y) ↔ (k ∈ s.wa y ∨ (k = s.cl.length ∧ (y = a ∨ y = b))) := by
        constructor
        · rintro ⟨c, hc, hi⟩
          rcases getElem?_mid _ _ hc with hc | ⟨rfl, rfl⟩
          · exact .inl ((h.wat y k).2 ⟨c, hc, hi⟩)
          · exact .inr ⟨rfl, hi.elim (fun e => .inl e.symm) (fun e => .inr e.symm)⟩
        · rintro (hm | ⟨rfl, hy⟩)
          · obtain ⟨c, hc, hi⟩ := (h.wat y k).1 hm
            exact ⟨c, by rw [List.getElem?_append_left (List.getElem?_eq_some_iff.1 hc).1]; exact hc, hi⟩
          · exact ⟨a :: b :: t, by simp, (hy.elim (fun e => Or.inl e.symm) (fun e => Or.inr e.symm) : a = y ∨ b = y)⟩
      show _ ↔ ∃ c, (s.cl ++ [a :: b :: t])[k]? = some c ∧ isW c y
      rw [hold]
      by_cases e : y = a ∨ y = b
      · rw [if_pos e]; simp [e]
      · rw [if_neg e]; simp [e]
    · intro y
      rw [hwa y]
      split
      · rw [List.nodup_append]
        exact ⟨h.wnd y, by simp, fun p hp q hq e => by simp at hq; subst hq; subst e; exact hnew y hp⟩
      · exact h.wnd y
/-- The solver's engine from clauses (each sorted, without duplicates). -/
def newStep (s : En × Bool) (l : List Int) : En × Bool := match l with
  | [] => (s.1, true)
  | [u] => if valL s.1.va u = -1 then (s.1, true) else if valL s.1.va u = 0 then (s.1.put u, s.2) else s
  | a :: b :: t => (addCl s.1 (a :: b :: t), s.2)
def startE (n : Nat) : En := { cl := [], wa := fun _ => [], va := List.replicate (n + 1) 0, tr := [], hd := 0 }
theorem start_wf (n : Nat) : WF n [] (startE n) := by
  refine ⟨⟨by simp [startE], by simp [startE], fun x hx => ?_, fun x hx => ?_, by simp [startE]⟩, by simp [startE], rfl, by simp [startE], by simp, by simp [startE], by simp [startE]⟩
  · have : valL (startE n).va x = 0 := by
      unfold valL startE; simp only [List.getD_eq_getElem?_getD, List.getElem?_replicate]
      split <;> split <;> rfl
    rw [this]; simp [startE]
  · left
    unfold valL startE; simp only [List.getD_eq_getElem?_getD, List.getElem?_replicate]
    split <;> split <;> rfl
def newAll (s : En × Bool) (N : List (List Int)) : En × Bool := N.foldl newStep s
theorem new_spec : ∀ (N : List (List Int)) (F : List (List Int)) (M : List (List Int)) (s : En × Bool), WF n F s.1 → s.1.hd = 0 → (∀ c ∈ N, litsOk n c) →
    (s.2 = true → ∀ A, ¬ SatN A M) → (s.2 = false → ∀ A, SatN A M ↔ SatF A F s.1.tr) →
    ∃ F', WF n F' (newAll s N).1 ∧ (newAll s N).1.hd = 0 ∧ ((newAll s N).2 = true → ∀ A, ¬ SatN A (M ++ N)) ∧ ((newAll s N).2 = false → ∀ A, SatN A (M ++ N) ↔ SatF A F' (newAll s N).1.tr)
  | [], F, M, s, hW, h0, _, hb, hg => ⟨F, hW, h0, by simpa [newAll] using hb, by simpa [newAll] using hg⟩
  | l :: N, F, M, s, hW, h0, hN, hb, hg => by
    have hM : ∀ A, SatN A (M ++ [l]) ↔ SatN A M ∧ ∃ x ∈ l, tru A x := fun A => by
      unfold SatN
      constructor
      · intro h; exact ⟨fun c hc => h c (by simp [hc]), h l (by simp)⟩
      · rintro ⟨h1, h2⟩ c hc
        rcases List.mem_append.1 hc with hc | hc
        · exact h1 c hc
        · simp at hc; subst hc; exact h2
    have step : ∃ F', WF n F' (newStep s l).1 ∧ (newStep s l).1.hd = 0 ∧ ((newStep s l).2 = true → ∀ A, ¬ SatN A (M ++ [l])) ∧ ((newStep s l).2 = false → ∀ A, SatN A (M ++ [l]) ↔ SatF A F' (newStep s l).1.tr) := by
      match l, hN l (by simp), hM with
      | [], _, hM =>
        exact ⟨F, hW, h0, fun _ A hA => by have := ((hM A).1 hA).2; simp at this, fun q => by simp [newStep] at q⟩
      | [u], hl, hM =>
        have hu := hl.2 u (by simp)
        have hM' : ∀ A, SatN A (M ++ [[u]]) ↔ SatN A M ∧ tru A u := fun A => by rw [hM A]; simp
        unfold newStep
        by_cases e1 : valL s.1.va u = -1
        · simp only [e1, if_true]
          refine ⟨F, hW, h0, fun _ A hA => ?_, fun q => by simp at q⟩
          have h3 := (hM' A).1 hA
          cases hs2 : s.2 with
          | true => exact hb hs2 A h3.1
          | false =>
            have h4 := ((hg hs2 A).1 h3.1).2 _ ((hW.tk.neg hu).1 e1)
            exact (tru_neg A hu.1).1 h4 h3.2
        · simp only [e1, if_false]
          by_cases e2 : valL s.1.va u = 0
          · simp only [e2, if_true]
            refine ⟨F, hW.put hu e2, h0, fun q A hA => hb q A ((hM' A).1 hA).1, fun q A => ?_⟩
            rw [hM' A, hg q A]
            unfold SatF
            show _ ↔ _ ∧ ∀ z ∈ s.1.tr ++ [u], tru A z
            constructor
            · rintro ⟨⟨h1, h2⟩, h3⟩
              exact ⟨h1, fun z hz => by
                rcases List.mem_append.1 hz with hz | hz
                · exact h2 z hz
                · simp at hz; subst hz; exact h3⟩
            · rintro ⟨h1, h2⟩
              exact ⟨⟨h1, fun z hz => h2 z (by simp [hz])⟩, h2 u (by simp)⟩
          · simp only [e2, if_false]
            have e3 : u ∈ s.1.tr := by
              rcases hW.tk.rng u hu with h | h | h
              · exact absurd h e2
              · exact (hW.tk.pos u hu).1 h
              · exact absurd h e1
            refine ⟨F, hW, h0, fun q A hA => hb q A ((hM' A).1 hA).1, fun q A => ?_⟩
            rw [hM' A, hg q A]
            exact ⟨fun h => h.1, fun h => ⟨h, h.2 u e3⟩⟩
      | a :: b :: t, hl, hM =>
        refine ⟨F ++ [a :: b :: t], hW.withC (by simp) hl, h0, fun q A hA => hb q A ((hM A).1 hA).1, fun q A => ?_⟩
        rw [hM A, hg q A]
        show _ ↔ SatF A (F ++ [a :: b :: t]) s.1.tr
        unfold SatF
        constructor
        · rintro ⟨⟨h1, h2⟩, h3⟩
          refine ⟨fun c hc => ?_, h2⟩
          rcases List.mem_append.1 hc with hc | hc
          · exact h1 c hc
          · simp at hc; subst hc; exact h3
        · rintro ⟨h1, h2⟩
          exact ⟨⟨fun c hc => h1 c (by simp [hc]), h2⟩, h1 _ (by simp)⟩
    obtain ⟨F1, s1, s2, s3, s4⟩ := step
    obtain ⟨F', k1, k2, k3, k4⟩ := new_spec N F1 (M ++ [l]) (newStep s l) s1 s2 (fun c hc => hN c (by simp [hc])) s3 s4
    refine ⟨F', k1, k2, ?_, ?_⟩
    · simpa [newAll] using k3
    · simpa [newAll] using k4
/-- What First finds: an engine whose trail is the least model, or nothing. -/
def firstE (n : Nat) (N : List (List Int)) : Option En :=
  let r := newAll (startE n, false) N
  if r.2 then none else (searchF n (3 ^ n) r.1 []).map (·.1)
/-- THE LAW OF First. -/
theorem first_law (N : List (List Int)) (hN : ∀ c ∈ N, litsOk n c) : match firstE n N with
    | none => ∀ A, ¬ SatN A N
    | some e => TrOk n e.va e.tr ∧ leastU e.va n = none ∧ SatN (valOf e) N ∧ ∀ B, SatN B N → (∀ v, 1 ≤ v → v ≤ n → B v = valOf e v) ∨ ∃ v, 1 ≤ v ∧ v ≤ n ∧ valOf e v = false ∧ B v = true ∧ ∀ u, 1 ≤ u → u < v → B u = valOf e u := by
  obtain ⟨F, k1, k2, k3, k4⟩ := new_spec (n := n) N [] [] (startE n, false) (start_wf n) rfl hN (fun q => by simp at q) (fun _ A => by simp [SatN, SatF, startE])
  simp only [List.nil_append] at k3 k4
  unfold firstE
  simp only
  revert k1 k2 k3 k4
  generalize newAll (startE n, false) N = r
  intro k1 k2 k3 k4
  cases h2 : r.2 with
  | true => simp only [if_true]; exact k3 h2
  | false =>
    simp only [Bool.false_eq_true, if_false]
    have hS : SInv n F r.1.tr r.1 [] := ⟨k1, by rw [k2]; intro c _; unfold Pair; split <;> simp, by simp, by simp, by simp, fun A hA i l hl _ => hA.2 l (List.mem_of_getElem? hl)⟩
    have key := search_spec (3 ^ n) r.1 [] hS (by simp [PW])
    revert key
    cases searchF n (3 ^ n) r.1 [] with
    | none => exact fun h A hA => h A ((k4 h2 A).1 hA)
    | some q =>
      rintro ⟨q1, q2, q3⟩
      refine ⟨q1.wf.tk, q3, (k4 h2 _).2 (sat_of_full q1.wf q2 q3 (fun u hu => (q1.un u hu).1)), fun B hB => least_of_full q1 q2 q3 B ((k4 h2 B).1 hB)⟩

structure RE where
  s : En
  units : List Int
  empty : Bool
def tautC (c : List Int) : Bool := c.any (fun x => decide (0 < x) && c.contains (-x))
def addR (g : RE) (d : List Int) : RE := if tautC d then g else match d with
  | [] => { g with empty := true }
  | [u] => { g with units := g.units ++ [u] }
  | a :: b :: t => { g with s := addCl g.s (a :: b :: t) }
def setAll : List Int → En → En × Bool
  | [], s => (s, true)
  | x :: l, s => if valL s.va x = 1 then setAll l s else if valL s.va x = -1 then (s, false) else setAll l (s.put x)
def negs (c : List Int) : List Int := c.map (fun x => -x)
def tryF (n : Nat) (units : List Int) (s : En) (c : List Int) : En × Bool :=
  if (setAll (negs c) s).2 then
    if (setAll units (setAll (negs c) s).1).2 then ((propF (n + 2) (setAll units (setAll (negs c) s).1).1).1, !(propF (n + 2) (setAll units (setAll (negs c) s).1).1).2)
    else ((setAll units (setAll (negs c) s).1).1, true)
  else ((setAll (negs c) s).1, true)
def followsR (n : Nat) (g : RE) (c : List Int) : RE × Bool :=
  if g.empty then ({ g with s := g.s.cut 0 }, true) else ({ g with s := (tryF n g.units g.s c).1.cut 0 }, (tryF n g.units g.s c).2)
structure Closed (D : List (List Int)) (T : Int → Prop) : Prop where
  con : ∀ x, T x → ¬ T (-x)
  cl : ∀ c ∈ D, (∃ z ∈ c, T z) ∨ ∃ y ∈ c, ∃ z ∈ c, y ≠ z ∧ ¬ T (-y) ∧ ¬ T (-z)
structure GInv (n : Nat) (D F : List (List Int)) (g : RE) : Prop where
  wf : WF n F g.s
  tr0 : g.s.tr = []
  hd0 : g.s.hd = 0
  cov : ∀ c ∈ D, tautC c = true ∨ c ∈ F ∨ (∃ u, c = [u] ∧ u ∈ g.units) ∨ (c = [] ∧ g.empty = true)
  fin : ∀ c ∈ F, c ∈ D
  uin : ∀ u ∈ g.units, [u] ∈ D
  ein : g.empty = true → [] ∈ D
  lits : ∀ c ∈ D, litsOk n c
theorem GInv.ulit {D : List (List Int)} {g : RE} (h : GInv n D F g) : ∀ u ∈ g.units, lit n u := fun u hu => (h.lits _ (h.uin u hu)).2 u (by simp)
theorem add_spec {D : List (List Int)} {g : RE} (h : GInv n D F g) {d : List Int} (hd : litsOk n d) : ∃ F', GInv n (D ++ [d]) F' (addR g d) := by
  have hl : ∀ c ∈ D ++ [d], litsOk n c := fun c hc => by
    rcases List.mem_append.1 hc with hc | hc
    · exact h.lits c hc
    · simp at hc; subst hc; exact hd
  unfold addR
  by_cases ht : tautC d = true
  · rw [if_pos ht]
    refine ⟨F, h.wf, h.tr0, h.hd0, fun c hc => ?_, fun c hc => by simp [h.fin c hc], fun u hu => by simp [h.uin u hu], fun q => by simp [h.ein q], hl⟩
    rcases List.mem_append.1 hc with hc | hc
    · exact h.cov c hc
    · simp at hc; subst hc; exact .inl ht
  · rw [if_neg ht]
    match d, hd, hl with
    | [], _, hl =>
      refine ⟨F, h.wf, h.tr0, h.hd0, fun c hc => ?_, fun c hc => by simp [h.fin c hc], fun u hu => by simp [h.uin u hu], fun q => by simp, hl⟩
      rcases List.mem_append.1 hc with hc | hc
      · rcases h.cov c hc with q | q | q | ⟨q1, q2⟩
        · exact .inl q
        · exact .inr (.inl q)
        · exact .inr (.inr (.inl q))
        · exact .inr (.inr (.inr ⟨q1, rfl⟩))
      · simp at hc; subst hc; exact .inr (.inr (.inr ⟨rfl, rfl⟩))
    | [u], _, hl =>
      refine ⟨F, h.wf, h.tr0, h.hd0, fun c hc => ?_, fun c hc => by simp [h.fin c hc], fun v hv => ?_, fun q => by simp [h.ein q], hl⟩
      · rcases List.mem_append.1 hc with hc | hc
        · rcases h.cov c hc with q | q | ⟨v, q1, q2⟩ | q
          · exact .inl q
          · exact .inr (.inl q)
          · exact .inr (.inr (.inl ⟨v, q1, by simp [q2]⟩))
          · exact .inr (.inr (.inr q))
        · simp at hc; subst hc; exact .inr (.inr (.inl ⟨u, rfl, by simp⟩))
      · rcases List.mem_append.1 hv with hv | hv
        · simp [h.uin v hv]
        · simp at hv; subst hv; simp
    | a :: b :: t, hd, hl =>
      have hW := h.wf.withC (l := a :: b :: t) (by simp) hd
      refine ⟨F ++ [a :: b :: t], hW, h.tr0, h.hd0, fun c hc => ?_, fun c hc => ?_, fun u hu => by simp [h.uin u hu], fun q => by simp [h.ein q], hl⟩
      · rcases List.mem_append.1 hc with hc | hc
        · rcases h.cov c hc with q | q | q | q
          · exact .inl q
          · exact .inr (.inl (by simp [q]))
          · exact .inr (.inr (.inl q))
          · exact .inr (.inr (.inr q))
        · exact .inr (.inl (List.mem_append.2 (.inr hc)))
      · rcases List.mem_append.1 hc with hc | hc
        · exact List.mem_append.2 (.inl (h.fin c hc))
        · exact List.mem_append.2 (.inr hc)
structure SetOut (n : Nat) (F : List (List Int)) (l : List Int) (s : En) (r : En × Bool) : Prop where
  wf : WF n F r.1
  hd : r.1.hd = s.hd
  ext : ∃ ex, r.1.tr = s.tr ++ ex
  inv : ∀ m, m ≤ s.tr.length → Inv s m → Inv r.1 m
  der : ∀ B, Der B F s.tr → (∀ x ∈ l, B x) → Der B F r.1.tr
  mem : ∀ x ∈ r.1.tr, x ∈ s.tr ∨ x ∈ l
  good : r.2 = true → ∀ x ∈ l, x ∈ r.1.tr
  bad : r.2 = false → ∃ x ∈ l, -x ∈ r.1.tr
theorem set_spec : ∀ (l : List Int) (s : En), WF n F s → (∀ x ∈ l, lit n x) → SetOut n F l s (setAll l s)
  | [], s, hW, _ => ⟨hW, rfl, ⟨[], by simp [setAll]⟩, fun _ _ h => h, fun _ h _ => h, fun x hx => .inl hx, fun _ x hx => absurd hx (by simp), fun h => by simp [setAll] at h⟩
  | x :: l, s, hW, hl => by
    have hx := hl x (by simp)
    have hl' : ∀ y ∈ l, lit n y := fun y hy => hl y (by simp [hy])
    unfold setAll
    by_cases h1 : valL s.va x = 1
    · rw [if_pos h1]
      have ih := set_spec l s hW hl'
      have hxm := (hW.tk.pos x hx).1 h1
      obtain ⟨ex, he⟩ := ih.ext
      refine ⟨ih.wf, ih.hd, ih.ext, ih.inv, fun B h hb => ih.der B h (fun y hy => hb y (by simp [hy])), fun y hy => (ih.mem y hy).imp id (fun q => by simp [q]), fun h y hy => ?_, fun h => ?_⟩
      · rcases List.mem_cons.1 hy with rfl | hy
        · rw [he]; simp [hxm]
        · exact ih.good h y hy
      · obtain ⟨y, hy, hn⟩ := ih.bad h; exact ⟨y, by simp [hy], hn⟩
    · rw [if_neg h1]
      by_cases h2 : valL s.va x = -1
      · rw [if_pos h2]
        exact ⟨hW, rfl, ⟨[], by simp⟩, fun _ _ h => h, fun _ h _ => h, fun y hy => .inl hy, fun h => by simp at h, fun _ => ⟨x, by simp, (hW.tk.neg hx).1 h2⟩⟩
      · rw [if_neg h2]
        have h0 : valL s.va x = 0 := (hW.tk.rng x hx).elim id (fun h => h.elim (fun h => absurd h h1) (fun h => absurd h h2))
        have ih := set_spec l (s.put x) (hW.put hx h0) hl'
        obtain ⟨ex, he⟩ := ih.ext
        have he' : (setAll l (s.put x)).1.tr = s.tr ++ (x :: ex) := by rw [he]; show s.tr ++ [x] ++ ex = _; simp
        refine ⟨ih.wf, ih.hd, ⟨_, he'⟩, fun m hm h => ih.inv m (by show m ≤ (s.tr ++ [x]).length; simp; omega) (h.put hm), fun B h hb => ih.der B (h.push (.inl (hb x (by simp)))) (fun y hy => hb y (by simp [hy])), fun y hy => ?_, fun h y hy => ?_, fun h => ?_⟩
        · rcases ih.mem y hy with q | q
          · rcases List.mem_append.1 q with q | q
            · exact .inl q
            · simp at q; exact .inr (by simp [q])
          · exact .inr (by simp [q])
        · rcases List.mem_cons.1 hy with rfl | hy
          · rw [he']; simp
          · exact ih.good h y hy
        · obtain ⟨y, hy, hn⟩ := ih.bad h; exact ⟨y, by simp [hy], hn⟩
theorem Inv2.zero (s : En) : Inv2 s 0 := fun c _ => by unfold Pair; split <;> simp
theorem Inv.zero (s : En) : Inv s 0 := fun c _ => by unfold Pair; split <;> simp
theorem lits_negs {c : List Int} (h : ∀ x ∈ c, lit n x) : ∀ x ∈ negs c, lit n x := fun x hx => by
  obtain ⟨y, hy, rfl⟩ := List.mem_map.1 hx; exact (h y hy).neg
/-- A closed set that has the trail's grounds has the trail. -/
theorem closed_has {D : List (List Int)} {T B : Int → Prop} {tr : List Int} (hT : Closed D T) (hF : ∀ c ∈ F, c ∈ D) (hB : ∀ l, B l → T l) (hd : Der B F tr) : ∀ l ∈ tr, T l := by
  have key : ∀ (i : Nat) (l : Int), tr[i]? = some l → T l := by
    intro i
    induction i using Nat.strongRecOn with
    | ind i ih =>
      intro l hl
      rcases hd i l hl with h | ⟨c, hc, hlc, hall⟩
      · exact hB l h
      · have hn : ∀ y ∈ c, y ≠ l → T (-y) := fun y hy hne => by
          obtain ⟨j, hj⟩ := List.getElem?_of_mem (hall y hy hne)
          have hjl := (List.getElem?_eq_some_iff.1 hj).1
          simp at hjl
          rw [List.getElem?_take_of_lt (by omega)] at hj
          exact ih j (by omega) _ hj
        rcases hT.cl c (hF c hc) with ⟨z, hz, hzt⟩ | ⟨y, hy, z, hz, hyz, h1, h2⟩
        · by_cases e : z = l
          · exact e ▸ hzt
          · exact absurd (hn z hz e) (hT.con z hzt)
        · by_cases e : y = l
          · exact absurd (hn z hz (fun q => hyz (e.trans q.symm))) h2
          · exact absurd (hn y hy e) h1
  intro l hl
  obtain ⟨i, hi⟩ := List.getElem?_of_mem hl
  exact key i l hi
theorem closed_noFals {D : List (List Int)} {T B : Int → Prop} {tr : List Int} (hT : Closed D T) (hF : ∀ c ∈ F, c ∈ D) (hB : ∀ l, B l → T l) (hd : Der B F tr) : ¬ Falsified F tr := by
  rintro ⟨c, hc, hall⟩
  have h := closed_has hT hF hB hd
  rcases hT.cl c (hF c hc) with ⟨z, hz, hzt⟩ | ⟨y, hy, _, _, _, h1, _⟩
  · exact hT.con z hzt (h _ (hall z hz))
  · exact h1 (h _ (hall y hy))
theorem closed_of_prop {D : List (List Int)} {g : RE} (h : GInv n D F g) (he : g.empty = false) (hW : WF n F s) (hI : Inv s s.tr.length) (hu : ∀ u ∈ g.units, u ∈ s.tr) : Closed D (fun x => x ∈ s.tr) := by
  refine ⟨fun x hx => hW.tk.con hx, fun c hc => ?_⟩
  rcases h.cov c hc with q | q | ⟨u, rfl, hum⟩ | ⟨_, q⟩
  · unfold tautC at q
    obtain ⟨x, hx, hq⟩ := List.any_eq_true.1 q
    simp at hq
    by_cases h1 : x ∈ s.tr
    · exact .inl ⟨x, hx, h1⟩
    · by_cases h2 : -x ∈ s.tr
      · exact .inl ⟨-x, hq.2, h2⟩
      · exact .inr ⟨x, hx, -x, hq.2, by omega, h2, by simpa using h1⟩
  · by_cases hex : ∃ z ∈ c, z ∈ s.tr
    · exact .inl hex
    · right
      have hno : ∀ z ∈ c, ∃ y ∈ c, y ≠ z ∧ -y ∉ s.tr := fun z hz => by
        refine Classical.byContradiction fun hq => hex ⟨z, hz, closed hW hI q hz fun y hy hne => ?_⟩
        exact Classical.byContradiction fun hm => hq ⟨y, hy, hne, hm⟩
      obtain ⟨g1, _, _⟩ := hW.good c q
      match c, g1, hno with
      | a :: _, _, hno =>
        obtain ⟨y, hy, _, hy2⟩ := hno a (by simp)
        obtain ⟨z, hz, hz1, hz2⟩ := hno y hy
        exact ⟨y, hy, z, hz, fun e => hz1 e.symm, hy2, hz2⟩
  · exact .inl ⟨u, by simp, hu u hum⟩
  · rw [he] at q; cases q
theorem follows_spec {D : List (List Int)} {g : RE} (h : GInv n D F g) {c : List Int} (hc : ∀ x ∈ c, lit n x) :
    GInv n D F (followsR n g c).1 ∧ (followsR n g c).1.units = g.units ∧ ((followsR n g c).2 = false → ∃ T, Closed D T ∧ ∀ x ∈ c, T (-x)) := by
  have hcut : ∀ s : En, WF n F s → GInv n D F { g with s := s.cut 0 } := fun s hs =>
    ⟨hs.cut (Nat.zero_le _), by show s.tr.take 0 = []; simp, rfl, h.cov, h.fin, h.uin, h.ein, h.lits⟩
  unfold followsR
  cases he : g.empty with
  | true => simp only [if_true]; exact ⟨by have := hcut _ h.wf; rwa [he] at this, trivial, fun q => by simp at q⟩
  | false =>
    simp only [Bool.false_eq_true, if_false]
    have h1 := set_spec (n := n) (F := F) (negs c) g.s h.wf (lits_negs hc)
    have h2 := set_spec (n := n) (F := F) g.units (setAll (negs c) g.s).1 h1.wf h.ulit
    have hhd : (setAll g.units (setAll (negs c) g.s).1).1.hd = 0 := by rw [h2.hd, h1.hd, h.hd0]
    have h3 := prop_spec (n := n) (F := F) (n + 2) (setAll g.units (setAll (negs c) g.s).1).1 h2.wf (by rw [hhd]; exact Inv2.zero _) (by omega)
    unfold tryF
    by_cases b1 : (setAll (negs c) g.s).2 = true
    · rw [if_pos b1]
      by_cases b2 : (setAll g.units (setAll (negs c) g.s).1).2 = true
      · rw [if_pos b2]
        refine ⟨by have := hcut _ h3.wf; rwa [he] at this, trivial, fun q => ?_⟩
        simp at q
        obtain ⟨ex3, e3⟩ := h3.ext
        obtain ⟨ex2, e2⟩ := h2.ext
        refine ⟨_, closed_of_prop h he h3.wf (h3.good q).2 (fun u hu => by rw [e3]; exact List.mem_append.2 (.inl (h2.good b2 u hu))), fun x hx => ?_⟩
        have := h1.good b1 (-x) (List.mem_map.2 ⟨x, hx, rfl⟩)
        show -x ∈ _
        rw [e3, e2]
        exact List.mem_append.2 (.inl (List.mem_append.2 (.inl this)))
      · rw [if_neg b2]
        exact ⟨by have := hcut _ h2.wf; rwa [he] at this, trivial, fun q => by simp at q⟩
    · rw [if_neg b1]
      exact ⟨by have := hcut _ h1.wf; rwa [he] at this, trivial, fun q => by simp at q⟩
theorem satF_of_satN {D : List (List Int)} {g : RE} (h : GInv n D F g) {A : Nat → Bool} (hA : SatN A D) : SatF A F g.units :=
  ⟨fun c hc => hA c (h.fin c hc), fun u hu => by obtain ⟨z, hz, ht⟩ := hA _ (h.uin u hu); simp at hz; subst hz; exact ht⟩
theorem tru_of_der {tr : List Int} {A : Nat → Bool} {B : Int → Prop} (hA : ∀ c ∈ F, ∃ l ∈ c, tru A l) (hF : ∀ c ∈ F, ∀ x ∈ c, lit n x) (hB : ∀ l, B l → tru A l) (hd : Der B F tr) : (∀ l ∈ tr, tru A l) ∧ ¬ Falsified F tr := by
  have key : ∀ (i : Nat) (l : Int), tr[i]? = some l → tru A l := by
    intro i
    induction i using Nat.strongRecOn with
    | ind i ih =>
      intro l hl
      rcases hd i l hl with h | ⟨c, hc, hlc, hall⟩
      · exact hB l h
      · obtain ⟨z, hz, hzt⟩ := hA c hc
        by_cases e : z = l
        · exact e ▸ hzt
        · exfalso
          obtain ⟨j, hj⟩ := List.getElem?_of_mem (hall z hz e)
          have hjl := (List.getElem?_eq_some_iff.1 hj).1
          simp at hjl
          rw [List.getElem?_take_of_lt (by omega)] at hj
          exact (tru_neg A (hF c hc z hz).1).1 (ih j (by omega) _ hj) hzt
  have h1 : ∀ l ∈ tr, tru A l := fun l hl => by
    obtain ⟨i, hi⟩ := List.getElem?_of_mem hl
    exact key i l hi
  refine ⟨h1, ?_⟩
  rintro ⟨c, hc, hall⟩
  obtain ⟨z, hz, hzt⟩ := hA c hc
  exact (tru_neg A (hF c hc z hz).1).1 (h1 _ (hall z hz)) hzt
/-- If the empty clause follows, there is no model. -/
theorem follows_nil {D : List (List Int)} {g : RE} (h : GInv n D F g) (hf : (followsR n g []).2 = true) (A : Nat → Bool) : ¬ SatN A D := fun hA => by
  revert hf
  unfold followsR
  cases he : g.empty with
  | true => intro _; obtain ⟨z, hz, _⟩ := hA _ (h.ein he); simp at hz
  | false =>
    simp only [Bool.false_eq_true, if_false]
    have hF : ∀ c ∈ F, ∀ x ∈ c, lit n x := fun c hc => (h.wf.good c hc).2.2
    have hS := satF_of_satN h hA
    have h2 := set_spec (n := n) (F := F) g.units g.s h.wf h.ulit
    have hhd : (setAll g.units g.s).1.hd = 0 := by rw [h2.hd, h.hd0]
    have h3 := prop_spec (n := n) (F := F) (n + 2) (setAll g.units g.s).1 h2.wf (by rw [hhd]; exact Inv2.zero _) (by omega)
    have d0 : Der (fun l => l ∈ g.units) F g.s.tr := by rw [h.tr0]; intro i l hl; simp at hl
    have d2 := h2.der _ d0 (fun x hx => hx)
    have d3 := h3.der _ d2
    have e : setAll (negs []) g.s = (g.s, true) := rfl
    unfold tryF
    rw [e]
    simp only [if_true]
    by_cases b2 : (setAll g.units g.s).2 = true
    · rw [if_pos b2]
      intro q
      simp at q
      exact (tru_of_der hS.1 hF hS.2 d3).2 (h3.bad q)
    · rw [if_neg b2]
      intro _
      obtain ⟨x, hx, hn⟩ := h2.bad (by simpa using b2)
      exact (tru_neg A (h.ulit x hx).1).1 ((tru_of_der hS.1 hF hS.2 d2).1 _ hn) (hS.2 x hx)

def maxC : Nat := 262144
def exclP (s : En) (D : List Int) (pf : List (List Int)) : En × List (List Int) × Nat := if maxC ≤ pf.length then (s, pf, 2) else (s, pf ++ [negs D], 0)
/-- The prover's search: what it leaves, the proof, and 0 (refuted), 1 (satisfied), 2 (too long). -/
def branchP (n : Nat) (rec : En → List Int → List (List Int) → En × List (List Int) × Nat) (x : Int) (s : En) (D : List Int) (pf : List (List Int)) : En × List (List Int) × Nat :=
  let p := propF (n + 2) (s.put x)
  let r := if p.2 then rec p.1 (D ++ [x]) pf else exclP p.1 (D ++ [x]) pf
  (r.1.cut s.tr.length, r.2)
def searchP (n : Nat) : Nat → En → List Int → List (List Int) → En × List (List Int) × Nat
  | 0, s, _, pf => (s, pf, 1)
  | f + 1, s, D, pf =>
    match leastU s.va n with
    | none => (s, pf, 1)
    | some v =>
      let b1 := branchP n (searchP n f) (-(v : Int)) s D pf
      if b1.2.2 = 0 then
        let b2 := branchP n (searchP n f) (v : Int) b1.1 D b1.2.1
        if b2.2.2 = 0 then exclP b2.1 D b2.2.1 else b2
      else b1
/-- Each clause follows from the clauses and those ahead of it, by propagation of units. -/
def Chain (nrm : List Int → List Int) : List (List Int) → List (List Int) → Prop
  | _, [] => True
  | D, c :: cs => (∀ T, Closed D T → ¬ ∀ x ∈ c, T (-x)) ∧ Chain nrm (D ++ [nrm c]) cs
theorem Chain.append {nrm : List Int → List Int} : ∀ (a : List (List Int)) {D b : List (List Int)}, Chain nrm D a → Chain nrm (D ++ a.map nrm) b → Chain nrm D (a ++ b)
  | [], D, b, _, h => by simpa using h
  | c :: a, D, b, h, h2 => ⟨h.1, Chain.append a h.2 (by simpa using h2)⟩
structure PInv (n : Nat) (F : List (List Int)) (units D : List Int) (s : En) : Prop where
  wf : WF n F s
  hd : s.hd = s.tr.length
  inv : Inv s s.tr.length
  dec : ∀ d ∈ D, d ∈ s.tr
  un : ∀ u ∈ units, u ∈ s.tr
  der : Der (fun l => l ∈ D ∨ l ∈ units) F s.tr
structure PPost (n : Nat) (nrm : List Int → List Int) (F : List (List Int)) (units D : List Int) (s : En) (pf : List (List Int)) (k : Nat) (r : En × List (List Int) × Nat) : Prop where
  wf : WF n F r.1
  ext : ∃ ex, r.1.tr = s.tr ++ ex
  inv : ∀ m, m ≤ s.tr.length → Inv s m → Inv r.1 m
  res : (r.2.2 = 1 ∧ ∃ A, SatF A F units) ∨
    (r.2.2 = 0 ∧ (∀ A, SatF A F units → ¬ ∀ d ∈ D, tru A d) ∧ ∃ new, r.2.1 = pf ++ (new ++ [negs D]) ∧ new.length + 1 < k ∧ (∀ c ∈ new, ∀ x ∈ c, lit n x) ∧ (∀ c ∈ new, c.length ≤ D.length + k) ∧
      ∀ DB, (∀ c ∈ F, c ∈ DB) → (∀ u ∈ units, [u] ∈ DB) → Chain nrm DB (new ++ [negs D]))
theorem cut_ext {a b : En} {ex : List Int} (h : b.tr = a.tr ++ ex) : (b.cut a.tr.length).tr = a.tr := by
  show b.tr.take a.tr.length = a.tr; rw [h]; simp
theorem closed_unit {D : List (List Int)} {T : Int → Prop} (hT : Closed D T) {u : Int} (h : [u] ∈ D) : T u := by
  rcases hT.cl _ h with ⟨z, hz, ht⟩ | ⟨y, hy, z, hz, hne, _⟩
  · simp at hz; exact hz ▸ ht
  · simp at hy hz; exact absurd (hy.trans hz.symm) hne
theorem mem_negs {D : List Int} {x : Int} : x ∈ negs D ↔ -x ∈ D := by
  unfold negs
  rw [List.mem_map]
  exact ⟨fun ⟨y, hy, e⟩ => by rw [← e]; simpa using hy, fun h => ⟨-x, h, by simp⟩⟩
theorem hasDec {D : List Int} {T : Int → Prop} (h : ∀ x ∈ negs D, T (-x)) : ∀ d ∈ D, T d := fun d hd => by
  have := h (-d) (mem_negs.2 (by simpa using hd)); simpa using this
/-- One side of a decision. -/
theorem branch_spec {nrm : List Int → List Int} {units D : List Int} {rec : En → List Int → List (List Int) → En × List (List Int) × Nat} {k : Nat} {x : Int} {pf : List (List Int)}
    (hrec : ∀ s' : En, s.tr.length < s'.tr.length → PInv n F units (D ++ [x]) s' → PPost n nrm F units (D ++ [x]) s' pf k (rec s' (D ++ [x]) pf))
    (h : PInv n F units D s) (hD : ∀ d ∈ D, lit n d) (hul : ∀ u ∈ units, lit n u) (hx : lit n x) (h0 : valL s.va x = 0) (hk : 1 < k) (hpf : pf.length < maxC) :
    PPost n nrm F units (D ++ [x]) s pf k (branchP n rec x s D pf) ∧ ((branchP n rec x s D pf).1.tr = s.tr ∧ (branchP n rec x s D pf).1.hd = s.tr.length) := by
  have hput : WF n F (s.put x) := h.wf.put hx h0
  have hI2 : Inv2 (s.put x) (s.put x).hd := by
    have : (s.put x).hd = s.tr.length := h.hd
    rw [this]; exact (h.inv.put (Nat.le_refl _)).two
  have hp := prop_spec (n := n) (F := F) (n + 2) (s.put x) hput hI2 (by omega)
  obtain ⟨ex, hex⟩ := hp.ext
  have hex' : (propF (n + 2) (s.put x)).1.tr = s.tr ++ (x :: ex) := by rw [hex]; show s.tr ++ [x] ++ ex = _; simp
  have hder : Der (fun l => l ∈ D ++ [x] ∨ l ∈ units) F (propF (n + 2) (s.put x)).1.tr := by
    refine hp.der _ ?_
    refine Der.push ?_ (.inl (.inl (by simp)))
    intro i l hl
    rcases h.der i l hl with q | q
    · exact .inl (q.imp (fun q => by simp [q]) id)
    · exact .inr q
  have hinv : ∀ m, m ≤ s.tr.length → Inv s m → Inv (propF (n + 2) (s.put x)).1 m := fun m hm hi =>
    hp.inv m (by show m ≤ s.hd; rw [h.hd]; exact hm) (hi.put hm)
  -- what stands behind the inner call
  have key : ∃ r, (if (propF (n + 2) (s.put x)).2 then rec (propF (n + 2) (s.put x)).1 (D ++ [x]) pf else exclP (propF (n + 2) (s.put x)).1 (D ++ [x]) pf) = r ∧ WF n F r.1 ∧ (∃ ex, r.1.tr = s.tr ++ ex) ∧ (∀ m, m ≤ s.tr.length → Inv s m → Inv r.1 m) ∧ ((r.2.2 = 1 ∧ ∃ A, SatF A F units) ∨
    (r.2.2 = 0 ∧ (∀ A, SatF A F units → ¬ ∀ d ∈ D ++ [x], tru A d) ∧ ∃ new, r.2.1 = pf ++ (new ++ [negs (D ++ [x])]) ∧ new.length + 1 < k ∧ (∀ c ∈ new, ∀ x ∈ c, lit n x) ∧ (∀ c ∈ new, c.length ≤ (D ++ [x]).length + k) ∧
      ∀ DB, (∀ c ∈ F, c ∈ DB) → (∀ u ∈ units, [u] ∈ DB) → Chain nrm DB (new ++ [negs (D ++ [x])]))) := by
    cases h2 : (propF (n + 2) (s.put x)).2 with
    | true =>
      simp only [if_true]
      obtain ⟨g1, g2⟩ := hp.good h2
      have hP : PInv n F units (D ++ [x]) (propF (n + 2) (s.put x)).1 := ⟨hp.wf, g1, g2, fun d hd => by
          rw [hex']
          rcases List.mem_append.1 hd with hd | hd
          · simp [h.dec d hd]
          · simp at hd; simp [hd], fun u hu => by rw [hex']; simp [h.un u hu], hder⟩
      have hr := hrec _ (by rw [hex']; simp) hP
      obtain ⟨ex2, he2⟩ := hr.ext
      exact ⟨_, rfl, hr.wf, ⟨x :: ex ++ ex2, by rw [he2, hex']; simp⟩, fun m hm hi => hr.inv m (by rw [hex']; simp; omega) (hinv m hm hi), hr.res⟩
    | false =>
      simp only [Bool.false_eq_true, if_false]
      have hl : ¬ maxC ≤ pf.length := by omega
      refine ⟨_, rfl, ?_⟩
      unfold exclP
      rw [if_neg hl]
      refine ⟨hp.wf, ⟨_, hex'⟩, hinv, .inr ⟨rfl, fun A hA hd => ?_, [], by simp, by simpa using hk, by simp, by simp, fun DB h1 h3 => ⟨fun T hT hneg => ?_, trivial⟩⟩⟩
      · refine (tru_of_der hA.1 (fun c hc => (h.wf.good c hc).2.2) ?_ hder).2 (hp.bad h2)
        rintro l (q | q)
        · exact hd l q
        · exact hA.2 l q
      · refine closed_noFals hT h1 ?_ hder (hp.bad h2)
        rintro l (q | q)
        · exact hasDec hneg l q
        · exact closed_unit hT (h3 l q)
  obtain ⟨r, hr0, hr1, ⟨ex3, hr2⟩, hr3, hr4⟩ := key
  have hb : branchP n rec x s D pf = (r.1.cut s.tr.length, r.2) := by
    unfold branchP; simp only; rw [hr0]
  rw [hb]
  have hct : (r.1.cut s.tr.length).tr = s.tr := cut_ext hr2
  refine ⟨⟨hr1.cut (by rw [hr2]; simp), ⟨[], by rw [hct]; simp⟩, fun m hm hi => (hr3 m hm hi).cut hm, hr4⟩, hct, rfl⟩
theorem psearch_spec {nrm : List Int → List Int} (hn : ∀ c x, x ∈ nrm c ↔ x ∈ c) {units : List Int} (hul : ∀ u ∈ units, lit n u) : ∀ (f : Nat) (s : En) (D : List Int) (pf : List (List Int)), PInv n F units D s → (∀ d ∈ D, lit n d) → n + 1 < f + s.tr.length → pf.length + 2 ^ (f + 1) ≤ maxC →
    PPost n nrm F units D s pf (2 ^ (f + 1)) (searchP n f s D pf)
  | 0, s, D, pf, h, _, hf, _ => by have := h.wf.tk.le; omega
  | f + 1, s, D, pf, h, hD, hf, hpf => by
    unfold searchP
    cases hv : leastU s.va n with
    | none =>
      exact ⟨h.wf, ⟨[], by simp⟩, fun m _ hi => hi, .inl ⟨rfl, _, sat_of_full h.wf h.inv hv h.un⟩⟩
    | some v =>
      simp only
      obtain ⟨v1, vn, v0, _⟩ := find_range hv
      simp at v0
      have hlv' : lit n (v : Int) := ⟨by omega, by omega, by omega⟩
      have hlv : lit n (-(v : Int)) := hlv'.neg
      have hval : valL s.va (v : Int) = 0 := by rw [val_nat]; simpa using v0
      have hvaln : valL s.va (-(v : Int)) = 0 := by rw [val_neg _ hlv', hval]; rfl
      have hpow : 2 ^ (f + 1 + 1) = 2 ^ (f + 1) + 2 ^ (f + 1) := by rw [Nat.pow_succ]; omega
      have hpos : 1 < 2 ^ (f + 1) := Nat.one_lt_two_pow (by omega)
      have hDx : ∀ x, lit n x → ∀ d ∈ D ++ [x], lit n d := fun x hx d hd => by
        rcases List.mem_append.1 hd with hd | hd
        · exact hD d hd
        · simp at hd; exact hd ▸ hx
      obtain ⟨b1, t1, u1⟩ := branch_spec (n := n) (F := F) (nrm := nrm) (units := units) (D := D) (rec := searchP n f) (k := 2 ^ (f + 1)) (x := -(v : Int)) (pf := pf)
        (fun s' hl hP => psearch_spec hn hul f s' _ pf hP (hDx _ hlv) (by omega) (by omega)) h hD hul hlv hvaln hpos (by omega)
      revert b1 t1 u1
      generalize branchP n (searchP n f) (-(v : Int)) s D pf = r1
      intro b1 t1 u1
      rcases b1.res with ⟨e1, hA⟩ | ⟨e1, hun1, new1, hp1, hl1, hlit1, hlen1, hch1⟩
      · rw [if_neg (by rw [e1]; decide)]
        exact ⟨b1.wf, b1.ext, b1.inv, .inl ⟨e1, hA⟩⟩
      · rw [if_pos e1]
        have hlp1 : r1.2.1.length = pf.length + (new1.length + 1) := by rw [hp1]; simp
        have h' : PInv n F units D r1.1 := ⟨b1.wf, by rw [u1, t1], by rw [t1]; exact b1.inv _ (Nat.le_refl _) h.inv, by rw [t1]; exact h.dec, by rw [t1]; exact h.un, by rw [t1]; exact h.der⟩
        have hval' : valL r1.1.va (v : Int) = 0 := by
          rcases b1.wf.tk.rng _ hlv' with q | q | q
          · exact q
          · have := (b1.wf.tk.pos _ hlv').1 q
            rw [t1] at this
            have := (h.wf.tk.pos _ hlv').2 this; omega
          · have := (b1.wf.tk.neg hlv').1 q
            rw [t1] at this
            have := (h.wf.tk.neg hlv').2 this; omega
        obtain ⟨b2, t2, u2⟩ := branch_spec (n := n) (F := F) (nrm := nrm) (units := units) (D := D) (rec := searchP n f) (k := 2 ^ (f + 1)) (x := (v : Int)) (pf := r1.2.1)
          (fun s' hl hP => psearch_spec hn hul f s' _ r1.2.1 hP (hDx _ hlv') (by rw [t1] at hl; omega) (by omega)) h' hD hul hlv' hval' hpos (by omega)
        revert b2 t2 u2
        generalize branchP n (searchP n f) (v : Int) r1.1 D r1.2.1 = r2
        intro b2 t2 u2
        have hinv2 : ∀ m, m ≤ s.tr.length → Inv s m → Inv r2.1 m := fun m hm hi => b2.inv m (by rw [t1]; exact hm) (b1.inv m hm hi)
        rcases b2.res with ⟨e2, hA⟩ | ⟨e2, hun2, new2, hp2, hl2, hlit2, hlen2, hch2⟩
        · rw [if_neg (by rw [e2]; decide)]
          exact ⟨b2.wf, ⟨[], by rw [t2, t1]; simp⟩, hinv2, .inl ⟨e2, hA⟩⟩
        · rw [if_pos e2]
          have hlp2 : r2.2.1.length = pf.length + (new1.length + 1) + (new2.length + 1) := by rw [hp2]; simp [hlp1]
          unfold exclP
          rw [if_neg (by omega)]
          have hpeq : r2.2.1 ++ [negs D] = pf ++ ((new1 ++ [negs (D ++ [-(v : Int)])] ++ (new2 ++ [negs (D ++ [(v : Int)])])) ++ [negs D]) := by
            rw [hp2, hp1]; simp
          refine ⟨b2.wf, ⟨[], by rw [t2, t1]; simp⟩, hinv2, .inr ⟨rfl, fun A hA hd => ?_, _, hpeq, ?_, ?_, ?_, fun DB h1 h3 => ?_⟩⟩
          · by_cases ht : tru A (v : Int)
            · refine hun2 A hA fun d hd' => ?_
              rcases List.mem_append.1 hd' with hd' | hd'
              · exact hd d hd'
              · simp at hd'; exact hd' ▸ ht
            · refine hun1 A hA fun d hd' => ?_
              rcases List.mem_append.1 hd' with hd' | hd'
              · exact hd d hd'
              · simp at hd'; rw [hd']; exact (tru_neg A hlv'.1).2 ht
          · simp; omega
          · intro c hc x hx
            simp only [List.mem_append, List.mem_singleton] at hc
            rcases hc with (hc | rfl) | (hc | rfl)
            · exact hlit1 c hc x hx
            · exact lits_negs (hDx _ hlv) x hx
            · exact hlit2 c hc x hx
            · exact lits_negs (hDx _ hlv') x hx
          · intro c hc
            simp only [List.mem_append, List.mem_singleton] at hc
            rcases hc with (hc | rfl) | (hc | rfl)
            · have := hlen1 c hc; simp at this; omega
            · simp [negs]; omega
            · have := hlen2 c hc; simp at this; omega
            · simp [negs]; omega
          · have hm : ∀ (l : List (List Int)) c, c ∈ DB → c ∈ DB ++ l := fun l c hc => List.mem_append.2 (.inl hc)
            have c1 := hch1 DB h1 h3
            have c2 := hch2 (DB ++ (new1 ++ [negs (D ++ [-(v : Int)])]).map nrm) (fun c hc => hm _ c (h1 c hc)) (fun u hu => hm _ _ (h3 u hu))
            refine Chain.append _ (Chain.append _ c1 c2) ⟨fun T hT hneg => ?_, trivial⟩
            have hTD := hasDec hneg
            have use : ∀ z : Int, nrm (negs (D ++ [z])) ∈ DB ++ ((new1 ++ [negs (D ++ [-(v : Int)])]) ++ (new2 ++ [negs (D ++ [(v : Int)])])).map nrm → T (-z) := fun z hz => by
              have hmem : ∀ y, y ∈ nrm (negs (D ++ [z])) ↔ (-y ∈ D ∨ y = -z) := fun y => by
                rw [hn, mem_negs, List.mem_append, List.mem_singleton]
                exact or_congr Iff.rfl ⟨fun q => by omega, fun q => by omega⟩
              rcases hT.cl _ hz with ⟨y, hy, ht⟩ | ⟨y, hy, y', hy', hne, q1, q2⟩
              · rcases (hmem y).1 hy with q | q
                · exact absurd (hTD _ q) (hT.con y ht)
                · exact q ▸ ht
              · rcases (hmem y).1 hy with q | q
                · exact absurd (hTD _ q) q1
                · rcases (hmem y').1 hy' with q' | q'
                  · exact absurd (hTD _ q') q2
                  · exact absurd (q.trans q'.symm) hne
            have w1 := use (-(v : Int)) (by simp)
            have w2 := use (v : Int) (by simp)
            rw [Int.neg_neg] at w1
            exact hT.con _ w1 w2

def setEach : List Int → En → En
  | [], s => s
  | x :: l, s => if valL s.va x = 0 then setEach l (s.put x) else setEach l s
theorem setEach_eq : ∀ (l : List Int) (s : En), WF n F s → (∀ x ∈ l, lit n x) → (setAll l s).2 = true → setEach l s = (setAll l s).1
  | [], s, _, _, _ => rfl
  | x :: l, s, hW, hl, h => by
    have hl' : ∀ y ∈ l, lit n y := fun y hy => hl y (by simp [hy])
    unfold setAll at h ⊢
    unfold setEach
    by_cases h1 : valL s.va x = 1
    · rw [if_pos h1] at h ⊢
      rw [if_neg (by omega)]; exact setEach_eq l s hW hl' h
    · rw [if_neg h1] at h ⊢
      by_cases h2 : valL s.va x = -1
      · rw [if_pos h2] at h; simp at h
      · rw [if_neg h2] at h ⊢
        have h0 : valL s.va x = 0 := (hW.tk.rng x (hl x (by simp))).elim id (fun h => h.elim (fun h => absurd h h1) (fun h => absurd h h2))
        rw [if_pos h0]
        exact setEach_eq l (s.put x) (hW.put (hl x (by simp)) h0) hl' h
def withR (n : Nat) (N : List (List Int)) : RE := N.foldl addR ⟨startE n, [], false⟩
theorem fold_spec : ∀ (N D : List (List Int)) (F : List (List Int)) (g : RE), GInv n D F g → (∀ c ∈ N, litsOk n c) → ∃ F', GInv n (D ++ N) F' (N.foldl addR g)
  | [], D, F, g, h, _ => ⟨F, by simpa using h⟩
  | c :: N, D, F, g, h, hN => by
    obtain ⟨F1, h1⟩ := add_spec h (hN c (by simp))
    obtain ⟨F2, h2⟩ := fold_spec N (D ++ [c]) F1 (addR g c) h1 (fun d hd => hN d (by simp [hd]))
    exact ⟨F2, by simpa using h2⟩
theorem with_spec (N : List (List Int)) (hN : ∀ c ∈ N, litsOk n c) : ∃ F', GInv n N F' (withR n N) := by
  have h0 : GInv n [] [] ⟨startE n, [], false⟩ := ⟨start_wf n, rfl, rfl, by simp, by simp, by simp, by simp, by simp⟩
  obtain ⟨F', h⟩ := fold_spec N [] [] _ h0 hN
  exact ⟨F', by simpa [withR] using h⟩
def checkI (n : Nat) (nrm : List Int → List Int) : List (List Int) → RE → Nat → Option Nat
  | [], _, _ => none
  | c :: cs, g, i => if (followsR n g c).2 then checkI n nrm cs (addR (followsR n g c).1 (nrm c)) (i + 1) else some i
theorem check_spec {nrm : List Int → List Int} (hn : ∀ c x, x ∈ nrm c ↔ x ∈ c) (hnd : ∀ c, (nrm c).Nodup) : ∀ (pf D : List (List Int)) (F : List (List Int)) (g : RE) (i : Nat), GInv n D F g → (∀ c ∈ pf, ∀ x ∈ c, lit n x) → Chain nrm D pf → checkI n nrm pf g i = none
  | [], _, _, _, _, _, _, _ => rfl
  | c :: cs, D, F, g, i, h, hl, hc => by
    obtain ⟨f1, _, f3⟩ := follows_spec h (hl c (by simp))
    have ht : (followsR n g c).2 = true := by
      cases hq : (followsR n g c).2 with
      | true => rfl
      | false =>
        obtain ⟨T, hT, hneg⟩ := f3 hq
        exact absurd hneg (hc.1 T hT)
    obtain ⟨F', h'⟩ := add_spec f1 (d := nrm c) ⟨hnd c, fun x hx => hl c (by simp) x ((hn c x).1 hx)⟩
    unfold checkI
    rw [if_pos ht]
    exact check_spec hn hnd cs _ F' _ _ h' (fun d hd => hl d (by simp [hd])) hc.2
def proveR (n : Nat) (N : List (List Int)) : List (List Int) × Nat :=
  let r := followsR n (withR n N) []
  if r.2 then ([[]], 0) else
    let q := searchP n (n + 2) (propF (n + 2) (setEach r.1.units r.1.s)).1 [] []
    if q.2.2 = 1 then ([], 13) else if q.2.2 = 2 then ([], 14) else (q.2.1, 0)
/-- THE LAW OF Prove: against First, and against Check. -/
theorem prove_law {nrm : List Int → List Int} (hn : ∀ c x, x ∈ nrm c ↔ x ∈ c) (hnd : ∀ c, (nrm c).Nodup) (N : List (List Int)) (hN : ∀ c ∈ N, litsOk n c) (hn12 : n ≤ 12) :
    match firstE n N with
    | some _ => proveR n N = ([], 13)
    | none => ∃ pf, proveR n N = (pf, 0) ∧ checkI n nrm pf (withR n N) 0 = none ∧ (∃ a, pf = a ++ [[]]) ∧ (∀ c ∈ pf, ∀ x ∈ c, lit n x) ∧ pf.length ≤ 32768 ∧ ∀ c ∈ pf, c.length ≤ 32768 := by
  have hfirst := first_law (n := n) N hN
  obtain ⟨F', hG⟩ := with_spec N hN
  obtain ⟨f1, f2, f3⟩ := follows_spec hG (c := []) (by simp)
  have hp15 : 2 ^ (n + 2 + 1) ≤ 32768 := by
    calc 2 ^ (n + 2 + 1) ≤ 2 ^ 15 := Nat.pow_le_pow_right (by decide) (by omega)
      _ = 32768 := by decide
  unfold proveR
  simp only
  cases hq : (followsR n (withR n N) []).2 with
  | true =>
    simp only [if_true]
    have hun := follows_nil hG hq
    revert hfirst
    cases firstE n N with
    | some e => exact fun h => absurd h.2.2.1 (hun _)
    | none =>
      intro _
      refine ⟨[[]], rfl, ?_, ⟨[], rfl⟩, by simp, by simp, by simp⟩
      unfold checkI
      rw [if_pos hq]; rfl
  | false =>
    simp only [Bool.false_eq_true, if_false]
    obtain ⟨T, hT, _⟩ := f3 hq
    revert f1 f2
    generalize (followsR n (withR n N) []).1 = g
    intro f1 f2
    have hsat : ∀ A, SatN A N → SatF A F' g.units := fun A hA => satF_of_satN f1 hA
    have h2 := set_spec (n := n) (F := F') g.units g.s f1.wf f1.ulit
    have hund : Der (fun l => l ∈ g.units) F' g.s.tr := by rw [f1.tr0]; intro i l hl; simp at hl
    have hTu : ∀ l, l ∈ g.units → T l := fun l hl => closed_unit hT (f1.uin l hl)
    have hset : (setAll g.units g.s).2 = true := by
      cases hb : (setAll g.units g.s).2 with
      | true => rfl
      | false =>
        obtain ⟨x, hx, hnx⟩ := h2.bad hb
        have := closed_has hT f1.fin hTu (h2.der _ hund (fun _ q => q)) _ hnx
        exact absurd this (hT.con x (hTu x hx))
    rw [setEach_eq g.units g.s f1.wf f1.ulit hset]
    have hhd : (setAll g.units g.s).1.hd = 0 := by rw [h2.hd, f1.hd0]
    have h3 := prop_spec (n := n) (F := F') (n + 2) (setAll g.units g.s).1 h2.wf (by rw [hhd]; exact Inv2.zero _) (by omega)
    have d3 := h3.der _ (h2.der _ hund (fun _ q => q))
    have hgood : (propF (n + 2) (setAll g.units g.s).1).2 = true := by
      cases hb : (propF (n + 2) (setAll g.units g.s).1).2 with
      | true => rfl
      | false => exact absurd (h3.bad hb) (closed_noFals hT f1.fin hTu d3)
    obtain ⟨g1, g2⟩ := h3.good hgood
    obtain ⟨ex3, e3⟩ := h3.ext
    have hP : PInv n F' g.units [] (propF (n + 2) (setAll g.units g.s).1).1 := ⟨h3.wf, g1, g2, by simp, fun u hu => by rw [e3]; exact List.mem_append.2 (.inl (h2.good hset u hu)), by
      intro i l hl
      rcases d3 i l hl with q | q
      · exact .inl (.inr q)
      · exact .inr q⟩
    have key := psearch_spec (n := n) (F := F') hn f1.ulit (n + 2) _ [] [] hP (by simp) (by omega) (by unfold maxC; simp; omega)
    revert key
    generalize searchP n (n + 2) (propF (n + 2) (setAll g.units g.s).1).1 [] [] = q
    intro key
    have hback : ∀ A, SatF A F' g.units → SatN A N := fun A hA c hc => by
      rcases f1.cov c hc with w | w | ⟨u, rfl, hu⟩ | ⟨rfl, w⟩
      · unfold tautC at w
        obtain ⟨x, hx, hw⟩ := List.any_eq_true.1 w
        simp at hw
        rcases Classical.em (tru A x) with ht | ht
        · exact ⟨x, hx, ht⟩
        · exact ⟨-x, hw.2, (tru_neg A (by omega)).2 ht⟩
      · exact hA.1 c w
      · exact ⟨u, by simp, hA.2 u hu⟩
      · exfalso
        rcases hT.cl _ hc with ⟨z, hz, _⟩ | ⟨y, hy, _⟩
        · simp at hz
        · simp at hy
    rcases key.res with ⟨e1, A, hA⟩ | ⟨e1, hun, new, hpf, hlen, hlit, hcl, hch⟩
    · rw [if_pos e1]
      revert hfirst
      cases firstE n N with
      | some e => exact fun _ => rfl
      | none => exact fun h => absurd (hback A hA) (h A)
    · rw [if_neg (by rw [e1]; decide), if_neg (by rw [e1]; decide)]
      have hunN : ∀ A, ¬ SatN A N := fun A hA => hun A (hsat A hA) (by simp)
      revert hfirst
      cases firstE n N with
      | some e => exact fun h => absurd h.2.2.1 (hunN _)
      | none =>
        intro _
        have hpf' : q.2.1 = new ++ [[]] := by rw [hpf]; rfl
        refine ⟨q.2.1, rfl, ?_, ⟨new, hpf'⟩, ?_, ?_, ?_⟩
        · rw [hpf']
          refine check_spec hn hnd _ N F' _ 0 hG ?_ (hch N f1.fin f1.uin)
          intro c hc
          rcases List.mem_append.1 hc with hc | hc
          · exact hlit c hc
          · simp at hc; subst hc; simp
        · rw [hpf']
          intro c hc
          rcases List.mem_append.1 hc with hc | hc
          · exact hlit c hc
          · simp at hc; subst hc; simp
        · rw [hpf']; simp; omega
        · rw [hpf']
          intro c hc
          rcases List.mem_append.1 hc with hc | hc
          · have := hcl c hc; simp at this; omega
          · simp at hc; subst hc; simp

end
end V
end Go.Proofs.Ytbomfekfebamkaa

