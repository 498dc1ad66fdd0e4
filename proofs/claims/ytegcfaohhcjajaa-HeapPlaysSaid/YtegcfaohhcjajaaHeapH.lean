/- Walk of heap.Halve. -/
import Derived.Test.YtegcfaohhcjajaaHeapT
namespace Go.Proofs.Ytegcfaohhcjajaa.HM
open Go.RowKit Go.Proofs.YtegcfaohhcjajaaW.PrintWords Go.Proofs.YtegcfaohhcjajaaW.PrintLast Go.Proofs.YtegcfaohhcjajaaW.PrintMore Go.Proofs.Ytegcfaohhcjajaa.MM
attribute [local go_sem ↓] Go.wp_at_zero Go.wp_at_succ
set_option linter.unusedSimpArgs false
set_option linter.unusedVariables false

theorem wrap_in {x : Int} (h : -9223372036854775808 ≤ x) (h' : x ≤ 9223372036854775807) : wrap64 x = x := by unfold wrap64; omega
def halfM (s : HS) : HS := { s with w := s.w.map (fun x => x.tdiv 2) }
def heapify : Nat → HS → HS
  | 0, s => s
  | k + 1, s => heapify k (downM s k)
def halveM (s : HS) : HS := heapify (s.r.length / 2) (halfM s)
theorem downL_len (k : Nat) (s : HS) (i a : Nat) : (downL k s i a).r.length = s.r.length := by
  induction k generalizing s a with
  | zero => simp [downL]
  | succ k ih =>
    rw [downL]
    split
    · rw [ih]; simp
    · simp
theorem downL_w (k : Nat) (s : HS) (i a : Nat) : (downL k s i a).w = s.w := by
  induction k generalizing s a with
  | zero => simp [downL]
  | succ k ih =>
    rw [downL]
    split
    · rw [ih]; simp
    · simp
theorem nextM_lt {s : HS} {a : Nat} (h : 2 * a + 1 < s.r.length) : nextM s a < s.r.length := by
  unfold nextM
  split
  · rename_i h; exact h.1
  · exact h
theorem Wf.downL {s : HS} (h : Wf s) (k : Nat) {i a : Nat} (hi : i < s.w.length) : Wf (downL k s i a) := by
  induction k generalizing s a with
  | zero => exact h.set hi
  | succ k ih =>
    rw [HM.downL]
    split
    · rename_i hc
      exact ih (h.set (h.at (nextM_lt hc.1))) hi
    · exact h.set hi
theorem Wf.down {s : HS} (h : Wf s) {a : Nat} (ha : a < s.r.length) : Wf (downM s a) := h.downL _ (h.at ha)
theorem Wf.half {s : HS} (h : Wf s) : Wf (halfM s) := ⟨by simpa [halfM] using h.len, by simpa [halfM] using h.big, h.rbig, fun x hx => by simpa [halfM] using h.row x hx⟩
/-- The first loop. -/
structure HalvAt (w : World) (t : Nat) (F : Nat → Prop) (s s' : HS) (n k : Nat) (wr : World) : Prop where
  hp : Hp wr t s' F
  keep : Keep F w wr
  kn : k ≤ n
  len : s'.w.length = n
  len0 : s.w.length = n
  get : ∀ j, j < n → s'.w.getD j 0 = if j < k then (s.w.getD j 0).tdiv 2 else s.w.getD j 0
  p : s'.p = s.p
  r : s'.r = s.r
  v : s'.v = s.v
theorem HalvAt.done {w wr : World} {t n : Nat} {F : Nat → Prop} {s s' : HS} (h : HalvAt w t F s s' n n wr) : s' = halfM s := by
  have e : s'.w = (halfM s).w := by
    apply List.ext_getElem
    · simp [halfM, h.len, h.len0]
    · intro j h1 h2
      have := h.get j (by rw [← h.len]; exact h1)
      rw [if_pos (by rw [← h.len]; exact h1)] at this
      have h3 : j < s.w.length := by rw [h.len0, ← h.len]; exact h1
      simp only [List.getD_eq_getElem?_getD, List.getElem?_eq_getElem h1, List.getElem?_eq_getElem h3, Option.getD_some] at this
      simp [halfM, this]
  cases s'
  simp only [halfM] at e
  simp [halfM, e, ← h.p, ← h.r, ← h.v]
theorem HalvAt.next {w wr : World} {t n k : Nat} {F : Nat → Prop} {s s' : HS} (h : HalvAt w t F s s' n k wr) (hk : k < n) {wr' : World} (hp : Hp wr' t { s' with w := s'.w.set k ((s'.w.getD k 0).tdiv 2) } F) (hkp : Keep F wr wr') : HalvAt w t F s { s' with w := s'.w.set k ((s'.w.getD k 0).tdiv 2) } n (k + 1) wr' where
  hp := hp
  keep := h.keep.trans hkp (fun _ h => h) (fun _ h => .inl h)
  kn := hk
  len := by simp [h.len]
  len0 := h.len0
  get := fun j hj => by
    have hg := h.get j hj
    have h3 : k < s'.w.length := by rw [h.len]; exact hk
    by_cases e : j = k
    · subst e
      rw [if_neg (by omega)] at hg
      rw [if_pos (by omega), ← hg]
      simp [List.getD_eq_getElem?_getD, h3]
    · have : (s'.w.set k ((s'.w.getD k 0).tdiv 2)).getD j 0 = s'.w.getD j 0 := by
        rw [List.getD_eq_getElem?_getD, List.getElem?_set_ne (fun q => e q.symm), ← List.getD_eq_getElem?_getD]
      rw [this, hg]
      by_cases hjk : j < k
      · rw [if_pos hjk, if_pos (by omega)]
      · rw [if_neg hjk, if_neg (by omega)]
  p := h.p
  r := h.r
  v := h.v
/-- The second loop. -/
structure HeapAt (w : World) (t : Nat) (F : Nat → Prop) (s : HS) (R : HS) (k : Nat) (wr : World) : Prop where
  hp : Hp wr t s F
  keep : Keep F w wr
  wf : Wf s
  len : k ≤ s.r.length
  res : heapify k s = R
set_option maxRecDepth 100000 in
set_option maxHeartbeats 3200000 in
theorem Halve_calls (w : World) (t : Nat) (s : HS) (F : Nat → Prop) (h : Hp w t s F) (wf : Wf s) (h0 : ∀ x ∈ s.w, 0 ≤ x ∧ x ≤ 4611686018427387904) :
    Calls Try.prog 29 #[ptr t] w fun e w' => e = .returned (.tuple #[]) ∧ Hp w' t (halveM s) F ∧ Keep F w w' := by
  have H0 := h
  obtain ⟨vw, vp, vr, h, HV⟩ := h
  have hc := h.cell 0 vw rfl
  obtain ⟨A, c, hv, _, _⟩ := (h.row 0 _ _ vw rfl rfl).shape
  obtain ⟨n, hn⟩ : ∃ n, n = s.w.length := ⟨_, rfl⟩
  rw [List.length_map, ← hn] at hv
  subst hv
  obtain ⟨R, hR⟩ : ∃ R, R = halveM s := ⟨_, rfl⟩
  rw [← hR]
  have HR := hid hR
  clear hR
  have HWF := hid wf
  have HW0 := hid h0
  have START : Hid (HalvAt w t F s s n 0 w) := hid ⟨H0, Keep.refl _ _, Nat.zero_le _, hn.symm, hn.symm, fun j hj => by rw [if_neg (by omega)], rfl, rfl, rfl⟩
  have hbig : n ≤ 1048576 := by rw [hn]; exact wf.big
  clear h H0 hn wf h0
  go_enter Try.func29, Try.ntmps29
  go_wp2_with fail
  go_loopg [11] n (fun left v11 wr => ∃ k s', left + k = n ∧ v11 = .int .i64 (k : Int) ∧ Hid (HalvAt w t F s s' n k wr))
  case atStart => exact ⟨0, s, by omega, rfl, START⟩
  case round =>
    obtain ⟨k, s', hlk, rfl, U⟩ := hrel
    by_cases hkn : k < n
    · have hkI : (k : Int) < (n : Int) := by omega
      obtain ⟨vw, vp, vr, h, HV⟩ := U.out.hp
      obtain ⟨g, off, cap, hv, hcap, hg, hcells, hfr⟩ := row_at h 0 _ _ vw rfl rfl (by have := U.out.len; simp; omega)
      rw [List.length_map, U.out.len] at hv
      subst hv
      obtain ⟨x, hx0⟩ : ∃ x, x = s'.w.getD k 0 := ⟨_, rfl⟩
      have hkl : k < s'.w.length := by rw [U.out.len]; exact hkn
      have hx := (hcells k (by simpa using hkl)).trans (lits_get _ _ hkl)
      rw [← hx0] at hx
      have hx1 : 0 ≤ x ∧ x ≤ 4611686018427387904 := by
        have h1 := U.out.get k hkn
        rw [if_neg (by omega)] at h1
        rw [hx0, h1, List.getD_eq_getElem?_getD, List.getElem?_eq_getElem (by rw [U.out.len0]; exact hkn)]
        exact HW0.out _ (List.getElem_mem _)
      have hw : wrap64 (x.tdiv 2) = x.tdiv 2 := by
        rw [Int.tdiv_eq_ediv_of_nonneg hx1.1]
        exact wrap_in (by omega) (by omega)
      have hw2 : wrap64 ((k : Int) + 1) = ((k + 1 : Nat) : Int) := by unfold wrap64; omega
      have hc0 := h.cell 0 _ rfl
      have hf0 := hfr (off + k)
      have T1 := h.put 0 _ _ g off n cap rfl rfl k (by simpa using hkl) (.int .i64 (x.tdiv 2))
      have hfin : HpO (wr.setCell ⟨g, off + k, none⟩ (.int .i64 (x.tdiv 2))) t (.slice (some ⟨g, off, none⟩) n cap) vp vr { s' with w := s'.w.set k (x.tdiv 2) } F := by
        show Ob _ _ _ _ [(_, lits (s'.w.set k (x.tdiv 2))), _, _] _
        rw [lits_set]
        exact T1.1
      have HFIN := hid hfin
      have HKEEP := hid T1.2
      have HX0 := hid hx0
      have HX1 := hid hx1
      clear h hcells hfr hcap hg hx0 hx1 T1 hfin hkl
      cases gk with
      | zero => omega
      | succ left =>
        go_wp2_with fail
        go_roundg left
        case measure => omega
        case rel =>
          refine ⟨k + 1, { s' with w := s'.w.set k (x.tdiv 2) }, by omega, rfl, hid ?_⟩
          have := U.out.next hkn (wr' := wr.setCell ⟨g, off + k, none⟩ (.int .i64 (x.tdiv 2)))
          rw [← HX0.out] at this
          exact this ⟨_, _, _, HFIN.out, HV⟩ HKEEP.out
    · obtain rfl : k = n := by have := U.out.kn; omega
      have e0 := U.out.done
      subst e0
      obtain ⟨vw, vp, vr, h, HV⟩ := U.out.hp
      have hc2 := h.cell 2 vr rfl
      obtain ⟨A, c, hv, _, _⟩ := (h.row 2 _ _ vr rfl rfl).shape
      obtain ⟨m, hm⟩ : ∃ m, m = s.r.length := ⟨_, rfl⟩
      obtain ⟨q, hq⟩ : ∃ q, q = m / 2 := ⟨_, rfl⟩
      rw [List.length_map, show (halfM s).r.length = m from hm.symm] at hv
      subst hv
      have hmb : m ≤ 1048576 := by rw [hm]; exact HWF.out.rbig
      have hqb : q ≤ 1048576 := by omega
      have START2 : Hid (HeapAt w t F (halfM s) R q wr) := hid ⟨⟨_, _, _, h, HV⟩, U.out.keep, HWF.out.half, by show q ≤ s.r.length; omega, by rw [HR.out, halveM, hq, hm]⟩
      have hw4 : wrap64 ((q : Int) - 1) = (q : Int) - 1 := wrap_in (by omega) (by omega)
      have hw3 : wrap64 ((m : Int).tdiv 2) = (q : Int) := by
        have h2 : ((m : Int)).tdiv 2 = ((m / 2 : Nat) : Int) := (Int.ofNat_tdiv m 2).symm
        clear hw4
        rw [h2, ← hq]
        exact wrap_in (by omega) (by omega)
      have HQ := hid hq
      clear h hm hq
      go_wp2_with fail
      clear hw3 hw4
      go_loopg [3] q (fun left v3 wr => ∃ s', v3 = .int .i64 ((left : Int) - 1) ∧ Hid (HeapAt w t F s' R left wr) ∧ left ≤ 1048576)
      case atStart => exact ⟨_, by rw [show (m : Int) / 2 = (q : Int) from by have := HQ.out; omega], START2, hqb⟩
      case round =>
        obtain ⟨s', rfl, V, hgb⟩ := hrel
        cases gk with
        | zero =>
          go_wp2_with fail
          try simp only [Exit.inBlock, Exit.then]
          refine bodyPost_end (results_none rfl _ _ _) rfl ?_
          exact ⟨rfl, by rw [← V.out.res]; exact V.out.hp, V.out.keep⟩
        | succ left =>
          have DOWN := hid (down_calls wr t s' F left V.out.hp V.out.wf (by have := V.out.len; omega))
          have e1 : ((left + 1 : Nat) : Int) - 1 = (left : Int) := by omega
          have hw5 : wrap64 ((left : Int) - 1) = (left : Int) - 1 := wrap_in (by omega) (by omega)
          rw [e1]
          clear e1
          go_wp2_with fail
          refine DOWN.out.mono ?_
          rintro e w5 ⟨rfl, hp5, hk5⟩
          have HP5 := hid hp5
          have HK5 := hid (hk5.mono fun _ h => h.1)
          clear hp5 hk5
          go_wp2_with fail
          go_roundg left
          case measure => omega
          case rel => exact ⟨downM s' left, rfl, hid ⟨HP5.out, V.out.keep.trans HK5.out (fun _ h => h) (fun _ h => .inl h), V.out.wf.down (by have := V.out.len; clear hw5; omega), by rw [downM, downL_len]; have := V.out.len; clear hw5; omega, V.out.res⟩, by clear hw5; omega⟩
end Go.Proofs.Ytegcfaohhcjajaa.HM
