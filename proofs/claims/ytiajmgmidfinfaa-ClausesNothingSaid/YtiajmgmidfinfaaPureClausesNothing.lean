/- ClausesNothing: a clause that says nothing holds by each assignment; one that does not falls by the one in which each of its literals falls: for every input. Conditions: none. -/
import Derived.Test.YtiajmgmidfinfaaHkx
import Derived.Test.YtiajmgmidfinfaaPKnown14
import Derived.Test.YtiajmgmidfinfaaPHolds
namespace Go.Proofs.Ytiajmgmidfinfaa.Pure
open Go.RowKit Go.Proofs.Ytiajmgmidfinfaa.Hk Go.Proofs.YtiajmgmidfinfaaW.PrintWords Go.Proofs.YtiajmgmidfinfaaW.PrintLast Go.Proofs.YtiajmgmidfinfaaW.PrintMore Go.Proofs.Ytiajmgmidfinfaa.LF Go.Proofs.Ytiajmgmidfinfaa.MC

/-! #### bits of a 64-bit word -/
def bitOn (x : Int) (n : Nat) : Bool := Int.tmod (shr .u64 x (n : Int)) 2 == 1
theorem u64_nat (y : Nat) (h : y < 2 ^ 64) : IntKind.u64.wrap (y : Int) = (y : Int) := by
  simp [IntKind.wrap, IntKind.signed, IntKind.bits]
  omega
theorem shl_one {m : Nat} (h : m < 64) : shl .u64 1 (m : Int) = ((2 ^ m : Nat) : Int) := by
  have hlt : 2 ^ m < 2 ^ 64 := Nat.pow_lt_pow_right (by omega) h
  unfold shl
  rw [Int.toNat_natCast, show min m IntKind.u64.bits = m from by simp [IntKind.bits]; omega, show (1 : Int) * 2 ^ m = ((2 ^ m : Nat) : Int) from by simp]
  exact u64_nat _ hlt
theorem bitOn_nat (X n : Nat) (h : n < 64) : bitOn (X : Int) n = X.testBit n := by
  unfold bitOn shr
  rw [Int.toNat_natCast, show min n IntKind.u64.bits = n from by simp [IntKind.bits]; omega, Nat.testBit_eq_decide_div_mod_eq]
  rw [show ((2 : Int) ^ n) = ((2 ^ n : Nat) : Int) from by simp, ← Int.natCast_ediv]
  generalize X / 2 ^ n = q
  rw [Int.tmod_eq_emod_of_nonneg (by omega)]
  rw [Bool.eq_iff_iff]
  simp
  omega
theorem bv_ofInt (X : Nat) : BitVec.ofInt 64 (X : Int) = BitVec.ofNat 64 X := by simp
theorem or_bit {x : Int} {m n : Nat} (h0 : 0 ≤ x) (h1 : x < 18446744073709551616) (hm : m < 64) (hn : n < 64) :
    (0 ≤ Go.bits .or .u64 x (shl .u64 1 (m : Int)) ∧ Go.bits .or .u64 x (shl .u64 1 (m : Int)) < 18446744073709551616) ∧ bitOn (Go.bits .or .u64 x (shl .u64 1 (m : Int))) n = (bitOn x n || decide (n = m)) := by
  obtain ⟨X, rfl⟩ := Int.eq_ofNat_of_zero_le h0
  rw [shl_one hm]
  have e : Go.bits .or .u64 (X : Int) ((2 ^ m : Nat) : Int) = ((BitVec.ofNat 64 X ||| BitVec.ofNat 64 (2 ^ m)).toNat : Int) := by
    show IntKind.u64.wrap ((BitVec.ofInt 64 (X : Int) ||| BitVec.ofInt 64 ((2 ^ m : Nat) : Int)).toNat : Int) = _
    rw [bv_ofInt, bv_ofInt, u64_nat _ (BitVec.isLt _)]
  rw [e]
  have hlt := (BitVec.ofNat 64 X ||| BitVec.ofNat 64 (2 ^ m)).isLt
  refine ⟨⟨by omega, by omega⟩, ?_⟩
  rw [bitOn_nat _ _ hn, bitOn_nat _ _ hn, BitVec.testBit_toNat, BitVec.getLsbD_or, BitVec.getLsbD_ofNat, BitVec.getLsbD_ofNat]
  simp only [hn, decide_true, Bool.true_and, Nat.testBit_two_pow]
  congr 1
  rw [decide_eq_decide]
  exact eq_comm
theorem andNot_bit {x : Int} {m n : Nat} (h0 : 0 ≤ x) (h1 : x < 18446744073709551616) (hm : m < 64) (hn : n < 64) :
    (0 ≤ Go.bits .andNot .u64 x (shl .u64 1 (m : Int)) ∧ Go.bits .andNot .u64 x (shl .u64 1 (m : Int)) < 18446744073709551616) ∧ bitOn (Go.bits .andNot .u64 x (shl .u64 1 (m : Int))) n = (bitOn x n && !decide (n = m)) := by
  obtain ⟨X, rfl⟩ := Int.eq_ofNat_of_zero_le h0
  rw [shl_one hm]
  have e : Go.bits .andNot .u64 (X : Int) ((2 ^ m : Nat) : Int) = ((BitVec.ofNat 64 X &&& ~~~BitVec.ofNat 64 (2 ^ m)).toNat : Int) := by
    show IntKind.u64.wrap ((BitVec.ofInt 64 (X : Int) &&& ~~~BitVec.ofInt 64 ((2 ^ m : Nat) : Int)).toNat : Int) = _
    rw [bv_ofInt, bv_ofInt, u64_nat _ (BitVec.isLt _)]
  rw [e]
  have hlt := (BitVec.ofNat 64 X &&& ~~~BitVec.ofNat 64 (2 ^ m)).isLt
  refine ⟨⟨by omega, by omega⟩, ?_⟩
  rw [bitOn_nat _ _ hn, bitOn_nat _ _ hn, BitVec.testBit_toNat, BitVec.getLsbD_and, BitVec.getLsbD_not, BitVec.getLsbD_ofNat, BitVec.getLsbD_ofNat]
  simp only [hn, decide_true, Bool.true_and, Nat.testBit_two_pow]
  congr 2
  rw [decide_eq_decide]
  exact eq_comm

/-- The bit of a literal's atom. -/
def spot (x : Int) : Nat := (litAtom x - 1).toNat
theorem spot_u64 {x : Int} (h0 : x ≠ 0) (h : -60 ≤ x ∧ x ≤ 60) : spot x < 64 ∧ IntKind.u64.wrap (wrap64 (wrap64 (litAtom x) - 1)) = (spot x : Int) ∧ IntKind.u64.wrap (wrap64 ((mx x (wrap64 (-x))) - 1)) = (spot x : Int) := by
  have e : mx x (wrap64 (-x)) = litAtom x := by rw [wrap_in (x := -x) (by omega) (by omega)]; unfold mx litAtom; split <;> split <;> omega
  have hb : 1 ≤ litAtom x ∧ litAtom x ≤ 60 := by unfold litAtom; split <;> omega
  have hs : ((spot x : Nat) : Int) = litAtom x - 1 := by unfold spot; omega
  have hlt : spot x < 64 := by omega
  refine ⟨hlt, ?_, ?_⟩
  · rw [wrap_in (x := litAtom x) (by omega) (by omega), wrap_in (by omega) (by omega), ← hs]
    exact u64_nat _ (by omega)
  · rw [e, wrap_in (by omega) (by omega), ← hs]
    exact u64_nat _ (by omega)
theorem litOn_bit {bits x : Int} (h0 : x ≠ 0) (h : -60 ≤ x ∧ x ≤ 60) : litOn bits x = (bitOn bits (spot x) == decide (x > 0)) := by
  unfold litOn bitOn
  rw [(spot_u64 h0 h).2.1]

/-- What a row's literals have made of a word: each falls by it, if none is against another one. -/
def Falls (l : List Int) (a : Int) : Prop := ∀ x ∈ l, bitOn a (spot x) = decide (x < 0)
def Small (l : List Int) : Prop := ∀ x ∈ l, x ≠ 0 ∧ -60 ≤ x ∧ x ≤ 60
def Plain (l : List Int) : Prop := ∀ x ∈ l, ∀ y ∈ l, y ≠ -x
theorem spot_eq {x y : Int} (hx : x ≠ 0) (hy : y ≠ 0) (h : spot x = spot y) : x = y ∨ x = -y := by
  unfold spot litAtom at h
  split at h <;> split at h <;> omega

theorem plain_of {l : List Int} (hs : Small l) (h : saysB l = false) : Plain l := by
  intro x hx y hy he
  have hb := hs x hx
  have : saysB l = true := by
    unfold saysB
    refine List.any_eq_true.2 ⟨x, hx, ?_⟩
    have hw : wrap64 (-x) = -x := wrap_in (by omega) (by omega)
    rw [hw, ← he]
    have e1 : (x != 0) = true := bne_iff_ne.2 hb.1
    have e2 : (x != y) = true := bne_iff_ne.2 (by omega)
    rw [e1, e2]
    simpa using hy
  rw [this] at h
  cases h
theorem says_pair {l : List Int} (hs : Small l) (h : saysB l = true) : ∃ x ∈ l, -x ∈ l := by
  unfold saysB at h
  obtain ⟨x, hx, h⟩ := List.any_eq_true.1 h
  have hb := hs x hx
  rw [wrap_in (by omega) (by omega)] at h
  simp only [Bool.and_eq_true] at h
  exact ⟨x, hx, by simpa using h.2⟩

theorem nothing_end (l : List Int) (bits a : Int) (hl : l.length ≤ 300) (hw : ∀ x ∈ l, (Lit.int .i64 x).wf = true) (hs : Small l) (hf : Plain l → Falls l a) :
    Ev (fun k => (clauses_SaysNothing.f l).bind fun t => if t = true then ((juristref14_Holds.f k l bits).bind fun t => if t = true then ((juristlaw14_known.f k).bind fun t => some t) else some false) else ((juristref14_Holds.f k l a).bind fun t => if t = true then some false else ((juristlaw14_known.f k).bind fun t => some t))) true := by
  have known_ : Ev (fun k => (juristlaw14_known.f k).bind fun t => some t) true := Ev.bind known_ev (ev_ret true)
  refine ev_got (show clauses_SaysNothing.f l = some (saysB l) from by unfold clauses_SaysNothing.f; exact if_pos ⟨by omega, hw⟩) ?_
  by_cases h : saysB l = true
  · refine ev_pos h ?_
    have he := holds_ev l bits (by omega) hw
    have : l.any (litOn bits) = true := by
      obtain ⟨x, hx, hx'⟩ := says_pair hs h
      have hb := hs x hx
      have h1 := litOn_bit (bits := bits) hb.1 hb.2
      have h2 := litOn_bit (bits := bits) (hs _ hx').1 (hs _ hx').2
      have e : spot (-x) = spot x := by unfold spot litAtom; split <;> split <;> omega
      rw [e] at h2
      generalize bitOn bits (spot x) = c at h1 h2
      by_cases hp : x > 0
      · cases c with
        | true => exact List.any_eq_true.2 ⟨x, hx, by rw [h1]; simp [hp]⟩
        | false => exact List.any_eq_true.2 ⟨-x, hx', by rw [h2]; simp; omega⟩
      · cases c with
        | true => exact List.any_eq_true.2 ⟨-x, hx', by rw [h2]; simp; omega⟩
        | false => exact List.any_eq_true.2 ⟨x, hx, by rw [h1]; simp; omega⟩
    rw [this] at he
    exact Ev.bind he (ev_pos rfl known_)
  · have h' : saysB l = false := by simpa using h
    refine ev_neg h ?_
    have he := holds_ev l a (by omega) hw
    have : l.any (litOn a) = false := by
      rw [List.any_eq_false]
      intro x hx
      have hb := hs x hx
      rw [litOn_bit hb.1 hb.2, hf (plain_of hs h') x hx]
      by_cases hp : x > 0
      · simp [hp]; omega
      · simp [hp]; omega
    rw [this] at he
    exact Ev.bind he (ev_neg (by simp) known_)

theorem take_snoc_rd {l : List Int} {i : Nat} (h : i < l.length) : l.take (i + 1) = l.take i ++ [rd l (i : Int)] := by
  rw [List.take_succ_eq_append_getElem h, rd_lt h]
theorem small_snoc {l : List Int} {x : Int} (h : Small l) (h0 : x ≠ 0) (hx : -60 ≤ x ∧ x ≤ 60) : Small (l ++ [x]) := by
  intro y hy
  rcases List.mem_append.1 hy with hy | hy
  · exact h y hy
  · have : y = x := by simpa using hy
    subst this
    exact ⟨h0, hx⟩
theorem falls_snoc {l : List Int} {x a a' : Int} (hs : Small l) (h0 : x ≠ 0) (hf : Plain l → Falls l a) (hsame : ∀ n, n < 64 → n ≠ spot x → bitOn a' n = bitOn a n) (hx : bitOn a' (spot x) = decide (x < 0)) : Plain (l ++ [x]) → Falls (l ++ [x]) a' := by
  intro hp y hy
  rcases List.mem_append.1 hy with hy' | hy'
  · have hb := hs y hy'
    by_cases e : spot y = spot x
    · rcases spot_eq hb.1 h0 e with h | h
      · rw [h]; exact hx
      · exact absurd h (hp x (by simp) y hy)
    · rw [hsame _ (spot_u64 hb.1 hb.2).1 e]
      exact hf (fun u hu v hv => hp u (List.mem_append_left _ hu) v (List.mem_append_left _ hv)) y hy'
  · have : y = x := by simpa using hy'
    subst this
    exact hx

theorem nothing_loop (l : List Int) (bits : Int) (hl : l.length ≤ 300) (hw : ∀ x ∈ l, (Lit.int .i64 x).wf = true) :
    ∀ d i, i + d = l.length → ∀ a : Int, 0 ≤ a → a < 18446744073709551616 → Small (l.take i) → (Plain (l.take i) → Falls (l.take i) a) →
      Ev (fun k => juristlaw14_ClausesNothing.l0 k l bits a (l.length : Int) (i : Int)) true := by
  have known_ : Ev (fun k => (juristlaw14_known.f k).bind fun t => some t) true := Ev.bind known_ev (ev_ret true)
  have stop : ∀ (a : Int) (x6 x15 : Int) (c : Bool), c = true → Ev (fun k => juristlaw14_ClausesNothing.j1 k l bits a x6 (l.length : Int) x15 c) true := fun a x6 x15 c hc =>
    Ev.step (f := fun k => (juristlaw14_known.f k).bind fun t => some t) (fun k => by simp only [juristlaw14_ClausesNothing.j1]; rw [if_pos hc]) known_
  intro d
  induction d with
  | zero =>
    intro i hi a h0 h1 hs hf
    obtain rfl : i = l.length := by omega
    rw [List.take_length] at hs hf
    exact Ev.step (fun k => by simp only [juristlaw14_ClausesNothing.l0]; rw [if_neg (by omega)]) (nothing_end l bits a hl hw hs hf)
  | succ d ih =>
    intro i hi a h0 h1 hs hf
    have hlt : i < l.length := by omega
    by_cases e0 : rd l (i : Int) = 0
    · exact Ev.step (fun k => by simp only [juristlaw14_ClausesNothing.l0]; rw [if_pos (by omega), if_pos (by omega), if_pos (by omega), if_pos e0]) (stop a _ _ true rfl)
    · by_cases e1 : rd l (i : Int) > 60
      · exact Ev.step (fun k => by simp only [juristlaw14_ClausesNothing.l0]; rw [if_pos (by omega), if_pos (by omega), if_pos (by omega), if_neg e0, if_pos e1]) (stop a _ _ true rfl)
      · refine Ev.step (fun k => by simp only [juristlaw14_ClausesNothing.l0]; rw [if_pos (by omega), if_pos (by omega), if_pos (by omega), if_neg e0, if_neg e1]) ?_
        by_cases e2 : rd l (i : Int) < -60
        · exact stop a _ _ _ (decide_eq_true e2)
        · have hc : ¬ decide (rd l (i : Int) < -60) = true := by simp; omega
          have hx : -60 ≤ rd l (i : Int) ∧ rd l (i : Int) ≤ 60 := by omega
          obtain ⟨q1, _, q3⟩ := spot_u64 e0 hx
          have hsm := small_snoc hs e0 hx
          rw [← take_snoc_rd hlt] at hsm
          by_cases e3 : rd l (i : Int) > 0
          · obtain ⟨⟨g1, g2⟩, _⟩ := andNot_bit (x := a) (m := spot (rd l (i : Int))) (n := 0) h0 h1 q1 (by omega)
            refine Ev.step (f := fun k => juristlaw14_ClausesNothing.l0 k l bits (Go.bits .andNot .u64 a (shl .u64 1 (spot (rd l (i : Int)) : Int))) (l.length : Int) ((i + 1 : Nat) : Int)) (fun k => by simp only [juristlaw14_ClausesNothing.j1]; rw [if_neg hc, if_pos (by omega), if_pos (by omega), q3, if_pos (by omega), if_pos e3, wrap_succ (by omega)]) ?_
            refine ih (i + 1) (by omega) _ g1 g2 hsm ?_
            rw [take_snoc_rd hlt]
            refine falls_snoc hs e0 hf (fun n hn hne => ?_) ?_
            · rw [(andNot_bit h0 h1 q1 hn).2]; simp [hne]
            · rw [(andNot_bit h0 h1 q1 q1).2]; simp; omega
          · obtain ⟨⟨g1, g2⟩, _⟩ := or_bit (x := a) (m := spot (rd l (i : Int))) (n := 0) h0 h1 q1 (by omega)
            refine Ev.step (f := fun k => juristlaw14_ClausesNothing.l0 k l bits (Go.bits .or .u64 a (shl .u64 1 (spot (rd l (i : Int)) : Int))) (l.length : Int) ((i + 1 : Nat) : Int)) (fun k => by simp only [juristlaw14_ClausesNothing.j1]; rw [if_neg hc, if_pos (by omega), if_pos (by omega), q3, if_pos (by omega), if_neg e3, wrap_succ (by omega)]) ?_
            refine ih (i + 1) (by omega) _ g1 g2 hsm ?_
            rw [take_snoc_rd hlt]
            refine falls_snoc hs e0 hf (fun n hn hne => ?_) ?_
            · rw [(or_bit h0 h1 q1 hn).2]; simp [hne]
            · rw [(or_bit h0 h1 q1 q1).2]; simp; omega

theorem ClausesNothing : juristlaw14_ClausesNothing.Pure := by
  intro l bits _ _ hw hb
  apply Ev.rounds
  unfold juristlaw14_ClausesNothing.f
  have hbb : 0 ≤ bits ∧ bits < 18446744073709551616 := by
    simp [Lit.wf, IntKind.min, IntKind.max, IntKind.signed, IntKind.bits] at hb
    omega
  by_cases c1 : (l.length : Int) > 300
  · exact ev_pos c1 (Ev.bind known_ev (ev_ret true))
  · refine ev_neg c1 ?_
    exact nothing_loop l bits (by omega) hw l.length 0 (by omega) bits hbb.1 hbb.2 (by intro x hx; simp at hx) (by intro _ x hx; simp at hx)
end Go.Proofs.Ytiajmgmidfinfaa.Pure
