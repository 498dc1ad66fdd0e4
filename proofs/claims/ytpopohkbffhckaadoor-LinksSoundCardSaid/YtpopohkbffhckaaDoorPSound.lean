/- What law17's Fits and Holds of the document answer, in plain Lean. -/
import Derived.Test.YtpopohkbffhckaaDoorPLk
import Derived.Test.YtpopohkbffhckaaDoorPLg
import Derived.Test.YtpopohkbffhckaaDoorHkx0
import Derived.Test.YtpopohkbffhckaaDoorHkx3
import Derived.Test.YtpopohkbffhckaaDoorHkx4
import Derived.Test.YtpopohkbffhckaaDoorHkx5
import Derived.Test.YtpopohkbffhckaaDoorEv
namespace Go.Proofs.YtpopohkbffhckaaDoor.Pure
open Go.RowKit Go.Proofs.YtpopohkbffhckaaDoor.Hk Go.Proofs.YtpopohkbffhckaaDoorW.PrintWords Go.Proofs.YtpopohkbffhckaaDoorW.PrintLast Go.Proofs.YtpopohkbffhckaaDoorW.PrintMore Go.Proofs.YtpopohkbffhckaaDoor.KL
set_option linter.unusedVariables false
open Classical in
noncomputable def dec (p : Prop) : Bool := decide p
theorem dec_true {p : Prop} : dec p = true ↔ p := by unfold dec; simp
theorem dec_yes {p : Prop} (h : p) : dec p = true := dec_true.2 h
theorem dec_no {p : Prop} (h : ¬ p) : dec p = false := by
  cases hd : dec p with
  | true => exact absurd (dec_true.1 hd) h
  | false => rfl
def argEq (v : List Vx) (value : List Int) (i k : Nat) (q : Nat) : Prop := val value ((v.getD i vx0).f1.getD q 0) = val value ((v.getD k vx0).f1.getD q 0)
def okP (v : List Vx) (value : List Int) (i k : Nat) : Prop := sameFn (v.getD i vx0) (v.getD k vx0) = true → (∀ q, q < (v.getD i vx0).f1.length → argEq v value i k q) → val value (i : Int) = val value (k : Int)
theorem rdv (v : List Vx) (i : Nat) : rd_T46 v (i : Int) = v.getD i vx0 := by unfold rd_T46; rw [Int.toNat_natCast]
theorem rd_val (l : List Int) (i : Int) : rd l i = val l i := rfl
theorem inB_iff' {n : Nat} {i : Int} : inB n i = true ↔ 0 ≤ i ∧ i < (n : Int) := by unfold inB; simp
variable {v : List Vx} {value : List Int}
/-- The loop over the arguments. -/
theorem fits_l2 (hva : ∀ x ∈ v, ∀ y ∈ x.f1, 0 ≤ y ∧ y < (value.length : Int)) (hvl : v.length ≤ value.length) (hbd : value.length < 4611686018427387904) {i k : Nat} (hi : i < v.length) (hk : k < i) (hlen : (v.getD i vx0).f1.length = (v.getD k vx0).f1.length) (hb : (v.getD i vx0).f1.length < 4611686018427387904) (R : Bool)
    (hnext : Ev (fun n => juristref17_Fits.l1 n v value (i : Int) (wrap64 ((k : Int) + 1))) R) :
    ∀ d q, q + d = (v.getD i vx0).f1.length → Ev (fun n => juristref17_Fits.l2 n v value (i : Int) (k : Int) (dec (∀ j, j < q → argEq v value i k j)) (q : Int)) (if dec (∀ j, j < (v.getD i vx0).f1.length → argEq v value i k j) = true then (if val value (i : Int) = val value (k : Int) then R else false) else R) := by
  have hik : v.getD i vx0 ∈ v := by rw [List.getD_eq_getElem?_getD, List.getElem?_eq_getElem hi]; exact List.getElem_mem hi
  have hkk : v.getD k vx0 ∈ v := by rw [List.getD_eq_getElem?_getD, List.getElem?_eq_getElem (by omega : k < v.length)]; exact List.getElem_mem _
  intro d
  induction d with
  | zero =>
    intro q hq
    have hq' : q = (v.getD i vx0).f1.length := by omega
    subst hq'
    by_cases hall : ∀ j, j < (v.getD i vx0).f1.length → argEq v value i k j
    · rw [dec_yes hall, if_pos rfl]
      by_cases he : val value (i : Int) = val value (k : Int)
      · rw [if_pos he]
        refine Ev.step (fun n => by simp only [juristref17_Fits.l2, rdv]; rw [if_pos (by omega), if_pos (by omega), if_neg (by omega), if_pos trivial, if_pos (by omega), if_pos (by omega), if_pos (by omega), if_pos (show rd value (i : Int) = rd value (k : Int) from he)]) hnext
      · rw [if_neg he]
        refine Ev.step (f := fun _ => some false) (fun n => by simp only [juristref17_Fits.l2, rdv]; rw [if_pos (by omega), if_pos (by omega), if_neg (by omega), if_pos trivial, if_pos (by omega), if_pos (by omega), if_pos (by omega), if_neg (show ¬ rd value (i : Int) = rd value (k : Int) from he)]) (ev_ret false)
    · rw [dec_no hall, if_neg (by simp)]
      refine Ev.step (fun n => by simp only [juristref17_Fits.l2, rdv]; rw [if_pos (by omega), if_pos (by omega), if_neg (by omega), if_neg (by simp)]) hnext
  | succ d ih =>
    intro q hq
    have hql : q < (v.getD i vx0).f1.length := by omega
    have ih := ih (q + 1) (by omega)
    by_cases hall : ∀ j, j < q → argEq v value i k j
    · have a1 : rd (v.getD i vx0).f1 (q : Int) ∈ (v.getD i vx0).f1 := rd_mem hql
      have a2 : rd (v.getD k vx0).f1 (q : Int) ∈ (v.getD k vx0).f1 := rd_mem (by omega)
      have b1 := hva _ hik _ a1
      have b2 := hva _ hkk _ a2
      have hstep : (rd value (rd (v.getD i vx0).f1 (q : Int)) == rd value (rd (v.getD k vx0).f1 (q : Int))) = dec (∀ j, j < q + 1 → argEq v value i k j) := by
        by_cases he : argEq v value i k q
        · rw [dec_yes (fun j hj => by
            rcases Nat.lt_or_ge j q with h | h
            · exact hall j h
            · have e : q = j := by omega
              subst e
              exact he)]
          have : rd value (rd (v.getD i vx0).f1 (q : Int)) = rd value (rd (v.getD k vx0).f1 (q : Int)) := by
            rw [rd_nat, rd_nat]
            exact he
          rw [this]
          simp
        · rw [dec_no (fun h => he (h q (by omega)))]
          have : ¬ rd value (rd (v.getD i vx0).f1 (q : Int)) = rd value (rd (v.getD k vx0).f1 (q : Int)) := by
            rw [rd_nat, rd_nat]
            exact he
          simpa using this
      rw [dec_yes hall]
      refine Ev.step (fun n => by simp only [juristref17_Fits.l2, rdv]; rw [if_pos (by omega), if_pos (by omega), if_pos (by omega), if_pos trivial, if_pos (by omega), if_pos b1.1, if_pos b1.2, if_pos (by omega), if_pos (by omega), if_pos (by omega), if_pos b2.1, if_pos b2.2, hstep, wrap_succ (by omega)]) ih
    · rw [dec_no hall]
      have : dec (∀ j, j < q + 1 → argEq v value i k j) = false := dec_no fun h => hall fun j hj => h j (by omega)
      rw [this] at ih
      refine Ev.step (fun n => by simp only [juristref17_Fits.l2, rdv]; rw [if_pos (by omega), if_pos (by omega), if_pos (by omega), if_neg (by simp), wrap_succ (by omega)]) ih
/-- The loop over the vertices ahead. -/
theorem fits_l1 (hva : ∀ x ∈ v, ∀ y ∈ x.f1, 0 ≤ y ∧ y < (value.length : Int)) (hvl : v.length ≤ value.length) (hbd : value.length < 4611686018427387904) (hba : ∀ x ∈ v, x.f1.length < 4611686018427387904) {i : Nat} (hi : i < v.length) (R : Bool)
    (hnext : Ev (fun n => juristref17_Fits.l0 n v value (wrap64 ((i : Int) + 1))) R) : Ev (fun n => juristref17_Fits.l1 n v value (i : Int) 0) (dec (∀ k, k < i → okP v value i k) && R) := by
  refine ev_upto i (fun n k => juristref17_Fits.l1 n v value (i : Int) k) (fun m r => r = (dec (∀ k, m ≤ k → k < i → okP v value i k) && R)) ?_ ?_ i 0 (by omega) _ (by simp)
  · rintro r rfl
    rw [dec_yes (fun k h1 h2 => by omega), Bool.true_and]
    exact Ev.step (fun n => by simp only [juristref17_Fits.l1]; rw [if_neg (by omega)]) hnext
  · rintro k hk r rfl ih
    have ih := ih _ rfl
    rw [← wrap_succ (by omega)] at ih
    have hik : v.getD i vx0 ∈ v := by rw [List.getD_eq_getElem?_getD, List.getElem?_eq_getElem hi]; exact List.getElem_mem hi
    by_cases hs : sameFn (v.getD i vx0) (v.getD k vx0) = true
    · have hs' := hs
      unfold sameFn at hs'
      simp only [Bool.and_eq_true, decide_eq_true_eq] at hs'
      have h2 := fits_l2 hva hvl hbd hi hk hs'.2.2 (hba _ hik) _ ih (v.getD i vx0).f1.length 0 (by omega)
      rw [dec_yes (fun j hj => by omega : ∀ j, j < 0 → argEq v value i k j)] at h2
      have hr : (if dec (∀ j, j < (v.getD i vx0).f1.length → argEq v value i k j) = true then (if val value (i : Int) = val value (k : Int) then (dec (∀ k', k + 1 ≤ k' → k' < i → okP v value i k') && R) else false) else (dec (∀ k', k + 1 ≤ k' → k' < i → okP v value i k') && R)) = (dec (∀ k', k ≤ k' → k' < i → okP v value i k') && R) := by
        by_cases hok : okP v value i k
        · have hd : dec (∀ k', k ≤ k' → k' < i → okP v value i k') = dec (∀ k', k + 1 ≤ k' → k' < i → okP v value i k') := by
            by_cases h3 : ∀ k', k + 1 ≤ k' → k' < i → okP v value i k'
            · rw [dec_yes h3, dec_yes]
              intro k' h4 h5
              rcases Nat.lt_or_ge k k' with h6 | h6
              · exact h3 k' h6 h5
              · obtain rfl : k' = k := by omega
                exact hok
            · rw [dec_no h3, dec_no]
              exact fun h4 => h3 fun k' h5 h6 => h4 k' (by omega) h6
          rw [hd]
          split
          · rename_i h6
            rw [if_pos (hok hs (dec_true.1 h6))]
          · rfl
        · have hn : ∀ j, j < (v.getD i vx0).f1.length → argEq v value i k j := by
            refine Classical.byContradiction fun h7 => hok fun _ h8 => absurd h8 h7
          rw [dec_yes hn, if_pos rfl, if_neg (fun h7 => hok fun _ _ => h7), dec_no (fun h7 => hok (h7 k (Nat.le_refl _) hk)), Bool.false_and]
      rw [hr] at h2
      have h3 : Ev (fun n => juristref17_Fits.j3 n v value (i : Int) (k : Int) false) (dec (∀ k', k ≤ k' → k' < i → okP v value i k') && R) := Ev.step (fun n => by simp [juristref17_Fits.j3]) h2
      refine Ev.step (fun n => by simp only [juristref17_Fits.l1, rdv]; rw [if_pos (by omega), if_pos (by omega), if_pos (by omega), if_neg (by omega), if_pos (by omega), if_pos (by omega), if_pos hs'.2.1, show (((v.getD i vx0).f1.length : Int) != ((v.getD k vx0).f1.length : Int)) = false from (by rw [hs'.2.2]; simp)]) h3
    · have hd : dec (∀ k', k ≤ k' → k' < i → okP v value i k') = dec (∀ k', k + 1 ≤ k' → k' < i → okP v value i k') := by
        by_cases h3 : ∀ k', k + 1 ≤ k' → k' < i → okP v value i k'
        · rw [dec_yes h3, dec_yes]
          intro k' h4 h5
          rcases Nat.lt_or_ge k k' with h6 | h6
          · exact h3 k' h6 h5
          · obtain rfl : k' = k := by omega
            exact fun h7 => absurd h7 hs
        · rw [dec_no h3, dec_no]
          exact fun h4 => h3 fun k' h5 h6 => h4 k' (by omega) h6
      rw [hd]
      have h3 : Ev (fun n => juristref17_Fits.j3 n v value (i : Int) (k : Int) true) (dec (∀ k', k + 1 ≤ k' → k' < i → okP v value i k') && R) := Ev.step (fun n => by simp [juristref17_Fits.j3]) ih
      by_cases g1 : (v.getD i vx0).f0 < 0
      · exact Ev.step (fun n => by simp only [juristref17_Fits.l1, rdv]; rw [if_pos (by omega), if_pos (by omega), if_pos (by omega), if_pos g1]) h3
      · by_cases g2 : (v.getD i vx0).f0 = (v.getD k vx0).f0
        · have g3 : ¬ (v.getD i vx0).f1.length = (v.getD k vx0).f1.length := fun g3 => hs (by unfold sameFn; rw [decide_eq_true (by omega : 0 ≤ (v.getD i vx0).f0), decide_eq_true g2, decide_eq_true g3]; rfl)
          exact Ev.step (fun n => by simp only [juristref17_Fits.l1, rdv]; rw [if_pos (by omega), if_pos (by omega), if_pos (by omega), if_neg g1, if_pos (by omega), if_pos (by omega), if_pos g2, show (((v.getD i vx0).f1.length : Int) != ((v.getD k vx0).f1.length : Int)) = true from (by rw [bne_iff_ne]; omega)]) h3
        · exact Ev.step (fun n => by simp only [juristref17_Fits.l1, rdv]; rw [if_pos (by omega), if_pos (by omega), if_pos (by omega), if_neg g1, if_pos (by omega), if_pos (by omega), if_neg g2]) h3
theorem fits_l0 (hva : ∀ x ∈ v, ∀ y ∈ x.f1, 0 ≤ y ∧ y < (value.length : Int)) (hvl : v.length ≤ value.length) (hbd : value.length < 4611686018427387904) (hba : ∀ x ∈ v, x.f1.length < 4611686018427387904) : Ev (fun n => juristref17_Fits.l0 n v value 0) (dec (∀ i, i < v.length → ∀ k, k < i → okP v value i k)) := by
  refine ev_upto v.length (fun n i => juristref17_Fits.l0 n v value i) (fun m r => r = dec (∀ i, m ≤ i → i < v.length → ∀ k, k < i → okP v value i k)) ?_ ?_ v.length 0 (by omega) _ (by simp)
  · rintro r rfl
    rw [dec_yes (fun i h1 h2 => by omega)]
    exact Ev.step (f := fun _ => some true) (fun n => by simp only [juristref17_Fits.l0]; rw [if_neg (by omega)]) (ev_ret true)
  · rintro i hi r rfl ih
    have ih := ih _ rfl
    rw [← wrap_succ (by omega)] at ih
    have h1 := fits_l1 hva hvl hbd hba hi _ ih
    have hd : (dec (∀ k, k < i → okP v value i k) && dec (∀ i', i + 1 ≤ i' → i' < v.length → ∀ k, k < i' → okP v value i' k)) = dec (∀ i', i ≤ i' → i' < v.length → ∀ k, k < i' → okP v value i' k) := by
      by_cases h2 : ∀ k, k < i → okP v value i k
      · by_cases h3 : ∀ i', i + 1 ≤ i' → i' < v.length → ∀ k, k < i' → okP v value i' k
        · rw [dec_yes h2, dec_yes h3, dec_yes]
          · rfl
          · intro i' h4 h5
            rcases Nat.lt_or_ge i i' with h6 | h6
            · exact h3 i' h6 h5
            · obtain rfl : i' = i := by omega
              exact h2
        · rw [dec_no h3, Bool.and_false, dec_no]
          exact fun h4 => h3 fun i' h5 h6 => h4 i' (by omega) h6
      · rw [dec_no h2, Bool.false_and, dec_no]
        exact fun h4 => h2 (h4 i (Nat.le_refl _) hi)
    rw [hd] at h1
    exact Ev.step (fun n => by simp only [juristref17_Fits.l0]; rw [if_pos (by omega)]) h1
/-- What Fits answers: if true, the values fit. -/
theorem fits_ev (hm : ∀ x ∈ v, ∀ y ∈ x.f1, 0 ≤ y ∧ y < (v.length : Int)) (h2 : 2 ≤ v.length) (hbd : value.length < 4611686018427387904) (hba : ∀ x ∈ v, x.f1.length < 4611686018427387904) : ∃ r, Ev (fun n => juristref17_Fits.f n v value) r ∧ (r = true → FitsP v value ∧ v.length ≤ value.length) := by
  unfold juristref17_Fits.f
  by_cases h1 : value.length < v.length
  · exact ⟨false, ev_pos (by omega) (Ev.step (f := fun _ => some false) (fun n => by simp [juristref17_Fits.j0]) (ev_ret false)), by simp⟩
  have hvl : v.length ≤ value.length := by omega
  have hva : ∀ x ∈ v, ∀ y ∈ x.f1, 0 ≤ y ∧ y < (value.length : Int) := fun x hx y hy => by have := hm x hx y hy; omega
  by_cases h3 : rd value 0 = rd value 1
  · refine ⟨false, ev_neg (by omega) (ev_pos (by omega) (ev_pos (by omega) ?_)), by simp⟩
    rw [show (rd value 0 == rd value 1) = true by simpa using h3]
    exact Ev.step (f := fun _ => some false) (fun n => by simp [juristref17_Fits.j0]) (ev_ret false)
  · refine ⟨dec (∀ i, i < v.length → ∀ k, k < i → okP v value i k), ev_neg (by omega) (ev_pos (by omega) (ev_pos (by omega) ?_)), fun h4 => ⟨⟨h3, ?_⟩, hvl⟩⟩
    · rw [show (rd value 0 == rd value 1) = false by simpa using h3]
      exact Ev.step (fun n => by simp [juristref17_Fits.j0]) (fits_l0 hva hvl hbd hba)
    · have h5 := dec_true.1 h4
      intro i k hi hk hs he
      obtain ⟨i0, i1⟩ := inB_iff'.1 hi
      obtain ⟨k0, k1⟩ := inB_iff'.1 hk
      have ei : ((i.toNat : Nat) : Int) = i := by omega
      have ek : ((k.toNat : Nat) : Int) = k := by omega
      rcases Nat.lt_trichotomy i.toNat k.toNat with h6 | h6 | h6
      · have h7 := h5 k.toNat (by omega) i.toNat h6
        rw [← ei, ← ek]
        refine (h7 ?_ fun q hq => ?_).symm
        · unfold sameFn at hs ⊢
          unfold vxM at hs
          simp only [Bool.and_eq_true, decide_eq_true_eq] at hs ⊢
          exact ⟨by omega, hs.2.1.symm, hs.2.2.symm⟩
        · have hl : (vxM v i).f1.length = (vxM v k).f1.length := by unfold sameFn at hs; simp only [Bool.and_eq_true, decide_eq_true_eq] at hs; exact hs.2.2
          have hq' : q < (vxM v k).f1.length := hq
          exact (he q (by omega)).symm
      · rw [← ei, ← ek, h6]
      · have h7 := h5 i.toNat (by omega) k.toNat h6
        rw [← ei, ← ek]
        exact h7 hs fun q hq => he q hq
theorem atom_is {a : List At} {l : Int} {x : At} (hx : atomM a l = some x) : 1 ≤ litN l ∧ litN l ≤ (a.length : Int) ∧ x = a.getD (litN l - 1).toNat at0 := by
  unfold atomM at hx
  split at hx
  · rename_i hc
    exact ⟨hc.1, hc.2, (Option.some.inj hx).symm⟩
  · cases hx
/-- What Holds answers. -/
theorem holds_some {a : List At} {l : Int} {x : At} {value : List Int} (hx : atomM a l = some x) (ha : a.length ≤ 1000) (hr : x.f0 = 1 ∨ x.f0 = 3 → 0 ≤ x.f1 ∧ x.f1 < (value.length : Int)) (hr2 : x.f0 = 1 → 0 ≤ x.f2 ∧ x.f2 < (value.length : Int)) (h2 : 2 ≤ value.length) : juristref17_Holds.f a l value = some (holdsM a value l) := by
  obtain ⟨h1, h3, h4⟩ := atom_is hx
  have hat : juristref14_Atom.f l = some (litN l) := by
    unfold juristref14_Atom.f
    unfold litN at h1 h3 ⊢
    by_cases hn : l < 0
    · rw [if_pos hn] at h1 h3 ⊢
      rw [if_pos hn, wrap_in (by omega) (by omega)]
    · rw [if_neg hn] at h1 h3 ⊢
      rw [if_neg hn]
  have hw : wrap64 (litN l - 1) = litN l - 1 := wrap_in (by omega) (by omega)
  have hrd : rd_T66 a (litN l - 1) = x := h4.symm
  unfold juristref17_Holds.f
  rw [hat]
  simp only [Option.bind_some]
  rw [hw, hrd, if_pos (by omega), if_pos (by omega)]
  unfold holdsM
  rw [hx]
  dsimp only
  by_cases g1 : x.f0 = 1
  · have b1 := hr (.inl g1)
    have b2 := hr2 g1
    rw [if_pos g1, if_pos b1.1, if_pos b1.2, if_pos b2.1, if_pos b2.2, if_pos g1]
    congr 2
  · rw [if_neg g1, if_neg g1]
    by_cases g3 : x.f0 = 3
    · have b1 := hr (.inr g3)
      rw [if_pos g3, if_pos g3]
      by_cases hp : l > 0
      · rw [if_pos hp, if_pos (show 0 < l from hp), if_pos b1.1, if_pos b1.2, if_pos (by omega)]
        congr 1
      · rw [if_neg hp, if_neg (show ¬ 0 < l from hp), if_pos b1.1, if_pos b1.2, if_pos (by omega)]
        congr 1
    · rw [if_neg g3, if_neg g3]
theorem may_range {v : List Vx} {a : List At} (h : mayM v a = true) : 2 ≤ v.length ∧ (∀ x ∈ v, ∀ y ∈ x.f1, 0 ≤ y ∧ y < (v.length : Int)) ∧ ∀ x ∈ a, (x.f0 = 1 ∨ x.f0 = 3 → 0 ≤ x.f1 ∧ x.f1 < (v.length : Int)) ∧ (x.f0 = 1 → 0 ≤ x.f2 ∧ x.f2 < (v.length : Int)) := by
  unfold mayM at h
  simp only [Bool.and_eq_true, decide_eq_true_eq, List.all_eq_true] at h
  obtain ⟨h1, h2, h3, h4⟩ := h
  have key : ∀ (l : List Vx) (i : Int), vxsB v.length i l = true → ∀ x ∈ l, ∀ y ∈ x.f1, 0 ≤ y ∧ y < (v.length : Int) := by
    intro l
    induction l with
    | nil => intro i _ x hx; cases hx
    | cons z l ih =>
      intro i h x hx y hy
      unfold vxsB at h
      rw [Bool.and_eq_true] at h
      rcases List.mem_cons.1 hx with rfl | hx
      · have h5 := h.1
        unfold vxB at h5
        rw [Bool.and_eq_true, List.all_eq_true] at h5
        exact inB_iff'.1 (h5.2 y hy)
      · exact ih _ h.2 x hx y hy
  refine ⟨h1, key v 0 h3, fun x hx => ?_⟩
  have h5 := h4 x hx
  unfold atB at h5
  refine ⟨fun h6 => ?_, fun h6 => ?_⟩
  · refine inB_iff'.1 ?_
    rcases h6 with h6 | h6
    · rw [h6] at h5
      cases h7 : inB v.length x.f1 with
      | true => rfl
      | false => rw [h7] at h5; simp at h5
    · rw [h6] at h5
      cases h7 : inB v.length x.f1 with
      | true => rfl
      | false => rw [h7] at h5; simp at h5
  · refine inB_iff'.1 ?_
    rw [h6] at h5
    cases h7 : inB v.length x.f2 with
    | true => rfl
    | false => rw [h7] at h5; simp at h5
end Go.Proofs.YtpopohkbffhckaaDoor.Pure
