/- Rounds of printed functions, and small facts on numbers and rows. Plain law: whether a list has a number, as the printed function tells it. Plain law: whether two lists are alike, as the printed function tells it. Plain law: the atom of a literal, as the printed function tells it. Plain law: a copied list, as the printed function tells it. Plain law: the document's form of a list without 0 is the form. Whether a list is within another one. Plain laws: the document's answers: may a list be, does it say nothing, is one within another one. -/
import Derived.Test.YtjlkjgoncfdaeaaWMore
import Derived.Test.YtjlkjgoncfdaeaaWN
import Derived.Test.YtjlkjgoncfdaeaaHkx0
import Derived.Test.YtjlkjgoncfdaeaaHkx1
import Derived.Test.YtjlkjgoncfdaeaaHkx2
import Derived.Test.YtjlkjgoncfdaeaaHkx71
import Derived.Test.YtjlkjgoncfdaeaaManAll
namespace Go.Proofs.Ytjlkjgoncfdaeaa.Pure
open Go.RowKit Go.Proofs.YtjlkjgoncfdaeaaW.PrintWords Go.Proofs.YtjlkjgoncfdaeaaW.PrintLast Go.Proofs.YtjlkjgoncfdaeaaW.PrintMore

/-! #### rounds -/
theorem ev_pos {α : Type} {c : Prop} [Decidable c] {f g : Nat → Option α} {r : α} (h : c) (k : Ev f r) : Ev (fun n => if c then f n else g n) r := Ev.congr (fun _ => if_pos h) k
theorem ev_neg {α : Type} {c : Prop} [Decidable c] {f g : Nat → Option α} {r : α} (h : ¬ c) (k : Ev g r) : Ev (fun n => if c then f n else g n) r := Ev.congr (fun _ => if_neg h) k
theorem ev_got {α β : Type} {o : Option α} {a : α} {f : Nat → α → Option β} {r : β} (h : o = some a) (k : Ev (fun n => f n a) r) : Ev (fun n => o.bind (f n)) r := Ev.congr (fun n => by rw [h]; rfl) k
theorem ev_ret {α : Type} (r : α) : Ev (fun _ => some r) r := Ev.now r
theorem wrap_succ {i : Nat} (h : i < 4611686018427387904) : wrap64 ((i : Int) + 1) = ((i + 1 : Nat) : Int) := by unfold wrap64; omega
theorem wrap_in {x : Int} (h : -9223372036854775808 ≤ x) (h' : x ≤ 9223372036854775807) : wrap64 x = x := by unfold wrap64; omega
theorem rd_nat (l : List Int) (i : Nat) : rd l (i : Int) = l.getD i 0 := by unfold rd; rw [Int.toNat_natCast]
theorem rd_lt {l : List Int} {i : Nat} (h : i < l.length) : rd l (i : Int) = l[i] := by rw [rd_nat]; simp [List.getD_eq_getElem?_getD, h]
theorem rd_mem {l : List Int} {i : Nat} (h : i < l.length) : rd l (i : Int) ∈ l := by rw [rd_lt h]; exact List.getElem_mem h
theorem drop_rd {l : List Int} {i : Nat} (h : i < l.length) : l.drop i = rd l (i : Int) :: l.drop (i + 1) := by rw [rd_lt h]; exact List.drop_eq_getElem_cons h
theorem wfI_iff {x : Int} : (Lit.int .i64 x).wf = true ↔ -9223372036854775808 ≤ x ∧ x ≤ 9223372036854775807 := by
  simp [Lit.wf, IntKind.min, IntKind.max, IntKind.signed, IntKind.bits]
theorem wf_bd {x : Int} (h : (Lit.int .i64 x).wf = true) : -9223372036854775808 ≤ x ∧ x ≤ 9223372036854775807 := wfI_iff.1 h

/-- A loop that goes over a list from a place on: what one round does decides. -/
theorem ev_upto {ρ : Type} (n : Nat) (L : Nat → Int → Option ρ) (P : Nat → ρ → Prop)
    (hend : ∀ r, P n r → Ev (fun k => L k (n : Int)) r)
    (hround : ∀ i, i < n → ∀ r, P i r → (∀ r', P (i + 1) r' → Ev (fun k => L k ((i + 1 : Nat) : Int)) r') → Ev (fun k => L k (i : Int)) r) :
    ∀ d i, i + d = n → ∀ r, P i r → Ev (fun k => L k (i : Int)) r := by
  intro d
  induction d with
  | zero => intro i hi r hp; obtain rfl : i = n := by omega
            exact hend r hp
  | succ d ih => intro i hi r hp; exact hround i (by omega) r hp (fun r' hp' => ih (i + 1) (by omega) r' hp')
/-- .. over a list. -/
theorem ev_list {ρ : Type} (l : List Int) (L : Nat → Int → Option ρ) (P : Nat → ρ → Prop) 
    (hend : ∀ r, P l.length r → Ev (fun k => L k (l.length : Int)) r)
    (hround : ∀ i, i < l.length → ∀ r, P i r → (∀ r', P (i + 1) r' → Ev (fun k => L k ((i + 1 : Nat) : Int)) r') → Ev (fun k => L k (i : Int)) r) :
    ∀ d i, i + d = l.length → ∀ r, P i r → Ev (fun k => L k (i : Int)) r := by
  intro d
  induction d with
  | zero => intro i hi r hp; obtain rfl : i = l.length := by omega
            exact hend r hp
  | succ d ih => intro i hi r hp; exact hround i (by omega) r hp (fun r' hp' => ih (i + 1) (by omega) r' hp')

end Go.Proofs.Ytjlkjgoncfdaeaa.Pure

namespace Go.Proofs.Ytjlkjgoncfdaeaa.Pure
open Go.RowKit Go.Proofs.Ytjlkjgoncfdaeaa.Hk Go.Proofs.YtjlkjgoncfdaeaaW.PrintWords Go.Proofs.YtjlkjgoncfdaeaaW.PrintLast Go.Proofs.YtjlkjgoncfdaeaaW.PrintMore
theorem has_ev (l : List Int) (a : Int) (hl : l.length < 4611686018427387904) : Ev (fun k => juristref14_Has.f k l a) (l.contains a) := by
  unfold juristref14_Has.f
  refine ev_list l (fun k i => juristref14_Has.l0 k l a i) (fun i r => r = (l.drop i).contains a) ?_ ?_ l.length 0 (by omega) _ (by simp)
  · rintro r rfl
    refine Ev.step (f := fun _ => some false) (fun k => by simp only [juristref14_Has.l0]; rw [if_neg (by omega)]) ?_
    simpa using ev_ret false
  · rintro i h r rfl ih
    rw [drop_rd h]
    by_cases he : rd l (i : Int) = a
    · refine Ev.step (f := fun _ => some true) (fun k => by simp only [juristref14_Has.l0]; rw [if_pos (by omega), if_pos (by omega), if_pos he]) ?_
      simpa [he] using ev_ret true
    · refine Ev.step (f := fun k => juristref14_Has.l0 k l a ((i + 1 : Nat) : Int)) (fun k => by simp only [juristref14_Has.l0]; rw [if_pos (by omega), if_pos (by omega), if_neg he, wrap_succ (by omega)]) ?_
      have : (rd l (i : Int) :: l.drop (i + 1)).contains a = (l.drop (i + 1)).contains a := by
        have : ¬ a = rd l (i : Int) := fun h => he h.symm
        simp [this]
      rw [this]
      exact ih _ rfl
end Go.Proofs.Ytjlkjgoncfdaeaa.Pure

namespace Go.Proofs.Ytjlkjgoncfdaeaa.Pure
open Go.RowKit Go.Proofs.Ytjlkjgoncfdaeaa.Hk Go.Proofs.YtjlkjgoncfdaeaaW.PrintWords Go.Proofs.YtjlkjgoncfdaeaaW.PrintLast Go.Proofs.YtjlkjgoncfdaeaaW.PrintMore
theorem alike_ev (l m : List Int) (hl : l.length < 4611686018427387904) : Ev (fun k => juristref14_Alike.f k l m) (decide (l = m)) := by
  unfold juristref14_Alike.f
  by_cases hlen : l.length = m.length
  · refine ev_pos (by omega) ?_
    refine ev_list l (fun k i => juristref14_Alike.l0 k l m i) (fun i r => r = decide (l.drop i = m.drop i)) ?_ ?_ l.length 0 (by omega) _ (by simp)
    · rintro r rfl
      refine Ev.step (f := fun _ => some true) (fun k => by simp only [juristref14_Alike.l0]; rw [if_neg (by omega)]) ?_
      have : l.drop l.length = m.drop l.length := by rw [List.drop_length, hlen, List.drop_length]
      simpa [this] using ev_ret true
    · rintro i h r rfl ih
      rw [drop_rd h, drop_rd (l := m) (by omega)]
      by_cases he : rd l (i : Int) = rd m (i : Int)
      · refine Ev.step (f := fun k => juristref14_Alike.l0 k l m ((i + 1 : Nat) : Int)) (fun k => by simp only [juristref14_Alike.l0]; rw [if_pos (by omega), if_pos (by omega), if_pos (by omega), if_pos he, wrap_succ (by omega)]) ?_
        refine ih _ ?_
        rw [decide_eq_decide, he]
        simp
      · refine Ev.step (f := fun _ => some false) (fun k => by simp only [juristref14_Alike.l0]; rw [if_pos (by omega), if_pos (by omega), if_pos (by omega), if_neg he]) ?_
        have : decide (rd l (i : Int) :: l.drop (i + 1) = rd m (i : Int) :: m.drop (i + 1)) = false := by simp [he]
        rw [this]
        exact ev_ret false
  · refine ev_neg (by omega) ?_
    have : decide (l = m) = false := by simp; intro h; rw [h] at hlen; exact hlen rfl
    rw [this]
    exact ev_ret false

end Go.Proofs.Ytjlkjgoncfdaeaa.Pure

namespace Go.Proofs.Ytjlkjgoncfdaeaa.Pure
open Go.RowKit Go.Proofs.Ytjlkjgoncfdaeaa.Hk Go.Proofs.YtjlkjgoncfdaeaaW.PrintWords Go.Proofs.YtjlkjgoncfdaeaaW.PrintLast Go.Proofs.YtjlkjgoncfdaeaaW.PrintMore
theorem atom_some {x : Int} (h : (Lit.int .i64 x).wf = true) : juristref14_Atom.f x = some (wrap64 (LF.litAtom x)) := by
  have := wf_bd h
  unfold juristref14_Atom.f LF.litAtom
  split
  · rfl
  · rw [wrap_in (by omega) (by omega)]

end Go.Proofs.Ytjlkjgoncfdaeaa.Pure

namespace Go.Proofs.Ytjlkjgoncfdaeaa.Pure
open Go.RowKit Go.Proofs.Ytjlkjgoncfdaeaa.Hk Go.Proofs.YtjlkjgoncfdaeaaW.PrintWords Go.Proofs.YtjlkjgoncfdaeaaW.PrintLast Go.Proofs.YtjlkjgoncfdaeaaW.PrintMore
theorem copied_some (l : List Int) (hl : l.length < 17592186044416) : juristref14_Copied.f l = some l := by
  unfold juristref14_Copied.f
  simp [hl]
end Go.Proofs.Ytjlkjgoncfdaeaa.Pure

namespace Go.Proofs.Ytjlkjgoncfdaeaa.Pure
open Go.RowKit Go.Proofs.Ytjlkjgoncfdaeaa.Hk Go.Proofs.YtjlkjgoncfdaeaaW.PrintWords Go.Proofs.YtjlkjgoncfdaeaaW.PrintLast Go.Proofs.YtjlkjgoncfdaeaaW.PrintMore Go.Proofs.Ytjlkjgoncfdaeaa.LF

/-- The least one of those that are not out yet, or 0. -/
def bestOf (out : List Int) : List Int → Int → Int
  | [], b => b
  | x :: l, b => bestOf out l (if out.contains x then b else if b = 0 then x else if litLt x b then x else b)

theorem bestOf_spec (out : List Int) : ∀ (l : List Int) (b : Int), (∀ x ∈ l, x ≠ 0) →
    (bestOf out l b = 0 ↔ b = 0 ∧ ∀ x ∈ l, x ∈ out) ∧
    (bestOf out l b ≠ 0 → (bestOf out l b = b ∨ (bestOf out l b ∈ l ∧ bestOf out l b ∉ out)) ∧ (b ≠ 0 → ¬ litLt b (bestOf out l b)) ∧ (∀ x ∈ l, x ∉ out → ¬ litLt x (bestOf out l b)))
  | [], b, _ => by simp [bestOf, litLt_irrefl]
  | y :: l, b, h0 => by
    have hy : y ≠ 0 := h0 y (by simp)
    unfold bestOf
    by_cases hc : out.contains y = true
    · rw [if_pos hc]
      have hm : y ∈ out := by simpa using hc
      obtain ⟨h1, h2⟩ := bestOf_spec out l b (fun x hx => h0 x (by simp [hx]))
      refine ⟨?_, fun hne => ?_⟩
      · rw [h1]; simp [hm]
      · obtain ⟨a, c, d⟩ := h2 hne
        refine ⟨?_, c, fun x hx hxo => ?_⟩
        · rcases a with a | ⟨a, a'⟩
          · exact .inl a
          · exact .inr ⟨by simp [a], a'⟩
        · rcases List.mem_cons.1 hx with rfl | hx
          · exact absurd hm hxo
          · exact d x hx hxo
    · rw [if_neg hc]
      have hm : y ∉ out := by simpa using hc
      have key : ∀ b', (b' = y ∨ b' = b) → b' ≠ 0 → (b ≠ 0 → ¬ litLt b b') → ¬ litLt y b' →
          (bestOf out l b' = 0 ↔ b = 0 ∧ ∀ x ∈ y :: l, x ∈ out) ∧
          (bestOf out l b' ≠ 0 → (bestOf out l b' = b ∨ (bestOf out l b' ∈ y :: l ∧ bestOf out l b' ∉ out)) ∧ (b ≠ 0 → ¬ litLt b (bestOf out l b')) ∧ (∀ x ∈ y :: l, x ∉ out → ¬ litLt x (bestOf out l b'))) := by
        intro b' hb' hne' hbb hyb
        obtain ⟨h1, h2⟩ := bestOf_spec out l b' (fun x hx => h0 x (by simp [hx]))
        refine ⟨?_, fun hne => ?_⟩
        · rw [h1]
          constructor
          · rintro ⟨h, _⟩; exact absurd h hne'
          · rintro ⟨_, h⟩; exact absurd (h y (by simp)) hm
        · obtain ⟨a, c, d⟩ := h2 hne
          have c := c hne'
          have tr : ∀ z, ¬ litLt z b' → ¬ litLt z (bestOf out l b') := by
            intro z hz hz'
            rcases litLt_total b' (bestOf out l b') with k | k | k
            · exact c k
            · rw [← k] at hz'; exact hz hz'
            · exact hz (litLt_trans hz' k)
          refine ⟨?_, fun hb => tr b (hbb hb), fun x hx hxo => ?_⟩
          · rcases a with a | ⟨a, a'⟩
            · rcases hb' with rfl | rfl
              · exact .inr ⟨by simp [a], by rw [a]; exact hm⟩
              · exact .inl a
            · exact .inr ⟨by simp [a], a'⟩
          · rcases List.mem_cons.1 hx with rfl | hx
            · exact tr x hyb
            · exact d x hx hxo
      by_cases hb : b = 0
      · rw [if_pos hb]
        exact key y (.inl rfl) hy (fun h => absurd hb h) (litLt_irrefl y)
      · rw [if_neg hb]
        by_cases hlt : litLt y b
        · rw [if_pos hlt]
          exact key y (.inl rfl) hy (fun _ => litLt_asymm hlt) (litLt_irrefl y)
        · rw [if_neg hlt]
          exact key b (.inr rfl) hb (fun _ => litLt_irrefl b) hlt

theorem litAtom_wf {x : Int} (h : -9223372036854775807 ≤ x ∧ x ≤ 9223372036854775807) : wrap64 (litAtom x) = litAtom x := by
  unfold litAtom; split <;> exact wrap_in (by omega) (by omega)

/-- The inner loop: the best one, and on. -/
theorem normal_inner (l out : List Int) (r : List Int) (hl : l.length < 4611686018427387904) (ho : out.length < 4611686018427387904) (hw : ∀ x ∈ l, x ≠ 0 ∧ -9223372036854775807 ≤ x ∧ x ≤ 9223372036854775807) :
    ∀ d i, i + d = l.length → ∀ b : Int, -9223372036854775807 ≤ b ∧ b ≤ 9223372036854775807 →
      Ev (fun k => if bestOf out (l.drop i) b = 0 then some out else if out.length < 17592186044416 then juristref14_Normal.l0 k l (out ++ [bestOf out (l.drop i) b]) else none) r →
      Ev (fun k => juristref14_Normal.l1 k l out b (i : Int)) r := by
  intro d
  induction d with
  | zero =>
    intro i hi b _ h
    obtain rfl : i = l.length := by omega
    rw [List.drop_length] at h
    exact Ev.step (fun k => by simp only [juristref14_Normal.l1]; rw [if_neg (by omega)]; rfl) h
  | succ d ih =>
    intro i hi b hb h
    have hlt : i < l.length := by omega
    have hx := hw _ (rd_mem hlt)
    rw [drop_rd hlt] at h
    unfold bestOf at h
    have hhas := has_ev out (rd l (i : Int)) ho
    have hwx : (Lit.int .i64 (rd l (i : Int))).wf = true := wfI_iff.2 (by omega)
    have hwb : (Lit.int .i64 b).wf = true := wfI_iff.2 (by omega)
    have e1 : juristref14_Atom.f (rd l (i : Int)) = some (litAtom (rd l (i : Int))) := by rw [atom_some hwx, litAtom_wf hx.2]
    have e2 : juristref14_Atom.f b = some (litAtom b) := by rw [atom_some hwb, litAtom_wf hb]
    have next := fun b' hb' => ih (i + 1) (by omega) b' hb'
    refine Ev.step (fun k => by simp only [juristref14_Normal.l1]; rw [if_pos (by omega), if_pos (by omega), wrap_succ (by omega)]) ?_
    refine Ev.bind hhas ?_
    by_cases hc : out.contains (rd l (i : Int)) = true
    · rw [if_pos hc] at h
      refine ev_pos hc (next b hb h)
    · rw [if_neg hc] at h
      refine ev_neg hc ?_
      by_cases hb0 : b = 0
      · rw [if_pos hb0] at h
        exact ev_pos hb0 (next _ hx.2 h)
      · rw [if_neg hb0] at h
        refine ev_neg hb0 ?_
        refine ev_got e1 (ev_got e2 ?_)
        by_cases hlt2 : litAtom (rd l (i : Int)) < litAtom b
        · rw [if_pos (.inl hlt2)] at h
          exact ev_pos hlt2 (next _ hx.2 h)
        · refine ev_neg hlt2 (ev_got e1 (ev_got e2 ?_))
          by_cases heq : litAtom (rd l (i : Int)) = litAtom b
          · refine ev_pos heq ?_
            by_cases hgt : rd l (i : Int) > b
            · rw [if_pos (.inr ⟨heq, hgt⟩)] at h
              exact ev_pos hgt (next _ hx.2 h)
            · rw [if_neg (by unfold litLt; omega)] at h
              exact ev_neg hgt (next b hb h)
          · rw [if_neg (by unfold litLt; omega)] at h
            exact ev_neg heq (next b hb h)

theorem length_filter_lt {p : Int → Bool} : ∀ {l : List Int} {x : Int}, x ∈ l → p x = false → (l.filter p).length < l.length
  | [], _, h, _ => by simp at h
  | y :: l, x, h, hp => by
    rw [List.length_cons]
    rcases List.mem_cons.1 h with rfl | h
    · rw [List.filter_cons_of_neg (by simp [hp])]
      have := List.length_filter_le p l
      omega
    · have := length_filter_lt h hp
      by_cases hy : p y = true
      · rw [List.filter_cons_of_pos hy, List.length_cons]; omega
      · rw [List.filter_cons_of_neg hy]; omega

/-- The document's form of a list without 0. -/
theorem normal_ev (l : List Int) (hl : l.length < 17592186044416) (hw : ∀ x ∈ l, x ≠ 0 ∧ -9223372036854775807 ≤ x ∧ x ≤ 9223372036854775807) : Ev (fun k => juristref14_Normal.f k l) (canon l) := by
  unfold juristref14_Normal.f
  suffices H : ∀ n (out : List Int), (l.filter fun x => !out.contains x).length ≤ n → out.length + n ≤ l.length → out.Pairwise litLt → (∀ x ∈ out, x ∈ l) → (∀ x ∈ out, ∀ y ∈ l, y ∉ out → litLt x y) → Ev (fun k => juristref14_Normal.l0 k l out) (canon l) from
    H l.length [] (List.length_filter_le _ _) (by simp) (by simp) (by simp) (by simp)
  intro n
  induction n with
  | zero =>
    intro out hn hlen hp hs ha
    have hall : ∀ x ∈ l, x ∈ out := by
      intro x hx
      have h0 : (l.filter fun x => !out.contains x) = [] := List.eq_nil_of_length_eq_zero (by omega)
      have := List.filter_eq_nil_iff.1 h0 x hx
      simpa using this
    refine Ev.step (f := fun k => juristref14_Normal.l1 k l out 0 0) (fun k => rfl) ?_
    refine normal_inner l out _ (by omega) (by omega) hw l.length 0 (by omega) 0 (by omega) ?_
    have hb : bestOf out (l.drop 0) 0 = 0 := ((bestOf_spec out _ 0 (fun x hx => (hw x (by simpa using hx)).1)).1).2 ⟨rfl, by simpa using hall⟩
    refine ev_pos hb ?_
    rw [canon_eq hp (fun x => ⟨fun h => hs x h, fun h => hall x h⟩)]
    exact ev_ret _
  | succ n ih =>
    intro out hn hlen hp hs ha
    refine Ev.step (f := fun k => juristref14_Normal.l1 k l out 0 0) (fun k => rfl) ?_
    refine normal_inner l out _ (by omega) (by omega) hw l.length 0 (by omega) 0 (by omega) ?_
    rw [List.drop_zero]
    obtain ⟨h1, h2⟩ := bestOf_spec out l 0 (fun x hx => (hw x hx).1)
    by_cases hb : bestOf out l 0 = 0
    · refine ev_pos hb ?_
      have hall := (h1.1 hb).2
      rw [canon_eq hp (fun x => ⟨fun h => hs x h, fun h => hall x h⟩)]
      exact ev_ret _
    · refine ev_neg hb (ev_pos (by omega) ?_)
      obtain ⟨a, _, c⟩ := h2 hb
      have hm : bestOf out l 0 ∈ l ∧ bestOf out l 0 ∉ out := by
        rcases a with a | a
        · exact absurd a hb
        · exact a
      generalize bestOf out l 0 = b at *
      refine ih (out ++ [b]) ?_ (by simp; omega) ?_ ?_ ?_
      · have e : (l.filter fun x => !(out ++ [b]).contains x) = (l.filter fun x => !out.contains x).filter fun x => x != b := by
          rw [List.filter_filter]
          congr 1
          funext x
          rw [Bool.eq_iff_iff]
          simp [and_comm]
        rw [e]
        have : b ∈ l.filter fun x => !out.contains x := by
          rw [List.mem_filter]; exact ⟨hm.1, by simpa using hm.2⟩
        have := length_filter_lt (p := fun x => x != b) this (by simp)
        omega
      · rw [List.pairwise_append]
        refine ⟨hp, by simp, fun x hx y hy => ?_⟩
        have : y = b := by simpa using hy
        subst this
        exact ha x hx y hm.1 hm.2
      · intro x hx
        rcases List.mem_append.1 hx with hx | hx
        · exact hs x hx
        · have : x = b := by simpa using hx
          subst this; exact hm.1
      · intro x hx y hy hyo
        have hyo' : y ∉ out ∧ y ≠ b := by simpa using hyo
        rcases List.mem_append.1 hx with hx | hx
        · exact ha x hx y hy hyo'.1
        · have : x = b := by simpa using hx
          subst this
          rcases litLt_total x y with k | k | k
          · exact k
          · exact absurd k.symm hyo'.2
          · exact absurd k (c y hy hyo'.1)
end Go.Proofs.Ytjlkjgoncfdaeaa.Pure

namespace Go.Proofs.Ytjlkjgoncfdaeaa.MC
def withinB (l m : List Int) : Bool := l.all fun x => m.contains x
end Go.Proofs.Ytjlkjgoncfdaeaa.MC

namespace Go.Proofs.Ytjlkjgoncfdaeaa.Pure
open Go.RowKit Go.Proofs.Ytjlkjgoncfdaeaa.Hk Go.Proofs.YtjlkjgoncfdaeaaW.PrintWords Go.Proofs.YtjlkjgoncfdaeaaW.PrintLast Go.Proofs.YtjlkjgoncfdaeaaW.PrintMore Go.Proofs.Ytjlkjgoncfdaeaa.MC

theorem may_ev (l : List Int) (hl : l.length < 4611686018427387904) : Ev (fun k => juristref14_May.f k l) (mayB l) := by
  unfold juristref14_May.f
  refine ev_list l (fun k i => juristref14_May.l0 k l i) (fun i r => r = (decide (l.length ≤ 5000) && (l.drop i).all literalB)) ?_ ?_ l.length 0 (by omega) _ (by simp [mayB])
  · rintro r rfl
    refine Ev.step (f := fun _ => some (decide ((l.length : Int) ≤ 5000))) (fun k => by simp only [juristref14_May.l0]; rw [if_neg (by omega)]) ?_
    have e : decide ((l.length : Int) ≤ 5000) = (decide (l.length ≤ 5000) && (l.drop l.length).all literalB) := by
      simp
      omega
    rw [e]
    exact ev_ret _
  · rintro i h r rfl ih
    rw [drop_rd h, List.all_cons]
    by_cases h0 : rd l (i : Int) = 0
    · refine Ev.step (f := fun _ => some false) (fun k => by simp only [juristref14_May.l0]; rw [if_pos (by omega), if_pos (by omega), if_pos h0]) ?_
      have : literalB (rd l (i : Int)) = false := by unfold literalB; simp [h0]
      rw [this]
      simpa using ev_ret false
    · by_cases h1 : rd l (i : Int) > 1048576
      · refine Ev.step (f := fun _ => some false) (fun k => by simp only [juristref14_May.l0]; rw [if_pos (by omega), if_pos (by omega), if_neg h0, if_pos h1]) ?_
        have : literalB (rd l (i : Int)) = false := by unfold literalB; simp; omega
        rw [this]
        simpa using ev_ret false
      · by_cases h2 : rd l (i : Int) < -1048576
        · refine Ev.step (f := fun _ => some false) (fun k => by simp only [juristref14_May.l0]; rw [if_pos (by omega), if_pos (by omega), if_neg h0, if_neg h1, if_pos h2]) ?_
          have : literalB (rd l (i : Int)) = false := by unfold literalB; simp; omega
          rw [this]
          simpa using ev_ret false
        · refine Ev.step (f := fun k => juristref14_May.l0 k l ((i + 1 : Nat) : Int)) (fun k => by simp only [juristref14_May.l0]; rw [if_pos (by omega), if_pos (by omega), if_neg h0, if_neg h1, if_neg h2, wrap_succ (by omega)]) ?_
          have : literalB (rd l (i : Int)) = true := literalB_true.2 ⟨h0, by omega, by omega⟩
          rw [this]
          simpa using ih _ rfl

theorem within_ev (l m : List Int) (hl : l.length < 4611686018427387904) (hm : m.length < 4611686018427387904) : Ev (fun k => juristref14_Within.f k l m) (withinB l m) := by
  unfold juristref14_Within.f
  refine ev_list l (fun k i => juristref14_Within.l0 k l m i) (fun i r => r = withinB (l.drop i) m) ?_ ?_ l.length 0 (by omega) _ (by simp)
  · rintro r rfl
    refine Ev.step (f := fun _ => some true) (fun k => by simp only [juristref14_Within.l0]; rw [if_neg (by omega)]) ?_
    simpa [withinB] using ev_ret true
  · rintro i h r rfl ih
    rw [drop_rd h]
    have e : withinB (rd l (i : Int) :: l.drop (i + 1)) m = (m.contains (rd l (i : Int)) && withinB (l.drop (i + 1)) m) := rfl
    rw [e]
    refine Ev.step (fun k => by simp only [juristref14_Within.l0]; rw [if_pos (by omega), if_pos (by omega), wrap_succ (by omega)]) ?_
    refine Ev.bind (has_ev m _ hm) ?_
    by_cases hc : m.contains (rd l (i : Int)) = true
    · rw [hc]
      exact ev_pos rfl (by simpa using ih _ rfl)
    · have hc' : m.contains (rd l (i : Int)) = false := by simpa using hc
      rw [hc']
      exact ev_neg (by simp) (ev_ret false)

theorem says_inner (l : List Int) (r : Bool) (i : Nat) (hi : i < l.length) (hl : l.length < 4611686018427387904) :
    ∀ d j, j + d = i →
      Ev (fun k => if (rd l (i : Int) != 0 && ((l.take i).drop j).any fun y => rd l (i : Int) == wrap64 (-y) && rd l (i : Int) != y) = true then some true else juristref14_SaysNothing.l0 k l ((i + 1 : Nat) : Int)) r →
      Ev (fun k => juristref14_SaysNothing.l1 k l (i : Int) (j : Int)) r := by
  intro d
  induction d with
  | zero =>
    intro j hj h
    obtain rfl : j = i := by omega
    have e : (l.take j).drop j = [] := List.drop_of_length_le (by simp; omega)
    rw [e] at h
    simp only [List.any_nil, Bool.and_false] at h
    refine Ev.step (f := fun k => juristref14_SaysNothing.l0 k l ((j + 1 : Nat) : Int)) (fun k => by simp only [juristref14_SaysNothing.l1]; rw [if_neg (by omega), wrap_succ (by omega)]) ?_
    exact Ev.congr (fun k => by simp) h
  | succ d ih =>
    intro j hj h
    have hji : j < i := by omega
    have e : (l.take i).drop j = rd l (j : Int) :: (l.take i).drop (j + 1) := by
      have h1 : j < (l.take i).length := by simp; omega
      rw [List.drop_eq_getElem_cons h1, rd_lt (by omega)]
      simp
    rw [e] at h
    by_cases h0 : rd l (i : Int) = 0
    · refine Ev.step (f := fun k => juristref14_SaysNothing.l1 k l (i : Int) ((j + 1 : Nat) : Int)) (fun k => by simp only [juristref14_SaysNothing.l1]; rw [if_pos (by omega), if_pos (by omega), if_pos (by omega), if_pos h0, wrap_succ (by omega)]) ?_
      refine ih (j + 1) (by omega) (Ev.congr (fun k => ?_) h)
      simp [h0]
    · by_cases h1 : rd l (i : Int) = wrap64 (-(rd l (j : Int)))
      · by_cases h2 : rd l (i : Int) = rd l (j : Int)
        · refine Ev.step (f := fun k => juristref14_SaysNothing.l1 k l (i : Int) ((j + 1 : Nat) : Int)) (fun k => by simp only [juristref14_SaysNothing.l1]; rw [if_pos (by omega), if_pos (by omega), if_pos (by omega), if_neg h0, if_pos (by omega), if_pos (by omega), if_pos h1, if_pos h2, wrap_succ (by omega)]) ?_
          refine ih (j + 1) (by omega) (Ev.congr (fun k => ?_) h)
          have : (rd l (i : Int) != rd l (j : Int)) = false := bne_eq_false_iff_eq.2 h2
          rw [List.any_cons, this, Bool.and_false, Bool.false_or]
        · refine Ev.step (f := fun _ => some true) (fun k => by simp only [juristref14_SaysNothing.l1]; rw [if_pos (by omega), if_pos (by omega), if_pos (by omega), if_neg h0, if_pos (by omega), if_pos (by omega), if_pos h1, if_neg h2]) ?_
          refine Ev.congr (fun k => ?_) h
          have e0 : (rd l (i : Int) != 0) = true := bne_iff_ne.2 h0
          have e1 : (rd l (i : Int) == wrap64 (-(rd l (j : Int)))) = true := beq_iff_eq.2 h1
          have e2 : (rd l (i : Int) != rd l (j : Int)) = true := bne_iff_ne.2 h2
          rw [List.any_cons, e0, e1, e2]
          simp
      · refine Ev.step (f := fun k => juristref14_SaysNothing.l1 k l (i : Int) ((j + 1 : Nat) : Int)) (fun k => by simp only [juristref14_SaysNothing.l1]; rw [if_pos (by omega), if_pos (by omega), if_pos (by omega), if_neg h0, if_pos (by omega), if_pos (by omega), if_neg h1, wrap_succ (by omega)]) ?_
        refine ih (j + 1) (by omega) (Ev.congr (fun k => ?_) h)
        have e1 : (rd l (i : Int) == wrap64 (-(rd l (j : Int)))) = false := beq_eq_false_iff_ne.2 h1
        rw [List.any_cons, e1, Bool.false_and, Bool.false_or]

/-- Two that are against each other, one behind the other. -/
def saysR (l : List Int) : Bool := (List.range l.length).any fun i => l.getD i 0 != 0 && (l.take i).any fun y => l.getD i 0 == wrap64 (-y) && l.getD i 0 != y

theorem saysR_ev (l : List Int) (hl : l.length < 4611686018427387904) : Ev (fun k => juristref14_SaysNothing.f k l) (saysR l) := by
  unfold juristref14_SaysNothing.f
  have H := ev_list l (fun k i => juristref14_SaysNothing.l0 k l i) (fun i r => r = ((List.range' i (l.length - i)).any fun i => l.getD i 0 != 0 && (l.take i).any fun y => l.getD i 0 == wrap64 (-y) && l.getD i 0 != y)) ?_ ?_ l.length 0 (by omega) (saysR l) (by simp [saysR, List.range_eq_range'])
  · exact H
  · rintro r rfl
    refine Ev.step (f := fun _ => some false) (fun k => by simp only [juristref14_SaysNothing.l0]; rw [if_neg (by omega)]) ?_
    simpa using ev_ret false
  · rintro i h r rfl ih
    refine Ev.step (f := fun k => juristref14_SaysNothing.l1 k l (i : Int) 0) (fun k => by simp only [juristref14_SaysNothing.l0]; rw [if_pos (by omega)]) ?_
    refine says_inner l _ i h hl i 0 (by omega) ?_
    have e : l.length - i = (l.length - (i + 1)) + 1 := by omega
    rw [e, List.range'_succ, List.any_cons, List.drop_zero, rd_nat]
    by_cases hc : (l.getD i 0 != 0 && (l.take i).any fun y => l.getD i 0 == wrap64 (-y) && l.getD i 0 != y) = true
    · rw [hc]
      exact ev_pos rfl (ev_ret true)
    · have hc' : (l.getD i 0 != 0 && (l.take i).any fun y => l.getD i 0 == wrap64 (-y) && l.getD i 0 != y) = false := by simpa using hc
      rw [hc', Bool.false_or]
      exact ev_neg (by simp) (ih _ rfl)

theorem wrap_neg_neg {x : Int} (h : (Lit.int .i64 x).wf = true) : wrap64 (-(wrap64 (-x))) = x := by
  have := wf_bd h
  unfold wrap64; omega
theorem saysR_eq (l : List Int) (hw : ∀ x ∈ l, (Lit.int .i64 x).wf = true) : saysR l = saysB l := by
  rw [Bool.eq_iff_iff]
  unfold saysR saysB
  simp only [List.any_eq_true, Bool.and_eq_true, bne_iff_ne, beq_iff_eq, List.mem_range]
  constructor
  · rintro ⟨i, hi, h0, y, hy, h1, h2⟩
    have hg : l.getD i 0 = l[i] := by simp [List.getD_eq_getElem?_getD, hi]
    rw [hg] at h0 h1 h2
    have hym := List.mem_of_mem_take hy
    refine ⟨l[i], List.getElem_mem hi, ⟨h0, ?_⟩, ?_⟩
    · intro e
      apply h2
      have := wrap_neg_neg (hw y hym)
      rw [← h1] at this
      rw [← this]
      exact e
    · have := wrap_neg_neg (hw y hym)
      rw [← h1] at this
      rw [this]
      simpa using hym
  · rintro ⟨x, hx, ⟨h0, h1⟩, h2⟩
    have h2 : wrap64 (-x) ∈ l := by simpa using h2
    obtain ⟨i, hi, ei⟩ := List.getElem_of_mem hx
    obtain ⟨j, hj, ej⟩ := List.getElem_of_mem h2
    have hij : i ≠ j := by
      rintro rfl
      exact h1 (ei.symm.trans ej)
    have gi : l.getD i 0 = x := by simp [List.getD_eq_getElem?_getD, hi, ei]
    have gj : l.getD j 0 = wrap64 (-x) := by simp [List.getD_eq_getElem?_getD, hj, ej]
    have mem_take : ∀ {a b : Nat} (ha : a < l.length), a < b → l[a] ∈ l.take b := by
      intro a b ha hab
      rw [List.mem_iff_getElem]
      exact ⟨a, by simp; omega, by simp⟩
    rcases Nat.lt_or_gt_of_ne hij with h | h
    · refine ⟨j, hj, ?_, x, ei ▸ mem_take hi h, ?_, ?_⟩
      · rw [gj]
        intro e
        apply h0
        have := wrap_neg_neg (hw x hx)
        rw [e] at this
        exact this.symm.trans (wrap_in (by omega) (by omega))
      · rw [gj]
      · rw [gj]; exact fun e => h1 e.symm
    · refine ⟨i, hi, ?_, wrap64 (-x), ej ▸ mem_take hj h, ?_, ?_⟩
      · rw [gi]; exact h0
      · rw [gi, wrap_neg_neg (hw x hx)]
      · rw [gi]; exact h1
end Go.Proofs.Ytjlkjgoncfdaeaa.Pure
