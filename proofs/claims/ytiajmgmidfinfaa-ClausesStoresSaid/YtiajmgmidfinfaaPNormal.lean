/- Plain law: the document's form of a list without 0 is the form. -/
import Derived.Test.YtiajmgmidfinfaaHkx0
import Derived.Test.YtiajmgmidfinfaaHkx1
import Derived.Test.YtiajmgmidfinfaaHkx4
import Derived.Test.YtiajmgmidfinfaaPHas
import Derived.Test.YtiajmgmidfinfaaPAtom
namespace Go.Proofs.Ytiajmgmidfinfaa.Pure
open Go.RowKit Go.Proofs.Ytiajmgmidfinfaa.Hk Go.Proofs.YtiajmgmidfinfaaW.PrintWords Go.Proofs.YtiajmgmidfinfaaW.PrintLast Go.Proofs.YtiajmgmidfinfaaW.PrintMore Go.Proofs.Ytiajmgmidfinfaa.LF

/-- The least one of those that are not out yet, or 0. -/
def bestOf (out : List Int) : List Int → Int → Int
  | [], b => b
  | x :: l, b => bestOf out l (if out.contains x then b else if b = 0 then x else if litLt x b then x else b)

theorem bestOf_spec (out : List Int) : ∀ (l : List Int) (b : Int), (∀ x ∈ l, x ≠ 0) →
    (bestOf out l b = 0 ↔ b = 0 ∧ ∀ x ∈ l, x ∈ out) ∧
    (bestOf out l b ≠ 0 → (bestOf out l b = b ∨ (bestOf out l b ∈ l ∧ bestOf out l b ∉ out)) ∧ (b ≠ 0 → ¬ litLt b (bestOf out l b)) ∧ (∀ x ∈ l, x ∉ out → ¬ litLt x (bestOf out l b)))
  | [], b, _ => by simp [bestOf, litLt_irrefl]
  | y :: l, b, h0 => by
    have hy : y ≠ 0 := h0 y (by simp)
    unfold bestOf
    by_cases hc : out.contains y = true
    · rw [if_pos hc]
      have hm : y ∈ out := by simpa using hc
      obtain ⟨h1, h2⟩ := bestOf_spec out l b (fun x hx => h0 x (by simp [hx]))
      refine ⟨?_, fun hne => ?_⟩
      · rw [h1]; simp [hm]
      · obtain ⟨a, c, d⟩ := h2 hne
        refine ⟨?_, c, fun x hx hxo => ?_⟩
        · rcases a with a | ⟨a, a'⟩
          · exact .inl a
          · exact .inr ⟨by simp [a], a'⟩
        · rcases List.mem_cons.1 hx with rfl | hx
          · exact absurd hm hxo
          · exact d x hx hxo
    · rw [if_neg hc]
      have hm : y ∉ out := by simpa using hc
      have key : ∀ b', (b' = y ∨ b' = b) → b' ≠ 0 → (b ≠ 0 → ¬ litLt b b') → ¬ litLt y b' →
          (bestOf out l b' = 0 ↔ b = 0 ∧ ∀ x ∈ y :: l, x ∈ out) ∧
          (bestOf out l b' ≠ 0 → (bestOf out l b' = b ∨ (bestOf out l b' ∈ y :: l ∧ bestOf out l b' ∉ out)) ∧ (b ≠ 0 → ¬ litLt b (bestOf out l b')) ∧ (∀ x ∈ y :: l, x ∉ out → ¬ litLt x (bestOf out l b'))) := by
        intro b' hb' hne' hbb hyb
        obtain ⟨h1, h2⟩ := bestOf_spec out l b' (fun x hx => h0 x (by simp [hx]))
        refine ⟨?_, fun hne => ?_⟩
        · rw [h1]
          constructor
          · rintro ⟨h, _⟩; exact absurd h hne'
          · rintro ⟨_, h⟩; exact absurd (h y (by simp)) hm
        · obtain ⟨a, c, d⟩ := h2 hne
          have c := c hne'
          have tr : ∀ z, ¬ litLt z b' → ¬ litLt z (bestOf out l b') := by
            intro z hz hz'
            rcases litLt_total b' (bestOf out l b') with k | k | k
            · exact c k
            · rw [← k] at hz'; exact hz hz'
            · exact hz (litLt_trans hz' k)
          refine ⟨?_, fun hb => tr b (hbb hb), fun x hx hxo => ?_⟩
          · rcases a with a | ⟨a, a'⟩
            · rcases hb' with rfl | rfl
              · exact .inr ⟨by simp [a], by rw [a]; exact hm⟩
              · exact .inl a
            · exact .inr ⟨by simp [a], a'⟩
          · rcases List.mem_cons.1 hx with rfl | hx
            · exact tr x hyb
            · exact d x hx hxo
      by_cases hb : b = 0
      · rw [if_pos hb]
        exact key y (.inl rfl) hy (fun h => absurd hb h) (litLt_irrefl y)
      · rw [if_neg hb]
        by_cases hlt : litLt y b
        · rw [if_pos hlt]
          exact key y (.inl rfl) hy (fun _ => litLt_asymm hlt) (litLt_irrefl y)
        · rw [if_neg hlt]
          exact key b (.inr rfl) hb (fun _ => litLt_irrefl b) hlt

theorem litAtom_wf {x : Int} (h : -9223372036854775807 ≤ x ∧ x ≤ 9223372036854775807) : wrap64 (litAtom x) = litAtom x := by
  unfold litAtom; split <;> exact wrap_in (by omega) (by omega)

/-- The inner loop: the best one, and on. -/
theorem normal_inner (l out : List Int) (r : List Int) (hl : l.length < 4611686018427387904) (ho : out.length < 4611686018427387904) (hw : ∀ x ∈ l, x ≠ 0 ∧ -9223372036854775807 ≤ x ∧ x ≤ 9223372036854775807) :
    ∀ d i, i + d = l.length → ∀ b : Int, -9223372036854775807 ≤ b ∧ b ≤ 9223372036854775807 →
      Ev (fun k => if bestOf out (l.drop i) b = 0 then some out else if out.length < 17592186044416 then juristref14_Normal.l0 k l (out ++ [bestOf out (l.drop i) b]) else none) r →
      Ev (fun k => juristref14_Normal.l1 k l out b (i : Int)) r := by
  intro d
  induction d with
  | zero =>
    intro i hi b _ h
    obtain rfl : i = l.length := by omega
    rw [List.drop_length] at h
    exact Ev.step (fun k => by simp only [juristref14_Normal.l1]; rw [if_neg (by omega)]; rfl) h
  | succ d ih =>
    intro i hi b hb h
    have hlt : i < l.length := by omega
    have hx := hw _ (rd_mem hlt)
    rw [drop_rd hlt] at h
    unfold bestOf at h
    have hhas := has_ev out (rd l (i : Int)) ho
    have hwx : (Lit.int .i64 (rd l (i : Int))).wf = true := wfI_iff.2 (by omega)
    have hwb : (Lit.int .i64 b).wf = true := wfI_iff.2 (by omega)
    have e1 : juristref14_Atom.f (rd l (i : Int)) = some (litAtom (rd l (i : Int))) := by rw [atom_some hwx, litAtom_wf hx.2]
    have e2 : juristref14_Atom.f b = some (litAtom b) := by rw [atom_some hwb, litAtom_wf hb]
    have next := fun b' hb' => ih (i + 1) (by omega) b' hb'
    refine Ev.step (fun k => by simp only [juristref14_Normal.l1]; rw [if_pos (by omega), if_pos (by omega), wrap_succ (by omega)]) ?_
    refine Ev.bind hhas ?_
    by_cases hc : out.contains (rd l (i : Int)) = true
    · rw [if_pos hc] at h
      refine ev_pos hc (next b hb h)
    · rw [if_neg hc] at h
      refine ev_neg hc ?_
      by_cases hb0 : b = 0
      · rw [if_pos hb0] at h
        exact ev_pos hb0 (next _ hx.2 h)
      · rw [if_neg hb0] at h
        refine ev_neg hb0 ?_
        refine ev_got e1 (ev_got e2 ?_)
        by_cases hlt2 : litAtom (rd l (i : Int)) < litAtom b
        · rw [if_pos (.inl hlt2)] at h
          exact ev_pos hlt2 (next _ hx.2 h)
        · refine ev_neg hlt2 (ev_got e1 (ev_got e2 ?_))
          by_cases heq : litAtom (rd l (i : Int)) = litAtom b
          · refine ev_pos heq ?_
            by_cases hgt : rd l (i : Int) > b
            · rw [if_pos (.inr ⟨heq, hgt⟩)] at h
              exact ev_pos hgt (next _ hx.2 h)
            · rw [if_neg (by unfold litLt; omega)] at h
              exact ev_neg hgt (next b hb h)
          · rw [if_neg (by unfold litLt; omega)] at h
            exact ev_neg heq (next b hb h)

theorem length_filter_lt {p : Int → Bool} : ∀ {l : List Int} {x : Int}, x ∈ l → p x = false → (l.filter p).length < l.length
  | [], _, h, _ => by simp at h
  | y :: l, x, h, hp => by
    rw [List.length_cons]
    rcases List.mem_cons.1 h with rfl | h
    · rw [List.filter_cons_of_neg (by simp [hp])]
      have := List.length_filter_le p l
      omega
    · have := length_filter_lt h hp
      by_cases hy : p y = true
      · rw [List.filter_cons_of_pos hy, List.length_cons]; omega
      · rw [List.filter_cons_of_neg hy]; omega

/-- The document's form of a list without 0. -/
theorem normal_ev (l : List Int) (hl : l.length < 17592186044416) (hw : ∀ x ∈ l, x ≠ 0 ∧ -9223372036854775807 ≤ x ∧ x ≤ 9223372036854775807) : Ev (fun k => juristref14_Normal.f k l) (canon l) := by
  unfold juristref14_Normal.f
  suffices H : ∀ n (out : List Int), (l.filter fun x => !out.contains x).length ≤ n → out.length + n ≤ l.length → out.Pairwise litLt → (∀ x ∈ out, x ∈ l) → (∀ x ∈ out, ∀ y ∈ l, y ∉ out → litLt x y) → Ev (fun k => juristref14_Normal.l0 k l out) (canon l) from
    H l.length [] (List.length_filter_le _ _) (by simp) (by simp) (by simp) (by simp)
  intro n
  induction n with
  | zero =>
    intro out hn hlen hp hs ha
    have hall : ∀ x ∈ l, x ∈ out := by
      intro x hx
      have h0 : (l.filter fun x => !out.contains x) = [] := List.eq_nil_of_length_eq_zero (by omega)
      have := List.filter_eq_nil_iff.1 h0 x hx
      simpa using this
    refine Ev.step (f := fun k => juristref14_Normal.l1 k l out 0 0) (fun k => rfl) ?_
    refine normal_inner l out _ (by omega) (by omega) hw l.length 0 (by omega) 0 (by omega) ?_
    have hb : bestOf out (l.drop 0) 0 = 0 := ((bestOf_spec out _ 0 (fun x hx => (hw x (by simpa using hx)).1)).1).2 ⟨rfl, by simpa using hall⟩
    refine ev_pos hb ?_
    rw [canon_eq hp (fun x => ⟨fun h => hs x h, fun h => hall x h⟩)]
    exact ev_ret _
  | succ n ih =>
    intro out hn hlen hp hs ha
    refine Ev.step (f := fun k => juristref14_Normal.l1 k l out 0 0) (fun k => rfl) ?_
    refine normal_inner l out _ (by omega) (by omega) hw l.length 0 (by omega) 0 (by omega) ?_
    rw [List.drop_zero]
    obtain ⟨h1, h2⟩ := bestOf_spec out l 0 (fun x hx => (hw x hx).1)
    by_cases hb : bestOf out l 0 = 0
    · refine ev_pos hb ?_
      have hall := (h1.1 hb).2
      rw [canon_eq hp (fun x => ⟨fun h => hs x h, fun h => hall x h⟩)]
      exact ev_ret _
    · refine ev_neg hb (ev_pos (by omega) ?_)
      obtain ⟨a, _, c⟩ := h2 hb
      have hm : bestOf out l 0 ∈ l ∧ bestOf out l 0 ∉ out := by
        rcases a with a | a
        · exact absurd a hb
        · exact a
      generalize bestOf out l 0 = b at *
      refine ih (out ++ [b]) ?_ (by simp; omega) ?_ ?_ ?_
      · have e : (l.filter fun x => !(out ++ [b]).contains x) = (l.filter fun x => !out.contains x).filter fun x => x != b := by
          rw [List.filter_filter]
          congr 1
          funext x
          rw [Bool.eq_iff_iff]
          simp [and_comm]
        rw [e]
        have : b ∈ l.filter fun x => !out.contains x := by
          rw [List.mem_filter]; exact ⟨hm.1, by simpa using hm.2⟩
        have := length_filter_lt (p := fun x => x != b) this (by simp)
        omega
      · rw [List.pairwise_append]
        refine ⟨hp, by simp, fun x hx y hy => ?_⟩
        have : y = b := by simpa using hy
        subst this
        exact ha x hx y hm.1 hm.2
      · intro x hx
        rcases List.mem_append.1 hx with hx | hx
        · exact hs x hx
        · have : x = b := by simpa using hx
          subst this; exact hm.1
      · intro x hx y hy hyo
        have hyo' : y ∉ out ∧ y ≠ b := by simpa using hyo
        rcases List.mem_append.1 hx with hx | hx
        · exact ha x hx y hy hyo'.1
        · have : x = b := by simpa using hx
          subst this
          rcases litLt_total x y with k | k | k
          · exact k
          · exact absurd k.symm hyo'.2
          · exact absurd k (c y hy hyo'.1)
end Go.Proofs.Ytiajmgmidfinfaa.Pure
