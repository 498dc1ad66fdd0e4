/- How data that is handed in is read as rows of kinds: whole numbers, slices, structs, one within another. Over any program. -/
import Derived.Test.YtiajmgmidfinfaaWMore
import Derived.Test.YtiajmgmidfinfaaWN
import Derived.ChangeArms
import Derived.ChangeSlices
import Derived.SizedLaws
namespace Go.Proofs.Ytiajmgmidfinfaa.Open
open Go.RowKit Go.ChangeShapes Go.WideShapes Go.Proofs.YtiajmgmidfinfaaW.PrintWords Go.Proofs.YtiajmgmidfinfaaW.PrintLast Go.Proofs.YtiajmgmidfinfaaW.PrintMore

/-- What is read as data of type t is of the kind d, and meets wf. -/
def Opens (P : Program) (t : TypeId) {α : Type} (d : Kd α) (wf : α → Prop) : Prop :=
  ∀ (H : Type) (enc : TypeId × Value → H) (W : World) (fuel : Nat) (cs : List Value) (x : DataW H × List MemPlace), DataW.trod enc P W 0 (fun _ => true) true fuel t cs = some x → ∃ a, d.K W a cs ∧ wf a
/-- .. of a struct's fields from an offset on. -/
def OpensF (P : Program) (fs : List Field) (off : Nat) {α : Type} (d : Kd α) (wf : α → Prop) : Prop :=
  ∀ (H : Type) (enc : TypeId × Value → H) (W : World) (fuel : Nat) (cs : List Value), cs.length = off + d.sz → (∀ f ∈ fs, ∃ y, DataW.trod enc P W 0 (fun _ => true) true fuel f.type ((cs.drop f.offset).take (P.cellsOf f.type)) = some y) → ∃ a, d.K W a (cs.drop off) ∧ wf a

variable {P : Program} {t e : TypeId}
theorem opens_int {k : IntKind} (ht : P.underlying t = some (.int k)) : Opens P t (Kd.int k) (fun x => (Lit.int k x).wf = true) := by
  intro H enc W fuel cs x h
  obtain ⟨n, rfl, _, hw⟩ := DataW.trod_int ht h
  exact ⟨n, rfl, hw⟩

theorem slice_elems {α : Type} {d : Kd α} {wf : α → Prop} (hc : P.cellsOf e = d.sz) (ho : Opens P e d wf) {H : Type} {enc : TypeId × Value → H} {W : World} {a : Addr} {n : Nat} {elems : List (DataW H × List MemPlace)} :
    ∀ m, m ≤ elems.length → (∀ i, i < elems.length → (W.cells? 0 (a.add (i * P.cellsOf e)) (P.cellsOf e)).bind (DataW.trod enc P W 0 (fun _ => true) true n e) = elems[i]?) →
      ∃ xs : List α, xs.length = m ∧ (∀ j p, xs[j]? = some p → ∃ c, c.length = d.sz ∧ d.K W p c ∧ ∀ i u, c[i]? = some u → W.cell? (a.add (j * d.sz + i)) = some u) ∧ ∀ x ∈ xs, wf x := by
  intro m
  induction m with
  | zero => intro _ _; exact ⟨[], rfl, by simp, by simp⟩
  | succ m ih =>
    intro hm hel
    obtain ⟨xs, hl, hx, hw⟩ := ih (by omega) hel
    have h := hel m (by omega)
    rw [List.getElem?_eq_getElem (by omega), Option.bind_eq_some_iff] at h
    obtain ⟨cs, h1, h2⟩ := h
    obtain ⟨p, hp, hwp⟩ := ho H enc W n cs _ h2
    obtain ⟨_, hlen, hcell⟩ := World.cells?_some h1
    rw [hc] at hlen hcell
    refine ⟨xs ++ [p], by simp [hl], fun j q hq => ?_, fun x hx' => ?_⟩
    · rcases Nat.lt_or_ge j xs.length with hj | hj
      · rw [List.getElem?_append_left hj] at hq
        exact hx j q hq
      · have hj' : j = m := by
          have := (List.getElem?_eq_some_iff.1 hq).1
          rw [List.length_append, List.length_singleton] at this
          omega
        subst hj'
        have hq' : p = q := by rw [← hl] at hq; simpa using hq
        subst hq'
        refine ⟨cs, hlen, hp, fun i u hu => ?_⟩
        have hi : i < d.sz := by
          have := (List.getElem?_eq_some_iff.1 hu).1
          omega
        have := hcell i hi
        rw [hu] at this
        rw [← this]
        congr 1
        unfold Addr.add
        by_cases hz : i = 0
        · subst hz; simp
        · by_cases hy : j * d.sz = 0
          · simp [hy, hz]
          · simp [hy, hz, Nat.add_assoc]
    · rcases List.mem_append.1 hx' with h | h
      · exact hw x h
      · have : x = p := by simpa using h
        subst this
        exact hwp

/-- A slice: its row; and how long its data are. -/
theorem opens_row {α : Type} {d : Kd α} {wf : α → Prop} (ht : P.underlying t = some (.slice e)) (hc : P.cellsOf e = d.sz) (ho : Opens P e d wf) {H : Type} {enc : TypeId × Value → H} {W : World} {fuel : Nat} {cs : List Value} {x : DataW H × List MemPlace}
    (h : DataW.trod enc P W 0 (fun _ => true) true fuel t cs = some x) :
    ∃ (A : Option Addr) (c : Nat) (xs : List α), cs = [.slice A xs.length c] ∧ xs.length ≤ c ∧ Kd.C d W A xs.length xs ∧ (∀ x ∈ xs, wf x) ∧ (xs = [] ∨ ∃ el sp, x.1 = .slice el sp ∧ el.length = xs.length) := by
  rcases DataW.trod_slice ht h with ⟨rfl, rfl⟩ | ⟨a, len, cap, elems, rest, n, _, rfl, rfl, _, hl, hm, hlen, hel, _⟩
  · exact ⟨none, 0, [], rfl, Nat.le_refl _, ⟨rfl, by simp, fun h => absurd h (by simp)⟩, by simp, .inl rfl⟩
  · obtain ⟨xs, h1, h2, h3⟩ := slice_elems hc ho elems.length (Nat.le_refl _) (fun i hi => hel i (by omega))
    have e1 : xs.length = len := by omega
    refine ⟨some a, cap, xs, by rw [e1], by omega, ⟨rfl, ?_, fun _ => ⟨a, rfl, h2⟩⟩, h3, .inr ⟨_, _, rfl, by simp; omega⟩⟩
    unfold maxLen at hm
    omega
theorem opens_slice {α : Type} {d : Kd α} {wf : α → Prop} (ht : P.underlying t = some (.slice e)) (hc : P.cellsOf e = d.sz) (ho : Opens P e d wf) : Opens P t (Kd.slice e d) (fun xs => ∀ x ∈ xs, wf x) := by
  intro H enc W fuel cs x h
  obtain ⟨A, c, xs, rfl, hl, hC, hw, _⟩ := opens_row ht hc ho h
  exact ⟨xs, ⟨A, c, rfl, hl, hC⟩, hw⟩
theorem fields_last {f : Field} {off : Nat} {α : Type} {d : Kd α} {wf : α → Prop} (hf : f.offset = off) (hc : P.cellsOf f.type = d.sz) (ho : Opens P f.type d wf) : OpensF P [f] off d wf := by
  intro H enc W fuel cs hlen h
  obtain ⟨y, hy⟩ := h f (by simp)
  rw [hf, hc, List.take_of_length_le (by simp; omega)] at hy
  exact ho H enc W fuel _ y hy
theorem fields_cons {f : Field} {fs : List Field} {off : Nat} {α β : Type} {d : Kd α} {d' : Kd β} {wf : α → Prop} {wf' : β → Prop} (hf : f.offset = off) (hc : P.cellsOf f.type = d.sz) (ho : Opens P f.type d wf) (hr : OpensF P fs (off + d.sz) d' wf') :
    OpensF P (f :: fs) off (Kd.pair d d') (fun x => wf x.1 ∧ wf' x.2) := by
  intro H enc W fuel cs hlen h
  have hsz : (Kd.pair d d').sz = d.sz + d'.sz := rfl
  rw [hsz] at hlen
  obtain ⟨y, hy⟩ := h f (by simp)
  rw [hf, hc] at hy
  obtain ⟨a, ha, hwa⟩ := ho H enc W fuel _ y hy
  obtain ⟨b, hb, hwb⟩ := hr H enc W fuel cs (by omega) (fun g hg => h g (by simp [hg]))
  refine ⟨(a, b), ⟨_, _, ?_, ha, hb⟩, hwa, hwb⟩
  rw [← List.drop_drop, List.take_append_drop]
theorem opens_struct {fs : Array Field} {α : Type} {d : Kd α} {wf : α → Prop} (ht : P.underlying t = some (.struct fs)) (hc : P.cellsOf t = d.sz) (ho : OpensF P fs.toList 0 d wf) : Opens P t d wf := by
  intro H enc W fuel cs x h
  obtain ⟨xs, n, _, _, hlen, hsz, hf⟩ := DataW.trod_struct ht h
  have := ho H enc W n cs (by omega) (fun f hfm => by
    obtain ⟨i, hi, rfl⟩ := List.getElem_of_mem hfm
    have hi' : i < fs.size := by simpa using hi
    have := hf i fs[i] (by simp [hi'])
    refine ⟨xs[i]'(by omega), ?_⟩
    rw [List.getElem?_eq_getElem (by omega)] at this
    simpa using this)
  simpa using this
theorem opens_iso {α β : Type} {d : Kd α} {wf : α → Prop} (f : β → α) (g : α → β) (hfg : ∀ x, f (g x) = x) (h : Opens P t d wf) : Opens P t (Kd.iso d f) (fun y => wf (f y)) := by
  intro H enc W fuel cs x hx
  obtain ⟨a, ha, hw⟩ := h H enc W fuel cs x hx
  exact ⟨g a, by show d.K W (f (g a)) cs; rw [hfg]; exact ha, by show wf (f (g a)); rw [hfg]; exact hw⟩
/-- No longer than the row's weight allows. -/
theorem sized_row {H : Type} {α : Type} {xs : List α} {d : DataW H} {ts : List TypeId} {ds : List (DataW H)} {j : Nat}
    (hsz : (DataW.weightsEach P ts ds).all (· ≤ reachBytes) = true) (ht : ts[j]? = some t) (hd : ds[j]? = some d) (hu : P.underlying t = some (.slice e)) {B : Nat} (hB : P.bytesOf e = B)
    (h : xs = [] ∨ ∃ el sp, d = .slice el sp ∧ el.length = xs.length) : xs.length * B ≤ 140737488351232 := by
  rcases h with rfl | ⟨el, sp, rfl, hl⟩
  · simp
  · have z := sized_slice hsz ht hd hu
    rw [hB] at z
    refine Nat.le_trans (Nat.mul_le_mul_right _ ?_) z
    omega
end Go.Proofs.Ytiajmgmidfinfaa.Open
