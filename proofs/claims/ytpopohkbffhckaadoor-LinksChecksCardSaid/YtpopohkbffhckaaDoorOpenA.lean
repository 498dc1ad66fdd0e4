/- How data that is handed in is read as rows of kinds: whole numbers, slices, structs, one within another. Over any program. How data that is handed in is read as rows of kinds, and that each slice of it, one within another too, is short: out of the bound on what is handed in. Over any program. How the struct types of this seat's laws are read as data. -/
import Derived.Test.YtpopohkbffhckaaDoorWMore
import Derived.Test.YtpopohkbffhckaaDoorWN
import Derived.ChangeArms
import Derived.ChangeSlices
import Derived.SizedLaws
import Derived.Test.YtpopohkbffhckaaDoorHkx0
import Derived.KernelRfl
namespace Go.Proofs.YtpopohkbffhckaaDoor.Open
open Go.RowKit Go.ChangeShapes Go.WideShapes Go.Proofs.YtpopohkbffhckaaDoorW.PrintWords Go.Proofs.YtpopohkbffhckaaDoorW.PrintLast Go.Proofs.YtpopohkbffhckaaDoorW.PrintMore

/-- What is read as data of type t is of the kind d, and meets wf. -/
def Opens (P : Program) (t : TypeId) {α : Type} (d : Kd α) (wf : α → Prop) : Prop :=
 ∀ (H : Type) (enc : TypeId × Value → H) (W : World) (fuel : Nat) (cs : List Value) (x : DataW H × List MemPlace), DataW.trod enc P W 0 (fun _ => true) true fuel t cs = some x → ∃ a, d.K W a cs ∧ wf a
/-- .. of a struct's fields from an offset on. -/
def OpensF (P : Program) (fs : List Field) (off : Nat) {α : Type} (d : Kd α) (wf : α → Prop) : Prop :=
 ∀ (H : Type) (enc : TypeId × Value → H) (W : World) (fuel : Nat) (cs : List Value), cs.length = off + d.sz → (∀ f ∈ fs, ∃ y, DataW.trod enc P W 0 (fun _ => true) true fuel f.type ((cs.drop f.offset).take (P.cellsOf f.type)) = some y) → ∃ a, d.K W a (cs.drop off) ∧ wf a

variable {P : Program} {t e : TypeId}
theorem opens_int {k : IntKind} (ht : P.underlying t = some (.int k)) : Opens P t (Kd.int k) (fun x => (Lit.int k x).wf = true) := by
 intro H enc W fuel cs x h
 obtain ⟨n, rfl, _, hw⟩ := DataW.trod_int ht h
 exact ⟨n, rfl, hw⟩

theorem slice_elems {α : Type} {d : Kd α} {wf : α → Prop} (hc : P.cellsOf e = d.sz) (ho : Opens P e d wf) {H : Type} {enc : TypeId × Value → H} {W : World} {a : Addr} {n : Nat} {elems : List (DataW H × List MemPlace)} :
 ∀ m, m ≤ elems.length → (∀ i, i < elems.length → (W.cells? 0 (a.add (i * P.cellsOf e)) (P.cellsOf e)).bind (DataW.trod enc P W 0 (fun _ => true) true n e) = elems[i]?) →
  ∃ xs : List α, xs.length = m ∧ (∀ j p, xs[j]? = some p → ∃ c, c.length = d.sz ∧ d.K W p c ∧ ∀ i u, c[i]? = some u → W.cell? (a.add (j * d.sz + i)) = some u) ∧ ∀ x ∈ xs, wf x := by
 intro m
 induction m with
 | zero => intro _ _; exact ⟨[], rfl, by simp, by simp⟩
 | succ m ih =>
  intro hm hel
  obtain ⟨xs, hl, hx, hw⟩ := ih (by omega) hel
  have h := hel m (by omega)
  rw [List.getElem?_eq_getElem (by omega), Option.bind_eq_some_iff] at h
  obtain ⟨cs, h1, h2⟩ := h
  obtain ⟨p, hp, hwp⟩ := ho H enc W n cs _ h2
  obtain ⟨_, hlen, hcell⟩ := World.cells?_some h1
  rw [hc] at hlen hcell
  refine ⟨xs ++ [p], by simp [hl], fun j q hq => ?_, fun x hx' => ?_⟩
  ·
   rcases Nat.lt_or_ge j xs.length with hj | hj
   ·
    rw [List.getElem?_append_left hj] at hq
    exact hx j q hq
   ·
    have hj' : j = m := by
     have := (List.getElem?_eq_some_iff.1 hq).1
     rw [List.length_append, List.length_singleton] at this
     omega
    subst hj'
    have hq' : p = q := by rw [← hl] at hq; simpa using hq
    subst hq'
    refine ⟨cs, hlen, hp, fun i u hu => ?_⟩
    have hi : i < d.sz := by
     have := (List.getElem?_eq_some_iff.1 hu).1
     omega
    have := hcell i hi
    rw [hu] at this
    rw [← this]
    congr 1
    unfold Addr.add
    by_cases hz : i = 0
    ·
     subst hz; simp
    ·
     by_cases hy : j * d.sz = 0
     ·
      simp [hy, hz]
     ·
      simp [hy, hz, Nat.add_assoc]
  ·
   rcases List.mem_append.1 hx' with h | h
   ·
    exact hw x h
   ·
    have : x = p := by simpa using h
    subst this
    exact hwp

/-- A slice: its row; and how long its data are. -/
theorem opens_row {α : Type} {d : Kd α} {wf : α → Prop} (ht : P.underlying t = some (.slice e)) (hc : P.cellsOf e = d.sz) (ho : Opens P e d wf) {H : Type} {enc : TypeId × Value → H} {W : World} {fuel : Nat} {cs : List Value} {x : DataW H × List MemPlace}
 (h : DataW.trod enc P W 0 (fun _ => true) true fuel t cs = some x) :
 ∃ (A : Option Addr) (c : Nat) (xs : List α), cs = [.slice A xs.length c] ∧ xs.length ≤ c ∧ Kd.C d W A xs.length xs ∧ (∀ x ∈ xs, wf x) ∧ (xs = [] ∨ ∃ el sp, x.1 = .slice el sp ∧ el.length = xs.length) := by
 rcases DataW.trod_slice ht h with ⟨rfl, rfl⟩ | ⟨a, len, cap, elems, rest, n, _, rfl, rfl, _, hl, hm, hlen, hel, _⟩
 ·
  exact ⟨none, 0, [], rfl, Nat.le_refl _, ⟨rfl, by simp, fun h => absurd h (by simp)⟩, by simp, .inl rfl⟩
 ·
  obtain ⟨xs, h1, h2, h3⟩ := slice_elems hc ho elems.length (Nat.le_refl _) (fun i hi => hel i (by omega))
  have e1 : xs.length = len := by omega
  refine ⟨some a, cap, xs, by rw [e1], by omega, ⟨rfl, ?_, fun _ => ⟨a, rfl, h2⟩⟩, h3, .inr ⟨_, _, rfl, by simp; omega⟩⟩
  unfold maxLen at hm
  omega
theorem opens_slice {α : Type} {d : Kd α} {wf : α → Prop} (ht : P.underlying t = some (.slice e)) (hc : P.cellsOf e = d.sz) (ho : Opens P e d wf) : Opens P t (Kd.slice e d) (fun xs => ∀ x ∈ xs, wf x) := by
 intro H enc W fuel cs x h
 obtain ⟨A, c, xs, rfl, hl, hC, hw, _⟩ := opens_row ht hc ho h
 exact ⟨xs, ⟨A, c, rfl, hl, hC⟩, hw⟩
theorem fields_last {f : Field} {off : Nat} {α : Type} {d : Kd α} {wf : α → Prop} (hf : f.offset = off) (hc : P.cellsOf f.type = d.sz) (ho : Opens P f.type d wf) : OpensF P [f] off d wf := by
 intro H enc W fuel cs hlen h
 obtain ⟨y, hy⟩ := h f (by simp)
 rw [hf, hc, List.take_of_length_le (by simp; omega)] at hy
 exact ho H enc W fuel _ y hy
theorem fields_cons {f : Field} {fs : List Field} {off : Nat} {α β : Type} {d : Kd α} {d' : Kd β} {wf : α → Prop} {wf' : β → Prop} (hf : f.offset = off) (hc : P.cellsOf f.type = d.sz) (ho : Opens P f.type d wf) (hr : OpensF P fs (off + d.sz) d' wf') :
 OpensF P (f :: fs) off (Kd.pair d d') (fun x => wf x.1 ∧ wf' x.2) := by
 intro H enc W fuel cs hlen h
 have hsz : (Kd.pair d d').sz = d.sz + d'.sz := rfl
 rw [hsz] at hlen
 obtain ⟨y, hy⟩ := h f (by simp)
 rw [hf, hc] at hy
 obtain ⟨a, ha, hwa⟩ := ho H enc W fuel _ y hy
 obtain ⟨b, hb, hwb⟩ := hr H enc W fuel cs (by omega) (fun g hg => h g (by simp [hg]))
 refine ⟨(a, b), ⟨_, _, ?_, ha, hb⟩, hwa, hwb⟩
 rw [← List.drop_drop, List.take_append_drop]
theorem opens_struct {fs : Array Field} {α : Type} {d : Kd α} {wf : α → Prop} (ht : P.underlying t = some (.struct fs)) (hc : P.cellsOf t = d.sz) (ho : OpensF P fs.toList 0 d wf) : Opens P t d wf := by
 intro H enc W fuel cs x h
 obtain ⟨xs, n, _, _, hlen, hsz, hf⟩ := DataW.trod_struct ht h
 have := ho H enc W n cs (by omega) (fun f hfm => by
  obtain ⟨i, hi, rfl⟩ := List.getElem_of_mem hfm
  have hi' : i < fs.size := by simpa using hi
  have := hf i fs[i] (by simp [hi'])
  refine ⟨xs[i]'(by omega), ?_⟩
  rw [List.getElem?_eq_getElem (by omega)] at this
  simpa using this)
 simpa using this
theorem opens_iso {α β : Type} {d : Kd α} {wf : α → Prop} (f : β → α) (g : α → β) (hfg : ∀ x, f (g x) = x) (h : Opens P t d wf) : Opens P t (Kd.iso d f) (fun y => wf (f y)) := by
 intro H enc W fuel cs x hx
 obtain ⟨a, ha, hw⟩ := h H enc W fuel cs x hx
 exact ⟨g a, by show d.K W (f (g a)) cs; rw [hfg]; exact ha, by show wf (f (g a)); rw [hfg]; exact hw⟩
/-- No longer than the row's weight allows. -/
theorem sized_row {H : Type} {α : Type} {xs : List α} {d : DataW H} {ts : List TypeId} {ds : List (DataW H)} {j : Nat}
 (hsz : (DataW.weightsEach P ts ds).all (· ≤ reachBytes) = true) (ht : ts[j]? = some t) (hd : ds[j]? = some d) (hu : P.underlying t = some (.slice e)) {B : Nat} (hB : P.bytesOf e = B)
 (h : xs = [] ∨ ∃ el sp, d = .slice el sp ∧ el.length = xs.length) : xs.length * B ≤ 140737488351232 := by
 rcases h with rfl | ⟨el, sp, rfl, hl⟩
 ·
  simp
 ·
  have z := sized_slice hsz ht hd hu
  rw [hB] at z
  refine Nat.le_trans (Nat.mul_le_mul_right _ ?_) z
  omega
end Go.Proofs.YtpopohkbffhckaaDoor.Open

namespace Go.Proofs.YtpopohkbffhckaaDoor.Open
open Go.RowKit Go.ChangeShapes Go.WideShapes Go.Proofs.YtpopohkbffhckaaDoorW.PrintWords Go.Proofs.YtpopohkbffhckaaDoorW.PrintLast Go.Proofs.YtpopohkbffhckaaDoorW.PrintMore

/-- All weights of the data are within reach. -/
def Light (P : Program) (t : TypeId) {H : Type} (d : DataW H) : Prop := ∀ n ∈ d.weights P t, n ≤ 140737488351232
/-- What is read as data of type t, none of it beyond reach, is of the kind d, and meets wf. -/
def OpensW (P : Program) (t : TypeId) {α : Type} (d : Kd α) (wf : α → Prop) : Prop :=
 ∀ (H : Type) (enc : TypeId × Value → H) (W : World) (fuel : Nat) (cs : List Value) (x : DataW H × List MemPlace), DataW.trod enc P W 0 (fun _ => true) true fuel t cs = some x → Light P t x.1 → ∃ a, d.K W a cs ∧ wf a
/-- .. of a struct's fields from an offset on. -/
def OpensFW (P : Program) (fs : List Field) (off : Nat) {α : Type} (d : Kd α) (wf : α → Prop) : Prop :=
 ∀ (H : Type) (enc : TypeId × Value → H) (W : World) (fuel : Nat) (cs : List Value), cs.length = off + d.sz → (∀ f ∈ fs, ∃ y, DataW.trod enc P W 0 (fun _ => true) true fuel f.type ((cs.drop f.offset).take (P.cellsOf f.type)) = some y ∧ Light P f.type y.1) → ∃ a, d.K W a (cs.drop off) ∧ wf a

variable {P : Program} {t e : TypeId}
theorem opensW_of {α : Type} {d : Kd α} {wf : α → Prop} (h : Opens P t d wf) : OpensW P t d wf := fun H enc W fuel cs x hx _ => h H enc W fuel cs x hx
theorem opens_bool (ht : P.underlying t = some .bool) : Opens P t Kd.bool (fun _ => True) := by
 intro H enc W fuel cs x h
 obtain ⟨b, rfl, _⟩ := DataW.trod_bool ht h
 exact ⟨b, rfl, trivial⟩
theorem weights_all {H : Type} {ds : List (DataW H)} {i : Nat} {d : DataW H} (h : ds[i]? = some d) : ∀ n ∈ d.weights P e, n ∈ DataW.weightsAll P e ds := by
 induction ds generalizing i with
 | nil => simp at h
 | cons a r ih =>
  intro n hn
  unfold DataW.weightsAll
  rw [List.mem_append]
  cases i with
  | zero =>
   have : a = d := by simpa using h
   rw [this]
   exact .inl hn
  | succ i => exact .inr (ih (by simpa using h) n hn)
theorem slice_elemsW {α : Type} {d : Kd α} {wf : α → Prop} (hc : P.cellsOf e = d.sz) (ho : OpensW P e d wf) {H : Type} {enc : TypeId × Value → H} {W : World} {a : Addr} {n : Nat} {elems : List (DataW H × List MemPlace)} (hl : ∀ (i : Nat) y, elems[i]? = some y → Light P e y.1) :
 ∀ m, m ≤ elems.length → (∀ i, i < elems.length → (W.cells? 0 (a.add (i * P.cellsOf e)) (P.cellsOf e)).bind (DataW.trod enc P W 0 (fun _ => true) true n e) = elems[i]?) →
  ∃ xs : List α, xs.length = m ∧ (∀ j p, xs[j]? = some p → ∃ c, c.length = d.sz ∧ d.K W p c ∧ ∀ i u, c[i]? = some u → W.cell? (a.add (j * d.sz + i)) = some u) ∧ ∀ x ∈ xs, wf x := by
 intro m
 induction m with
 | zero => intro _ _; exact ⟨[], rfl, by simp, by simp⟩
 | succ m ih =>
  intro hm hel
  obtain ⟨xs, hxl, hx, hw⟩ := ih (by omega) hel
  have h := hel m (by omega)
  rw [List.getElem?_eq_getElem (by omega), Option.bind_eq_some_iff] at h
  obtain ⟨cs, h1, h2⟩ := h
  obtain ⟨p, hp, hwp⟩ := ho H enc W n cs _ h2 (hl m _ (List.getElem?_eq_getElem (by omega)))
  obtain ⟨_, hlen, hcell⟩ := World.cells?_some h1
  rw [hc] at hlen hcell
  refine ⟨xs ++ [p], by simp [hxl], fun j q hq => ?_, fun x hx' => ?_⟩
  ·
   rcases Nat.lt_or_ge j xs.length with hj | hj
   ·
    rw [List.getElem?_append_left hj] at hq
    exact hx j q hq
   ·
    have hj' : j = m := by
     have := (List.getElem?_eq_some_iff.1 hq).1
     rw [List.length_append, List.length_singleton] at this
     omega
    subst hj'
    have hq' : p = q := by rw [← hxl] at hq; simpa using hq
    subst hq'
    refine ⟨cs, hlen, hp, fun i u hu => ?_⟩
    have hi : i < d.sz := by
     have := (List.getElem?_eq_some_iff.1 hu).1
     omega
    have := hcell i hi
    rw [hu] at this
    rw [← this]
    congr 1
    unfold Addr.add
    by_cases hz : i = 0
    ·
     subst hz; simp
    ·
     by_cases hy : j * d.sz = 0
     ·
      simp [hy, hz]
     ·
      simp [hy, hz, Nat.add_assoc]
  ·
   rcases List.mem_append.1 hx' with h | h
   ·
    exact hw x h
   ·
    have : x = p := by simpa using h
    subst this
    exact hwp
/-- A slice: its row; and how long its data are. -/
theorem opens_rowW {α : Type} {d : Kd α} {wf : α → Prop} (ht : P.underlying t = some (.slice e)) (hc : P.cellsOf e = d.sz) (ho : OpensW P e d wf) {H : Type} {enc : TypeId × Value → H} {W : World} {fuel : Nat} {cs : List Value} {x : DataW H × List MemPlace}
 (h : DataW.trod enc P W 0 (fun _ => true) true fuel t cs = some x) (hL : Light P t x.1) :
 ∃ (A : Option Addr) (c : Nat) (xs : List α), cs = [.slice A xs.length c] ∧ xs.length ≤ c ∧ Kd.C d W A xs.length xs ∧ (∀ x ∈ xs, wf x) ∧ xs.length * P.bytesOf e ≤ 140737488351232 := by
 rcases DataW.trod_slice ht h with ⟨rfl, rfl⟩ | ⟨a, len, cap, elems, rest, n, _, rfl, rfl, _, hl, hm, hlen, hel, _⟩
 ·
  exact ⟨none, 0, [], rfl, Nat.le_refl _, ⟨rfl, by simp, fun h => absurd h (by simp)⟩, by simp, by simp⟩
 ·
  have hw0 : ∀ n ∈ DataW.weights P t (.slice (elems.map (·.1)) (rest.map (·.1))), n ≤ 140737488351232 := hL
  unfold DataW.weights at hw0
  rw [ht] at hw0
  obtain ⟨xs, h1, h2, h3⟩ := slice_elemsW hc ho (elems := elems) (fun i y hy n hn => hw0 n (List.mem_cons_of_mem _ (List.mem_append_left _ (weights_all (i := i) (by simp [hy]) n hn)))) elems.length (Nat.le_refl _) (fun i hi => hel i (by omega))
  have e1 : xs.length = len := by omega
  refine ⟨some a, cap, xs, by rw [e1], by omega, ⟨rfl, ?_, fun _ => ⟨a, rfl, h2⟩⟩, h3, ?_⟩
  ·
   unfold maxLen at hm
   omega
  ·
   have := hw0 _ (List.mem_cons_self ..)
   refine Nat.le_trans (Nat.mul_le_mul_right _ ?_) this
   simp
   omega
theorem opensW_slice {α : Type} {d : Kd α} {wf : α → Prop} (ht : P.underlying t = some (.slice e)) (hc : P.cellsOf e = d.sz) (B : Nat) (hB : P.bytesOf e = B) (ho : OpensW P e d wf) : OpensW P t (Kd.slice e d) (fun xs => (∀ x ∈ xs, wf x) ∧ xs.length * B ≤ 140737488351232) := by
 subst hB
 intro H enc W fuel cs x h hL
 obtain ⟨A, c, xs, rfl, hl, hC, hw, hb⟩ := opens_rowW ht hc ho h hL
 exact ⟨xs, ⟨A, c, rfl, hl, hC⟩, hw, hb⟩
theorem fieldsW_last {f : Field} {off : Nat} {α : Type} {d : Kd α} {wf : α → Prop} (hf : f.offset = off) (hc : P.cellsOf f.type = d.sz) (ho : OpensW P f.type d wf) : OpensFW P [f] off d wf := by
 intro H enc W fuel cs hlen h
 obtain ⟨y, hy, hL⟩ := h f (by simp)
 rw [hf, hc, List.take_of_length_le (by simp; omega)] at hy
 exact ho H enc W fuel _ y hy hL
theorem fieldsW_cons {f : Field} {fs : List Field} {off : Nat} {α β : Type} {d : Kd α} {d' : Kd β} {wf : α → Prop} {wf' : β → Prop} (hf : f.offset = off) (hc : P.cellsOf f.type = d.sz) (ho : OpensW P f.type d wf) (hr : OpensFW P fs (off + d.sz) d' wf') :
 OpensFW P (f :: fs) off (Kd.pair d d') (fun x => wf x.1 ∧ wf' x.2) := by
 intro H enc W fuel cs hlen h
 have hsz : (Kd.pair d d').sz = d.sz + d'.sz := rfl
 rw [hsz] at hlen
 obtain ⟨y, hy, hL⟩ := h f (by simp)
 rw [hf, hc] at hy
 obtain ⟨a, ha, hwa⟩ := ho H enc W fuel _ y hy hL
 obtain ⟨b, hb, hwb⟩ := hr H enc W fuel cs (by omega) (fun g hg => h g (by simp [hg]))
 refine ⟨(a, b), ⟨_, _, ?_, ha, hb⟩, hwa, hwb⟩
 rw [← List.drop_drop, List.take_append_drop]
theorem opensW_struct {fs : Array Field} {α : Type} {d : Kd α} {wf : α → Prop} (ht : P.underlying t = some (.struct fs)) (hc : P.cellsOf t = d.sz) (ho : OpensFW P fs.toList 0 d wf) : OpensW P t d wf := by
 intro H enc W fuel cs x h hL
 obtain ⟨xs, n, _, hx, hlen, hsz, hf⟩ := DataW.trod_struct ht h
 have hL' : ∀ n ∈ DataW.weightsEach P (fs.toList.map (·.type)) (xs.map (·.1)), n ≤ 140737488351232 := by
  have h6 := hL
  rw [hx] at h6
  unfold Light DataW.weights at h6
  rw [ht] at h6
  exact h6
 have := ho H enc W n cs (by omega) (fun f hfm => by
  obtain ⟨i, hi, rfl⟩ := List.getElem_of_mem hfm
  have hi' : i < fs.size := by simpa using hi
  have h5 := hf i fs[i] (by simp [hi'])
  refine ⟨xs[i]'(by omega), ?_, ?_⟩
  ·
   rw [List.getElem?_eq_getElem (by omega)] at h5
   simpa using h5
  ·
   exact fun n hn => hL' n (DataW.weights_mem_each (j := i) (by simp [hi']) (by rw [List.getElem?_map, List.getElem?_eq_getElem (by omega)]; rfl) n hn))
 simpa using this
theorem opensW_iso {α β : Type} {d : Kd α} {wf : α → Prop} (f : β → α) (g : α → β) (hfg : ∀ x, f (g x) = x) (h : OpensW P t d wf) : OpensW P t (Kd.iso d f) (fun y => wf (f y)) := by
 intro H enc W fuel cs x hx hL
 obtain ⟨a, ha, hw⟩ := h H enc W fuel cs x hx hL
 exact ⟨g a, by show d.K W (f (g a)) cs; rw [hfg]; exact ha, by show wf (f (g a)); rw [hfg]; exact hw⟩
theorem light_of {H : Type} {ts : List TypeId} {ds : List (DataW H)} {j : Nat} {d : DataW H} (hsz : (DataW.weightsEach P ts ds).all (· ≤ reachBytes) = true) (ht : ts[j]? = some t) (hd : ds[j]? = some d) : Light P t d :=
 fun n hn => of_decide_eq_true (List.all_eq_true.1 hsz _ (DataW.weights_mem_each ht hd n hn))
end Go.Proofs.YtpopohkbffhckaaDoor.Open

namespace Go.Proofs.YtpopohkbffhckaaDoor.Open
open Go.ChangeShapes Go.WideShapes Go.RowKit Go.Proofs.YtpopohkbffhckaaDoor.Hk Go.Proofs.YtpopohkbffhckaaDoorW.PrintWords Go.Proofs.YtpopohkbffhckaaDoorW.PrintLast Go.Proofs.YtpopohkbffhckaaDoorW.PrintMore
theorem opens_string {P : Program} {t : TypeId} (ht : P.underlying t = some .string) : Opens P t Kd.string (fun s => s.size ≤ maxLen) := by
 intro H enc W fuel cs x h
 obtain ⟨s, rfl, _, hw⟩ := DataW.trod_string ht h
 exact ⟨s, rfl, hw⟩
theorem opens46 : OpensW Tryd.prog 46 k46 (fun x => ((Lit.int .i64 x.f0).wf = true) ∧ ((∀ y ∈ x.f1, (Lit.int .i64 y).wf = true) ∧ x.f1.length * 8 ≤ 140737488351232) ∧ ((Lit.int .i64 x.f2).wf = true) ∧ ((Lit.int .i64 x.f3).wf = true) ∧ ((Lit.int .i64 x.f4).wf = true)) := by
 have h := opensW_iso (t := 46) (fun x : S46 => (x.f0, x.f1, x.f2, x.f3, x.f4)) (fun y => (⟨y.1, y.2.1, y.2.2.1, y.2.2.2.1, y.2.2.2.2⟩ : S46)) (fun _ => rfl) (opensW_struct Tryd.underlying46 (by kernel_rfl) (fieldsW_cons rfl (by kernel_rfl) (opensW_of (opens_int Tryd.underlying3)) (fieldsW_cons rfl (by kernel_rfl) (opensW_slice Tryd.underlying34 (by kernel_rfl) 8 (by kernel_rfl) (opensW_of (opens_int Tryd.underlying3))) (fieldsW_cons rfl (by kernel_rfl) (opensW_of (opens_int Tryd.underlying44)) (fieldsW_cons rfl (by kernel_rfl) (opensW_of (opens_int Tryd.underlying3)) (fieldsW_last rfl (by kernel_rfl) (opensW_of (opens_int Tryd.underlying2))))))))
 intro H enc W fuel cs x hx hL
 obtain ⟨a, ha, hw⟩ := h H enc W fuel cs x hx hL
 exact ⟨a, ha, hw⟩
theorem opens66 : OpensW Tryd.prog 66 k66 (fun x => ((Lit.int .u8 x.f0).wf = true) ∧ ((Lit.int .i64 x.f1).wf = true) ∧ ((Lit.int .i64 x.f2).wf = true) ∧ ((Lit.int .i64 x.f3).wf = true)) := by
 have h := opensW_iso (t := 66) (fun x : S66 => (x.f0, x.f1, x.f2, x.f3)) (fun y => (⟨y.1, y.2.1, y.2.2.1, y.2.2.2⟩ : S66)) (fun _ => rfl) (opensW_struct Tryd.underlying66 (by kernel_rfl) (fieldsW_cons rfl (by kernel_rfl) (opensW_of (opens_int Tryd.underlying64)) (fieldsW_cons rfl (by kernel_rfl) (opensW_of (opens_int Tryd.underlying3)) (fieldsW_cons rfl (by kernel_rfl) (opensW_of (opens_int Tryd.underlying3)) (fieldsW_last rfl (by kernel_rfl) (opensW_of (opens_int Tryd.underlying2)))))))
 intro H enc W fuel cs x hx hL
 obtain ⟨a, ha, hw⟩ := h H enc W fuel cs x hx hL
 exact ⟨a, ha, hw⟩
theorem opens36 : OpensW Tryd.prog 36 k36 (fun x => ((Lit.int .u8 x.f0).wf = true) ∧ ((Lit.int .i64 x.f1).wf = true) ∧ ((Lit.int .i64 x.f2).wf = true) ∧ ((Lit.int .i64 x.f3).wf = true) ∧ ((Lit.int .i64 x.f4).wf = true) ∧ ((Lit.int .i64 x.f5).wf = true) ∧ ((∀ y ∈ x.f6, (Lit.int .i64 y).wf = true) ∧ x.f6.length * 8 ≤ 140737488351232)) := by
 have h := opensW_iso (t := 36) (fun x : S36 => (x.f0, x.f1, x.f2, x.f3, x.f4, x.f5, x.f6)) (fun y => (⟨y.1, y.2.1, y.2.2.1, y.2.2.2.1, y.2.2.2.2.1, y.2.2.2.2.2.1, y.2.2.2.2.2.2⟩ : S36)) (fun _ => rfl) (opensW_struct Tryd.underlying36 (by kernel_rfl) (fieldsW_cons rfl (by kernel_rfl) (opensW_of (opens_int Tryd.underlying32)) (fieldsW_cons rfl (by kernel_rfl) (opensW_of (opens_int Tryd.underlying33)) (fieldsW_cons rfl (by kernel_rfl) (opensW_of (opens_int Tryd.underlying3)) (fieldsW_cons rfl (by kernel_rfl) (opensW_of (opens_int Tryd.underlying3)) (fieldsW_cons rfl (by kernel_rfl) (opensW_of (opens_int Tryd.underlying3)) (fieldsW_cons rfl (by kernel_rfl) (opensW_of (opens_int Tryd.underlying3)) (fieldsW_last rfl (by kernel_rfl) (opensW_slice Tryd.underlying34 (by kernel_rfl) 8 (by kernel_rfl) (opensW_of (opens_int Tryd.underlying3)))))))))))
 intro H enc W fuel cs x hx hL
 obtain ⟨a, ha, hw⟩ := h H enc W fuel cs x hx hL
 exact ⟨a, ha, hw⟩
end Go.Proofs.YtpopohkbffhckaaDoor.Open
