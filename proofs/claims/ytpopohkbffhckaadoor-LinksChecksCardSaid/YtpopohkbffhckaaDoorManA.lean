/- Plain law: the form of a list of literals: sorted by atoms (the greater one of a pair first), each once: what sorting and leaving out neighbours alike come to. No program in sight. What clauses.May and clauses.form of the given program answer: whether all are literals in bounds and not too many; and the form of a row. -/
import Derived.Shelf.SlSortCmp.NoneTotal
import Derived.Lib.SlicesCompact
import Derived.Test.YtpopohkbffhckaaDoorShelf
import Derived.Test.YtpopohkbffhckaaDoorWMore
import Derived.Lib.OwnBridge
import Derived.WalkKit
import Derived.WalkSpells
import Derived.Lib.Hide
namespace Go.Proofs.YtpopohkbffhckaaDoor.LF
open Go.Lib Go.Sort Go.Proofs

def litAtom (x : Int) : Int := if x < 0 then -x else x
/-- The order of a form. -/
def litLt (x y : Int) : Prop := litAtom x < litAtom y ∨ litAtom x = litAtom y ∧ y < x
instance (x y : Int) : Decidable (litLt x y) := by unfold litLt; infer_instance
def litLe (x y : Int) : Bool := !decide (litLt y x)
theorem litLt_irrefl (x : Int) : ¬ litLt x x := by unfold litLt; omega
theorem litLt_trans {x y z : Int} (h : litLt x y) (k : litLt y z) : litLt x z := by unfold litLt at *; omega
theorem litLt_total (x y : Int) : litLt x y ∨ x = y ∨ litLt y x := by unfold litLt litAtom; split <;> split <;> omega
theorem litLt_asymm {x y : Int} (h : litLt x y) : ¬ litLt y x := fun k => litLt_irrefl _ (litLt_trans h k)

/-- Two rising rows with the same members are one. -/
theorem rising_unique : ∀ {l m : List Int}, l.Pairwise litLt → m.Pairwise litLt → (∀ x, x ∈ l ↔ x ∈ m) → l = m
 | [], [], _, _, _ => rfl
 | [], b :: m, _, _, h => by have := (h b).2 (by simp); simp at this
 | a :: l, [], _, _, h => by have := (h a).1 (by simp); simp at this
 | a :: l, b :: m, hl, hm, h => by
  rw [List.pairwise_cons] at hl hm
  have e : a = b := by
   rcases litLt_total a b with hab | hab | hab
   ·
    have := (h a).1 (by simp)
    rcases List.mem_cons.1 this with rfl | hx
    ·
     rfl
    ·
     exact absurd hab (litLt_asymm (hm.1 a hx))
   ·
    exact hab
   ·
    have := (h b).2 (by simp)
    rcases List.mem_cons.1 this with rfl | hx
    ·
     rfl
    ·
     exact absurd hab (litLt_asymm (hl.1 b hx))
  subst e
  rw [rising_unique hl.2 hm.2 (fun x => ?_)]
  constructor
  ·
   intro hx
   rcases List.mem_cons.1 ((h x).1 (List.mem_cons_of_mem _ hx)) with rfl | hy
   ·
    exact absurd (hl.1 x hx) (litLt_irrefl x)
   ·
    exact hy
  ·
   intro hx
   rcases List.mem_cons.1 ((h x).2 (List.mem_cons_of_mem _ hx)) with rfl | hy
   ·
    exact absurd (hm.1 x hx) (litLt_irrefl x)
   ·
    exact hy

/-- Insertion into a rising row, each once. -/
def ins (x : Int) : List Int → List Int
 | [] => [x]
 | y :: l => if litLt x y then x :: y :: l else if x = y then y :: l else y :: ins x l
theorem mem_ins (x z : Int) : ∀ l, z ∈ ins x l ↔ z = x ∨ z ∈ l
 | [] => by simp [ins]
 | y :: l => by
  unfold ins
  split
  ·
   simp
  ·
   split
   ·
    rename_i h; subst h; simp
   ·
    simp [mem_ins x z l]; constructor <;> (rintro (h | h | h) <;> simp [h])
theorem rising_ins (x : Int) : ∀ {l}, l.Pairwise litLt → (ins x l).Pairwise litLt
 | [], _ => by simp [ins]
 | y :: l, h => by
  rw [List.pairwise_cons] at h
  unfold ins
  split
  ·
   rename_i hxy
   rw [List.pairwise_cons]
   refine ⟨fun z hz => ?_, List.pairwise_cons.2 h⟩
   rcases List.mem_cons.1 hz with rfl | hz
   ·
    exact hxy
   ·
    exact litLt_trans hxy (h.1 z hz)
  ·
   split
   ·
    exact List.pairwise_cons.2 h
   ·
    rename_i h1 h2
    rw [List.pairwise_cons]
    refine ⟨fun z hz => ?_, rising_ins x h.2⟩
    rcases (mem_ins x z l).1 hz with rfl | hz
    ·
     rcases litLt_total z y with k | k | k
     ·
      exact absurd k h1
     ·
      exact absurd k h2
     ·
      exact k
    ·
     exact h.1 z hz
/-- The form. -/
def canon (l : List Int) : List Int := l.foldr ins []
theorem mem_canon (x : Int) : ∀ l, x ∈ canon l ↔ x ∈ l
 | [] => by simp [canon]
 | y :: l => by
  have : canon (y :: l) = ins y (canon l) := rfl
  rw [this, mem_ins, mem_canon x l, List.mem_cons]
theorem rising_canon : ∀ l, (canon l).Pairwise litLt
 | [] => by simp [canon]
 | y :: l => rising_ins y (rising_canon l)
theorem canon_eq {l m : List Int} (hm : m.Pairwise litLt) (h : ∀ x, x ∈ m ↔ x ∈ l) : canon l = m :=
 rising_unique (rising_canon l) hm (fun x => by rw [mem_canon, h])
theorem length_ins_le (x : Int) : ∀ l, (ins x l).length ≤ l.length + 1
 | [] => by simp [ins]
 | y :: l => by
  unfold ins
  split
  ·
   simp
  ·
   split
   ·
    simp
   ·
    simp; exact length_ins_le x l
theorem length_canon_le : ∀ l, (canon l).length ≤ l.length
 | [] => by simp [canon]
 | y :: l => by
  have h1 : canon (y :: l) = ins y (canon l) := rfl
  have h2 := length_ins_le y (canon l)
  have h3 := length_canon_le l
  rw [h1, List.length_cons]
  omega

/-! #### what is handed to the library's sort -/
/-- Literals in bounds. -/
abbrev BL := {x : Int // -1048576 ≤ x ∧ x ≤ 1048576}
instance : Inhabited BL := ⟨⟨0, by omega⟩⟩
/-- What the code's comparison tells. -/
def litCf (x y : BL) : Int := if litAtom x.1 = litAtom y.1 then y.1 - x.1 else litAtom x.1 - litAtom y.1
theorem litCf_lt (x y : BL) : ltOf litCf x y = decide (litLt x.1 y.1) := by
 have h : litCf x y < 0 ↔ litLt x.1 y.1 := by
  unfold litCf litLt
  split <;> omega
 unfold ltOf
 exact decide_eq_decide.2 h
theorem litCf_swo : SWO (ltOf litCf) where
 irrefl x := by rw [litCf_lt]; exact decide_eq_false (litLt_irrefl _)
 trans x y z h k := by rw [litCf_lt] at *; exact decide_eq_true (litLt_trans (of_decide_eq_true h) (of_decide_eq_true k))
 ntrans x y z h k := by
  rw [litCf_lt] at *
  have h := of_decide_eq_false h
  have k := of_decide_eq_false k
  refine decide_eq_false fun hxz => ?_
  rcases litLt_total x.1 y.1 with a | a | a
  ·
   exact h a
  ·
   rw [a] at hxz; exact k hxz
  ·
   exact k (litLt_trans a hxz)
theorem litCf_parts (x y : BL) (h : ltOf litCf x y = false) (k : ltOf litCf y x = false) : x = y := by
 rw [litCf_lt] at *
 have h := of_decide_eq_false h
 have k := of_decide_eq_false k
 rcases litLt_total x.1 y.1 with a | a | a
 ·
  exact absurd a h
 ·
  exact Subtype.ext a
 ·
  exact absurd a k

/-- The neighbours alike left out of a row that falls nowhere: rising, with the same members. -/
theorem compact_rising (d : Array BL) (hs : ∀ i j, i < j → j < d.size → ¬ litLt d[j]!.1 d[i]!.1) : ∀ m, m ≤ d.size →
 (((compactUpTo d m).map (·.1)).Pairwise litLt) ∧ (∀ x, x ∈ (compactUpTo d m).map (·.1) ↔ ∃ j, j < m ∧ d[j]!.1 = x)
 | 0, _ => by simp [compactUpTo]
 | m + 1, hm => by
  obtain ⟨h1, h2⟩ := compact_rising d hs m (by omega)
  rw [compactUpTo_succ]
  by_cases hk : keeps d m = true
  ·
   rw [if_pos hk, List.map_append, List.map_cons, List.map_nil]
   constructor
   ·
    rw [List.pairwise_append]
    refine ⟨h1, by simp, fun a ha b hb => ?_⟩
    have hb' : b = d[m]!.1 := by simpa using hb
    subst hb'
    obtain ⟨j, hj, rfl⟩ := (h2 a).1 ha
    rcases litLt_total d[j]!.1 d[m]!.1 with k | k | k
    ·
     exact k
    ·
     exfalso
     have hm0 : m ≠ 0 := by omega
     have hne : d[m]! ≠ d[m - 1]! := by
      have := of_decide_eq_true hk
      rcases this with h | h
      ·
       exact absurd h hm0
      ·
       exact h
     apply hne
     apply Subtype.ext
     rcases litLt_total d[m]!.1 d[m - 1]!.1 with q | q | q
     ·
      exact absurd q (hs (m - 1) m (by omega) (by omega))
     ·
      exact q
     ·
      rcases Nat.lt_or_ge j (m - 1) with hj' | hj'
      ·
       exact absurd (k ▸ q) (hs j (m - 1) hj' (by omega))
      ·
       have : j = m - 1 := by omega
       subst this
       exact k.symm
    ·
     exact absurd k (hs j m hj (by omega))
   ·
    intro x
    rw [List.mem_append, h2 x]
    constructor
    ·
     rintro (⟨j, hj, e⟩ | hx)
     ·
      exact ⟨j, by omega, e⟩
     ·
      exact ⟨m, by omega, by simpa using (by simpa using hx : x = d[m]!.1).symm⟩
    ·
     rintro ⟨j, hj, e⟩
     rcases Nat.lt_or_ge j m with h | h
     ·
      exact .inl ⟨j, h, e⟩
     ·
      have : j = m := by omega
      subst this
      exact .inr (by simp [e])
  ·
   rw [if_neg hk, List.append_nil]
   refine ⟨h1, fun x => ?_⟩
   rw [h2 x]
   constructor
   ·
    rintro ⟨j, hj, e⟩
    exact ⟨j, by omega, e⟩
   ·
    rintro ⟨j, hj, e⟩
    rcases Nat.lt_or_ge j m with h | h
    ·
     exact ⟨j, h, e⟩
    ·
     have : j = m := by omega
     subst this
     have hk' : ¬ (j = 0 ∨ d[j]! ≠ d[j - 1]!) := fun hh => hk (decide_eq_true hh)
     refine ⟨j - 1, by omega, ?_⟩
     rw [← e]
     have : d[j]! = d[j - 1]! := Classical.byContradiction fun hh => hk' (.inr hh)
     rw [this]

/-- What the sort and the leaving out come to is the form. -/
theorem compact_sorted (l : List BL) (s : Array BL) (hs : s = (l.mergeSort fun x y => !(ltOf litCf) y x).toArray) :
 (compactUpTo s s.size).map (·.1) = canon (l.map (·.1)) := by
 have hp := List.pairwise_mergeSort (le := fun x y => !(ltOf litCf) y x) (fun a b c h k => by
  have h : ltOf litCf b a = false := by simpa using h
  have k : ltOf litCf c b = false := by simpa using k
  have := litCf_swo.ntrans c b a k h
  simp [this]) (fun a b => by
   cases h : ltOf litCf b a with
   | false => simp
   | true =>
    have : ltOf litCf a b = false := by
     rw [litCf_lt] at *
     exact decide_eq_false (litLt_asymm (of_decide_eq_true h))
    simp [this]) l
 have hsz : s.size = (l.mergeSort fun x y => !(ltOf litCf) y x).length := by rw [hs]; simp
 have hget : ∀ j (h : j < s.size), s[j]! = (l.mergeSort fun x y => !(ltOf litCf) y x)[j]'(by omega) := by
  intro j h
  subst hs
  rw [getElem!_pos _ j h]
  simp
 have hr := compact_rising s (fun i j hij hj => by
  have := List.pairwise_iff_getElem.1 hp i j (by omega) (by omega) hij
  rw [hget j hj, hget i (by omega)]
  rw [litCf_lt] at this
  intro k
  rw [decide_eq_true k] at this
  simp at this) s.size (Nat.le_refl _)
 symm
 refine canon_eq hr.1 fun x => ?_
 rw [hr.2 x, List.mem_map]
 constructor
 ·
  rintro ⟨j, hj, rfl⟩
  refine ⟨s[j]!, ?_, rfl⟩
  rw [hget j hj]
  exact List.mem_mergeSort.1 (List.getElem_mem _)
 ·
  rintro ⟨y, hy, rfl⟩
  obtain ⟨j, hj, e⟩ := List.getElem_of_mem (List.mem_mergeSort.2 hy : y ∈ l.mergeSort fun x y => !(ltOf litCf) y x)
  exact ⟨j, by omega, by rw [hget j (by omega), e]⟩
end Go.Proofs.YtpopohkbffhckaaDoor.LF

namespace Go.Proofs.YtpopohkbffhckaaDoor.MC
open Go.RowKit Go.Proofs.YtpopohkbffhckaaDoorW.PrintWords Go.Proofs.YtpopohkbffhckaaDoorW.PrintLast Go.Proofs.YtpopohkbffhckaaDoorW.PrintMore Go.Lib Go.Sort Go.Shelf Go.Proofs.YtpopohkbffhckaaDoor.LF

def literalB (x : Int) : Bool := x != 0 && decide (-1048576 ≤ x) && decide (x ≤ 1048576)
theorem literalB_true {x : Int} : literalB x = true ↔ x ≠ 0 ∧ -1048576 ≤ x ∧ x ≤ 1048576 := by
 unfold literalB; simp [and_assoc]
def mayB (l : List Int) : Bool := decide (l.length ≤ 5000) && l.all literalB

set_option maxHeartbeats 400000 in
theorem literal_calls (x : Int) (w : World) :
 Calls Tryd.prog 37 #[.int .i64 x] w fun e w' => e = .returned (.bool (literalB x)) ∧ w' = w := by
 by_cases h0 : x = 0
 ·
  have e0 : (x != 0) = false := by simp [h0]
  have hr : literalB x = false := by unfold literalB; simp [e0]
  have HR := Lib.hid hr
  clear hr h0
  go_enter Tryd.func37, Tryd.ntmps37
  go_wp2
  go_ret
  exact ⟨by rw [HR.out]; rfl, rfl⟩
 ·
  have e0 : (x != 0) = true := by simp [h0]
  by_cases h1 : -1048576 ≤ x
  ·
   have e1 : decide (-1048576 ≤ x) = true := by simp [h1]
   by_cases h2 : x ≤ 1048576
   ·
    have e2 : decide (x ≤ 1048576) = true := by simp [h2]
    have hr : literalB x = true := by unfold literalB; simp [e0, e1, e2]
    have HR := Lib.hid hr
    clear hr h0
    go_enter Tryd.func37, Tryd.ntmps37
    go_wp2
    go_ret
    exact ⟨by rw [HR.out]; rfl, rfl⟩
   ·
    have e2 : decide (x ≤ 1048576) = false := by simp [h2]
    have hr : literalB x = false := by unfold literalB; simp [e2]
    have HR := Lib.hid hr
    clear hr h0 h2
    go_enter Tryd.func37, Tryd.ntmps37
    go_wp2
    go_ret
    exact ⟨by rw [HR.out]; rfl, rfl⟩
  ·
   have e1 : decide (-1048576 ≤ x) = false := by simp [h1]
   have hr : literalB x = false := by unfold literalB; simp [e1]
   have HR := Lib.hid hr
   clear hr h0 h1
   go_enter Tryd.func37, Tryd.ntmps37
   go_wp2
   go_ret
   exact ⟨by rw [HR.out]; rfl, rfl⟩

set_option maxHeartbeats 400000 in
theorem may_pred (w : World) : PredAt Tryd.prog 36 #[] (Value.int .i64) (fun x => !literalB x) w := fun W x _ => by
 show Calls Tryd.prog 36 #[.int .i64 x] W fun e w' => e = .returned (.bool (!literalB x)) ∧ ∃ q, w' = W.drewN q
 have hcon := literal_calls x
 generalize literalB x = b at hcon ⊢
 have HC := Lib.hid hcon
 clear hcon
 go_enter Tryd.func36, Tryd.ntmps36
 go_wp2_with (go_at_call 37; (refine (HC.out _).mono ?_); rintro e w' ⟨rfl, rfl⟩)
 go_ret
 exact ⟨rfl, 0, rfl⟩

/-- What a row that is read says of its cells. -/
theorem cells_of_C {w : World} {A : Option Addr} {l : List Int} (h : Kd.C (Kd.int .i64) w A l.length l) (h0 : 0 < l.length) :
 ∃ b off, A = some ⟨b, off, none⟩ ∧ ∀ j, j < l.length → w.cell? ⟨b, off + j, none⟩ = some (.int .i64 l[j]!) := by
 obtain ⟨ad, e, hc⟩ := Kd.at_int h 0 (by omega) (by omega)
 obtain ⟨b, off, sp⟩ := ad
 have hsp : sp = none := by
  unfold World.cell? at hc
  simp only [Addr.add] at hc
  cases sp with
  | none => rfl
  | some s => split at hc <;> simp at hc
 subst hsp
 refine ⟨b, off, e, fun j hj => ?_⟩
 obtain ⟨ad', e', hc'⟩ := Kd.at_int h (j : Int) (by omega) (by omega)
 rw [e] at e'
 cases e'
 rw [Int.toNat_natCast, Addr.add_lit] at hc'
 rw [hc']
 congr 2
 unfold Go.Proofs.YtpopohkbffhckaaDoorW.PrintWords.rd
 rw [Int.toNat_natCast]
 simp [List.getD_eq_getElem?_getD, hj]

set_option maxHeartbeats 400000 in
theorem contains_calls (A0 : Option Addr) (c0 : Nat) (l0 : List Int) (w : World) (hr0 : Kd.C (Kd.int .i64) w A0 l0.length l0) (p : Int → Bool) (g : Nat) (lb : Array Value) (eg : ∀ args w, (callFunc g args).run Tryd.prog w = .ok (.enter g args) w) (hp : PredAt Tryd.prog g lb (Value.int .i64) p w) :
 Calls Tryd.prog 35 #[.slice A0 l0.length c0, .func (.func g) #[] lb] w fun e w' => e = .returned (.bool (l0.any p)) ∧ ∃ q, w' = w.drewN q := by
 rcases Nat.eq_zero_or_pos l0.length with h0 | h0
 ·
  have : l0 = [] := List.eq_nil_of_length_eq_zero h0
  subst this
  exact (AnyE.slices_ContainsFunc_empty (ρ := layContainsFunc_ren) layContainsFunc A0 c0 _ w).mono fun _ _ ⟨he, hw⟩ => ⟨he, 0, hw⟩
 ·
  obtain ⟨b, off, rfl, hc⟩ := cells_of_C hr0 h0
  have := AnyE.slices_ContainsFunc (ρ := layContainsFunc_ren) layContainsFunc (Value.int .i64) p g lb eg b off l0.length c0 l0 w hp (Nat.le_refl _) hr0.2.1 hc
  rw [List.take_length] at this
  exact this

set_option maxHeartbeats 400000 in
theorem May_calls (A0 : Option Addr) (c0 : Nat) (l0 : List Int) (w : World) (hr0 : Kd.C (Kd.int .i64) w A0 l0.length l0) :
 Calls Tryd.prog 31 #[.slice A0 l0.length c0] w fun e w' => e = .returned (.bool (mayB l0)) ∧ Below w.heap.size w w' := by
 have eg : ∀ args w, (callFunc 36 args).run Tryd.prog w = .ok (.enter 36 args) w := enters_of Tryd.func36 (by kernel_rfl) rfl
 have hcon := contains_calls A0 c0 l0 w hr0 (fun x => !literalB x) 36 #[] eg (may_pred w)
 have hall : (l0.any fun x => !literalB x) = !(l0.all literalB) := by
  rw [List.not_all_eq_any_not]
 rw [hall] at hcon
 have hm : (decide (l0.length ≤ 5000) && l0.all literalB) = mayB l0 := rfl
 generalize l0.all literalB = b at hcon hm
 have hn : l0.length ≤ 9223372036854775807 := hr0.2.1
 clear hall hr0 eg
 have HM := Lib.hid hm
 have HC := Lib.hid hcon
 clear hcon hm
 by_cases h1 : l0.length ≤ 5000
 ·
  have e1 : decide (l0.length ≤ 5000) = true := by simp [h1]
  have e2 : decide ((l0.length : Int) ≤ 5000) = true := by simp; omega
  go_enter Tryd.func31, Tryd.ntmps31
  go_wp2_with (go_at_call 35; (refine HC.out.mono ?_); rintro e w' ⟨rfl, q, rfl⟩)
  go_ret
  exact ⟨by rw [← HM.out]; simp [h1], pw_below_drewN (Below.refl _ _) q⟩
 ·
  have e1 : decide (l0.length ≤ 5000) = false := by simp [h1]
  have e2 : decide ((l0.length : Int) ≤ 5000) = false := by simp; omega
  go_enter Tryd.func31, Tryd.ntmps31
  go_wp2_with fail
  go_ret
  exact ⟨by rw [← HM.out]; simp [h1], Below.refl _ _⟩

theorem atom_calls (x : Int) (w : World) (h1 : -1048576 ≤ x) (h2 : x ≤ 1048576) :
 Calls Tryd.prog 41 #[.int .i64 x] w fun e w' => e = .returned (.int .i64 (litAtom x)) ∧ w' = w := by
 have hr : max x (-x) = litAtom x := by unfold litAtom; split <;> omega
 have HR := Lib.hid hr
 clear hr
 go_enter Tryd.func41, Tryd.ntmps41
 go_wp2
 go_ret
 exact ⟨by rw [← HR.out]; rfl, rfl⟩

theorem litAtom_bd {x : Int} (h1 : -1048576 ≤ x) (h2 : x ≤ 1048576) : 0 ≤ litAtom x ∧ litAtom x ≤ 1048576 := by unfold litAtom; split <;> omega

set_option maxHeartbeats 400000 in
theorem cmp_calls (x y : BL) (w : World) :
 Calls Tryd.prog 40 #[.int .i64 x.1, .int .i64 y.1] w fun e w' => e = .returned (.int .i64 (litCf x y)) ∧ w' = w := by
 obtain ⟨x, hx1, hx2⟩ := x
 obtain ⟨y, hy1, hy2⟩ := y
 show Calls Tryd.prog 40 #[.int .i64 x, .int .i64 y] w _
 have hcx := fun W => atom_calls x W hx1 hx2
 have hcy := fun W => atom_calls y W hy1 hy2
 have hr : litCf ⟨x, hx1, hx2⟩ ⟨y, hy1, hy2⟩ = if litAtom x = litAtom y then y - x else litAtom x - litAtom y := rfl
 have bx := litAtom_bd hx1 hx2
 have by' := litAtom_bd hy1 hy2
 generalize litAtom x = ax at hcx hr bx
 generalize litAtom y = ay at hcy hr by'
 obtain ⟨bx1, bx2⟩ := bx
 obtain ⟨by1, by2⟩ := by'
 have HX := Lib.hid hcx
 have HY := Lib.hid hcy
 have HR := Lib.hid hr
 clear hcx hcy hr
 by_cases he : ax = ay
 ·
  have e1 : (ax != ay) = false := by simp [he]
  have HE := Lib.hid he
  clear he
  go_enter Tryd.func40, Tryd.ntmps40
  go_wp2_with (first | (go_at_call 41; ((with_reducible refine (HX.out _).mono ?_); rintro e w' ⟨rfl, rfl⟩)) | (go_at_call 41; ((with_reducible refine (HY.out _).mono ?_); rintro e w' ⟨rfl, rfl⟩)))
  go_ret
  exact ⟨by rw [HR.out, if_pos HE.out]; rfl, rfl⟩
 ·
  have e1 : (ax != ay) = true := by simp [he]
  have HE := Lib.hid he
  clear he
  go_enter Tryd.func40, Tryd.ntmps40
  go_wp2_with (first | (go_at_call 41; ((with_reducible refine (HX.out _).mono ?_); rintro e w' ⟨rfl, rfl⟩)) | (go_at_call 41; ((with_reducible refine (HY.out _).mono ?_); rintro e w' ⟨rfl, rfl⟩)))
  go_ret
  exact ⟨by rw [HR.out, if_neg HE.out]; rfl, rfl⟩

def encB (x : BL) : Value := .int .i64 x.1
theorem cmp_lays (blk off size : Nat) (w : World) : CmpLays1 Tryd.prog 40 #[] encB litCf blk off size w :=
 CmpReads.lays fun m os dk _ x y => (cmp_calls x y _).mono fun _ _ ⟨he, hw⟩ => ⟨he, 0, by rw [hw]; rfl⟩

theorem eql_b : EqlAt Tryd.prog 33 encB (fun x y => decide (x = y)) :=
 ⟨fun x y w => by
  have h := (EqlAt.intD Tryd.prog 33 .i64).1 x.1 y.1 w
  have e : decide (x = y) = decide (x.1 = y.1) := decide_eq_decide.2 Subtype.ext_iff
  show Sem.run Tryd.prog (binOp .eql 33 (encB x) (encB y)) w = .ok (.bool (decide (x = y))) w
  rw [e]
  exact h, fun op a b x y w => (EqlAt.intD Tryd.prog 33 .i64).2 op a b x.1 y.1 w⟩
theorem neq_b : NeqAt Tryd.prog 33 encB (fun x y => decide (x = y)) :=
 ⟨fun x y w => by
  have h := (NeqAt.intD Tryd.prog 33 .i64).1 x.1 y.1 w
  have e : decide (x = y) = decide (x.1 = y.1) := decide_eq_decide.2 Subtype.ext_iff
  show Sem.run Tryd.prog (binOp .neq 33 (encB x) (encB y)) w = .ok (.bool (!decide (x = y))) w
  rw [e]
  exact h, fun op a b x y w => (NeqAt.intD Tryd.prog 33 .i64).2 op a b x.1 y.1 w⟩

/-- A row of bounded literals. -/
def bls (l : List Int) (h : ∀ x ∈ l, -1048576 ≤ x ∧ x ≤ 1048576) : List BL := l.attach.map fun x => ⟨x.1, h x.1 x.2⟩
theorem bls_val (l : List Int) (h) : (bls l h).map (·.1) = l := by
 unfold bls
 rw [List.map_map]
 exact List.attach_map_subtype_val l
theorem bls_enc (l : List Int) (h) : (bls l h).map encB = nums .i64 l := by
 have : nums .i64 l = nums .i64 ((bls l h).map (·.1)) := by rw [bls_val]
 rw [this]
 unfold nums
 rw [List.map_map]
 rfl

theorem clone_calls (A0 : Option Addr) (c0 : Nat) (l0 : List Int) (w : World) (hr0 : Kd.C (Kd.int .i64) w A0 l0.length l0) (hn : l0.length < 17592186044416) :
 Calls Tryd.prog 38 #[.slice A0 l0.length c0] w fun e w' => ∃ v', e = .returned v' ∧ w'.ownsRow w.heap.size 33 1 v' l0.length (nums .i64 l0) ∧ (v' = .slice none 0 0 → l0 = []) ∧ Below w.heap.size w w' := by
 cases A0 with
 | none =>
  have h0 : l0 = [] := by
   rcases Nat.eq_zero_or_pos l0.length with h | h
   ·
    exact List.eq_nil_of_length_eq_zero h
   ·
    obtain ⟨_, e, _⟩ := hr0.2.2 h
    cases e
  subst h0
  exact (AnyG.slices_Clone_int_nil (ρ := layClone_ren) layClone 0 c0 w).mono fun _ _ ⟨he, hw⟩ => ⟨_, he, by rw [hw]; exact own_nil _ _ _ _, fun _ => rfl, by rw [hw]; exact Below.refl _ _⟩
 | some ad =>
  rcases Nat.eq_zero_or_pos l0.length with h | h
  ·
   have h0 := List.eq_nil_of_length_eq_zero h
   subst h0
   exact (AnyG.slices_Clone_int_zero (ρ := layClone_ren) layClone ad c0 w).mono fun _ _ ⟨v', he, ho, _, hb⟩ => ⟨v', he, ho, fun _ => rfl, hb⟩
  ·
   obtain ⟨b, off, e, hc⟩ := cells_of_C hr0 h
   cases e
   have := AnyG.slices_Clone_int (ρ := layClone_ren) layClone b off l0.length c0 l0 w (Nat.le_refl _) (by omega) (fun j hj => by rw [hc j hj]; simp [List.getD_eq_getElem?_getD, hj])
   rw [List.take_length] at this
   exact this.mono fun _ _ ⟨v', he, ho, hne, hb⟩ => ⟨v', he, ho, fun e => absurd e hne, hb⟩

theorem sort_nil (w : World) (fv : Value) :
 Calls Tryd.prog 39 #[.slice none 0 0, fv] w fun e w' => e = .returned (.tuple #[]) ∧ w' = w :=
 AnyF.slices_SortFunc_none (ρ := laySort_ren) { laySort with } none 0 fv w
theorem compact_nil (w : World) :
 Calls Tryd.prog 42 #[.slice none 0 0] w fun e w' => e = .returned (.slice none 0 0) ∧ w' = w := by
 go_enter Tryd.func42, Tryd.ntmps42
 go_wp2
 go_ret
 exact ⟨rfl, rfl⟩

theorem below_grown_os (B : Nat) (w : World) (os : Array Obj) (hB : B ≤ w.heap.size) : Below B w (grow w os) :=
 ⟨rfl, rfl, rfl, by simp [grow], fun i hi => by simp [grow, Array.getElem?_append, show i < w.heap.size by omega]⟩

/-- Sorting a row of the call's own. -/
theorem sort_own {base g cap : Nat} {w : World} (l : List Int) (hb : ∀ x ∈ l, -1048576 ≤ x ∧ x ≤ 1048576) (hn : l.length < 17592186044416)
 (ho : w.ownsRow base 33 1 (.slice (some ⟨g, 0, none⟩) l.length cap) l.length (nums .i64 l)) :
 Calls Tryd.prog 39 #[.slice (some ⟨g, 0, none⟩) l.length cap, .func (.func 40) #[] #[]] w fun e w' =>
  e = .returned (.tuple #[]) ∧ Below base w w' ∧ w'.ownsRow base 33 1 (.slice (some ⟨g, 0, none⟩) l.length cap) l.length (((bls l hb).mergeSort fun x y => !(ltOf litCf) y x).map encB) := by
 have eg : ∀ args w, (callFunc 40 args).run Tryd.prog w = .ok (.enter 40 args) w := enters_of Tryd.func40 (by kernel_rfl) rfl
 rw [← bls_enc l hb] at ho
 obtain ⟨g', cap', e, hbg, hlt, hcap, hmax, hlen, hH⟩ := holds_of_ownsRow ho (by simp)
 cases e
 have hs : (bls l hb).toArray.size = l.length := by simpa using hlen
 have := Any.slices_SortFunc_total (ρ := laySort_ren) laySort encB (fun _ => rfl) litCf litCf_swo 40 #[] g 0 cap (bls l hb).toArray w eg (cmp_lays _ _ _ _) hH hlt (by rw [hs]; omega) litCf_parts
 rw [hs] at this
 refine this.mono fun e w' ⟨he, n, os, hw⟩ => ⟨he, ?_, ?_⟩
 ·
  rw [hw]
  exact (below_putRow (Below.refl _ _) hbg).trans (below_grown_os _ _ os (by simp [putRow, mapBlock, Sort.ahead]; omega))
 ·
  rw [hw]
  have h2 := ownsRow_putRow (q := n) (ys := (bls l hb).mergeSort fun x y => !(ltOf litCf) y x) ho (by simpa using hlen) (Nat.le_refl _)
  rw [List.take_of_length_le (by simp; omega)] at h2
  exact pw_own_below h2 (below_grown_os _ _ os (Nat.le_refl _))

/-- Leaving out what stands twice, of a row of the call's own that was sorted. -/
theorem compact_own {base g cap : Nat} {w : World} (l : List Int) (hb : ∀ x ∈ l, -1048576 ≤ x ∧ x ≤ 1048576) (hn : l.length < 17592186044416)
 (ho : w.ownsRow base 33 1 (.slice (some ⟨g, 0, none⟩) l.length cap) l.length (((bls l hb).mergeSort fun x y => !(ltOf litCf) y x).map encB)) :
 Calls Tryd.prog 42 #[.slice (some ⟨g, 0, none⟩) l.length cap] w fun e w' =>
  e = .returned (.slice (some ⟨g, 0, none⟩) (canon l).length cap) ∧ Below base w w' ∧ w'.ownsRow base 33 1 (.slice (some ⟨g, 0, none⟩) (canon l).length cap) (canon l).length (nums .i64 (canon l)) := by
 obtain ⟨g', cap', e, hbg, hlt, hcap, hmax, hlen, hH⟩ := holds_of_ownsRow ho (by simp)
 cases e
 generalize hs : (bls l hb).mergeSort (fun x y => !(ltOf litCf) y x) = s at ho hH hlen
 have hsz : s.toArray.size = l.length := by simpa using hlen
 have hc := compact_sorted (bls l hb) s.toArray (by rw [hs])
 rw [bls_val] at hc
 have := AnyE.slices_Compact (ρ := layCompact_ren) layCompact encB (fun _ => rfl) eql_b neq_b ⟨0, by omega⟩ (fun w => Tryd.zeroValue33 w) g 0 cap s.toArray w hH (by omega) (by omega)
 have hl : (compactUpTo s.toArray s.toArray.size).length = (canon l).length := by rw [← hc, List.length_map]
 have hle : (canon l).length ≤ l.length := length_canon_le l
 rw [hl, hsz] at this
 refine this.mono fun e w' ⟨he, q, hw⟩ => ⟨he, ?_, ?_⟩
 ·
  rw [hw]
  exact below_putRow (Below.refl _ _) hbg
 ·
  rw [hw]
  have h2 := ownsRow_putRow (q := q) (k := (canon l).length) (ys := compactUpTo s.toArray s.toArray.size ++ List.replicate (l.length - (canon l).length) (⟨0, by omega⟩ : BL)) ho (by rw [List.length_append, hl, List.length_replicate]; omega) hle
  rw [List.take_append_of_le_length (by omega), List.take_of_length_le (by omega)] at h2
  have e3 : (compactUpTo s.toArray s.toArray.size).map encB = nums .i64 (canon l) := by
   rw [← hc]
   unfold nums
   rw [List.map_map]
   rfl
  rw [e3] at h2
  rw [hsz] at h2
  exact h2

set_option maxHeartbeats 400000 in
theorem form_calls (A0 : Option Addr) (c0 : Nat) (l0 : List Int) (w : World) (hr0 : Kd.C (Kd.int .i64) w A0 l0.length l0) (hn : l0.length < 17592186044416) (hb : ∀ x ∈ l0, -1048576 ≤ x ∧ x ≤ 1048576) :
 Calls Tryd.prog 32 #[.slice A0 l0.length c0] w fun e w' => ∃ v0_ : Value, e = .returned v0_ ∧ Kd.R (Kd.int .i64) 33 w' w.heap.size (fun _ => True) v0_ (canon l0) ∧ Below w.heap.size w w' := by
 have hc := clone_calls A0 c0 l0 w hr0 hn
 have hs := fun (g cap : Nat) (W : World) => sort_own (base := w.heap.size) (g := g) (cap := cap) (w := W) l0 hb hn
 have hp := fun (g cap : Nat) (W : World) => compact_own (base := w.heap.size) (g := g) (cap := cap) (w := W) l0 hb hn
 have hfin : ∀ (W : World) (v : Value), W.ownsRow w.heap.size 33 1 v (canon l0).length (nums .i64 (canon l0)) → Kd.R (Kd.int .i64) 33 W w.heap.size (fun _ => True) v (canon l0) := fun _ _ h => Kd.R_of_own h (fun _ _ => trivial)
 have hnl : l0 = [] → canon l0 = [] := fun h => by rw [h]; rfl
 generalize (bls l0 hb).mergeSort (fun x y => !(ltOf litCf) y x) = s at hs hp
 clear hr0 hb hn
 have HC := Lib.hid hc
 have HS := Lib.hid hs
 have HP := Lib.hid hp
 have HF := Lib.hid hfin
 have HN := Lib.hid hnl
 clear hc hs hp hfin hnl
 go_enter Tryd.func32, Tryd.ntmps32
 go_wp2_with fail
 refine HC.out.mono ?_
 rintro e w1 ⟨v', rfl, ho, hnil, hb1⟩
 rcases ho.2 with ⟨rfl, hz⟩ | ⟨g, cap, cur, rfl, hbg, hrest⟩
 ·
  have hl := hnil rfl
  have HL := Lib.hid hl
  have HB := Lib.hid hb1
  clear hl hnil ho hz hb1
  go_wp2_with (first | (go_at_call 39; ((with_reducible refine (sort_nil _ _).mono ?_); rintro e w' ⟨rfl, rfl⟩)) | (go_at_call 42; ((with_reducible refine (compact_nil _).mono ?_); rintro e w' ⟨rfl, rfl⟩)))
  go_ret
  refine ⟨_, rfl, ?_, HB.out⟩
  rw [HN.out HL.out]
  exact Kd.R_nil _ _ _ _ _
 ·
  have HO := Lib.hid ho
  have HB := Lib.hid hb1
  clear hnil ho hb1 hrest
  go_wp2_with (first | (go_at_call 39; ((with_reducible refine (HS.out g cap _ HO.out).mono ?_); rintro e w2 ⟨rfl, hb2, ho2⟩; have HB2 := Lib.hid hb2; have HO2 := Lib.hid ho2; clear hb2 ho2)) | (go_at_call 42; ((with_reducible refine (HP.out g cap _ HO2.out).mono ?_); rintro e w3 ⟨rfl, hb3, ho3⟩; have HB3 := Lib.hid hb3; have HO3 := Lib.hid ho3; clear hb3 ho3)))
  go_ret
  exact ⟨_, rfl, HF.out _ _ HO3.out, (HB.out.trans HB2.out).trans HB3.out⟩
end Go.Proofs.YtpopohkbffhckaaDoor.MC
