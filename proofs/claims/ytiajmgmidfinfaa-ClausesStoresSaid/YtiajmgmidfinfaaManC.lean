/- What clauses.May and clauses.form of the given program answer: whether all are literals in bounds and not too many; and the form of a row. -/
import Derived.Test.YtiajmgmidfinfaaShelf
import Derived.Test.YtiajmgmidfinfaaLitForm
import Derived.Test.YtiajmgmidfinfaaWMore
import Derived.Lib.OwnBridge
import Derived.WalkKit
import Derived.WalkSpells
import Derived.Lib.Hide
namespace Go.Proofs.Ytiajmgmidfinfaa.MC
open Go.RowKit Go.Proofs.YtiajmgmidfinfaaW.PrintWords Go.Proofs.YtiajmgmidfinfaaW.PrintLast Go.Proofs.YtiajmgmidfinfaaW.PrintMore Go.Lib Go.Sort Go.Shelf Go.Proofs.Ytiajmgmidfinfaa.LF

def literalB (x : Int) : Bool := x != 0 && decide (-1048576 ≤ x) && decide (x ≤ 1048576)
theorem literalB_true {x : Int} : literalB x = true ↔ x ≠ 0 ∧ -1048576 ≤ x ∧ x ≤ 1048576 := by
  unfold literalB; simp [and_assoc]
def mayB (l : List Int) : Bool := decide (l.length ≤ 5000) && l.all literalB

set_option maxHeartbeats 400000 in
theorem literal_calls (x : Int) (w : World) :
    Calls Try.prog 37 #[.int .i64 x] w fun e w' => e = .returned (.bool (literalB x)) ∧ w' = w := by
  by_cases h0 : x = 0
  · have e0 : (x != 0) = false := by simp [h0]
    have hr : literalB x = false := by unfold literalB; simp [e0]
    have HR := Lib.hid hr
    clear hr h0
    go_enter Try.func37, Try.ntmps37
    go_wp2
    go_ret
    exact ⟨by rw [HR.out]; rfl, rfl⟩
  · have e0 : (x != 0) = true := by simp [h0]
    by_cases h1 : -1048576 ≤ x
    · have e1 : decide (-1048576 ≤ x) = true := by simp [h1]
      by_cases h2 : x ≤ 1048576
      · have e2 : decide (x ≤ 1048576) = true := by simp [h2]
        have hr : literalB x = true := by unfold literalB; simp [e0, e1, e2]
        have HR := Lib.hid hr
        clear hr h0
        go_enter Try.func37, Try.ntmps37
        go_wp2
        go_ret
        exact ⟨by rw [HR.out]; rfl, rfl⟩
      · have e2 : decide (x ≤ 1048576) = false := by simp [h2]
        have hr : literalB x = false := by unfold literalB; simp [e2]
        have HR := Lib.hid hr
        clear hr h0 h2
        go_enter Try.func37, Try.ntmps37
        go_wp2
        go_ret
        exact ⟨by rw [HR.out]; rfl, rfl⟩
    · have e1 : decide (-1048576 ≤ x) = false := by simp [h1]
      have hr : literalB x = false := by unfold literalB; simp [e1]
      have HR := Lib.hid hr
      clear hr h0 h1
      go_enter Try.func37, Try.ntmps37
      go_wp2
      go_ret
      exact ⟨by rw [HR.out]; rfl, rfl⟩

set_option maxHeartbeats 400000 in
theorem may_pred (w : World) : PredAt Try.prog 36 #[] (Value.int .i64) (fun x => !literalB x) w := fun W x _ => by
  show Calls Try.prog 36 #[.int .i64 x] W fun e w' => e = .returned (.bool (!literalB x)) ∧ ∃ q, w' = W.drewN q
  have hcon := literal_calls x
  generalize literalB x = b at hcon ⊢
  have HC := Lib.hid hcon
  clear hcon
  go_enter Try.func36, Try.ntmps36
  go_wp2_with (go_at_call 37; (refine (HC.out _).mono ?_); rintro e w' ⟨rfl, rfl⟩)
  go_ret
  exact ⟨rfl, 0, rfl⟩

/-- What a row that is read says of its cells. -/
theorem cells_of_C {w : World} {A : Option Addr} {l : List Int} (h : Kd.C (Kd.int .i64) w A l.length l) (h0 : 0 < l.length) :
    ∃ b off, A = some ⟨b, off, none⟩ ∧ ∀ j, j < l.length → w.cell? ⟨b, off + j, none⟩ = some (.int .i64 l[j]!) := by
  obtain ⟨ad, e, hc⟩ := Kd.at_int h 0 (by omega) (by omega)
  obtain ⟨b, off, sp⟩ := ad
  have hsp : sp = none := by
    unfold World.cell? at hc
    simp only [Addr.add] at hc
    cases sp with
    | none => rfl
    | some s => split at hc <;> simp at hc
  subst hsp
  refine ⟨b, off, e, fun j hj => ?_⟩
  obtain ⟨ad', e', hc'⟩ := Kd.at_int h (j : Int) (by omega) (by omega)
  rw [e] at e'
  cases e'
  rw [Int.toNat_natCast, Addr.add_lit] at hc'
  rw [hc']
  congr 2
  unfold Go.Proofs.YtiajmgmidfinfaaW.PrintWords.rd
  rw [Int.toNat_natCast]
  simp [List.getD_eq_getElem?_getD, hj]

set_option maxHeartbeats 400000 in
theorem contains_calls (A0 : Option Addr) (c0 : Nat) (l0 : List Int) (w : World) (hr0 : Kd.C (Kd.int .i64) w A0 l0.length l0) (p : Int → Bool) (g : Nat) (lb : Array Value) (eg : ∀ args w, (callFunc g args).run Try.prog w = .ok (.enter g args) w) (hp : PredAt Try.prog g lb (Value.int .i64) p w) :
    Calls Try.prog 33 #[.slice A0 l0.length c0, .func (.func g) #[] lb] w fun e w' => e = .returned (.bool (l0.any p)) ∧ ∃ q, w' = w.drewN q := by
  rcases Nat.eq_zero_or_pos l0.length with h0 | h0
  · have : l0 = [] := List.eq_nil_of_length_eq_zero h0
    subst this
    exact (AnyE.slices_ContainsFunc_empty (ρ := layContainsFunc_ren) layContainsFunc A0 c0 _ w).mono fun _ _ ⟨he, hw⟩ => ⟨he, 0, hw⟩
  · obtain ⟨b, off, rfl, hc⟩ := cells_of_C hr0 h0
    have := AnyE.slices_ContainsFunc (ρ := layContainsFunc_ren) layContainsFunc (Value.int .i64) p g lb eg b off l0.length c0 l0 w hp (Nat.le_refl _) hr0.2.1 hc
    rw [List.take_length] at this
    exact this

set_option maxHeartbeats 400000 in
theorem May_calls (A0 : Option Addr) (c0 : Nat) (l0 : List Int) (w : World) (hr0 : Kd.C (Kd.int .i64) w A0 l0.length l0) :
    Calls Try.prog 17 #[.slice A0 l0.length c0] w fun e w' => e = .returned (.bool (mayB l0)) ∧ Below w.heap.size w w' := by
  have eg : ∀ args w, (callFunc 36 args).run Try.prog w = .ok (.enter 36 args) w := enters_of Try.func36 (by kernel_rfl) rfl
  have hcon := contains_calls A0 c0 l0 w hr0 (fun x => !literalB x) 36 #[] eg (may_pred w)
  have hall : (l0.any fun x => !literalB x) = !(l0.all literalB) := by
    rw [List.not_all_eq_any_not]
  rw [hall] at hcon
  have hm : (decide (l0.length ≤ 5000) && l0.all literalB) = mayB l0 := rfl
  generalize l0.all literalB = b at hcon hm
  have hn : l0.length ≤ 9223372036854775807 := hr0.2.1
  clear hall hr0 eg
  have HM := Lib.hid hm
  have HC := Lib.hid hcon
  clear hcon hm
  by_cases h1 : l0.length ≤ 5000
  · have e1 : decide (l0.length ≤ 5000) = true := by simp [h1]
    have e2 : decide ((l0.length : Int) ≤ 5000) = true := by simp; omega
    go_enter Try.func17, Try.ntmps17
    go_wp2_with (go_at_call 33; (refine HC.out.mono ?_); rintro e w' ⟨rfl, q, rfl⟩)
    go_ret
    exact ⟨by rw [← HM.out]; simp [h1], pw_below_drewN (Below.refl _ _) q⟩
  · have e1 : decide (l0.length ≤ 5000) = false := by simp [h1]
    have e2 : decide ((l0.length : Int) ≤ 5000) = false := by simp; omega
    go_enter Try.func17, Try.ntmps17
    go_wp2_with fail
    go_ret
    exact ⟨by rw [← HM.out]; simp [h1], Below.refl _ _⟩

theorem atom_calls (x : Int) (w : World) (h1 : -1048576 ≤ x) (h2 : x ≤ 1048576) :
    Calls Try.prog 43 #[.int .i64 x] w fun e w' => e = .returned (.int .i64 (litAtom x)) ∧ w' = w := by
  have hr : max x (-x) = litAtom x := by unfold litAtom; split <;> omega
  have HR := Lib.hid hr
  clear hr
  go_enter Try.func43, Try.ntmps43
  go_wp2
  go_ret
  exact ⟨by rw [← HR.out]; rfl, rfl⟩

theorem litAtom_bd {x : Int} (h1 : -1048576 ≤ x) (h2 : x ≤ 1048576) : 0 ≤ litAtom x ∧ litAtom x ≤ 1048576 := by unfold litAtom; split <;> omega

set_option maxHeartbeats 400000 in
theorem cmp_calls (x y : BL) (w : World) :
    Calls Try.prog 47 #[.int .i64 x.1, .int .i64 y.1] w fun e w' => e = .returned (.int .i64 (litCf x y)) ∧ w' = w := by
  obtain ⟨x, hx1, hx2⟩ := x
  obtain ⟨y, hy1, hy2⟩ := y
  show Calls Try.prog 47 #[.int .i64 x, .int .i64 y] w _
  have hcx := fun W => atom_calls x W hx1 hx2
  have hcy := fun W => atom_calls y W hy1 hy2
  have hr : litCf ⟨x, hx1, hx2⟩ ⟨y, hy1, hy2⟩ = if litAtom x = litAtom y then y - x else litAtom x - litAtom y := rfl
  have bx := litAtom_bd hx1 hx2
  have by' := litAtom_bd hy1 hy2
  generalize litAtom x = ax at hcx hr bx
  generalize litAtom y = ay at hcy hr by'
  obtain ⟨bx1, bx2⟩ := bx
  obtain ⟨by1, by2⟩ := by'
  have HX := Lib.hid hcx
  have HY := Lib.hid hcy
  have HR := Lib.hid hr
  clear hcx hcy hr
  by_cases he : ax = ay
  · have e1 : (ax != ay) = false := by simp [he]
    have HE := Lib.hid he
    clear he
    go_enter Try.func47, Try.ntmps47
    go_wp2_with (first | (go_at_call 43; ((with_reducible refine (HX.out _).mono ?_); rintro e w' ⟨rfl, rfl⟩)) | (go_at_call 43; ((with_reducible refine (HY.out _).mono ?_); rintro e w' ⟨rfl, rfl⟩)))
    go_ret
    exact ⟨by rw [HR.out, if_pos HE.out]; rfl, rfl⟩
  · have e1 : (ax != ay) = true := by simp [he]
    have HE := Lib.hid he
    clear he
    go_enter Try.func47, Try.ntmps47
    go_wp2_with (first | (go_at_call 43; ((with_reducible refine (HX.out _).mono ?_); rintro e w' ⟨rfl, rfl⟩)) | (go_at_call 43; ((with_reducible refine (HY.out _).mono ?_); rintro e w' ⟨rfl, rfl⟩)))
    go_ret
    exact ⟨by rw [HR.out, if_neg HE.out]; rfl, rfl⟩

def encB (x : BL) : Value := .int .i64 x.1
theorem cmp_lays (blk off size : Nat) (w : World) : CmpLays1 Try.prog 47 #[] encB litCf blk off size w :=
  CmpReads.lays fun m os dk _ x y => (cmp_calls x y _).mono fun _ _ ⟨he, hw⟩ => ⟨he, 0, by rw [hw]; rfl⟩

theorem eql_b : EqlAt Try.prog 25 encB (fun x y => decide (x = y)) :=
  ⟨fun x y w => by
    have h := (EqlAt.intD Try.prog 25 .i64).1 x.1 y.1 w
    have e : decide (x = y) = decide (x.1 = y.1) := decide_eq_decide.2 Subtype.ext_iff
    show Sem.run Try.prog (binOp .eql 25 (encB x) (encB y)) w = .ok (.bool (decide (x = y))) w
    rw [e]
    exact h, fun op a b x y w => (EqlAt.intD Try.prog 25 .i64).2 op a b x.1 y.1 w⟩
theorem neq_b : NeqAt Try.prog 25 encB (fun x y => decide (x = y)) :=
  ⟨fun x y w => by
    have h := (NeqAt.intD Try.prog 25 .i64).1 x.1 y.1 w
    have e : decide (x = y) = decide (x.1 = y.1) := decide_eq_decide.2 Subtype.ext_iff
    show Sem.run Try.prog (binOp .neq 25 (encB x) (encB y)) w = .ok (.bool (!decide (x = y))) w
    rw [e]
    exact h, fun op a b x y w => (NeqAt.intD Try.prog 25 .i64).2 op a b x.1 y.1 w⟩

/-- A row of bounded literals. -/
def bls (l : List Int) (h : ∀ x ∈ l, -1048576 ≤ x ∧ x ≤ 1048576) : List BL := l.attach.map fun x => ⟨x.1, h x.1 x.2⟩
theorem bls_val (l : List Int) (h) : (bls l h).map (·.1) = l := by
  unfold bls
  rw [List.map_map]
  exact List.attach_map_subtype_val l
theorem bls_enc (l : List Int) (h) : (bls l h).map encB = nums .i64 l := by
  have : nums .i64 l = nums .i64 ((bls l h).map (·.1)) := by rw [bls_val]
  rw [this]
  unfold nums
  rw [List.map_map]
  rfl

theorem clone_calls (A0 : Option Addr) (c0 : Nat) (l0 : List Int) (w : World) (hr0 : Kd.C (Kd.int .i64) w A0 l0.length l0) (hn : l0.length < 17592186044416) :
    Calls Try.prog 44 #[.slice A0 l0.length c0] w fun e w' => ∃ v', e = .returned v' ∧ w'.ownsRow w.heap.size 25 1 v' l0.length (nums .i64 l0) ∧ (v' = .slice none 0 0 → l0 = []) ∧ Below w.heap.size w w' := by
  cases A0 with
  | none =>
    have h0 : l0 = [] := by
      rcases Nat.eq_zero_or_pos l0.length with h | h
      · exact List.eq_nil_of_length_eq_zero h
      · obtain ⟨_, e, _⟩ := hr0.2.2 h
        cases e
    subst h0
    exact (AnyG.slices_Clone_int_nil (ρ := layClone_ren) layClone 0 c0 w).mono fun _ _ ⟨he, hw⟩ => ⟨_, he, by rw [hw]; exact own_nil _ _ _ _, fun _ => rfl, by rw [hw]; exact Below.refl _ _⟩
  | some ad =>
    rcases Nat.eq_zero_or_pos l0.length with h | h
    · have h0 := List.eq_nil_of_length_eq_zero h
      subst h0
      exact (AnyG.slices_Clone_int_zero (ρ := layClone_ren) layClone ad c0 w).mono fun _ _ ⟨v', he, ho, _, hb⟩ => ⟨v', he, ho, fun _ => rfl, hb⟩
    · obtain ⟨b, off, e, hc⟩ := cells_of_C hr0 h
      cases e
      have := AnyG.slices_Clone_int (ρ := layClone_ren) layClone b off l0.length c0 l0 w (Nat.le_refl _) (by omega) (fun j hj => by rw [hc j hj]; simp [List.getD_eq_getElem?_getD, hj])
      rw [List.take_length] at this
      exact this.mono fun _ _ ⟨v', he, ho, hne, hb⟩ => ⟨v', he, ho, fun e => absurd e hne, hb⟩

theorem sort_nil (w : World) (fv : Value) :
    Calls Try.prog 46 #[.slice none 0 0, fv] w fun e w' => e = .returned (.tuple #[]) ∧ w' = w :=
  AnyF.slices_SortFunc_none (ρ := laySort_ren) { laySort with } none 0 fv w
theorem compact_nil (w : World) :
    Calls Try.prog 48 #[.slice none 0 0] w fun e w' => e = .returned (.slice none 0 0) ∧ w' = w := by
  go_enter Try.func48, Try.ntmps48
  go_wp2
  go_ret
  exact ⟨rfl, rfl⟩

theorem below_grown_os (B : Nat) (w : World) (os : Array Obj) (hB : B ≤ w.heap.size) : Below B w (grow w os) :=
  ⟨rfl, rfl, rfl, by simp [grow], fun i hi => by simp [grow, Array.getElem?_append, show i < w.heap.size by omega]⟩

/-- Sorting a row of the call's own. -/
theorem sort_own {base g cap : Nat} {w : World} (l : List Int) (hb : ∀ x ∈ l, -1048576 ≤ x ∧ x ≤ 1048576) (hn : l.length < 17592186044416)
    (ho : w.ownsRow base 25 1 (.slice (some ⟨g, 0, none⟩) l.length cap) l.length (nums .i64 l)) :
    Calls Try.prog 46 #[.slice (some ⟨g, 0, none⟩) l.length cap, .func (.func 47) #[] #[]] w fun e w' =>
      e = .returned (.tuple #[]) ∧ Below base w w' ∧ w'.ownsRow base 25 1 (.slice (some ⟨g, 0, none⟩) l.length cap) l.length (((bls l hb).mergeSort fun x y => !(ltOf litCf) y x).map encB) := by
  have eg : ∀ args w, (callFunc 47 args).run Try.prog w = .ok (.enter 47 args) w := enters_of Try.func47 (by kernel_rfl) rfl
  rw [← bls_enc l hb] at ho
  obtain ⟨g', cap', e, hbg, hlt, hcap, hmax, hlen, hH⟩ := holds_of_ownsRow ho (by simp)
  cases e
  have hs : (bls l hb).toArray.size = l.length := by simpa using hlen
  have := Any.slices_SortFunc_total (ρ := laySort_ren) laySort encB (fun _ => rfl) litCf litCf_swo 47 #[] g 0 cap (bls l hb).toArray w eg (cmp_lays _ _ _ _) hH hlt (by rw [hs]; omega) litCf_parts
  rw [hs] at this
  refine this.mono fun e w' ⟨he, n, os, hw⟩ => ⟨he, ?_, ?_⟩
  · rw [hw]
    exact (below_putRow (Below.refl _ _) hbg).trans (below_grown_os _ _ os (by simp [putRow, mapBlock, Sort.ahead]; omega))
  · rw [hw]
    have h2 := ownsRow_putRow (q := n) (ys := (bls l hb).mergeSort fun x y => !(ltOf litCf) y x) ho (by simpa using hlen) (Nat.le_refl _)
    rw [List.take_of_length_le (by simp; omega)] at h2
    exact pw_own_below h2 (below_grown_os _ _ os (Nat.le_refl _))

/-- Leaving out what stands twice, of a row of the call's own that was sorted. -/
theorem compact_own {base g cap : Nat} {w : World} (l : List Int) (hb : ∀ x ∈ l, -1048576 ≤ x ∧ x ≤ 1048576) (hn : l.length < 17592186044416)
    (ho : w.ownsRow base 25 1 (.slice (some ⟨g, 0, none⟩) l.length cap) l.length (((bls l hb).mergeSort fun x y => !(ltOf litCf) y x).map encB)) :
    Calls Try.prog 48 #[.slice (some ⟨g, 0, none⟩) l.length cap] w fun e w' =>
      e = .returned (.slice (some ⟨g, 0, none⟩) (canon l).length cap) ∧ Below base w w' ∧ w'.ownsRow base 25 1 (.slice (some ⟨g, 0, none⟩) (canon l).length cap) (canon l).length (nums .i64 (canon l)) := by
  obtain ⟨g', cap', e, hbg, hlt, hcap, hmax, hlen, hH⟩ := holds_of_ownsRow ho (by simp)
  cases e
  generalize hs : (bls l hb).mergeSort (fun x y => !(ltOf litCf) y x) = s at ho hH hlen
  have hsz : s.toArray.size = l.length := by simpa using hlen
  have hc := compact_sorted (bls l hb) s.toArray (by rw [hs])
  rw [bls_val] at hc
  have := AnyE.slices_Compact (ρ := layCompact_ren) layCompact encB (fun _ => rfl) eql_b neq_b ⟨0, by omega⟩ (fun w => Try.zeroValue25 w) g 0 cap s.toArray w hH (by omega) (by omega)
  have hl : (compactUpTo s.toArray s.toArray.size).length = (canon l).length := by rw [← hc, List.length_map]
  have hle : (canon l).length ≤ l.length := length_canon_le l
  rw [hl, hsz] at this
  refine this.mono fun e w' ⟨he, q, hw⟩ => ⟨he, ?_, ?_⟩
  · rw [hw]
    exact below_putRow (Below.refl _ _) hbg
  · rw [hw]
    have h2 := ownsRow_putRow (q := q) (k := (canon l).length) (ys := compactUpTo s.toArray s.toArray.size ++ List.replicate (l.length - (canon l).length) (⟨0, by omega⟩ : BL)) ho (by rw [List.length_append, hl, List.length_replicate]; omega) hle
    rw [List.take_append_of_le_length (by omega), List.take_of_length_le (by omega)] at h2
    have e3 : (compactUpTo s.toArray s.toArray.size).map encB = nums .i64 (canon l) := by
      rw [← hc]
      unfold nums
      rw [List.map_map]
      rfl
    rw [e3] at h2
    rw [hsz] at h2
    exact h2

set_option maxHeartbeats 400000 in
theorem form_calls (A0 : Option Addr) (c0 : Nat) (l0 : List Int) (w : World) (hr0 : Kd.C (Kd.int .i64) w A0 l0.length l0) (hn : l0.length < 17592186044416) (hb : ∀ x ∈ l0, -1048576 ≤ x ∧ x ≤ 1048576) :
    Calls Try.prog 35 #[.slice A0 l0.length c0] w fun e w' => ∃ v0_ : Value, e = .returned v0_ ∧ Kd.R (Kd.int .i64) 25 w' w.heap.size (fun _ => True) v0_ (canon l0) ∧ Below w.heap.size w w' := by
  have hc := clone_calls A0 c0 l0 w hr0 hn
  have hs := fun (g cap : Nat) (W : World) => sort_own (base := w.heap.size) (g := g) (cap := cap) (w := W) l0 hb hn
  have hp := fun (g cap : Nat) (W : World) => compact_own (base := w.heap.size) (g := g) (cap := cap) (w := W) l0 hb hn
  have hfin : ∀ (W : World) (v : Value), W.ownsRow w.heap.size 25 1 v (canon l0).length (nums .i64 (canon l0)) → Kd.R (Kd.int .i64) 25 W w.heap.size (fun _ => True) v (canon l0) := fun _ _ h => Kd.R_of_own h (fun _ _ => trivial)
  have hnl : l0 = [] → canon l0 = [] := fun h => by rw [h]; rfl
  generalize (bls l0 hb).mergeSort (fun x y => !(ltOf litCf) y x) = s at hs hp
  clear hr0 hb hn
  have HC := Lib.hid hc
  have HS := Lib.hid hs
  have HP := Lib.hid hp
  have HF := Lib.hid hfin
  have HN := Lib.hid hnl
  clear hc hs hp hfin hnl
  go_enter Try.func35, Try.ntmps35
  go_wp2_with fail
  refine HC.out.mono ?_
  rintro e w1 ⟨v', rfl, ho, hnil, hb1⟩
  rcases ho.2 with ⟨rfl, hz⟩ | ⟨g, cap, cur, rfl, hbg, hrest⟩
  · have hl := hnil rfl
    have HL := Lib.hid hl
    have HB := Lib.hid hb1
    clear hl hnil ho hz hb1
    go_wp2_with (first | (go_at_call 46; ((with_reducible refine (sort_nil _ _).mono ?_); rintro e w' ⟨rfl, rfl⟩)) | (go_at_call 48; ((with_reducible refine (compact_nil _).mono ?_); rintro e w' ⟨rfl, rfl⟩)))
    go_ret
    refine ⟨_, rfl, ?_, HB.out⟩
    rw [HN.out HL.out]
    exact Kd.R_nil _ _ _ _ _
  · have HO := Lib.hid ho
    have HB := Lib.hid hb1
    clear hnil ho hb1 hrest
    go_wp2_with (first | (go_at_call 46; ((with_reducible refine (HS.out g cap _ HO.out).mono ?_); rintro e w2 ⟨rfl, hb2, ho2⟩; have HB2 := Lib.hid hb2; have HO2 := Lib.hid ho2; clear hb2 ho2)) | (go_at_call 48; ((with_reducible refine (HP.out g cap _ HO2.out).mono ?_); rintro e w3 ⟨rfl, hb3, ho3⟩; have HB3 := Lib.hid hb3; have HO3 := Lib.hid ho3; clear hb3 ho3)))
    go_ret
    exact ⟨_, rfl, HF.out _ _ HO3.out, (HB.out.trans HB2.out).trans HB3.out⟩
end Go.Proofs.Ytiajmgmidfinfaa.MC
