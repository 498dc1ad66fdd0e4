/- Rounds of printed functions, and small facts on numbers and rows. -/
import Derived.Test.YtpopohkbffhckaaDoorWMore
import Derived.Test.YtpopohkbffhckaaDoorWN
namespace Go.Proofs.YtpopohkbffhckaaDoor.Pure
open Go.RowKit Go.Proofs.YtpopohkbffhckaaDoorW.PrintWords Go.Proofs.YtpopohkbffhckaaDoorW.PrintLast Go.Proofs.YtpopohkbffhckaaDoorW.PrintMore

/-! #### rounds -/
theorem ev_pos {α : Type} {c : Prop} [Decidable c] {f g : Nat → Option α} {r : α} (h : c) (k : Ev f r) : Ev (fun n => if c then f n else g n) r := Ev.congr (fun _ => if_pos h) k
theorem ev_neg {α : Type} {c : Prop} [Decidable c] {f g : Nat → Option α} {r : α} (h : ¬ c) (k : Ev g r) : Ev (fun n => if c then f n else g n) r := Ev.congr (fun _ => if_neg h) k
theorem ev_got {α β : Type} {o : Option α} {a : α} {f : Nat → α → Option β} {r : β} (h : o = some a) (k : Ev (fun n => f n a) r) : Ev (fun n => o.bind (f n)) r := Ev.congr (fun n => by rw [h]; rfl) k
theorem ev_ret {α : Type} (r : α) : Ev (fun _ => some r) r := Ev.now r
theorem wrap_succ {i : Nat} (h : i < 4611686018427387904) : wrap64 ((i : Int) + 1) = ((i + 1 : Nat) : Int) := by unfold wrap64; omega
theorem wrap_in {x : Int} (h : -9223372036854775808 ≤ x) (h' : x ≤ 9223372036854775807) : wrap64 x = x := by unfold wrap64; omega
theorem rd_nat (l : List Int) (i : Nat) : rd l (i : Int) = l.getD i 0 := by unfold rd; rw [Int.toNat_natCast]
theorem rd_lt {l : List Int} {i : Nat} (h : i < l.length) : rd l (i : Int) = l[i] := by rw [rd_nat]; simp [List.getD_eq_getElem?_getD, h]
theorem rd_mem {l : List Int} {i : Nat} (h : i < l.length) : rd l (i : Int) ∈ l := by rw [rd_lt h]; exact List.getElem_mem h
theorem drop_rd {l : List Int} {i : Nat} (h : i < l.length) : l.drop i = rd l (i : Int) :: l.drop (i + 1) := by rw [rd_lt h]; exact List.drop_eq_getElem_cons h
theorem wfI_iff {x : Int} : (Lit.int .i64 x).wf = true ↔ -9223372036854775808 ≤ x ∧ x ≤ 9223372036854775807 := by
  simp [Lit.wf, IntKind.min, IntKind.max, IntKind.signed, IntKind.bits]
theorem wf_bd {x : Int} (h : (Lit.int .i64 x).wf = true) : -9223372036854775808 ≤ x ∧ x ≤ 9223372036854775807 := wfI_iff.1 h

/-- A loop that goes over a list from a place on: what one round does decides. -/
theorem ev_upto {ρ : Type} (n : Nat) (L : Nat → Int → Option ρ) (P : Nat → ρ → Prop)
    (hend : ∀ r, P n r → Ev (fun k => L k (n : Int)) r)
    (hround : ∀ i, i < n → ∀ r, P i r → (∀ r', P (i + 1) r' → Ev (fun k => L k ((i + 1 : Nat) : Int)) r') → Ev (fun k => L k (i : Int)) r) :
    ∀ d i, i + d = n → ∀ r, P i r → Ev (fun k => L k (i : Int)) r := by
  intro d
  induction d with
  | zero => intro i hi r hp; obtain rfl : i = n := by omega
            exact hend r hp
  | succ d ih => intro i hi r hp; exact hround i (by omega) r hp (fun r' hp' => ih (i + 1) (by omega) r' hp')
/-- .. over a list. -/
theorem ev_list {ρ : Type} (l : List Int) (L : Nat → Int → Option ρ) (P : Nat → ρ → Prop) 
    (hend : ∀ r, P l.length r → Ev (fun k => L k (l.length : Int)) r)
    (hround : ∀ i, i < l.length → ∀ r, P i r → (∀ r', P (i + 1) r' → Ev (fun k => L k ((i + 1 : Nat) : Int)) r') → Ev (fun k => L k (i : Int)) r) :
    ∀ d i, i + d = l.length → ∀ r, P i r → Ev (fun k => L k (i : Int)) r := by
  intro d
  induction d with
  | zero => intro i hi r hp; obtain rfl : i = l.length := by omega
            exact hend r hp
  | succ d ih => intro i hi r hp; exact hround i (by omega) r hp (fun r' hp' => ih (i + 1) (by omega) r' hp')

end Go.Proofs.YtpopohkbffhckaaDoor.Pure
