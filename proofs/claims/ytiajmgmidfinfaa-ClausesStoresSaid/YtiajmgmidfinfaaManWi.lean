/- What clauses.Within of the given program answers, of rows of 64-bit numbers. -/
import Derived.Test.YtiajmgmidfinfaaManS
import Derived.Test.YtiajmgmidfinfaaManC
import Derived.Test.YtiajmgmidfinfaaIntMap
import Derived.Test.YtiajmgmidfinfaaWGuard
namespace Go.Proofs.Ytiajmgmidfinfaa.MC
open Go.RowKit Go.Proofs.YtiajmgmidfinfaaW.PrintWords Go.Proofs.YtiajmgmidfinfaaW.PrintLast Go.Proofs.YtiajmgmidfinfaaW.PrintMore Go.Lib Go.Sort Go.Shelf Go.Maps Go.Proofs.Ytiajmgmidfinfaa.LF Go.Proofs.Ytiajmgmidfinfaa.IM

set_option maxHeartbeats 1000000 in
theorem within_pred (B M n : Nat) (f : Int → Int) (w : World) (hB : B < w.heap.size) (hc : w.cell? ⟨B, 0, none⟩ = some (.map (some M))) (hm : LMap w M n f) :
    PredAt Try.prog 39 #[.pointer (some ⟨B, 0, none⟩)] (fun x : {x : Int // wfI x = true} => Value.int .i64 x.1) (fun x => f x.1 == 0) w := fun W x hb => by
  obtain ⟨x, hx⟩ := x
  show Calls Try.prog 39 #[.int .i64 x, .pointer (some ⟨B, 0, none⟩)] W fun e w' => e = .returned (.bool (f x == 0)) ∧ ∃ q, w' = W.drewN q
  have hcW : W.cell? ⟨B, 0, none⟩ = some (.map (some M)) := (hb.cell (p := ⟨B, 0, none⟩) hB).trans hc
  have hmW : LMap W M n f := hm.below hb
  have HM := Lib.hid hmW
  have HX := Lib.hid hx
  clear hm hmW hc hb hx
  go_enter Try.func39, Try.ntmps39
  go_wp2_with (at_lookup; (refine wp_lookup_imap _ rfl _ _ 54 rfl Try.underlying25 Try.underlying3 Try.underlying54 (zeroI _) M n f HM.out x rfl rfl HX.out ?_))
  go_ret
  exact ⟨rfl, 0, rfl⟩

def withinB (l m : List Int) : Bool := l.all fun x => m.contains x
def wfl (l : List Int) (h : ∀ x ∈ l, wfI x = true) : List {x : Int // wfI x = true} := l.attach.map fun x => ⟨x.1, h x.1 x.2⟩
theorem wfl_val (l : List Int) (h) : (wfl l h).map (·.1) = l := by
  unfold wfl
  rw [List.map_map]
  exact List.attach_map_subtype_val l

set_option maxHeartbeats 400000 in
theorem contains_wf (A0 : Option Addr) (c0 : Nat) (l : List Int) (w : World) (hr0 : Kd.C (Kd.int .i64) w A0 l.length l) (hw : ∀ x ∈ l, wfI x = true) (p : Int → Bool) (g : Nat) (lb : Array Value) (eg : ∀ args w, (callFunc g args).run Try.prog w = .ok (.enter g args) w)
    (hp : PredAt Try.prog g lb (fun x : {x : Int // wfI x = true} => Value.int .i64 x.1) (fun x => p x.1) w) :
    Calls Try.prog 33 #[.slice A0 l.length c0, .func (.func g) #[] lb] w fun e w' => e = .returned (.bool (l.any p)) ∧ ∃ q, w' = w.drewN q := by
  have hany : (wfl l hw).any (fun x => p x.1) = l.any p := by
    have : l.any p = ((wfl l hw).map (·.1)).any p := by rw [wfl_val]
    rw [this, List.any_map]
    rfl
  rcases Nat.eq_zero_or_pos l.length with h0 | h0
  · have : l = [] := List.eq_nil_of_length_eq_zero h0
    subst this
    exact (AnyE.slices_ContainsFunc_empty (ρ := layContainsFunc_ren) layContainsFunc A0 c0 _ w).mono fun _ _ ⟨he, hw⟩ => ⟨he, 0, hw⟩
  · obtain ⟨b, off, rfl, hc⟩ := cells_of_C hr0 h0
    have hlen : (wfl l hw).length = l.length := by unfold wfl; simp
    letI : Inhabited {x : Int // wfI x = true} := ⟨⟨0, by decide⟩⟩
    have := AnyE.slices_ContainsFunc (ρ := layContainsFunc_ren) layContainsFunc (fun x : {x : Int // wfI x = true} => Value.int .i64 x.1) (fun x => p x.1) g lb eg b off l.length c0 (wfl l hw) w hp (by omega) hr0.2.1 (fun j hj => by
      rw [hc j (by omega)]
      congr 2
      have e1 : (wfl l hw)[j]!.1 = ((wfl l hw).map (·.1))[j]! := by
        rw [getElem!_pos _ j hj, getElem!_pos _ j (by simpa using hj)]
        simp
      rw [e1, wfl_val])
    rw [List.take_of_length_le (by omega), hany] at this
    exact this

set_option maxHeartbeats 1000000 in
theorem Within_calls (A0 : Option Addr) (c0 : Nat) (l : List Int) (A1 : Option Addr) (c1 : Nat) (m : List Int) (w : World) (hr0 : Kd.C (Kd.int .i64) w A0 l.length l) (hr1 : Kd.C (Kd.int .i64) w A1 m.length m) (hn : m.length < 17592186044416) (hw : ∀ x ∈ l, wfI x = true) (hw1 : ∀ x ∈ m, wfI x = true) :
    Calls Try.prog 21 #[.slice A0 l.length c0, .slice A1 m.length c1] w fun e w' => e = .returned (.bool (withinB l m)) ∧ Below w.heap.size w w' := by
  have eg : ∀ args w, (callFunc 39 args).run Try.prog w = .ok (.enter 39 args) w := enters_of Try.func39 (by kernel_rfl) rfl
  have hset := set_calls A1 c1 m w hr1 hn hw1
  have hany : (l.any fun x => cnt m x == 0) = !withinB l m := by
    unfold withinB
    rw [List.not_all_eq_any_not]
    congr 1
    funext x
    unfold cnt
    rw [Bool.eq_iff_iff]
    simp [List.count_eq_zero]
  have hcon : ∀ W, Kd.C (Kd.int .i64) W A0 l.length l → ∀ B, B < W.heap.size → W.cell? ⟨B, 0, none⟩ = some (.map (some w.heap.size)) → LMap W w.heap.size m.length (cnt m) →
      Calls Try.prog 33 #[.slice A0 l.length c0, .func (.func 39) #[] #[.pointer (some ⟨B, 0, none⟩)]] W fun e w' => e = .returned (.bool (!withinB l m)) ∧ ∃ q, w' = W.drewN q := fun W hr B hB hc hm => by
    rw [← hany]
    exact contains_wf A0 c0 l W hr hw (fun x => cnt m x == 0) 39 _ eg (within_pred B w.heap.size m.length (cnt m) W hB hc hm)
  have HC := Lib.hid hcon
  have HS := Lib.hid hset
  have HR := Lib.hid hr0
  clear hcon hset hany hr0 hr1 eg hw hw1 hn
  generalize withinB l m = r at HC
  generalize cnt m = f at HC HS
  go_enter Try.func21, Try.ntmps21
  go_wp2_with fail
  refine HS.out.mono ?_
  rintro e w1 ⟨rfl, hm, hb1⟩
  have hsz : w.heap.size ≤ w1.heap.size := hb1.size
  have HM := Lib.hid hm
  have HB := Lib.hid hb1
  clear hm hb1
  go_wp2_with (go_at_call 33; refine (HC.out _ ?hC w1.heap.size ?hB ?hc ?hM).mono ?_; (case hC => exact Kd.C_below (Kd.C_below HR.out HB.out) ((Below.refl _ _).alloc (Nat.le_refl _) _)); (case hB => simp); (case hc => simp); (case hM => exact HM.out.below ((Below.refl _ _).alloc (Nat.le_refl _) _)); rintro e w' ⟨rfl, q, rfl⟩)
  go_ret
  exact ⟨by simp, pw_below_drewN (HB.out.alloc hsz _) q⟩
end Go.Proofs.Ytiajmgmidfinfaa.MC
