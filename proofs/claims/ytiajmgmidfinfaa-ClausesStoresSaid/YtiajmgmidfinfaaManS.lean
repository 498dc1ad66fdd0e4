/- What clauses.set and SaysNothing of the given program answer, of rows of 64-bit numbers. -/
import Derived.Test.YtiajmgmidfinfaaManC
import Derived.Test.YtiajmgmidfinfaaIntMap
import Derived.Test.YtiajmgmidfinfaaWGuard
namespace Go.Proofs.Ytiajmgmidfinfaa.MC
open Go.RowKit Go.Proofs.YtiajmgmidfinfaaW.PrintWords Go.Proofs.YtiajmgmidfinfaaW.PrintLast Go.Proofs.YtiajmgmidfinfaaW.PrintMore Go.Lib Go.Sort Go.Shelf Go.Maps Go.Proofs.Ytiajmgmidfinfaa.LF Go.Proofs.Ytiajmgmidfinfaa.IM

def wfI (x : Int) : Bool := (Lit.int .i64 x).wf
def cnt (l : List Int) (x : Int) : Int := (l.count x : Nat)
theorem zeroI (w : World) : (zeroValue 3).run Try.prog w = .ok (.int .i64 0) w := Try.zeroValue3 w
abbrev LMap (w : World) (b n : Nat) (f : Int → Int) : Prop := IMap Try.prog 25 3 w b n f

theorem cnt_succ (l : List Int) (k : Nat) (hk : k < l.length) : upd (cnt (l.take k)) l[k]! (cnt (l.take k) l[k]! + 1) = cnt (l.take (k + 1)) := by
  funext y
  have e : l[k]! = l[k] := by simp [hk]
  unfold upd cnt
  rw [e, List.take_succ_eq_append_getElem hk, List.count_append, List.count_singleton]
  by_cases h : y = l[k]
  · subst h; simp
  · have : (l[k] == y) = false := by simp; exact fun hh => h hh.symm
    simp [h, this]

set_option maxHeartbeats 1000000 in
set_option maxRecDepth 100000 in
theorem set_calls (A0 : Option Addr) (c0 : Nat) (l : List Int) (w : World) (hr0 : Kd.C (Kd.int .i64) w A0 l.length l) (hn : l.length < 17592186044416) (hw : ∀ x ∈ l, wfI x = true) :
    Calls Try.prog 32 #[.slice A0 l.length c0] w fun e w' => e = .returned (.map (some w.heap.size)) ∧ LMap w' w.heap.size l.length (cnt l) ∧ Below w.heap.size w w' := by
  rcases Nat.eq_zero_or_pos l.length with h0 | h0
  · have h0 := List.eq_nil_of_length_eq_zero h0
    subst h0
    clear hr0 hn hw
    have hmm := @run_makeMap Try.prog
    go_enter Try.func32, Try.ntmps32
    go_wp2
    refine wp_loop_rounds 1 ?_
    rw [rounds_succ]
    go_wp2
    go_ret
    exact ⟨rfl, IMap.made _, (Below.refl _ _).alloc (Nat.le_refl _) _⟩
  · obtain ⟨b, off, rfl, hc⟩ := cells_of_C hr0 h0
    have hb : b < w.heap.size := World.block_lt_of_cell? w ⟨b, off + 0, none⟩ (hc 0 h0)
    have HC := Lib.hid hc
    have HW := Lib.hid hw
    clear hc hw hr0
    have hmm := @run_makeMap Try.prog
    go_enter Try.func32, Try.ntmps32
    go_wp2
    go_loopw [9] (fun i wr => ∃ k : Nat, k ≤ l.length ∧ i = .int .i64 k ∧ LMap wr w.heap.size k (cnt (l.take k)) ∧ Below w.heap.size w wr) (fun i _ => l.length - (intOf i).toNat)
    case atStart => exact ⟨0, Nat.zero_le _, rfl, IMap.made _, (Below.refl _ _).alloc (Nat.le_refl _) _⟩
    case round =>
      obtain ⟨k, hk, rfl, hown, hnx⟩ := hrel
      by_cases hlt : k < l.length
      · have hcx : wr.cell? ⟨b, off + k, none⟩ = some (.int .i64 l[k]!) := (hnx.cell (by exact hb)).trans (HC.out k hlt)
        have hwf : (Lit.int .i64 l[k]!).wf = true := by
          have := HW.out l[k] (List.getElem_mem hlt)
          unfold wfI at this
          simpa [hlt] using this
        have hstep := cnt_succ l k hlt
        have hcb : 0 ≤ cnt (l.take k) l[k]! ∧ cnt (l.take k) l[k]! ≤ k := by
          unfold cnt
          have := List.count_le_length (a := l[k]!) (l := l.take k)
          rw [List.length_take] at this
          omega
        obtain ⟨hcb1, hcb2⟩ := hcb
        generalize l[k]! = x at hcx hwf hstep hcb1 hcb2
        have hwv : (Lit.int .i64 (cnt (l.take k) x + 1)).wf = true := WalkArith.wf_i64 (by omega)
        have HS := Lib.hid hstep
        have HN := Lib.hid hnx
        have HO := Lib.hid hown
        have HWF := Lib.hid hwf
        have HWV := Lib.hid hwv
        clear hstep hnx hown hwf hwv
        generalize hcn : cnt (l.take k) = cn at HS HO HWV hcb1 hcb2
        have HCN := Lib.hid hcn
        clear hcn
        go_wp2_with (first
          | (at_lookup; (with_reducible refine wp_lookup_imap _ rfl _ _ 54 rfl Try.underlying25 Try.underlying3 Try.underlying54 (zeroI _) w.heap.size k _ HO.out x rfl rfl HWF.out ?_))
          | (at_mapUpdate; (with_reducible refine wp_update_imap _ rfl _ _ _ 54 rfl Try.underlying25 Try.underlying3 Try.underlying54 w.heap.size k _ HO.out x _ rfl rfl rfl HWF.out HWV.out (by unfold maxLen; omega) ?_); intro w1 hown1 hgrow1; have HO1 := Lib.hid hown1; have HG1 := Lib.hid hgrow1; clear hown1 hgrow1))
        go_roundw
        case rel => exact ⟨k + 1, by omega, by go_num, by rw [← HS.out]; exact HO1.out, HN.out.grown HG1.out HN.out.size (fun j hj => by cases hj; exact Nat.le_refl _)⟩
        case measure => simp [intOf]; omega
      · have : k = l.length := by omega
        subst this
        rw [List.take_length] at hown
        have HO := Lib.hid hown
        have HN := Lib.hid hnx
        clear hown hnx
        go_wp2
        go_ret
        exact ⟨rfl, HO.out, HN.out⟩

theorem wrap_neg_wf (x : Int) : (Lit.int .i64 (wrap64 (-x))).wf = true := wrap64_wf _

/-- Does a literal's negative stand in the row, and is it another one? -/
def turnB (f : Int → Int) (x : Int) : Bool := x != 0 && x != wrap64 (-x) && decide (0 < f (wrap64 (-x)))

set_option maxHeartbeats 1000000 in
theorem says_pred (B M n : Nat) (f : Int → Int) (w : World) (hB : B < w.heap.size) (hc : w.cell? ⟨B, 0, none⟩ = some (.map (some M))) (hm : LMap w M n f) :
    PredAt Try.prog 34 #[.pointer (some ⟨B, 0, none⟩)] (Value.int .i64) (turnB f) w := fun W x hb => by
  show Calls Try.prog 34 #[.int .i64 x, .pointer (some ⟨B, 0, none⟩)] W fun e w' => e = .returned (.bool (turnB f x)) ∧ ∃ q, w' = W.drewN q
  have hcW : W.cell? ⟨B, 0, none⟩ = some (.map (some M)) := (hb.cell (p := ⟨B, 0, none⟩) hB).trans hc
  have hmW : LMap W M n f := hm.below hb
  have HM := Lib.hid hmW
  clear hm hmW hc hb
  by_cases h0 : x = 0
  · have e0 : (x != 0) = false := by simp [h0]
    have hr : turnB f x = false := by unfold turnB; simp [e0]
    have HR := Lib.hid hr
    clear hr h0
    go_enter Try.func34, Try.ntmps34
    go_wp2
    go_ret
    exact ⟨by rw [HR.out]; rfl, 0, rfl⟩
  · have e0 : (x != 0) = true := by simp [h0]
    by_cases h1 : x = wrap64 (-x)
    · have e1 : (x != wrap64 (-x)) = false := bne_eq_false_iff_eq.mpr h1
      have hr : turnB f x = false := by unfold turnB; rw [e1]; simp
      have HR := Lib.hid hr
      clear hr h0 h1
      go_enter Try.func34, Try.ntmps34
      go_wp2
      go_ret
      exact ⟨by rw [HR.out]; rfl, 0, rfl⟩
    · have e1 : (x != wrap64 (-x)) = true := bne_iff_ne.mpr h1
      have hr : turnB f x = decide (0 < f (wrap64 (-x))) := by unfold turnB; rw [e0, e1]; simp
      have HR := Lib.hid hr
      have hwf := wrap_neg_wf x
      have HWF := Lib.hid hwf
      clear hr h0 h1 hwf
      go_enter Try.func34, Try.ntmps34
      go_wp2_with (at_lookup; refine gate_guard (by rfl) ?_; dsimp only; (with_reducible refine wp_lookup_imap _ rfl _ _ 54 rfl Try.underlying25 Try.underlying3 Try.underlying54 (zeroI _) M n f HM.out (wrap64 (-x)) rfl rfl HWF.out ?_))
      go_ret
      exact ⟨by rw [HR.out]; rfl, 0, rfl⟩

def saysB (l : List Int) : Bool := l.any fun x => x != 0 && x != wrap64 (-x) && l.contains (wrap64 (-x))
theorem turnB_cnt (l : List Int) (x : Int) : turnB (cnt l) x = (x != 0 && x != wrap64 (-x) && l.contains (wrap64 (-x))) := by
  unfold turnB cnt
  congr 1
  rw [Bool.eq_iff_iff]
  simp [List.count_pos_iff]

set_option maxHeartbeats 1000000 in
theorem SaysNothing_calls (A0 : Option Addr) (c0 : Nat) (l : List Int) (w : World) (hr0 : Kd.C (Kd.int .i64) w A0 l.length l) (hn : l.length < 17592186044416) (hw : ∀ x ∈ l, wfI x = true) :
    Calls Try.prog 11 #[.slice A0 l.length c0] w fun e w' => e = .returned (.bool (saysB l)) ∧ Below w.heap.size w w' := by
  have eg : ∀ args w, (callFunc 34 args).run Try.prog w = .ok (.enter 34 args) w := enters_of Try.func34 (by kernel_rfl) rfl
  have hset := set_calls A0 c0 l w hr0 hn hw
  have hany : (l.any (turnB (cnt l))) = saysB l := by
    unfold saysB
    congr 1
    funext x
    exact turnB_cnt l x
  have hcon : ∀ W, Kd.C (Kd.int .i64) W A0 l.length l → ∀ B, B < W.heap.size → W.cell? ⟨B, 0, none⟩ = some (.map (some w.heap.size)) → LMap W w.heap.size l.length (cnt l) →
      Calls Try.prog 33 #[.slice A0 l.length c0, .func (.func 34) #[] #[.pointer (some ⟨B, 0, none⟩)]] W fun e w' => e = .returned (.bool (saysB l)) ∧ ∃ q, w' = W.drewN q := fun W hr B hB hc hm => by
    rw [← hany]
    exact contains_calls A0 c0 l W hr (turnB (cnt l)) 34 _ eg (says_pred B w.heap.size l.length (cnt l) W hB hc hm)
  have HC := Lib.hid hcon
  have HS := Lib.hid hset
  have HR := Lib.hid hr0
  clear hcon hset hany hr0 eg hw hn
  generalize saysB l = r at HC
  generalize cnt l = f at HC HS
  go_enter Try.func11, Try.ntmps11
  go_wp2_with fail
  refine HS.out.mono ?_
  rintro e w1 ⟨rfl, hm, hb1⟩
  have hsz : w.heap.size ≤ w1.heap.size := hb1.size
  have HM := Lib.hid hm
  have HB := Lib.hid hb1
  clear hm hb1
  go_wp2_with (go_at_call 33; refine (HC.out _ ?hC w1.heap.size ?hB ?hc ?hM).mono ?_; (case hC => exact Kd.C_below (Kd.C_below HR.out HB.out) ((Below.refl _ _).alloc (Nat.le_refl _) _)); (case hB => simp); (case hc => simp); (case hM => exact HM.out.below ((Below.refl _ _).alloc (Nat.le_refl _) _)); rintro e w' ⟨rfl, q, rfl⟩)
  go_ret
  exact ⟨rfl, pw_below_drewN (HB.out.alloc hsz _) q⟩

end Go.Proofs.Ytiajmgmidfinfaa.MC
