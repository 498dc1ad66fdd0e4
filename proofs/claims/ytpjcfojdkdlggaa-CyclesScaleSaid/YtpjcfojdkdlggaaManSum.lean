/- What cycles.Sum of the given program answers, of edges whose bounds are 64-bit numbers. -/
import Derived.Test.YtpjcfojdkdlggaaHkx0
import Derived.Test.YtpjcfojdkdlggaaManW
import Derived.Deep.QuietTactic
import Derived.BigQuiet
import Derived.IntWalk
namespace Go.Proofs.Ytpjcfojdkdlggaa.MW
open Go.RowKit Go.Proofs.Ytpjcfojdkdlggaa.Hk Go.Proofs.YtpjcfojdkdlggaaW.PrintWords Go.Proofs.YtpjcfojdkdlggaaW.PrintLast Go.Proofs.YtpjcfojdkdlggaaW.PrintMore

abbrev Edge := S26
abbrev edgeAt (l : List Edge) (i : Nat) : Edge := l.getD i z26
def tot (l : List Edge) : Int := (l.map (·.f2)).sum
/-- The edge at a place ends where the next one begins. -/
def meets (l : List Edge) (i : Nat) : Bool := (edgeAt l i).f1 == (edgeAt l ((i + 1) % l.length)).f0
def cyc (l : List Edge) : Bool := (List.range l.length).all (meets l)
def sumR (l : List Edge) : Int × Int := if 5000 < l.length then (0, 3) else if l.length = 0 then (0, 5) else if cyc l then (sgn (tot l), 0) else (0, 5)

theorem tot_take (l : List Edge) (k : Nat) (h : k < l.length) : tot (l.take (k + 1)) = tot (l.take k) + (edgeAt l k).f2 := by
  unfold tot edgeAt
  rw [List.take_succ_eq_append_getElem h, List.map_append, List.sum_append]
  congr 1
  simp [List.getD_eq_getElem?_getD, h]
theorem tot_bd (l : List Edge) (hw : ∀ e ∈ l, -9223372036854775808 ≤ e.f2 ∧ e.f2 ≤ 9223372036854775807) (n : Nat) (hn : l.length ≤ n) : -9223372036854775808 * n ≤ tot l ∧ tot l ≤ 9223372036854775808 * n := by
  induction l generalizing n with
  | nil => simp [tot]; omega
  | cons e l ih =>
    have := ih (fun x hx => hw x (by simp [hx])) (n - 1) (by simp at hn; omega)
    have h1 := hw e (by simp)
    have h2 : tot (e :: l) = e.f2 + tot l := by simp [tot]
    have h3 : (n - 1 : Nat) + 1 = n := by simp at hn; omega
    rw [h2]
    have h4 : ((n - 1 : Nat) : Int) = (n : Int) - 1 := by omega
    rw [h4] at this
    omega

theorem edge_cells {w : World} {A : Option Addr} {l : List Edge} (h : Kd.C k26 w A l.length l) (h0 : 0 < l.length) :
    ∃ b off, A = some ⟨b, off, none⟩ ∧ b < w.heap.size ∧ ∀ j, j < l.length → w.cell? ⟨b, off + j * 3, none⟩ = some (.int .i64 (edgeAt l j).f0) ∧ w.cell? ⟨b, off + j * 3 + 1, none⟩ = some (.int .i64 (edgeAt l j).f1) ∧ w.cell? ⟨b, off + j * 3 + 2, none⟩ = some (.int .i64 (edgeAt l j).f2) := by
  obtain ⟨ad, e, hc, _⟩ := at_T26 h 0 (by omega) (by omega)
  obtain ⟨b, off, sp⟩ := ad
  have hsp : sp = none := by
    unfold World.cell? at hc
    simp only [Addr.add] at hc
    cases sp with
    | none => rfl
    | some s => split at hc <;> simp at hc
  subst hsp
  refine ⟨b, off, e, ?_, fun j hj => ?_⟩
  · exact World.block_lt_of_cell? w _ (by simpa [Addr.add] using hc)
  · obtain ⟨ad', e', q0, q1, q2⟩ := at_T26 h (j : Int) (by omega) (by omega)
    rw [e] at e'
    cases e'
    rw [Int.toNat_natCast, Addr.add_lit] at q0 q1 q2
    exact ⟨q0, q1, q2⟩

set_option maxHeartbeats 1000000 in
theorem Sum_calls (A0 : Option Addr) (c0 : Nat) (l : List Edge) (w : World) (hr0 : Kd.C k26 w A0 l.length l) (hw : ∀ e ∈ l, -9223372036854775808 ≤ e.f2 ∧ e.f2 ≤ 9223372036854775807) :
    Calls Try.prog 14 #[.slice A0 l.length c0] w fun e w' => e = .returned (.tuple #[.int .i64 (sumR l).1, .int .i64 (sumR l).2]) ∧ Below w.heap.size w w' := by
  have hn : l.length ≤ 9223372036854775807 := hr0.2.1
  by_cases h1 : 5000 < l.length
  · have e1 : decide (5000 < (l.length : Int)) = true := by simp; omega
    have hr : sumR l = (0, 3) := by unfold sumR; rw [if_pos h1]
    rw [hr]
    clear hr hw hr0
    go_enter Try.func14, Try.ntmps14
    go_wp2
    go_ret2
    exact ⟨rfl, Below.refl _ _⟩
  · have e1 : decide (5000 < (l.length : Int)) = false := by simp; omega
    rcases Nat.eq_zero_or_pos l.length with h0 | h0
    · have h0 := List.eq_nil_of_length_eq_zero h0
      subst h0
      have hr : sumR [] = (0, 5) := by unfold sumR; simp
      rw [hr]
      clear hr hw hr0 hn h1 e1
      go_enter Try.func14, Try.ntmps14
      go_wp2
      go_ret2
      exact ⟨rfl, Below.refl _ _⟩
    · have e2 : ((l.length : Int) == 0) = false := beq_eq_false_iff_ne.2 (by omega)
      obtain ⟨b, off, rfl, hb, hc⟩ := edge_cells hr0 h0
      have hr : sumR l = if cyc l then (sgn (tot l), 0) else (0, 5) := by unfold sumR; rw [if_neg h1, if_neg (by omega)]
      have HR := Lib.hid hr
      have HC := Lib.hid hc
      have HW := Lib.hid hw
      have hl5 : l.length ≤ 5000 := by omega
      clear hr hc hw hr0
      go_enter Try.func14, Try.ntmps14
      go_wp2
      go_loopw [15] (fun i wr => ∃ k : Nat, k ≤ l.length ∧ i = .int .i64 k ∧ Below w.heap.size w wr ∧ w.heap.size < wr.heap.size ∧ wr.heap[w.heap.size]? = some (.cells #[.int .u64 (lowOf (tot (l.take k))), .int .u64 (highOf (tot (l.take k)))] 54 (0, 0)) ∧ Hid (∀ j, j < k → meets l j = true)) (fun i _ => l.length - (intOf i).toNat)
      case atStart => exact ⟨0, Nat.zero_le _, rfl, (Below.refl _ _).alloc (Nat.le_refl _) _, by simp, (heap_alloc_new _ _).trans (by simp [tot, lowOf, highOf]), Lib.hid (fun j hj => by omega)⟩
      case round =>
        obtain ⟨k, hk, rfl, hbel, hsz, hblk, hok⟩ := hrel
        by_cases hlt : k < l.length
        · obtain ⟨q0, q1, q2⟩ := HC.out k hlt
          have cc : ∀ {o : Nat} {v : Value}, w.cell? ⟨b, o, none⟩ = some v → wr.cell? ⟨b, o, none⟩ = some v := fun h => (hbel.cell (p := ⟨b, _, none⟩) hb).trans h
          have x0 := cc q0
          have x1 := cc q1
          have x2 := cc q2
          have hmod : (k + 1) % l.length < l.length := Nat.mod_lt _ h0
          obtain ⟨p0, _, _⟩ := HC.out ((k + 1) % l.length) hmod
          have y0 := cc p0
          clear q0 q1 q2 p0 cc
          have hbw : b < wr.heap.size := Nat.lt_of_lt_of_le hb hbel.size
          have hbd : -9223372036854775808 ≤ (edgeAt l k).f2 ∧ (edgeAt l k).f2 ≤ 9223372036854775807 := HW.out _ (by unfold edgeAt; rw [List.getD_eq_getElem?_getD, List.getElem?_eq_getElem hlt]; exact List.getElem_mem hlt)
          have htot := tot_take l k hlt
          have hmt : meets l k = ((edgeAt l k).f1 == (edgeAt l ((k + 1) % l.length)).f0) := rfl
          have hbt : Hid (-604462909807314587353088 ≤ tot l ∧ tot l ≤ 604462909807314587353088) := Lib.hid (by
            have := tot_bd l HW.out l.length (Nat.le_refl _)
            have h3 : (l.length : Int) ≤ 5000 := by omega
            constructor
            · have : -9223372036854775808 * (5000 : Int) ≤ -9223372036854775808 * (l.length : Int) := by omega
              omega
            · have : 9223372036854775808 * (l.length : Int) ≤ 9223372036854775808 * (5000 : Int) := by omega
              omega)
          generalize (edgeAt l k).f0 = f0 at x0
          generalize (edgeAt l k).f1 = f1 at x1 hmt
          generalize (edgeAt l k).f2 = f2 at x2 htot hbd
          generalize (edgeAt l ((k + 1) % l.length)).f0 = g0 at y0 hmt
          have hms : ((k : Int) + 1).tmod (l.length : Int) = (((k + 1) % l.length : Nat) : Int) := by
            rw [Int.tmod_eq_emod_of_nonneg (by omega), show (k : Int) + 1 = ((k + 1 : Nat) : Int) from by omega]
            exact (Int.natCast_emod _ _).symm
          have hmw : IntKind.i64.wrap ((k : Int) + 1) = (k : Int) + 1 := IntWalk.i64_in _ (by omega)
          have hml : (((k + 1) % l.length : Nat) : Int) < (l.length : Int) := by omega
          generalize (k + 1) % l.length = m at y0 hms hmod hml
          generalize hsk : tot (l.take k) = s at htot hblk
          have hp := fun W => plus_calls s f2 W hbd
          rw [← htot] at hp
          have HT := Lib.hid htot
          have HS := Lib.hid hsk
          have HP := Lib.hid hp
          have HM := Lib.hid hmt
          have HB := Lib.hid hbel
          have HK := Lib.hid hblk
          have hcw0 : wr.cell? ⟨w.heap.size, 0, none⟩ = some (.int .u64 (lowOf s)) := (blk_cell hblk 0).trans rfl
          have hcw1 : wr.cell? ⟨w.heap.size, 1, none⟩ = some (.int .u64 (highOf s)) := (blk_cell hblk 1).trans rfl
          have hfw : ∀ o, wr.frozen? ⟨w.heap.size, o, none⟩ = false := fun o => blk_frozen hblk o
          clear htot hsk hp hmt hbel hblk hbd
          by_cases hmeet : f1 = g0
          · have d1 : (f1 != g0) = false := bne_eq_false_iff_eq.2 hmeet
            have HMT := Lib.hid hmeet
            clear hmeet
            go_wp2
            go_quiet (fail)
            go_wp2_with fail
            refine (HP.out _).mono ?_
            rintro e w1 ⟨rfl, hb1⟩
            have hk0 := blk_drewN (blk_alloc HK.out (.cells #[.int .i64 f0, .int .i64 f1, .int .i64 f2] 26)) nq
            have hk1 := blk_below hk0 hb1
            have hbel1 : Below w.heap.size w w1 := (pw_below_drewN (HB.out.alloc HB.out.size _) nq).trans (hb1.mono (by simp; omega))
            have hsz1 : w.heap.size < w1.heap.size := Nat.lt_of_lt_of_le (by simp; omega) hb1.size
            have hcv0 : w1.cell? ⟨w.heap.size, 0, none⟩ = some (.int .u64 (lowOf s)) := (blk_cell hk1 0).trans rfl
            have hcv1 : w1.cell? ⟨w.heap.size, 1, none⟩ = some (.int .u64 (highOf s)) := (blk_cell hk1 1).trans rfl
            have hfv : ∀ o, w1.frozen? ⟨w.heap.size, o, none⟩ = false := fun o => blk_frozen hk1 o
            have HB1 := Lib.hid hbel1
            have HK1 := Lib.hid hk1
            clear hk0 hk1 hb1 hbel1 x0 x1 x2 y0 hcw0 hcw1 hfw
            go_wp2
            go_roundw
            case rel =>
              refine ⟨k + 1, by omega, by go_num, below_set (below_set HB1.out (Nat.le_refl _)) (Nat.le_refl _), by simpa using hsz1, ?_, ?_⟩
              · have := blk_set (blk_set HK1.out 0 (.int .u64 (lowOf (tot (l.take (k + 1)))))) 1 (.int .u64 (highOf (tot (l.take (k + 1)))))
                simpa using this
              · refine Lib.hid fun j hj => ?_
                rcases Nat.lt_or_ge j k with h | h
                · exact hok.out j h
                · obtain rfl : j = k := by omega
                  rw [HM.out, HMT.out]
                  simp
            case measure => simp [intOf]; omega
          · have d1 : (f1 != g0) = true := bne_iff_ne.2 hmeet
            have hcyc : cyc l = false := by
              cases h : cyc l with
              | false => rfl
              | true =>
                have := List.all_eq_true.1 h k (List.mem_range.2 hlt)
                rw [HM.out] at this
                exact absurd (by simpa using this) hmeet
            have HCY := Lib.hid hcyc
            clear hmeet hcyc
            go_wp2
            go_quiet (fail)
            go_wp2_with fail
            go_ret2
            refine ⟨?_, pw_below_drewN (HB.out.alloc HB.out.size _) nq⟩
            rw [HR.out, HCY.out]
            rfl
        · obtain rfl : k = l.length := by omega
          rw [List.take_length] at hblk
          have hcyc : cyc l = true := List.all_eq_true.2 fun j hj => hok.out j (List.mem_range.1 hj)
          have hs : -604462909807314587353088 ≤ tot l ∧ tot l ≤ 604462909807314587353088 := by
            have := tot_bd l HW.out l.length (Nat.le_refl _)
            have h3 : (l.length : Int) ≤ 5000 := by omega
            constructor
            · have : -9223372036854775808 * (5000 : Int) ≤ -9223372036854775808 * (l.length : Int) := by omega
              omega
            · have : 9223372036854775808 * (l.length : Int) ≤ 9223372036854775808 * (5000 : Int) := by omega
              omega
          have hsg := fun W => sign_calls (tot l) W hs
          have HG := Lib.hid hsg
          have HCY := Lib.hid hcyc
          have HB := Lib.hid hbel
          have hcw0 : wr.cell? ⟨w.heap.size, 0, none⟩ = some (.int .u64 (lowOf (tot l))) := (blk_cell hblk 0).trans rfl
          have hcw1 : wr.cell? ⟨w.heap.size, 1, none⟩ = some (.int .u64 (highOf (tot l))) := (blk_cell hblk 1).trans rfl
          clear hsg hcyc hs hblk hbel
          generalize tot l = s at HG HR hcw0 hcw1
          go_wp2_with fail
          refine (HG.out _).mono ?_
          rintro e w1 ⟨rfl, hb1⟩
          have HB1 := Lib.hid hb1
          clear hb1
          go_wp2
          go_ret2
          refine ⟨?_, HB.out.trans (HB1.out.mono HB.out.size)⟩
          rw [HR.out, HCY.out]
          rfl
end Go.Proofs.Ytpjcfojdkdlggaa.MW
