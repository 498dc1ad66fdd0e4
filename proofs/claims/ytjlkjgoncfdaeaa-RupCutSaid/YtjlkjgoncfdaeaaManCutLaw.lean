/- What the law RupCut answers, where its calls answer as they should (printed by wip/tools/rupcut.py). -/
import Derived.Test.YtjlkjgoncfdaeaaManJoin
import Derived.Test.YtjlkjgoncfdaeaaHkx0
import Derived.Test.YtjlkjgoncfdaeaaHkx1
import Derived.Test.YtjlkjgoncfdaeaaHkx44
import Derived.IntWalk
import Derived.BigQuiet
import Derived.Deep.LoopGhost
namespace Go.Proofs.Ytjlkjgoncfdaeaa.Hk
open Go.RowKit Go.Proofs.YtjlkjgoncfdaeaaW.PrintWords Go.Proofs.YtjlkjgoncfdaeaaW.PrintLast Go.Proofs.YtjlkjgoncfdaeaaW.PrintMore Go.Sort Go.Shelf Go.Maps Go.Proofs.Ytjlkjgoncfdaeaa.MC Go.Proofs.Ytjlkjgoncfdaeaa.RM Go.Proofs.Ytjlkjgoncfdaeaa.MM
attribute [local go_sem ↓] Go.wp_at_zero Go.wp_at_succ
attribute [local go_sem] max2_int min2_int max_two min_two
set_option linter.unusedSimpArgs false
set_option linter.unusedVariables false

/-- Where the row is cut. -/
def CutAt (a : Int) (n : Nat) : Nat := (Int.tmod (IntKind.u64.wrap a) ((n : Int) + 1)).toNat
theorem u64_wrap_nn (x : Int) : 0 ≤ IntKind.u64.wrap x := by
  simp [IntKind.wrap, IntKind.signed, IntKind.bits]
  omega
theorem cut_eq (a : Int) (n : Nat) : Int.tmod (IntKind.u64.wrap a) ((n : Int) + 1) = (CutAt a n : Int) := by
  have h := u64_wrap_nn a
  have := Int.tmod_nonneg ((n : Int) + 1) h
  unfold CutAt
  omega
theorem cut_le (a : Int) (n : Nat) : CutAt a n ≤ n := by
  have := Int.tmod_lt_of_pos (IntKind.u64.wrap a) (show (0 : Int) < (n : Int) + 1 by omega)
  rw [cut_eq] at this
  omega
/-- What the calls answer, where all is looked at. -/
def CutRest (db row more : List (List Int)) (kk : Nat) : Prop :=
  ∃ (n : Nat) (ref : Bool) (e : Int) (n1 : Nat) (ref1 : Bool) (e1 : Int) (n2 : Nat) (ref2 : Bool) (e2 : Int),
    rup_Row.f db row = some ((n : Int), ref, e) ∧ rup_Row.f db (row.take kk) = some ((n1 : Int), ref1, e1) ∧ rup_Row.f (db ++ more) row = some ((n2 : Int), ref2, e2) ∧
    ((e = 2 ∧ (e1 = 2 ∨ e1 = 0)) ∨ (e = 0 ∧ (e1 = 2 ∨ (e1 = 0 ∧ n1 = min n kk ∧ (ref1 = false ∨ n1 = kk) ∧ (e2 = 2 ∨ (e2 = 0 ∧ n ≤ n2 ∧ (ref = false ∨ ref2 = true)))))))
def CutOk (k : Nat) (db row more : List (List Int)) (a : Int) : Prop :=
  juristlaw16_known.f = some true ∧ (juristlaw16_large.f k db = some true ∨ (juristlaw16_large.f k db = some false ∧ (juristlaw16_large.f k row = some true ∨ (juristlaw16_large.f k row = some false ∧ (juristlaw16_large.f k more = some true ∨ (juristlaw16_large.f k more = some false ∧
    db.length ≤ 60 ∧ row.length ≤ 60 ∧ more.length ≤ 60 ∧ juristlaw16_copied.f k db = some db ∧ CutRest db row more (CutAt a row.length)))))))
theorem take_C {α : Type} {d : Kd α} {w : World} {A : Option Addr} {xs : List α} (h : d.C w A xs.length xs) {m : Nat} (hm : m ≤ xs.length) : d.C w A (xs.take m).length (xs.take m) := by
  obtain ⟨_, h2, h3⟩ := h
  have hl : (xs.take m).length = m := by rw [List.length_take]; omega
  refine ⟨rfl, by omega, fun h0 => ?_⟩
  obtain ⟨ad, e, hc⟩ := h3 (by omega)
  refine ⟨ad, e, fun j p hj => hc j p ?_⟩
  have hjm : j < m := by have := (List.getElem?_eq_some_iff.1 hj).1; omega
  rwa [List.getElem?_take_of_lt hjm] at hj

set_option maxRecDepth 100000 in
set_option maxHeartbeats 6400000 in
theorem cut_walk (k : Nat) (A0 : Option Addr) (c0 : Nat) (db : List (List Int)) (A1 : Option Addr) (c1 : Nat) (row : List (List Int)) (A2 : Option Addr) (c2 : Nat) (more : List (List Int)) (a : Int) (w : World) (hr0 : CC w A0 db) (hc0 : db.length ≤ c0) (hr1 : CC w A1 row) (hc1 : row.length ≤ c1) (hr2 : CC w A2 more) (hc2 : more.length ≤ c2) (h : CutOk k db row more a) :
    Calls Try.prog 3 #[.slice A0 db.length c0, .slice A1 row.length c1, .slice A2 more.length c2, .int .i64 a] w fun e w' => e = .returned (.bool true) ∧ Below w.heap.size w w' := by
  obtain ⟨hk, h⟩ := h
  have HKN := hid (fun W => juristlaw16_known.calls true W hk)
  have HC0 := hid hr0
  have HC1 := hid hr1
  have HC2 := hid hr2
  have HCAP := hid hc1
  have HL := hid (fun (b : Bool) (hb : juristlaw16_large.f k db = some b) => juristlaw16_large.calls k A0 c0 db b w hr0 hc0 hb)
  have HR := hid (fun (W : World) (hW : Below w.heap.size w W) (b : Bool) (hb : juristlaw16_large.f k row = some b) => juristlaw16_large.calls k A1 c1 row b W (Kd.C_below hr1 hW) hc1 hb)
  have HM := hid (fun (W : World) (hW : Below w.heap.size w W) (b : Bool) (hb : juristlaw16_large.f k more = some b) => juristlaw16_large.calls k A2 c2 more b W (Kd.C_below hr2 hW) hc2 hb)
  have HCP := hid (fun (W : World) (hW : Below w.heap.size w W) (hb : juristlaw16_copied.f k db = some db) => juristlaw16_copied.calls k A0 c0 db db W (Kd.C_below hr0 hW) hc0 hb)
  obtain ⟨nd, hnd⟩ : ∃ n, n = db.length := ⟨_, rfl⟩
  obtain ⟨nr, hnr⟩ : ∃ n, n = row.length := ⟨_, rfl⟩
  obtain ⟨nm, hnm⟩ : ∃ n, n = more.length := ⟨_, rfl⟩
  rw [← hnd] at HL HCP ⊢
  rw [← hnr] at h HR HCAP ⊢
  rw [← hnm] at HM ⊢
  have HND := hid hnd
  have HNR := hid hnr
  have HNM := hid hnm
  clear hr0 hr1 hr2 hk hc0 hc1 hc2 hnd hnr hnm
  rcases h with hl | ⟨hl, h⟩
  · have HL1 := hid (HL.out true hl)
    clear hl HL
    go_enter Try.func3, Try.ntmps3
    go_wp2_with fail
    refine HL1.out.mono ?_
    rintro e_ w1 ⟨rfl, hb1⟩
    have HB1 := hid (hb1.below)
    clear hb1
    go_wp2_with fail
    refine (HKN.out _).mono ?_
    rintro e_ wk ⟨rfl, hbk⟩
    have HBK := hid hbk
    clear hbk
    go_wp2_with fail
    go_ret
    exact ⟨rfl, HB1.out.trans (HBK.out.mono HB1.out.size)⟩
  · have HL1 := hid (HL.out false hl)
    clear hl HL
    rcases h with hm | ⟨hm, h⟩
    · have HR1 := hid (fun W hW => HR.out W hW true hm)
      clear hm HR
      go_enter Try.func3, Try.ntmps3
      go_wp2_with fail
      refine HL1.out.mono ?_
      rintro e_ w1 ⟨rfl, hb1⟩
      have HB1 := hid (hb1.below)
      clear hb1
      go_wp2_with fail
      refine (HR1.out w1 HB1.out).mono ?_
      rintro e_ w2 ⟨rfl, hb2⟩
      have HB2 := hid (HB1.out.trans (hb2.below.mono HB1.out.size))
      clear hb2
      go_wp2_with fail
      refine (HKN.out _).mono ?_
      rintro e_ wk ⟨rfl, hbk⟩
      have HBK := hid hbk
      clear hbk
      go_wp2_with fail
      go_ret
      exact ⟨rfl, HB2.out.trans (HBK.out.mono HB2.out.size)⟩
    · have HR1 := hid (fun W hW => HR.out W hW false hm)
      clear hm HR
      rcases h with hm | ⟨hm, hd60, hr60, hm60, hcp, h⟩
      · have HM1 := hid (fun W hW => HM.out W hW true hm)
        clear hm HM
        go_enter Try.func3, Try.ntmps3
        go_wp2_with fail
        refine HL1.out.mono ?_
        rintro e_ w1 ⟨rfl, hb1⟩
        have HB1 := hid (hb1.below)
        clear hb1
        go_wp2_with fail
        refine (HR1.out w1 HB1.out).mono ?_
        rintro e_ w2 ⟨rfl, hb2⟩
        have HB2 := hid (HB1.out.trans (hb2.below.mono HB1.out.size))
        clear hb2
        go_wp2_with fail
        refine (HM1.out w2 HB2.out).mono ?_
        rintro e_ w3 ⟨rfl, hb3⟩
        have HB3 := hid (HB2.out.trans (hb3.below.mono HB2.out.size))
        clear hb3
        go_wp2_with fail
        refine (HKN.out _).mono ?_
        rintro e_ wk ⟨rfl, hbk⟩
        have HBK := hid hbk
        clear hbk
        go_wp2_with fail
        go_ret
        exact ⟨rfl, HB3.out.trans (HBK.out.mono HB3.out.size)⟩
      · have HM1 := hid (fun W hW => HM.out W hW false hm)
        have HD60 := hid hd60
        have HM60 := hid hm60
        have HCP1 := hid (fun W hW => HCP.out W hW hcp)
        have hnr60 : nr ≤ 60 := hr60
        obtain ⟨n, ref, e, n1, ref1, e', n2, ref2, e'', h1, h2, h3, hcase⟩ := h
        have HKL := hid (cut_le a nr)
        have HKE := hid (cut_eq a nr)
        obtain ⟨kk, hkk⟩ : ∃ m, m = CutAt a nr := ⟨_, rfl⟩
        rw [← hkk] at h2 hcase HKL HKE
        clear hkk
        have HW1 := hid (fun (W : World) (hW : Below w.heap.size w W) => Row_calls A0 c0 db A1 c1 row n ref e W (Kd.C_below HC0.out hW) (Kd.C_below HC1.out hW) h1)
        have hlk : (row.take kk).length = kk := by rw [List.length_take]; have := HKL.out; have := HNR.out; omega
        have HW2 := hid (fun (W : World) (hW : Below w.heap.size w W) => Row_calls A0 c0 db A1 c1 (row.take kk) n1 ref1 e' W (Kd.C_below HC0.out hW) (take_C (Kd.C_below HC1.out hW) (by have := HKL.out; have := HNR.out; omega)) h2)
        rw [hlk] at HW2
        have HW3 := hid (fun (W : World) (hW : Below w.heap.size w W) (A : Option Addr) (m : Nat) (n' : Nat) (hn : n' = (db ++ more).length) (hA : CC W A (db ++ more)) =>
          show Calls Try.prog 14 #[.slice A n' m, .slice A1 nr c1] W (fun e_ w' => e_ = .returned (.tuple #[.int .i64 n2, .bool ref2, .int .i64 e'']) ∧ Below W.heap.size W w') from by
            have hnr := HNR.out
            subst hn hnr
            exact Row_calls A m (db ++ more) A1 c1 row n2 ref2 e'' W hA (Kd.C_below HC1.out hW) h3)
        rw [← HND.out] at HW1 HW2
        rw [← HNR.out] at HW1
        have HCASE := hid hcase
        have hkl : kk ≤ nr := HKL.out
        have HCUT := hid (show wrap64 (Int.tmod (IntKind.u64.wrap a) ((nr : Int) + 1)) = (kk : Int) from by rw [HKE.out]; unfold wrap64; omega)
        have hcut : 0 ≤ wrap64 (Int.tmod (IntKind.u64.wrap a) ((nr : Int) + 1)) ∧ wrap64 (Int.tmod (IntKind.u64.wrap a) ((nr : Int) + 1)) ≤ (c1 : Int) := by rw [HCUT.out]; have := HCAP.out; omega
        clear hm hcp h1 h2 h3 hlk hd60 hm60 hr60 HCP HM hcase
        go_enter Try.func3, Try.ntmps3
        go_wp2_with fail
        refine HL1.out.mono ?_
        rintro e_ w1 ⟨rfl, hb1⟩
        have HB1 := hid (hb1.below)
        clear hb1
        go_wp2_with fail
        refine (HR1.out w1 HB1.out).mono ?_
        rintro e_ w2 ⟨rfl, hb2⟩
        have HB2 := hid (HB1.out.trans (hb2.below.mono HB1.out.size))
        clear hb2
        go_wp2_with fail
        refine (HM1.out w2 HB2.out).mono ?_
        rintro e_ w3 ⟨rfl, hb3⟩
        have HB3 := hid (HB2.out.trans (hb3.below.mono HB2.out.size))
        clear hb3
        go_wp2_with fail
        refine (HW1.out w3 HB3.out).mono ?_
        rintro e_ w4 ⟨rfl, hb4⟩
        have HB4 := hid (HB3.out.trans (hb4.mono HB3.out.size))
        clear hb4
        go_wp2_with fail
        rw [HCUT.out]
        simp only [Int.toNat_natCast]
        refine (HW2.out w4 HB4.out).mono ?_
        rintro e_ w5 ⟨rfl, hb5⟩
        have HB5 := hid (HB4.out.trans (hb5.mono HB4.out.size))
        clear hb5 HCUT HKE
        go_wp2_with fail
        refine (HCP1.out w5 HB5.out).mono ?_
        rintro e_ w6 ⟨v1, rfl, hS, hb6⟩
        obtain ⟨inner, hrow, hlen, hbase, hm⟩ := inner_of_R rfl (Kd.S_R hS)
        obtain ⟨ys, hyl, hsrc, hz, hone⟩ := cells_src (d := KC) rfl c2 (Kd.C_below HC2.out HB5.out)
        have HROW := hid hrow
        have HSRC := hid (hsrc w6 hb6)
        rw [← HNM.out] at HSRC
        have HONE := hid hone
        have HLEN := hid hlen
        have HYL := hid hyl
        have HJ := hid (fun (v' : Value) (w7 : World) (hr : Row w7 31 v' (inner ++ ys)) (hk : Keep (fun k => v1.ownBlock = some k) w6 w7) => joined_C (d := KC) (v' := v') (w2 := w7) rfl hb6 hbase hm hz hr hk)
        clear hS hrow hlen hbase hm hyl hsrc hz hone hb6
        go_wp2_with (at_builtin; refine wp_app_rows _ rfl _ _ rfl _ _ inner ys (by rfl) (by rfl) HROW.out HSRC.out HONE.out (by have := HLEN.out; have := HYL.out; have := HD60.out; have := HM60.out; omega) ?_; intro v2 w7 hr hk hat; have HJ7 := hid (HJ.out v2 w7 hr hk); clear hr hk hat)
        obtain ⟨⟨A7, n7, c7, rfl, hc7, hn7, hC7⟩, hb7⟩ := HJ7.out
        have HB7 := hid (HB5.out.trans (hb7.mono HB5.out.size))
        have HW4 := hid (HW3.out w7 HB7.out A7 c7 n7 hn7 hC7)
        clear HJ7 HJ HROW HSRC HONE HLEN HYL hb7 hC7 hc7 hn7 HW3
        refine HW4.out.mono ?_
        rintro e_ w8 ⟨rfl, hb8⟩
        have HB8 := hid (HB7.out.trans (hb8.mono HB7.out.size))
        clear hb8 HW4
        rcases HCASE.out with ⟨rfl, rfl | rfl⟩ | ⟨rfl, rfl | ⟨rfl, hn1, hr1, rfl | ⟨rfl, hn2, hr2⟩⟩⟩
        · clear HCASE
          go_wp2_with fail
          refine (HKN.out _).mono ?_
          rintro e_ wk ⟨rfl, hbk⟩
          have HBK := hid hbk
          clear hbk
          go_wp2_with fail
          go_ret
          exact ⟨rfl, HB8.out.trans (HBK.out.mono HB8.out.size)⟩
        · clear HCASE
          go_wp2_with fail
          refine (HKN.out _).mono ?_
          rintro e_ wk ⟨rfl, hbk⟩
          have HBK := hid hbk
          clear hbk
          go_wp2_with fail
          go_ret
          exact ⟨rfl, HB8.out.trans (HBK.out.mono HB8.out.size)⟩
        · clear HCASE
          go_wp2_with fail
          refine (HKN.out _).mono ?_
          rintro e_ wk ⟨rfl, hbk⟩
          have HBK := hid hbk
          clear hbk
          go_wp2_with fail
          go_ret
          exact ⟨rfl, HB8.out.trans (HBK.out.mono HB8.out.size)⟩
        · have q1 : decide ((n1 : Int) = min (n : Int) (kk : Int)) = true := by simp; omega
          have q2 : ref1 = true → n1 = kk := fun h => hr1.resolve_left (by simp [h])
          clear HCASE hr1
          go_wp2_with fail
          all_goals first | (refine (HKN.out _).mono ?_; rintro e_ wk ⟨rfl, hbk⟩; have HBK := hid hbk; clear hbk; go_wp2_with fail; go_ret; exact ⟨rfl, HB8.out.trans (HBK.out.mono HB8.out.size)⟩) | (exfalso; first | omega | (have := q2 (by assumption); omega) | (have hr := q4 (by assumption); have ho := ‹n2 < _ ∨ (!ref2) = true›; rcases ho with ho | ho; · omega; · simp [hr] at ho))
        · have q1 : decide ((n1 : Int) = min (n : Int) (kk : Int)) = true := by simp; omega
          have q2 : ref1 = true → n1 = kk := fun h => hr1.resolve_left (by simp [h])
          clear HCASE hr1
          have q4 : ref = true → ref2 = true := fun h => hr2.resolve_left (by simp [h])
          go_wp2_with fail
          all_goals first | (refine (HKN.out _).mono ?_; rintro e_ wk ⟨rfl, hbk⟩; have HBK := hid hbk; clear hbk; go_wp2_with fail; go_ret; exact ⟨rfl, HB8.out.trans (HBK.out.mono HB8.out.size)⟩) | (exfalso; first | omega | (have := q2 (by assumption); omega) | (have hr := q4 (by assumption); have ho := ‹n2 < _ ∨ (!ref2) = true›; rcases ho with ho | ho; · omega; · simp [hr] at ho))

open Classical in
noncomputable def juristlaw16_RupCut.f (k : Nat) (l0 l1 l2 : List (List Int)) (a3 : Int) : Option Bool := if CutOk k l0 l1 l2 a3 then some true else none
theorem juristlaw16_RupCut.calls (k : Nat) (A0 : Option Addr) (c0 : Nat) (l0 : List (List Int)) (A1 : Option Addr) (c1 : Nat) (l1 : List (List Int)) (A2 : Option Addr) (c2 : Nat) (l2 : List (List Int)) (a3 : Int) (r : Bool) (w : World) (hr0 : CC w A0 l0) (hc0 : l0.length ≤ c0) (hr1 : CC w A1 l1) (hc1 : l1.length ≤ c1) (hr2 : CC w A2 l2) (hc2 : l2.length ≤ c2) (h : juristlaw16_RupCut.f k l0 l1 l2 a3 = some r) :
    Calls Try.prog 3 #[.slice A0 l0.length c0, .slice A1 l1.length c1, .slice A2 l2.length c2, .int .i64 a3] w fun e w' => e = .returned (.bool r) ∧ Below w.heap.size w w' := by
  unfold juristlaw16_RupCut.f at h
  split at h
  · cases h
    exact cut_walk k A0 c0 l0 A1 c1 l1 A2 c2 l2 a3 w hr0 hc0 hr1 hc1 hr2 hc2 (by assumption)
  · cases h
end Go.Proofs.Ytjlkjgoncfdaeaa.Hk
