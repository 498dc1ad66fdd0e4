/- What the law RupHolds answers, where its calls answer as they should. -/
import Derived.Test.YtjlkjgoncfdaeaaRupRu
import Derived.Test.YtjlkjgoncfdaeaaHkx0
import Derived.Test.YtjlkjgoncfdaeaaHkx1
import Derived.Test.YtjlkjgoncfdaeaaHkx61
import Derived.Test.YtjlkjgoncfdaeaaHkx62
import Derived.IntWalk
import Derived.BigQuiet
import Derived.Deep.LoopGhost
namespace Go.Proofs.Ytjlkjgoncfdaeaa.Hk
open Go.RowKit Go.Proofs.YtjlkjgoncfdaeaaW.PrintWords Go.Proofs.YtjlkjgoncfdaeaaW.PrintLast Go.Proofs.YtjlkjgoncfdaeaaW.PrintMore Go.Sort Go.Shelf Go.Maps Go.Proofs.Ytjlkjgoncfdaeaa.MC Go.Proofs.Ytjlkjgoncfdaeaa.RM Go.Proofs.Ytjlkjgoncfdaeaa.MM
attribute [local go_sem ↓] Go.wp_at_zero Go.wp_at_succ
set_option linter.unusedSimpArgs false
set_option linter.unusedVariables false

/-- A list's element, as a list. -/
abbrev sub1 (l : List Int) (i : Nat) : List Int := [l.getD i 0]
/-- What the calls answer, where all is looked at. -/
def HoldsRest (k : Nat) (db : List (List Int)) (given : List Int) (bits : Int) : Prop :=
  ((∀ i, i < given.length → juristref14_Holds.f k (sub1 given i) bits = some true) ∧ ∃ l, rup_Units.f db given = some (l, false, 0) ∧ l.length ≤ 2097153 ∧ ∀ i, i < l.length → juristref14_Holds.f k (sub1 l i) bits = some true) ∨
  (∃ i, i < given.length ∧ juristref14_Holds.f k (sub1 given i) bits = some false ∧ ∀ j, j < i → juristref14_Holds.f k (sub1 given j) bits = some true)
def HoldsOk (k : Nat) (db : List (List Int)) (given : List Int) (bits : Int) : Prop :=
  juristlaw16_known.f = some true ∧ (juristlaw16_large.f k db = some true ∨ (juristlaw16_large.f k db = some false ∧ (30 < given.length ∨ (given.length ≤ 30 ∧
    (juristlaw16_small.f k db = some false ∨ (juristlaw16_small.f k db = some true ∧
    (juristlaw16_small.f k [given] = some false ∨ (juristlaw16_small.f k [given] = some true ∧
    (juristref16_Holds.f k db bits = some false ∨ (juristref16_Holds.f k db bits = some true ∧ HoldsRest k db given bits))))))))))

theorem one_C {w : World} {A : Option Addr} {l : List Int} {c : Nat} (h : Kd.C (Kd.int .i64) w A l.length l) (hc : l.length ≤ c) :
    CC (w.alloc (.cells #[.slice A l.length c] 31)) (some ⟨w.heap.size, 0, none⟩) [l] := by
  refine ⟨rfl, by simp, fun _ => ⟨⟨w.heap.size, 0, none⟩, rfl, fun j p hj => ?_⟩⟩
  have hb : Below w.heap.size w (w.alloc (.cells #[.slice A l.length c] 31)) := (Below.refl _ _).alloc (Nat.le_refl _) _
  have hp : p = l := by
    have := List.mem_of_getElem? hj
    simpa using this
  have hj2 : j = 0 := by have := (List.getElem?_eq_some_iff.1 hj).1; simpa using this
  subst hp hj2
  refine ⟨[.slice A p.length c], rfl, ⟨A, c, rfl, hc, Kd.C_below h hb⟩, fun i u hu => ?_⟩
  have hi : i = 0 := by have := (List.getElem?_eq_some_iff.1 hu).1; simp at this; exact this
  subst hi
  have hu : Value.slice A p.length c = u := by simpa using hu
  subst hu
  exact blk_cell (heap_alloc_new w (.cells #[.slice A p.length c] 31)) 0
theorem sub_C {w : World} {A : Option Addr} {l : List Int} (h : Kd.C (Kd.int .i64) w A l.length l) {i : Nat} (hi : i < l.length) :
    ∃ b off, A = some ⟨b, off, none⟩ ∧ b < w.heap.size ∧ Kd.C (Kd.int .i64) w (some ⟨b, off + i, none⟩) 1 (sub1 l i) := by
  obtain ⟨b, off, rfl, hc⟩ := cells_of_C h (by omega)
  refine ⟨b, off, rfl, World.block_lt_of_cell? w ⟨b, off + i, none⟩ (hc i hi), Kd.C_of_reads (d := (0 : Int)) (h1 := fun _ => rfl) ⟨rfl, by omega, fun _ => ⟨_, rfl, fun j hj => ?_⟩⟩⟩
  have hj : j = 0 := by omega
  subst hj
  rw [Addr.add_lit, Nat.add_zero, hc i hi]
  simp [sub1, hi]

set_option maxRecDepth 100000 in
set_option maxHeartbeats 6400000 in
theorem holds_walk (k : Nat) (A0 : Option Addr) (c0 : Nat) (db : List (List Int)) (A1 : Option Addr) (c1 : Nat) (given : List Int) (bits : Int) (w : World) (hr0 : CC w A0 db) (hc0 : db.length ≤ c0) (hr1 : Kd.C (Kd.int .i64) w A1 given.length given) (hc1 : given.length ≤ c1) (h : HoldsOk k db given bits) :
    Calls Try.prog 7 #[.slice A0 db.length c0, .slice A1 given.length c1, .int .u64 bits] w fun e w' => e = .returned (.bool true) ∧ Below w.heap.size w w' := by
  obtain ⟨hk, h⟩ := h
  have HKN := hid (fun W => juristlaw16_known.calls true W hk)
  have HC0 := hid hr0
  have HC1 := hid hr1
  have HL := hid (fun (b : Bool) (hb : juristlaw16_large.f k db = some b) => juristlaw16_large.calls k A0 c0 db b w hr0 hc0 hb)
  have HS := hid (fun (W : World) (hW : Below w.heap.size w W) (b : Bool) (hb : juristlaw16_small.f k db = some b) => juristlaw16_small.calls k A0 c0 db b W (Kd.C_below hr0 hW) hc0 hb)
  have HSG := hid (fun (W : World) (hW : Below w.heap.size w W) (b : Bool) (hb : juristlaw16_small.f k [given] = some b) => juristlaw16_small.calls k (some ⟨W.heap.size, 0, none⟩) 1 [given] b (W.alloc (.cells #[.slice A1 given.length c1] 31)) (one_C (Kd.C_below hr1 hW) hc1) (by simp) hb)
  have HH := hid (fun (W : World) (hW : Below w.heap.size w W) (b : Bool) (hb : juristref16_Holds.f k db bits = some b) => juristref16_Holds.calls k A0 c0 db bits b W (Kd.C_below hr0 hW) hc0 hb)
  obtain ⟨nd, hnd⟩ : ∃ n, n = db.length := ⟨_, rfl⟩
  obtain ⟨nc, hnc⟩ : ∃ n, n = given.length := ⟨_, rfl⟩
  rw [← hnd] at HL HS HH hc0 ⊢
  rw [← hnc] at h hc1 HSG ⊢
  have HND := hid hnd
  have HNC := hid hnc
  have HCAP := hid hc1
  clear hr0 hr1 hk hc1 hnd hnc
  rcases h with hl | ⟨hl, hn | ⟨hn, h⟩⟩
  · have HL1 := hid (HL.out true hl)
    clear hl HL
    go_enter Try.func7, Try.ntmps7
    go_wp2_with fail
    refine HL1.out.mono ?_
    rintro e w1 ⟨rfl, hb1⟩
    have HB1 := hid hb1.below
    clear hb1
    go_wp2_with fail
    refine (HKN.out _).mono ?_
    rintro e w2 ⟨rfl, hb2⟩
    have HB2 := hid hb2
    clear hb2
    go_wp2_with fail
    go_ret
    exact ⟨rfl, HB1.out.trans (HB2.out.mono HB1.out.size)⟩
  · have HL1 := hid (HL.out false hl)
    have e1 : decide ((nc : Int) > 30) = true := by simp; omega
    clear hl HL hn
    go_enter Try.func7, Try.ntmps7
    go_wp2_with fail
    refine HL1.out.mono ?_
    rintro e w1 ⟨rfl, hb1⟩
    have HB1 := hid hb1.below
    clear hb1
    go_wp2_with fail
    refine (HKN.out _).mono ?_
    rintro e w2 ⟨rfl, hb2⟩
    have HB2 := hid hb2
    clear hb2
    go_wp2_with fail
    go_ret
    exact ⟨rfl, HB1.out.trans (HB2.out.mono HB1.out.size)⟩
  · have HL1 := hid (HL.out false hl)
    have e1 : decide ((nc : Int) > 30) = false := by simp; omega
    have hn30 : nc ≤ 30 := hn
    clear hl HL hn
    rcases h with hs | ⟨hs, h⟩
    · have HS1 := hid (fun W hW => HS.out W hW false hs)
      clear hs
      go_enter Try.func7, Try.ntmps7
      go_wp2_with fail
      refine HL1.out.mono ?_
      rintro e w1 ⟨rfl, hb1⟩
      have HB1 := hid hb1.below
      clear hb1
      go_wp2_with fail
      refine (HS1.out w1 HB1.out).mono ?_
      rintro e w2 ⟨rfl, hb2⟩
      have HB2 := hid (HB1.out.trans (hb2.below.mono HB1.out.size))
      clear hb2
      go_wp2_with fail
      refine (HKN.out _).mono ?_
      rintro e w3 ⟨rfl, hb3⟩
      have HB3 := hid hb3
      clear hb3
      go_wp2_with fail
      go_ret
      exact ⟨rfl, HB2.out.trans (HB3.out.mono HB2.out.size)⟩
    · have HS1 := hid (fun W hW => HS.out W hW true hs)
      clear hs
      rcases h with hs | ⟨hs, h⟩
      · have HSG1 := hid (fun W hW => HSG.out W hW false hs)
        clear hs
        go_enter Try.func7, Try.ntmps7
        go_wp2_with fail
        refine HL1.out.mono ?_
        rintro e w1 ⟨rfl, hb1⟩
        have HB1 := hid hb1.below
        clear hb1
        go_wp2_with fail
        refine (HS1.out w1 HB1.out).mono ?_
        rintro e w2 ⟨rfl, hb2⟩
        have HB2 := hid (HB1.out.trans (hb2.below.mono HB1.out.size))
        clear hb2
        go_wp2_with fail
        refine (HSG1.out w2 HB2.out).mono ?_
        rintro e w3 ⟨rfl, hb3⟩
        have HB3 := hid ((HB2.out.alloc HB2.out.size _).trans (hb3.below.mono (by have := HB2.out.size; simp; omega)))
        clear hb3
        go_wp2_with fail
        refine (HKN.out _).mono ?_
        rintro e w4 ⟨rfl, hb4⟩
        have HB4 := hid hb4
        clear hb4
        go_wp2_with fail
        go_ret
        exact ⟨rfl, HB3.out.trans (HB4.out.mono HB3.out.size)⟩
      · have HSG1 := hid (fun W hW => HSG.out W hW true hs)
        clear hs
        rcases h with hh | ⟨hh, h⟩
        · have HH1 := hid (fun W hW => HH.out W hW false hh)
          clear hh
          go_enter Try.func7, Try.ntmps7
          go_wp2_with fail
          refine HL1.out.mono ?_
          rintro e w1 ⟨rfl, hb1⟩
          have HB1 := hid hb1.below
          clear hb1
          go_wp2_with fail
          refine (HS1.out w1 HB1.out).mono ?_
          rintro e w2 ⟨rfl, hb2⟩
          have HB2 := hid (HB1.out.trans (hb2.below.mono HB1.out.size))
          clear hb2
          go_wp2_with fail
          refine (HSG1.out w2 HB2.out).mono ?_
          rintro e w3 ⟨rfl, hb3⟩
          have HB3 := hid ((HB2.out.alloc HB2.out.size _).trans (hb3.below.mono (by have := HB2.out.size; simp; omega)))
          clear hb3
          go_wp2_with fail
          refine (HH1.out w3 HB3.out).mono ?_
          rintro e w4 ⟨rfl, hb4⟩
          have HB4 := hid (HB3.out.trans (hb4.below.mono HB3.out.size))
          clear hb4
          go_wp2_with fail
          refine (HKN.out _).mono ?_
          rintro e w5 ⟨rfl, hb5⟩
          have HB5 := hid hb5
          clear hb5
          go_wp2_with fail
          go_ret
          exact ⟨rfl, HB4.out.trans (HB5.out.mono HB4.out.size)⟩
        · have HH1 := hid (fun W hW => HH.out W hW true hh)
          have HREST := hid h
          clear hh h
          go_enter Try.func7, Try.ntmps7
          go_wp2_with fail
          refine HL1.out.mono ?_
          rintro e w1 ⟨rfl, hb1⟩
          have HB1 := hid hb1.below
          clear hb1
          go_wp2_with fail
          refine (HS1.out w1 HB1.out).mono ?_
          rintro e w2 ⟨rfl, hb2⟩
          have HB2 := hid (HB1.out.trans (hb2.below.mono HB1.out.size))
          clear hb2
          go_wp2_with fail
          refine (HSG1.out w2 HB2.out).mono ?_
          rintro e w3 ⟨rfl, hb3⟩
          have HB3 := hid ((HB2.out.alloc HB2.out.size _).trans (hb3.below.mono (by have := HB2.out.size; simp; omega)))
          clear hb3
          go_wp2_with fail
          refine (HH1.out w3 HB3.out).mono ?_
          rintro e w4 ⟨rfl, hb4⟩
          have HB4 := hid (HB3.out.trans (hb4.below.mono HB3.out.size))
          clear hb4
          go_wp2_with fail
          go_loopg [7, 39] nc (fun left v7 v39 wr => ∃ i : Nat, i + left = nc ∧ v39 = .int .i64 i ∧ Hid (Below w.heap.size w wr ∧ ∀ j, j < i → juristref14_Holds.f k (sub1 given j) bits = some true))
          case atStart => exact ⟨0, by omega, rfl, hid ⟨HB4.out, fun j hj => by omega⟩⟩
          case round =>
            obtain ⟨i, hi, rfl, R⟩ := hrel
            cases gk with
            | zero =>
              have hin : ¬ ((i : Int) < (nc : Int)) := by omega
              rcases HREST.out with ⟨_, l, hu, hl6, hlon⟩ | ⟨j, hj, hf, _⟩
              · have HU := hid (Units_calls A0 c0 db A1 c1 given l false 0 wr (Kd.C_below HC0.out R.out.1) (Kd.C_below HC1.out R.out.1) hu)
                have HLON := hid hlon
                rw [← HND.out] at HU
                rw [← HNC.out] at HU
                clear hu hlon
                go_wp2_with fail
                refine HU.out.mono ?_
                rintro e w5 ⟨v0, rfl, hR, hb5⟩
                obtain ⟨A5, c5, rfl, hc5, hC5⟩ := Kd.R_reads hR
                have HB5 := hid (R.out.1.trans (hb5.mono R.out.1.size))
                have HC5 := hid hC5
                obtain ⟨nl, hnl⟩ : ∃ n, n = l.length := ⟨_, rfl⟩
                rw [← hnl] at hc5 ⊢
                have HNL := hid hnl
                have HCP5 := hid hc5
                have hnl6 : nl ≤ 2097153 := by omega
                clear hR hb5 hC5 hnl hc5 hl6
                go_wp2_with fail
                go_loopg [11, 66] nl (fun left2 v11 v66 wy => ∃ j : Nat, j + left2 = nl ∧ v66 = .int .i64 j ∧ Hid (Below w5.heap.size w5 wy))
                case atStart => exact ⟨0, by omega, rfl, hid (Below.refl _ _)⟩
                case round =>
                  obtain ⟨j, hj, rfl, R2⟩ := hrel
                  cases gk with
                  | zero =>
                    have hjn : ¬ ((j : Int) < (nl : Int)) := by omega
                    go_wp2_with fail
                    refine (HKN.out _).mono ?_
                    rintro e w6 ⟨rfl, hb6⟩
                    have HB6 := hid hb6
                    clear hb6
                    go_wp2_with fail
                    go_ret
                    exact ⟨rfl, (HB5.out.trans (R2.out.mono HB5.out.size)).trans (HB6.out.mono (Nat.le_trans HB5.out.size R2.out.size))⟩
                  | succ left2 =>
                    have hjn : (j : Int) < (nl : Int) := by omega
                    have hj0 : j < l.length := by have := HNL.out; omega
                    obtain ⟨b5, off5, rfl, _, hC1⟩ := sub_C (Kd.C_below HC5.out R2.out) hj0
                    have HHO := hid (juristref14_Holds.calls k (some ⟨b5, off5 + j, none⟩) (c5 - j) (sub1 l j) bits true wr (by exact hC1) (by have := HCP5.out; simp; omega) (HLON.out j hj0))
                    have hcj : ¬ c5 = j := by have := HCP5.out; omega
                    have hcj2 : j + 1 ≤ c5 := by have := HCP5.out; omega
                    have hcj3 : (j : Int) + 1 ≤ (c5 : Int) := by omega
                    clear hC1
                    go_wp2_with fail
                    refine HHO.out.mono ?_
                    rintro e w6 ⟨rfl, hb6⟩
                    have HB6 := hid (R2.out.trans (hb6.below.mono R2.out.size))
                    clear hb6
                    go_wp2_with fail
                    go_roundg left2
                    case measure => omega
                    case rel => exact ⟨j + 1, by omega, by go_num, HB6⟩
              · exact absurd (R.out.2 j (by have := HNC.out; omega)) (by rw [hf]; simp)
            | succ left =>
              have hin : (i : Int) < (nc : Int) := by omega
              have hi0 : i < given.length := by have := HNC.out; omega
              obtain ⟨b5, off5, rfl, _, hC1⟩ := sub_C (Kd.C_below HC1.out R.out.1) hi0
              have hcj : ¬ c1 = i := by have := HCAP.out; omega
              have hcj2 : i + 1 ≤ c1 := by have := HCAP.out; omega
              have hcj3 : (i : Int) + 1 ≤ (c1 : Int) := by omega
              have hHO := fun (b : Bool) (hb : juristref14_Holds.f k (sub1 given i) bits = some b) => juristref14_Holds.calls k (some ⟨b5, off5 + i, none⟩) (c1 - i) (sub1 given i) bits b wr (by exact hC1) (by simp; omega) hb
              have HHO := hid hHO
              clear hC1 hHO
              have hb : ∃ b, juristref14_Holds.f k (sub1 given i) bits = some b ∧ (b = true ∨ b = false) := by
                rcases HREST.out with ⟨h1, _⟩ | ⟨j, hj, hf, hlt⟩
                · exact ⟨true, h1 i hi0, .inl rfl⟩
                · rcases Nat.lt_trichotomy i j with h | h | h
                  · exact ⟨true, hlt i h, .inl rfl⟩
                  · subst h; exact ⟨false, hf, .inr rfl⟩
                  · have := R.out.2 j h
                    rw [hf] at this
                    cases this
              obtain ⟨b, hb, hbb⟩ := hb
              have HHB := hid (HHO.out b hb)
              have HBE := hid hb
              clear hb
              rcases hbb with rfl | rfl
              · go_wp2_with fail
                refine HHB.out.mono ?_
                rintro e w6 ⟨rfl, hb6⟩
                have HB6 := hid (R.out.1.trans (hb6.below.mono R.out.1.size))
                clear hb6
                go_wp2_with fail
                go_roundg left
                case measure => omega
                case rel => exact ⟨i + 1, by omega, by go_num, hid ⟨HB6.out, fun j hj => by
                  rcases Nat.lt_or_ge j i with h | h
                  · exact R.out.2 j h
                  · have : j = i := by omega
                    subst this; exact HBE.out⟩⟩
              · go_wp2_with fail
                refine HHB.out.mono ?_
                rintro e w6 ⟨rfl, hb6⟩
                have HB6 := hid (R.out.1.trans (hb6.below.mono R.out.1.size))
                clear hb6
                go_wp2_with fail
                refine (HKN.out _).mono ?_
                rintro e w7 ⟨rfl, hb7⟩
                have HB7 := hid hb7
                clear hb7
                go_wp2_with fail
                go_ret
                exact ⟨rfl, HB6.out.trans (HB7.out.mono HB6.out.size)⟩

open Classical in
noncomputable def juristlaw16_RupHolds.f (k : Nat) (l0 : List (List Int)) (l1 : List Int) (a2 : Int) : Option Bool := if HoldsOk k l0 l1 a2 then some true else none
theorem juristlaw16_RupHolds.calls (k : Nat) (A0 : Option Addr) (c0 : Nat) (l0 : List (List Int)) (A1 : Option Addr) (c1 : Nat) (l1 : List Int) (a2 : Int) (r : Bool) (w : World) (hr0 : CC w A0 l0) (hc0 : l0.length ≤ c0) (hr1 : Kd.C (Kd.int .i64) w A1 l1.length l1) (hc1 : l1.length ≤ c1) (h : juristlaw16_RupHolds.f k l0 l1 a2 = some r) :
    Calls Try.prog 7 #[.slice A0 l0.length c0, .slice A1 l1.length c1, .int .u64 a2] w fun e w' => e = .returned (.bool r) ∧ Below w.heap.size w w' := by
  unfold juristlaw16_RupHolds.f at h
  split at h
  · cases h
    exact holds_walk k A0 c0 l0 A1 c1 l1 a2 w hr0 hc0 hr1 hc1 (by assumption)
  · cases h
end Go.Proofs.Ytjlkjgoncfdaeaa.Hk
