/- What the law RupSelf answers, where its calls answer as they should. -/
import Derived.Test.YtjlkjgoncfdaeaaRupRu
import Derived.Test.YtjlkjgoncfdaeaaHkx0
import Derived.Test.YtjlkjgoncfdaeaaHkx1
import Derived.Test.YtjlkjgoncfdaeaaHkx42
import Derived.Test.YtjlkjgoncfdaeaaHkx44
import Derived.IntWalk
import Derived.BigQuiet
import Derived.Deep.LoopGhost
namespace Go.Proofs.Ytjlkjgoncfdaeaa.Hk
open Go.RowKit Go.Proofs.YtjlkjgoncfdaeaaW.PrintWords Go.Proofs.YtjlkjgoncfdaeaaW.PrintLast Go.Proofs.YtjlkjgoncfdaeaaW.PrintMore Go.Sort Go.Shelf Go.Maps Go.Proofs.Ytjlkjgoncfdaeaa.MC Go.Proofs.Ytjlkjgoncfdaeaa.RM Go.Proofs.Ytjlkjgoncfdaeaa.MM
attribute [local go_sem ↓] Go.wp_at_zero Go.wp_at_succ
set_option linter.unusedSimpArgs false
set_option linter.unusedVariables false

/-- What the calls answer. -/
def SelfOk (k : Nat) (db : List (List Int)) (c : List Int) : Prop :=
  juristlaw16_known.f = some true ∧ (juristlaw16_large.f k db = some true ∨ (juristlaw16_large.f k db = some false ∧ (30 < c.length ∨ (c.length ≤ 30 ∧ db.length ≤ 60 ∧
    (∀ i, i < db.length → ∃ b e, rup_Follows.f db (db.getD i []) = some (b, e) ∧ (e = 2 ∨ (e = 0 ∧ b = true))) ∧
    ((∃ b, rup_Follows.f db c = some (b, 2) ∧ rup_Row.f db [c, c] = some (0, false, 2)) ∨ (∃ rf, rup_Follows.f db c = some (true, 0) ∧ rup_Row.f db [c, c] = some (2, rf, 0)) ∨ (rup_Follows.f db c = some (false, 0) ∧ rup_Row.f db [c, c] = some (0, false, 0)))))))

theorem pair_C {w : World} {A : Option Addr} {l : List Int} {c : Nat} (h : Kd.C (Kd.int .i64) w A l.length l) (hc : l.length ≤ c) :
    CC (w.alloc (.cells #[.slice A l.length c, .slice A l.length c] 31)) (some ⟨w.heap.size, 0, none⟩) [l, l] := by
  refine ⟨rfl, by simp, fun _ => ⟨⟨w.heap.size, 0, none⟩, rfl, fun j p hj => ?_⟩⟩
  have hb : Below w.heap.size w (w.alloc (.cells #[.slice A l.length c, .slice A l.length c] 31)) := (Below.refl _ _).alloc (Nat.le_refl _) _
  have hp : p = l := by
    have := List.mem_of_getElem? hj
    simpa using this
  have hj2 : j < 2 := by have := (List.getElem?_eq_some_iff.1 hj).1; simpa using this
  subst hp
  refine ⟨[.slice A p.length c], rfl, ⟨A, c, rfl, hc, Kd.C_below h hb⟩, fun i u hu => ?_⟩
  have hi : i = 0 := by have := (List.getElem?_eq_some_iff.1 hu).1; simp at this; exact this
  subst hi
  have hu : Value.slice A p.length c = u := by simpa using hu
  subst hu
  have hblk := heap_alloc_new w (.cells #[.slice A p.length c, .slice A p.length c] 31)
  rw [show j * (Kd.slice 46 (Kd.int .i64)).sz + 0 = j from by show j * 1 + 0 = j; omega, Addr.add_lit, blk_cell hblk]
  rcases (show j = 0 ∨ j = 1 by omega) with rfl | rfl <;> rfl

set_option maxRecDepth 100000 in
set_option maxHeartbeats 3200000 in
theorem self_walk (k : Nat) (A0 : Option Addr) (c0 : Nat) (db : List (List Int)) (A1 : Option Addr) (c1 : Nat) (c : List Int) (w : World) (hr0 : CC w A0 db) (hc0 : db.length ≤ c0) (hr1 : Kd.C (Kd.int .i64) w A1 c.length c) (hc1 : c.length ≤ c1) (h : SelfOk k db c) :
    Calls Try.prog 4 #[.slice A0 db.length c0, .slice A1 c.length c1] w fun e w' => e = .returned (.bool true) ∧ Below w.heap.size w w' := by
  obtain ⟨hk, h⟩ := h
  have HKN := hid (fun W => juristlaw16_known.calls true W hk)
  have HC0 := hid hr0
  have HC1 := hid hr1
  have HL := hid (fun (b : Bool) (hb : juristlaw16_large.f k db = some b) => juristlaw16_large.calls k A0 c0 db b w hr0 hc0 hb)
  obtain ⟨nd, hnd⟩ : ∃ n, n = db.length := ⟨_, rfl⟩
  obtain ⟨nc, hnc⟩ : ∃ n, n = c.length := ⟨_, rfl⟩
  rw [← hnd] at HL hc0 ⊢
  rw [← hnc] at h hc1 ⊢
  have HND := hid hnd
  have HNC := hid hnc
  have HCAP := hid hc1
  clear hr0 hr1 hk hc1
  rcases h with hl | ⟨hl, hn | ⟨hn, hd60, hfol, hlast⟩⟩
  · have HL1 := hid (HL.out true hl)
    clear hl HL hnd hnc
    go_enter Try.func4, Try.ntmps4
    go_wp2_with fail
    refine HL1.out.mono ?_
    rintro e w1 ⟨rfl, hb1⟩
    have HB1 := hid hb1.below
    clear hb1
    go_wp2_with fail
    refine (HKN.out _).mono ?_
    rintro e w2 ⟨rfl, hb2⟩
    have HB2 := hid hb2
    clear hb2
    go_wp2_with fail
    go_ret
    exact ⟨rfl, HB1.out.trans (HB2.out.mono HB1.out.size)⟩
  · have HL1 := hid (HL.out false hl)
    have e1 : decide ((nc : Int) > 30) = true := by simp; omega
    clear hl HL hnd hnc hn
    go_enter Try.func4, Try.ntmps4
    go_wp2_with fail
    refine HL1.out.mono ?_
    rintro e w1 ⟨rfl, hb1⟩
    have HB1 := hid hb1.below
    clear hb1
    go_wp2_with fail
    refine (HKN.out _).mono ?_
    rintro e w2 ⟨rfl, hb2⟩
    have HB2 := hid hb2
    clear hb2
    go_wp2_with fail
    go_ret
    exact ⟨rfl, HB1.out.trans (HB2.out.mono HB1.out.size)⟩
  · have HL1 := hid (HL.out false hl)
    have e1 : decide ((nc : Int) > 30) = false := by simp; omega
    have HFOL := hid hfol
    have HLAST := hid hlast
    have hd60' : nd ≤ 60 := by omega
    clear hl HL hnd hnc hn hfol hlast hd60
    go_enter Try.func4, Try.ntmps4
    go_wp2_with fail
    refine HL1.out.mono ?_
    rintro e w1 ⟨rfl, hb1⟩
    have HB1 := hid hb1.below
    clear hb1
    go_wp2_with fail
    go_loopg [5, 6, 7, 23] nd (fun left v5 v6 v7 v23 wr => ∃ i : Nat, i + left = nd ∧ v23 = .int .i64 i ∧ Hid (Below w.heap.size w wr))
    case atStart => exact ⟨0, by omega, rfl, HB1⟩
    case round =>
      obtain ⟨i, hi, rfl, R⟩ := hrel
      cases gk with
      | zero =>
        have hin : ¬ ((i : Int) < (nd : Int)) := by omega
        rcases HLAST.out with ⟨b, h1, h2⟩ | ⟨rf, h1, h2⟩ | ⟨h1, h2⟩
        · have HF := hid (Follows_calls A0 c0 db A1 c1 c b 2 wr (Kd.C_below HC0.out R.out) (Kd.C_below HC1.out R.out) h1)
          have HR := hid (fun W (hW : Below w.heap.size w W) => Row_calls A0 c0 db (some ⟨W.heap.size, 0, none⟩) 2 [c, c] 0 false 2 (W.alloc (.cells #[.slice A1 c.length c1, .slice A1 c.length c1] 31)) (Kd.C_below HC0.out (hW.alloc hW.size _)) (pair_C (Kd.C_below HC1.out hW) (by have := HCAP.out; have := HNC.out; omega)) h2)
          rw [← HND.out] at HF HR
          rw [← HNC.out] at HF HR
          clear h1 h2
          go_wp2_with fail
          refine HF.out.mono ?_
          rintro e w2 ⟨rfl, hb2⟩
          have HB2 := hid (R.out.trans (hb2.mono R.out.size))
          clear hb2
          go_wp2_with fail
          refine (HR.out w2 HB2.out).mono ?_
          rintro e w3 ⟨rfl, hb3⟩
          have HB3 := hid ((HB2.out.alloc HB2.out.size _).trans (hb3.mono (by have := HB2.out.size; simp; omega)))
          clear hb3
          go_wp2_with fail
          refine (HKN.out _).mono ?_
          rintro e w4 ⟨rfl, hb4⟩
          have HB4 := hid hb4
          clear hb4
          go_wp2_with fail
          go_ret
          exact ⟨rfl, HB3.out.trans (HB4.out.mono HB3.out.size)⟩
        · have HF := hid (Follows_calls A0 c0 db A1 c1 c true 0 wr (Kd.C_below HC0.out R.out) (Kd.C_below HC1.out R.out) h1)
          have HR := hid (fun W (hW : Below w.heap.size w W) => Row_calls A0 c0 db (some ⟨W.heap.size, 0, none⟩) 2 [c, c] 2 rf 0 (W.alloc (.cells #[.slice A1 c.length c1, .slice A1 c.length c1] 31)) (Kd.C_below HC0.out (hW.alloc hW.size _)) (pair_C (Kd.C_below HC1.out hW) (by have := HCAP.out; have := HNC.out; omega)) h2)
          rw [← HND.out] at HF HR
          rw [← HNC.out] at HF HR
          clear h1 h2
          go_wp2_with fail
          refine HF.out.mono ?_
          rintro e w2 ⟨rfl, hb2⟩
          have HB2 := hid (R.out.trans (hb2.mono R.out.size))
          clear hb2
          go_wp2_with fail
          refine (HR.out w2 HB2.out).mono ?_
          rintro e w3 ⟨rfl, hb3⟩
          have HB3 := hid ((HB2.out.alloc HB2.out.size _).trans (hb3.mono (by have := HB2.out.size; simp; omega)))
          clear hb3
          go_wp2_with fail
          refine (HKN.out _).mono ?_
          rintro e w4 ⟨rfl, hb4⟩
          have HB4 := hid hb4
          clear hb4
          go_wp2_with fail
          go_ret
          exact ⟨rfl, HB3.out.trans (HB4.out.mono HB3.out.size)⟩
        · have HF := hid (Follows_calls A0 c0 db A1 c1 c false 0 wr (Kd.C_below HC0.out R.out) (Kd.C_below HC1.out R.out) h1)
          have HR := hid (fun W (hW : Below w.heap.size w W) => Row_calls A0 c0 db (some ⟨W.heap.size, 0, none⟩) 2 [c, c] 0 false 0 (W.alloc (.cells #[.slice A1 c.length c1, .slice A1 c.length c1] 31)) (Kd.C_below HC0.out (hW.alloc hW.size _)) (pair_C (Kd.C_below HC1.out hW) (by have := HCAP.out; have := HNC.out; omega)) h2)
          rw [← HND.out] at HF HR
          rw [← HNC.out] at HF HR
          clear h1 h2
          go_wp2_with fail
          refine HF.out.mono ?_
          rintro e w2 ⟨rfl, hb2⟩
          have HB2 := hid (R.out.trans (hb2.mono R.out.size))
          clear hb2
          go_wp2_with fail
          refine (HR.out w2 HB2.out).mono ?_
          rintro e w3 ⟨rfl, hb3⟩
          have HB3 := hid ((HB2.out.alloc HB2.out.size _).trans (hb3.mono (by have := HB2.out.size; simp; omega)))
          clear hb3
          go_wp2_with fail
          refine (HKN.out _).mono ?_
          rintro e w4 ⟨rfl, hb4⟩
          have HB4 := hid hb4
          clear hb4
          go_wp2_with fail
          go_ret
          exact ⟨rfl, HB3.out.trans (HB4.out.mono HB3.out.size)⟩
      | succ left =>
        have hin : (i : Int) < (nd : Int) := by omega
        have hi0 : i < db.length := by have := HND.out; omega
        obtain ⟨b, e, hbe, hcase⟩ := HFOL.out i hi0
        obtain ⟨blk, off, rfl, hbs, hc⟩ := clauses_of_C HC0.out (by omega)
        obtain ⟨A', c', hcell, hC⟩ := hc i hi0
        obtain ⟨cl, hcl⟩ : ∃ cl, cl = db.getD i [] := ⟨_, rfl⟩
        rw [← hcl] at hcell hC hbe
        have hcr : wr.cell? ⟨blk, off + i, none⟩ = some (.slice A' cl.length c') := (R.out.cell (p := ⟨blk, off + i, none⟩) hbs).trans hcell
        have HF := hid (Follows_calls _ c0 db A' c' cl b e wr (Kd.C_below HC0.out R.out) (Kd.C_below hC R.out) hbe)
        rw [← HND.out] at HF
        clear hc hcell hC hcl hbe
        rcases hcase with rfl | ⟨rfl, rfl⟩
        · go_wp2_with fail
          refine HF.out.mono ?_
          rintro e w2 ⟨rfl, hb2⟩
          have HB2 := hid (R.out.trans (hb2.mono R.out.size))
          clear hb2
          go_wp2_with fail
          go_roundg left
          case measure => omega
          case rel => exact ⟨i + 1, by omega, by go_num, HB2⟩
        · go_wp2_with fail
          refine HF.out.mono ?_
          rintro e w2 ⟨rfl, hb2⟩
          have HB2 := hid (R.out.trans (hb2.mono R.out.size))
          clear hb2
          go_wp2_with fail
          go_roundg left
          case measure => omega
          case rel => exact ⟨i + 1, by omega, by go_num, HB2⟩

open Classical in
noncomputable def juristlaw16_RupSelf.f (k : Nat) (l0 : List (List Int)) (l1 : List Int) : Option Bool := if SelfOk k l0 l1 then some true else none
theorem juristlaw16_RupSelf.calls (k : Nat) (A0 : Option Addr) (c0 : Nat) (l0 : List (List Int)) (A1 : Option Addr) (c1 : Nat) (l1 : List Int) (r : Bool) (w : World) (hr0 : CC w A0 l0) (hc0 : l0.length ≤ c0) (hr1 : Kd.C (Kd.int .i64) w A1 l1.length l1) (hc1 : l1.length ≤ c1) (h : juristlaw16_RupSelf.f k l0 l1 = some r) :
    Calls Try.prog 4 #[.slice A0 l0.length c0, .slice A1 l1.length c1] w fun e w' => e = .returned (.bool r) ∧ Below w.heap.size w w' := by
  unfold juristlaw16_RupSelf.f at h
  split at h
  · cases h
    exact self_walk k A0 c0 l0 A1 c1 l1 w hr0 hc0 hr1 hc1 (by assumption)
  · cases h
end Go.Proofs.Ytjlkjgoncfdaeaa.Hk
