/- The laws' calls in memory: their cells, tame. -/
import Derived.Test.YtmgbodmpjholiaaMade
import Derived.Test.YtmgbodmpjholiaaHkx0
import Derived.Test.YtmgbodmpjholiaaManSumsLaw
namespace Go.Proofs.Ytmgbodmpjholiaa.BT
open Go.RowKit Go.Maps Go.Shelf Go.Lib Go.Proofs.YtmgbodmpjholiaaW.PrintWords Go.Proofs.YtmgbodmpjholiaaW.PrintLast Go.Proofs.YtmgbodmpjholiaaW.PrintMore Go.Proofs.Ytmgbodmpjholiaa.MM Go.Proofs.Ytmgbodmpjholiaa.KM Go.Proofs.Ytmgbodmpjholiaa.TM Go.Proofs.Ytmgbodmpjholiaa.RT Go.Proofs.Ytmgbodmpjholiaa.TW Go.Proofs.Ytmgbodmpjholiaa.Hk
attribute [local go_sem ↓] Go.wp_at_zero Go.wp_at_succ
set_option linter.unusedSimpArgs false
set_option linter.unusedVariables false

def opOf (x : S45) : OpM := ⟨x.f0, x.f1, x.f2, x.f3, x.f4, x.f5, x.f6, x.f7, x.f8⟩
/-- Where a call stands. -/
theorem ops_cells {w : World} {A : Option Addr} {n : Nat} {xs : List S45} (h : Kd.C k45 w A n xs) (i : Nat) (hi : i < n) (hx : i < xs.length) : ∃ b off A4 c4, A = some ⟨b, off, none⟩ ∧
    w.cell? ⟨b, off + i * 9, none⟩ = some (.int .i64 (opOf xs[i]).kd) ∧ w.cell? ⟨b, off + i * 9 + 1, none⟩ = some (.int .i64 (opOf xs[i]).a) ∧ w.cell? ⟨b, off + i * 9 + 2, none⟩ = some (.int .i64 (opOf xs[i]).b) ∧ w.cell? ⟨b, off + i * 9 + 3, none⟩ = some (.int .i64 (opOf xs[i]).c) ∧
    w.cell? ⟨b, off + i * 9 + 4, none⟩ = some (.slice A4 (opOf xs[i]).L.length c4) ∧ w.cell? ⟨b, off + i * 9 + 5, none⟩ = some (.int .i64 (opOf xs[i]).fn) ∧ w.cell? ⟨b, off + i * 9 + 6, none⟩ = some (.int .i64 (opOf xs[i]).so) ∧ w.cell? ⟨b, off + i * 9 + 7, none⟩ = some (.int .i64 (opOf xs[i]).n) ∧
    w.cell? ⟨b, off + i * 9 + 8, none⟩ = some (.bool (opOf xs[i]).m) ∧ Reads w (.slice A4 (opOf xs[i]).L.length c4) (opOf xs[i]).L := by
  obtain ⟨ad, A4, c4, e, h0, h1, h2, h3, h4, h5, h6, h7, h8, hl, hC⟩ := at_T45 h (i : Int) (by omega) (by omega)
  have hrd : rd_T45 xs (i : Int) = xs[i] := by
    unfold rd_T45
    rw [Int.toNat_natCast, List.getD_eq_getElem?_getD, List.getElem?_eq_getElem hx]
    rfl
  rw [hrd] at h0 h1 h2 h3 h4 h5 h6 h7 h8 hl hC
  rw [Int.toNat_natCast] at h0 h1 h2 h3 h4 h5 h6 h7 h8
  obtain ⟨ad', _, _, e', z0, _⟩ := at_T45 h 0 (by omega) (by omega)
  have hae : ad = ad' := Option.some.inj (e.symm.trans e')
  obtain ⟨b, off, sp⟩ := ad
  have hsp : sp = none := by
    rw [← hae] at z0
    unfold World.cell? at z0
    simp only [Addr.add] at z0
    cases sp with
    | none => rfl
    | some s => simp at z0; split at z0 <;> simp at z0
  subst hsp
  rw [Addr.add_lit] at h0 h1 h2 h3 h4 h5 h6 h7 h8
  refine ⟨b, off, A4, c4, e, h0, h1, h2, h3, h4, h5, h6, h7, h8, A4, c4, rfl, fun hp => ?_⟩
  obtain ⟨g, o, e1, hc⟩ := cells_of_C hC hp
  exact ⟨g, o, e1, World.block_lt_of_cell? w ⟨g, o + 0, none⟩ (hc 0 hp), hc⟩
theorem C_bel {w w1 : World} {A : Option Addr} {n : Nat} {xs : List S45} (h : Kd.C k45 w A n xs) (hb : Below w.heap.size w w1) : Kd.C k45 w1 A n xs := Kd.C_below h hb

/-! #### tame -/
def lensO (xs : List S45) : Nat := (xs.map fun x => x.f4.length).sum
def tameB (xs : List S45) (most : Nat) : Bool := decide (xs.length ≤ most) && decide (lensO xs ≤ 6000)
theorem lensO_snoc (xs : List S45) (k : Nat) (h : k < xs.length) : lensO (xs.take (k + 1)) = lensO (xs.take k) + xs[k].f4.length := by
  unfold lensO
  rw [List.take_succ_eq_append_getElem h, List.map_append, List.sum_append]
  simp
theorem lens_bound (ys : List S45) (B : Nat) (hy : ∀ x ∈ ys, x.f4.length ≤ B) : lensO ys ≤ ys.length * B := by
  induction ys with
  | nil => simp [lensO]
  | cons a ys ih =>
    have h2 := ih fun x hx => hy x (by simp [hx])
    have h3 := hy a (by simp)
    simp only [lensO, List.map_cons, List.sum_cons, List.length_cons] at h2 ⊢
    rw [Nat.add_mul]
    omega
structure TameAt (w : World) (xs : List S45) (k n : Nat) (wr : World) : Prop where
  bel : Below w.heap.size w wr
  sum : n = lensO (xs.take k)
  kl : k ≤ xs.length
set_option maxRecDepth 100000 in
set_option maxHeartbeats 1600000 in
theorem tame_calls (w : World) (A : Option Addr) (c : Nat) (xs : List S45) (most : Nat) (h : Kd.C k45 w A xs.length xs) (hm : most ≤ 200) (hb : ∀ x ∈ xs, x.f4.length ≤ 17592186043904) :
    Calls Try.prog 16 #[.slice A xs.length c, .int .i64 most] w fun e w' => e = .returned (.bool (tameB xs most)) ∧ Below w.heap.size w w' := by
  obtain ⟨N, hN⟩ : ∃ N, N = xs.length := ⟨_, rfl⟩
  have HC := hid h
  have HN := hid hN
  have hmI : (most : Int) ≤ 200 := by omega
  by_cases hl : most < N
  · have hI : (N : Int) > (most : Int) := by omega
    have HB := hid (show tameB xs most = false by unfold tameB; simp; omega)
    rw [← hN]
    clear h hN hl
    go_enter Try.func16, Try.ntmps16
    go_wp2
    go_ret
    rw [HB.out]
    exact ⟨rfl, Below.refl _ _⟩
  · have hI : ¬ (N : Int) > (most : Int) := by omega
    have HLE := hid hl
    have hN2 : (N : Int) ≤ 200 := by omega
    have HSB := hid (fun k => lens_bound (xs.take k) 17592186043904 fun x hx => hb x (List.mem_of_mem_take hx))
    have HTL := hid (show ∀ k, (xs.take k).length ≤ 200 from fun k => by rw [List.length_take]; omega)
    have HBB := hid hb
    rw [← hN]
    clear h hN hl hb
    go_enter Try.func16, Try.ntmps16
    go_wp2_with fail
    go_loop [5, 6] (fun v5 v6 => ∃ (n k : Nat), v5 = .int .i64 (n : Int) ∧ v6 = .int .i64 (k : Int) ∧ k ≤ N ∧ Hid (n = lensO (xs.take k))) (fun _ v6 => N - (intOf v6).toNat)
    case atStart => exact ⟨0, 0, rfl, rfl, by omega, hid (by simp [lensO])⟩
    case round =>
      obtain ⟨n, k, rfl, rfl, hk, U⟩ := hrel
      have hn1 : (n : Int) ≤ 3518437208780800 := by have h1 := HSB.out k; rw [← U.out] at h1; have h2 := HTL.out k; omega
      by_cases hkn : k < N
      · have hkI : (k : Int) < (N : Int) := by omega
        have hkl : k < xs.length := by have := HN.out; omega
        obtain ⟨b, off, A4, c4, rfl, _, _, _, _, h4, _⟩ := ops_cells HC.out k (by have := HN.out; omega) hkl
        obtain ⟨L, hL⟩ : ∃ L, L = (opOf xs[k]).L.length := ⟨_, rfl⟩
        rw [← hL] at h4
        have hLb : (L : Int) ≤ 17592186043904 := by have := HBB.out xs[k] (List.getElem_mem hkl); have h9 : (opOf xs[k]).L.length = xs[k].f4.length := rfl; omega
        have HNX := hid (show n + L = lensO (xs.take (k + 1)) from by rw [lensO_snoc xs k hkl, U.out, hL]; rfl)
        clear hL
        go_wp2_with fail
        go_round
        case rel => exact ⟨n + L, k + 1, by go_num, by go_num, by omega, HNX⟩
        case measure => simp [intOf]; omega
      · obtain rfl : k = N := by omega
        have HE := hid (show n = lensO xs from by rw [U.out, List.take_of_length_le (by have := HN.out; omega)])
        by_cases h6 : n ≤ 6000
        · have h6I : (n : Int) ≤ 6000 := by omega
          have HB := hid (show tameB xs most = true by unfold tameB; simp; have := HE.out; have := HN.out; have := HLE.out; omega)
          clear hkn h6
          go_wp2_with fail
          go_ret
          rw [HB.out]
          exact ⟨rfl, Below.refl _ _⟩
        · have h6I : decide ((n : Int) ≤ 6000) = false := by simp; omega
          have HB := hid (show tameB xs most = false by unfold tameB; simp; have := HE.out; omega)
          clear hkn h6
          go_wp2_with fail
          go_ret
          rw [HB.out]
          exact ⟨rfl, Below.refl _ _⟩
end Go.Proofs.Ytmgbodmpjholiaa.BT
