/- Walk of law17.known. -/
import Derived.Test.YtpopohkbffhckaaDoorLkC
import Derived.Test.YtpopohkbffhckaaDoorRowsC
import Derived.Test.YtpopohkbffhckaaDoorPAlike
namespace Go.Proofs.YtpopohkbffhckaaDoor.KL
open Go.Proofs.YtpopohkbffhckaaDoor.Pure Go.RowKit Go.Proofs.YtpopohkbffhckaaDoorW.PrintWords Go.Proofs.YtpopohkbffhckaaDoorW.PrintLast Go.Proofs.YtpopohkbffhckaaDoorW.PrintMore Go.Proofs.YtpopohkbffhckaaDoor.MM Go.Proofs.YtpopohkbffhckaaDoor.Hk Go.Proofs.YtpopohkbffhckaaDoor.RC
set_option linter.unusedSimpArgs false
set_option linter.unusedVariables false
abbrev K3 : Kd Lk := k36
def smallV : List Vx := [⟨-1, [], 0, -1, 0⟩, ⟨-2, [], 0, -1, 0⟩, ⟨0, [], 0, -1, 0⟩, ⟨1, [], 0, -1, 0⟩, ⟨2, [2], 0, -1, 0⟩, ⟨2, [3], 0, -1, 0⟩]
def smallA : List At := [⟨1, 2, 3, 0⟩, ⟨1, 4, 5, 0⟩]
def knownL : List Lk := [⟨1, 1, 0, 0, 0, 0, []⟩, ⟨5, 0, 4, 5, 0, 0, [0]⟩, ⟨6, -2, 0, 0, 1, 0, []⟩]
def knownL1 : List Lk := [⟨1, 1, 0, 0, 0, 0, []⟩]
theorem known_check : checkR smallV smallA knownL = ([1, -2], 0) := by decide
theorem known_check1 : checkR smallV smallA knownL1 = ([], 5) := by decide
theorem one_C (w : World) (u : Int) (t : TypeId) (b : Nat) (h : w.heap[b]? = some (.cells #[.int .i64 u] t (0, 0))) : Kd.C (Kd.int .i64) w (some ⟨b, 0, none⟩) 1 [u] := by
 refine ⟨rfl, by omega, fun _ => ⟨_, rfl, fun j p hj => ⟨[.int .i64 p], rfl, rfl, fun i q hq => ?_⟩⟩⟩
 have hi : i = 0 := by have := (List.getElem?_eq_some_iff.1 hq).1; simp at this; exact this
 have hj0 : j = 0 := by have := (List.getElem?_eq_some_iff.1 hj).1; simp at this; exact this
 subst hi hj0
 have hp : u = p := by simpa using hj
 subst hp
 have hq : Value.int .i64 u = q := by simpa using hq
 subst hq
 rw [Addr.add_lit]
 exact (blk_cell h _).trans rfl
abbrev lkL (x : Lk) (L : Value) : List Value := [.int .u8 x.f0, .int .i64 x.f1, .int .i64 x.f2, .int .i64 x.f3, .int .i64 x.f4, .int .i64 x.f5, L]
theorem lk_reps (w : World) {l : List Lk} {cs : List Value} (h : Reps (K3.K w) K3.sz l cs) (x : Lk) {A6 : Option Addr} {c6 : Nat} (l6 : x.f6.length ≤ c6) (g6 : (Kd.int .i64).C w A6 x.f6.length x.f6) : Reps (K3.K w) K3.sz (l ++ [x]) (cs ++ lkL x (.slice A6 x.f6.length c6)) :=
 h.snoc (k36_mk w x l6 g6) rfl
theorem blk_cells {w : World} {b : Nat} {cs : Array Value} {t : TypeId} (h : w.heap[b]? = some (.cells cs t (0, 0))) : ∀ j u, cs.toList[j]? = some u → w.cell? ((⟨b, 0, none⟩ : Addr).add j) = some u := fun j u hu => World.news_of_block h j u hu
set_option maxRecDepth 100000 in
set_option maxHeartbeats 3200000 in
theorem known_calls (w : World) (hno : Noth w) : Calls Tryd.prog 9 #[] w fun e w' => e = .returned (.bool true) ∧ Below w.heap.size w w' := by
 have HNO := hid hno
 have HSM := hid (juristlaw17_small.calls smallV smallA w rfl)
 clear hno
 go_enter Tryd.func9, Tryd.ntmps9
 go_wp2_with fail
 refine HSM.out.mono ?_
 rintro e w1 ⟨v0_, v1_, rfl, hN, hR, hb⟩
 obtain ⟨A0, c0, rfl, hc0, hC0⟩ := Kd.N_reads hN
 obtain ⟨A1, c1, rfl, hc1, hC1⟩ := Kd.R_reads hR
 have HB := hid hb
 have HC0 := hid (And.intro hc0 hC0)
 have HC1 := hid (And.intro hc1 hC1)
 clear hN hR hb hc0 hC0 hc1 hC1
 have e0 : smallV.length = 6 := rfl
 have e1 : smallA.length = 2 := rfl
 rw [e0, e1]
 clear e0 e1
 go_wp2_with fail
 obtain ⟨W3, hW3⟩ : ∃ W3, W3 = (w1.alloc (.cells #[.int .i64 0] 3)).alloc (.cells #[.int .u8 1, .int .i64 1, .int .i64 0, .int .i64 0, .int .i64 0, .int .i64 0, .slice none 0 0, .int .u8 5, .int .i64 0, .int .i64 4, .int .i64 5, .int .i64 0, .int .i64 0, .slice (some ⟨w1.heap.size, 0, none⟩) 1 1, .int .u8 6, .int .i64 (-2), .int .i64 0, .int .i64 0, .int .i64 1, .int .i64 0, .slice none 0 0] 36) := ⟨_, rfl⟩
 rw [← hW3]
 have HB3 := hid (show Below w1.heap.size w1 W3 by rw [hW3]; exact ((Below.refl _ _).alloc (Nat.le_refl _) _).alloc (by simp) _)
 have HL3 := hid (show Kd.C K3 W3 (some ⟨w1.heap.size + 1, 0, none⟩) knownL.length knownL by
  have h1 : W3.heap[w1.heap.size]? = some (.cells #[.int .i64 0] 3 (0, 0)) := by rw [hW3]; exact (Go.heap_alloc_old _ _ (by simp)).trans (heap_alloc_new w1 _)
  have h2 := new2 w1 (.cells #[.int .i64 0] 3) (.cells #[.int .u8 1, .int .i64 1, .int .i64 0, .int .i64 0, .int .i64 0, .int .i64 0, .slice none 0 0, .int .u8 5, .int .i64 0, .int .i64 4, .int .i64 5, .int .i64 0, .int .i64 0, .slice (some ⟨w1.heap.size, 0, none⟩) 1 1, .int .u8 6, .int .i64 (-2), .int .i64 0, .int .i64 0, .int .i64 1, .int .i64 0, .slice none 0 0] 36)
  rw [← hW3] at h2
  refine C_of_reps (lk_reps W3 (lk_reps W3 (lk_reps W3 (Reps.none _ _) ⟨1, 1, 0, 0, 0, 0, []⟩ (A6 := none) (c6 := 0) (by decide) (nil_C _)) ⟨5, 0, 4, 5, 0, 0, [0]⟩ (A6 := some ⟨w1.heap.size, 0, none⟩) (c6 := 1) (by decide) (one_C W3 0 _ _ h1)) ⟨6, -2, 0, 0, 1, 0, []⟩ (A6 := none) (c6 := 0) (by decide) (nil_C _)) (by decide) (blk_cells h2))
 have HK1 := hid (check_calls A0 c0 smallV A1 c1 smallA (some ⟨w1.heap.size + 1, 0, none⟩) 3 knownL W3 (Kd.C_below HC0.out.2 HB3.out) HC0.out.1 (Kd.C_below HC1.out.2 HB3.out) HC1.out.1 HL3.out ((HNO.out.below HB.out HNO.out.pos).below HB3.out (Nat.lt_of_lt_of_le HNO.out.pos HB.out.size)) (by decide) (by decide) (by decide) (by decide))
 rw [known_check] at HK1
 refine (show Calls Tryd.prog 11 #[.slice A0 6 c0, .slice A1 2 c1, .slice (some ⟨w1.heap.size + 1, 0, none⟩) 3 3] W3 (CheckPost ([1, -2], 0) W3) from HK1.out).mono ?_
 clear HK1 HL3
 rintro e w4 ⟨A4, c4, rfl, hc4, hC4, hb4⟩
 have HC4 := hid (And.intro hc4 hC4)
 have HB4 := hid (HB3.out.trans (hb4.mono HB3.out.size))
 clear hc4 hC4 hb4 hW3 HB3
 go_wp2_with fail
 obtain ⟨W5, hW5⟩ : ∃ W5, W5 = w4.alloc (.cells #[.int .u8 1, .int .i64 1, .int .i64 0, .int .i64 0, .int .i64 0, .int .i64 0, .slice none 0 0] 36) := ⟨_, rfl⟩
 rw [← hW5]
 have HB5 := hid (show Below w4.heap.size w4 W5 by rw [hW5]; exact (Below.refl _ _).alloc (Nat.le_refl _) _)
 have HL5 := hid (show Kd.C K3 W5 (some ⟨w4.heap.size, 0, none⟩) knownL1.length knownL1 by
  have h2 := heap_alloc_new w4 (.cells #[.int .u8 1, .int .i64 1, .int .i64 0, .int .i64 0, .int .i64 0, .int .i64 0, .slice none 0 0] 36)
  rw [← hW5] at h2
  exact C_of_reps (lk_reps W5 (Reps.none _ _) ⟨1, 1, 0, 0, 0, 0, []⟩ (A6 := none) (c6 := 0) (by decide) (nil_C _)) (by decide) (blk_cells h2))
 have HB6 := hid (HB4.out.trans (HB5.out.mono HB4.out.size))
 have HK2 := hid (check_calls A0 c0 smallV A1 c1 smallA (some ⟨w4.heap.size, 0, none⟩) 1 knownL1 W5 (Kd.C_below HC0.out.2 HB6.out) HC0.out.1 (Kd.C_below HC1.out.2 HB6.out) HC1.out.1 HL5.out ((HNO.out.below HB.out HNO.out.pos).below HB6.out (Nat.lt_of_lt_of_le HNO.out.pos HB.out.size)) (by decide) (by decide) (by decide) (by decide))
 rw [known_check1] at HK2
 refine (show Calls Tryd.prog 11 #[.slice A0 6 c0, .slice A1 2 c1, .slice (some ⟨w4.heap.size, 0, none⟩) 1 1] W5 (CheckPost ([], 5) W5) from HK2.out).mono ?_
 clear HK2 HL5
 rintro e w6 ⟨A6, c6, rfl, hc6, hC6, hb6⟩
 have HB7 := hid (HB6.out.trans (hb6.mono HB6.out.size))
 have HC7 := hid (Kd.C_below (Kd.C_below HC4.out.2 HB5.out) hb6)
 clear hc6 hC6 hb6 hW5 HB5 HB6 HB4
 go_wp2_with fail
 obtain ⟨kk, hkk⟩ := (alike_ev [1, -2] [1, -2] (by decide)).rounds
 have HAL := hid (show Calls Tryd.prog 15 #[.slice A4 2 c4, .slice (some ⟨w6.heap.size, 0, none⟩) 2 2] (w6.alloc (.cells #[.int .i64 1, .int .i64 (-2)] 33)) _ from
  juristref14_Alike.calls kk A4 c4 [1, -2] (some ⟨w6.heap.size, 0, none⟩) 2 [1, -2] true _ (Kd.C_below HC7.out ((Below.refl _ _).alloc (Nat.le_refl _) _)) HC4.out.1 (by
   refine ⟨rfl, by decide, fun _ => ⟨_, rfl, fun j p hj => ⟨[.int .i64 p], rfl, rfl, fun i q hq => ?_⟩⟩⟩
   have hi : i = 0 := by have := (List.getElem?_eq_some_iff.1 hq).1; simp at this; exact this
   subst hi
   have hq : Value.int .i64 p = q := by simpa using hq
   subst hq
   have h9 := heap_alloc_new w6 (.cells #[.int .i64 1, .int .i64 (-2)] 33)
   have hj2 : j < 2 := by have := (List.getElem?_eq_some_iff.1 hj).1; simpa using this
   rw [Addr.add_lit]
   rcases (show j = 0 ∨ j = 1 by omega) with rfl | rfl
   ·
    have hp : 1 = p := by simpa using hj
    subst hp
    exact (blk_cell h9 _).trans rfl
   ·
    have hp : -2 = p := by simpa using hj
    subst hp
    exact (blk_cell h9 _).trans rfl) (by decide) (by simpa using hkk))
 refine HAL.out.mono ?_
 clear HAL
 rintro e w8 ⟨rfl, hd⟩
 have HD := hid hd.below
 clear hd
 go_wp2
 go_ret
 exact ⟨rfl, HB.out.trans ((HB7.out.alloc HB7.out.size _).trans (HD.out.mono (Nat.le_trans HB7.out.size (by simp))) |>.mono HB.out.size)⟩
end Go.Proofs.YtpopohkbffhckaaDoor.KL
