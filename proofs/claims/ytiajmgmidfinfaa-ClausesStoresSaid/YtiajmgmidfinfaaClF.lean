/- Walks of a store of clauses: New, ready, Len, Atoms, Clause, Find. -/
import Derived.Test.YtiajmgmidfinfaaClT
import Derived.Test.YtiajmgmidfinfaaManC
import Derived.Test.YtiajmgmidfinfaaManNone
import Derived.StringKeys
import Derived.Deep.Cut
namespace Go.Proofs.Ytiajmgmidfinfaa.SM
open Go.Lib hiding hid
open Go.RowKit Go.Maps Go.Shelf Go.Proofs.YtiajmgmidfinfaaW.PrintWords Go.Proofs.YtiajmgmidfinfaaW.PrintLast Go.Proofs.YtiajmgmidfinfaaW.PrintMore Go.Proofs.Ytiajmgmidfinfaa.MM Go.Proofs.Ytiajmgmidfinfaa.KM Go.Proofs.Ytiajmgmidfinfaa.SP Go.Proofs.Ytiajmgmidfinfaa.TW Go.Proofs.Ytiajmgmidfinfaa.LF
set_option linter.unusedSimpArgs false
set_option linter.unusedVariables false

/-- What a store's cells hold. -/
structure AtC (w : World) (s b n c : Nat) (a : Option Addr) (top : Int) : Prop where
  c0 : w.cell? ⟨s, 0, none⟩ = some (.slice a n c)
  c1 : w.cell? ⟨s, 1, none⟩ = some (.map (some b))
  c2 : w.cell? ⟨s, 2, none⟩ = some (.int .i64 top)
  lt : s < w.heap.size
theorem Cl.at {w : World} {s : Nat} {fs : List (List Int)} {top : Int} {F : Nat → Prop} (h : Cl w s fs top F) : ∃ b a c, AtC w s b fs.length c a top := by
  obtain ⟨b, v, A, h1, _⟩ := h
  obtain ⟨a, c, rfl⟩ := h1.forms.shape
  exact ⟨b, a, c, (blk_cell h1.blk 0).trans rfl, (blk_cell h1.blk 1).trans rfl, (blk_cell h1.blk 2).trans rfl, blk_lt h1.blk⟩
theorem Cl.len {w : World} {s : Nat} {fs : List (List Int)} {top : Int} {F : Nat → Prop} (h : Cl w s fs top F) : fs.length ≤ 1000 := by
  obtain ⟨b, v, A, h1, _⟩ := h
  exact h1.len
theorem AtC.below {w w1 : World} {s b n c : Nat} {a : Option Addr} {top : Int} (h : AtC w s b n c a top) (hb : Below w.heap.size w w1) : AtC w1 s b n c a top :=
  ⟨(hb.cell (p := ⟨s, 0, none⟩) h.lt).trans h.c0, (hb.cell (p := ⟨s, 1, none⟩) h.lt).trans h.c1, (hb.cell (p := ⟨s, 2, none⟩) h.lt).trans h.c2, Nat.lt_of_lt_of_le h.lt hb.size⟩
theorem Cl.made (w : World) : Cl ((w.alloc (.map #[] 0)).alloc (.cells #[.slice none 0 0, .map (some w.heap.size), .int .i64 0] 41)) (w.heap.size + 1) [] 0 (fun j => w.heap.size ≤ j ∧ j ≤ w.heap.size + 1) := by
  refine ⟨w.heap.size, .slice none 0 0, fun _ => False, ⟨?_, .nil _, ⟨0, Nat.le_refl _, ?_⟩, by omega, ⟨fun h => h, fun h => h⟩, (fun g hg => by cases hg), ⟨by omega, by omega⟩, by simp, by simp⟩, ⟨by omega, by omega⟩, (fun g hg => by cases hg), (fun g hg => hg.elim), fun g hg => by simp; omega⟩
  · have := heap_alloc_new (w.alloc (.map #[] 0)) (.cells #[.slice none 0 0, .map (some w.heap.size), .int .i64 0] 41)
    simpa using this
  · exact ((KMap.made w).move (old_alloc (w := w.alloc (.map #[] 0)) _ (by simp))).congr fun k => by simp [byM, idx]
theorem New_calls (w : World) : Calls Try.prog 30 #[] w fun e w' => ∃ s, e = .returned (ptr s) ∧ ClAt Side.nothing w w' s [] 0 := by
  have H := hid (Cl.made w)
  have hmm := @run_makeMap Try.prog
  go_enter Try.func30, Try.ntmps30
  go_wp2
  go_ret
  exact ⟨_, rfl, ((Below.refl _ _).alloc (Nat.le_refl _) _).alloc (by simp) _, ⟨_, H.out, fun j hj => ⟨hj.1, fun h => h⟩⟩, trivial⟩
theorem ready_calls (w : World) (s b : Nat) (hc : w.cell? ⟨s, 1, none⟩ = some (.map (some b))) :
    Calls Try.prog 41 #[ptr s] w fun e w' => e = .returned (.bool true) ∧ w' = w := by
  have qT : ∀ (W : World), (binOp .neq 39 (.map (some b)) (.map none)).run Try.prog W = .ok (.bool true) W := fun W => by first | rfl | kernel_rfl
  go_enter Try.func41, Try.ntmps41
  go_wp2
  go_ret
  exact ⟨rfl, rfl⟩
theorem Len_calls (w : World) (s : Nat) (fs : List (List Int)) (top : Int) (F : Nat → Prop) (h : Cl w s fs top F) :
    Calls Try.prog 27 #[ptr s] w fun e w' => e = .returned (.int .i64 (fs.length : Int)) ∧ Below w.heap.size w w' := by
  obtain ⟨b, a, c, hat⟩ := h.at
  have HR := hid (ready_calls w s b hat.c1)
  have c0 := hat.c0
  clear h hat
  go_enter Try.func27, Try.ntmps27
  go_wp2_with fail
  refine HR.out.mono ?_
  rintro e w1 ⟨rfl, hw⟩
  obtain rfl := hw
  go_wp2
  go_ret
  exact ⟨rfl, Below.refl _ _⟩
theorem Atoms_calls (w : World) (s : Nat) (fs : List (List Int)) (top : Int) (F : Nat → Prop) (h : Cl w s fs top F) :
    Calls Try.prog 29 #[ptr s] w fun e w' => e = .returned (.int .i64 top) ∧ Below w.heap.size w w' := by
  obtain ⟨b, a, c, hat⟩ := h.at
  have HR := hid (ready_calls w s b hat.c1)
  have c2 := hat.c2
  clear h hat
  go_enter Try.func29, Try.ntmps29
  go_wp2_with fail
  refine HR.out.mono ?_
  rintro e w1 ⟨rfl, hw⟩
  obtain rfl := hw
  go_wp2
  go_ret
  exact ⟨rfl, Below.refl _ _⟩
/-- A form that is told, in memory of its own. -/
def ShowC (w : World) (l : List Int) (e : Ending) (w' : World) : Prop := ∃ x, e = .returned x ∧ Row w' 25 x (lits l) ∧ (∀ g, x.ownBlock = some g → w.heap.size ≤ g) ∧ Below w.heap.size w w'
def formAt (fs : List (List Int)) (i : Int) : List Int := if 0 ≤ i ∧ i < (fs.length : Int) then fs.getD i.toNat [] else []
theorem Clause_calls (w : World) (s : Nat) (fs : List (List Int)) (top : Int) (F : Nat → Prop) (i : Int) (h : Cl w s fs top F) :
    Calls Try.prog 28 #[ptr s, .int .i64 i] w (ShowC w (formAt fs i)) := by
  obtain ⟨b, a, c, hat⟩ := h.at
  have HAT := hid hat
  have HLEN := hid (fun W (hW : Below w.heap.size w W) => Len_calls W s fs top F (h.below hW))
  have hLb : (fs.length : Int) ≤ 1000 := by have := h.len; omega
  by_cases h0 : i < 0
  · have hF := hid (show formAt fs i = [] by unfold formAt; rw [if_neg (by omega)])
    clear h hat
    go_enter Try.func28, Try.ntmps28
    go_wp2_with fail
    go_ret
    rw [hF.out]
    exact ⟨_, rfl, .nil _ _, (fun g hg => by cases hg), Below.refl _ _⟩
  · obtain ⟨n, hn⟩ : ∃ n : Nat, i = (n : Int) := ⟨i.toNat, by omega⟩
    subst hn
    have h0d : decide ((n : Int) < 0) = false := by simp
    by_cases hi : n < fs.length
    · have hiI : ¬ ((n : Int) ≥ (fs.length : Int)) := by omega
      have hid' : decide ((n : Int) ≥ (fs.length : Int)) = false := by simpa using hiI
      have hF := hid (show formAt fs (n : Int) = fs.getD n [] by unfold formAt; rw [if_pos ⟨by omega, by omega⟩, Int.toNat_natCast])
      obtain ⟨b', v, A, h1, _⟩ := h
      obtain ⟨g, off, cap, x, hv, hg, hcx, hrx, _⟩ := h1.forms.at (i := n) (f := fs.getD n []) (by simp [List.getD_eq_getElem?_getD, hi])
      have hlenf : (fs.getD n []).length ≤ 1000 := (h1.inb _ (by rw [List.getD_eq_getElem?_getD, List.getElem?_eq_getElem hi]; exact List.getElem_mem hi)).2.2
      have hc0 := (blk_cell h1.blk 0).trans rfl
      have hv0 : Value.slice a fs.length c = v := Option.some.inj (hat.c0.symm.trans ((blk_cell h1.blk 0).trans rfl))
      rw [hv] at hv0
      injection hv0 with z1 z2 z3
      subst z1 z3
      obtain ⟨N, hN⟩ : ∃ N, N = fs.length := ⟨_, rfl⟩
      rw [← hN] at HAT hiI hid' hLb
      have hiN : (n : Int) < (N : Int) := by omega
      have HLEN' := HLEN.out
      rw [← hN] at HLEN'
      have HL2 := hid HLEN'
      generalize fs.getD n [] = f at hrx hlenf hF
      have HRX := hid hrx
      have HLF := hid hlenf
      have HCX := hid hcx
      have HGL := hid hg
      clear h1 hat hv hg hcx hrx hlenf hc0 z2 HLEN HLEN' hi h0 hN
      go_enter Try.func28, Try.ntmps28
      go_wp2_with fail
      refine (HL2.out w (Below.refl _ _)).mono ?_
      rintro e w1 ⟨rfl, hb1⟩
      have HB1 := hid hb1
      have c0 := (HAT.out.below hb1).c0
      have hcx := (World.cell?_of_block (hb1.block g HGL.out)).trans HCX.out
      obtain ⟨A2, c2, rfl, hcap2, hC2⟩ := C_of_Row (Row.bel HRX.out hb1)
      have HCL := hid (MC.clone_calls A2 c2 f w1 hC2 (by have := HLF.out; omega))
      clear hb1 hC2 HL2
      go_wp2_with fail
      refine HCL.out.mono ?_
      rintro e w2 ⟨x, rfl, ho, _, hb2⟩
      obtain ⟨a1, _, a3⟩ := Row.ofOwns ho
      have HX := hid (And.intro (show Row w2 25 x (lits f) from a1) (And.intro a3 hb2))
      clear ho hb2 a1 a3 HCL
      go_wp2_with fail
      go_ret
      rw [hF.out]
      exact ⟨_, rfl, HX.out.1, fun g hg => Nat.le_trans HB1.out.size (HX.out.2.1 g hg), SM.bel HB1.out HX.out.2.2⟩
    · have hiI : (n : Int) ≥ (fs.length : Int) := by omega
      have hid' : decide ((n : Int) ≥ (fs.length : Int)) = true := by simpa using hiI
      have hF := hid (show formAt fs (n : Int) = [] by unfold formAt; rw [if_neg (by omega)])
      clear h hat h0 hi
      go_enter Try.func28, Try.ntmps28
      go_wp2_with fail
      refine (HLEN.out w (Below.refl _ _)).mono ?_
      rintro e w1 ⟨rfl, hb1⟩
      have HB1 := hid hb1
      clear hb1
      go_wp2_with fail
      go_ret
      rw [hF.out]
      exact ⟨_, rfl, .nil _ _, (fun g hg => by cases hg), HB1.out⟩
/-! #### Find -/
theorem mayB_in {l : List Int} (h : MC.mayB l = true) : ∀ x ∈ l, InB x := by
  intro x hx
  unfold MC.mayB at h
  rw [Bool.and_eq_true, List.all_eq_true] at h
  have := (MC.literalB_true).1 (h.2 x hx)
  exact this.2
theorem zeroI (w : World) : (zeroValue 3).run Try.prog w = .ok (.int .i64 0) w := by kernel_rfl
theorem keyS {k : ByteArray} (h : k.size ≤ maxLen) : ∃ kl, keyOf Try.prog 9 (.string k) = some kl := ⟨_, Go.WideMaps.keyOf_string_mk Try.underlying9 h⟩
theorem keyF_size {l : List Int} (h : l.length ≤ 1000) : (keyF l).size ≤ maxLen := by
  unfold keyF
  rw [strOfNums_size, textN_len]
  unfold maxLen
  omega
theorem keyedS : Keyed Try.prog 9 := string_keyed Try.underlying9
theorem look_run {w : World} {b n : Nat} {fs : List (List Int)} (h : KMap Try.prog 9 Value.string w b n (fun k => (byM fs k).map numV)) {k : ByteArray} (hs : k.size ≤ maxLen) :
    (Instr.lookup 39 (.map (some b)) (.string k) false).run Try.prog w = .ok (.int .i64 (((byM fs k).getD 0 : Nat) : Int)) w := by
  rw [KMap.look h keyedS Try.underlying39 (zeroI w) (a := k) (keyS hs)]
  cases byM fs k with
  | none => rfl
  | some i => rfl
def findC (fs : List (List Int)) (l : List Int) : Nat × Bool := if MC.mayB l = true then (match byM fs (keyF (canon l)) with | some i => (i - 1, true) | none => (0, false)) else (0, false)
set_option maxRecDepth 100000 in
set_option maxHeartbeats 1600000 in
theorem Find_calls (w : World) (s : Nat) (fs : List (List Int)) (top : Int) (F : Nat → Prop) (A : Option Addr) (c : Nat) (l : List Int) (h : Cl w s fs top F) (hC : Kd.C (Kd.int .i64) w A l.length l) (hl : l.length ≤ 1000) :
    Calls Try.prog 26 #[ptr s, .slice A l.length c] w fun e w' => e = .returned (.tuple #[.int .i64 ((findC fs l).1 : Int), .bool (findC fs l).2]) ∧ Below w.heap.size w w' := by
  obtain ⟨b, a, cc, hat⟩ := h.at
  have HR := hid (ready_calls w s b hat.c1)
  have HMAY := hid (MC.May_calls A c l w hC)
  have HAT := hid hat
  have HCL := hid h
  have HC := hid hC
  have HLL := hid hl
  obtain ⟨N, hN⟩ : ∃ N, N = l.length := ⟨_, rfl⟩
  have HN := hid hN
  rw [← hN] at HMAY ⊢
  clear h hat hC hN hl
  cases hm : MC.mayB l with
  | false =>
    have hF := hid (show findC fs l = (0, false) by unfold findC; rw [if_neg (by simp [hm])])
    rw [hm] at HMAY
    clear hm
    go_enter Try.func26, Try.ntmps26
    go_wp2_with fail
    refine HR.out.mono ?_
    rintro e w1 ⟨rfl, hw⟩
    obtain rfl := hw
    go_wp2_with fail
    refine HMAY.out.mono ?_
    rintro e w2 ⟨rfl, hb⟩
    have HB := hid hb
    clear hb
    go_wp2_with fail
    go_ret2
    rw [hF.out]
    exact ⟨rfl, HB.out⟩
  | true =>
    have hF := hid (show findC fs l = (match byM fs (keyF (canon l)) with | some i => (i - 1, true) | none => (0, false)) by unfold findC; rw [if_pos hm])
    have HIN := hid (mayB_in hm)
    rw [hm] at HMAY
    clear hm
    go_enter Try.func26, Try.ntmps26
    go_wp2_with fail
    refine HR.out.mono ?_
    rintro e w1 ⟨rfl, hw⟩
    obtain rfl := hw
    clear HR
    go_wp2_with fail
    refine HMAY.out.mono ?_
    rintro e w2 ⟨rfl, hb⟩
    have HB := hid hb
    have c1 := (HAT.out.below hb).c1
    have HFORM := hid (MC.form_calls A c l w2.drew (Kd.C_below (Kd.C_below HC.out hb) (pw_below_drewN (Below.refl _ _) 1)) (by have := HLL.out; omega) HIN.out)
    rw [← HN.out] at HFORM
    clear hb HMAY
    go_upto_region 3 with fail
    refine wp_region_noPanic ?_
    refine start_ (n := 9) (S := (fun w' => w'.cell? ⟨s, 1, none⟩ = some (.map (some b)) ∧ True)) (ds := []) #[false, false, false, false, false, false, false, false, false] (by kernel_rfl) rfl rfl ⟨c1, trivial⟩ (fun hHeld => ?_)
    refine take_ (i := 0) (N := some 15) (v := ?_) (a' := ?_) #[true, false, false, false, false, false, false, false, false] rfl rfl (by kernel_rfl) (fun _ _ _ h => h) (Or.inl ⟨by rfl, ?_⟩) hHeld ?_ ?_   -- move (%0)
    rotate_left
    · rintro w' ⟨s0, s1⟩
      go_simp
      with_reducible rfl
    rotate_left
    · simp only [Act.put, List.setIfInBounds_toArray, List.set_cons_zero, List.set_cons_succ]
      rfl
    refine take_ (i := 1) (N := some 16) (v := ?_) (a' := ?_) #[true, true, false, false, false, false, false, false, false] rfl rfl (by kernel_rfl) (fun _ _ _ h => h) (Or.inl ⟨by rfl, ?_⟩) hHeld ?_ ?_   -- nilCheck (%15)
    rotate_left
    · rintro w' ⟨s0, s1⟩
      go_simp
      with_reducible rfl
    rotate_left
    · simp only [Act.put, List.setIfInBounds_toArray, List.set_cons_zero, List.set_cons_succ]
      rfl
    refine take_ (i := 2) (N := some 17) (v := ?_) (a' := ?_) #[true, true, true, false, false, false, false, false, false] rfl rfl (by kernel_rfl) (fun _ _ _ h => h) (Or.inl ⟨by rfl, ?_⟩) hHeld ?_ ?_   -- fieldAddr 41 (%16) 1
    rotate_left
    · rintro w' ⟨s0, s1⟩
      go_simp
      with_reducible rfl
    rotate_left
    · simp only [Act.put, List.setIfInBounds_toArray, List.set_cons_zero, List.set_cons_succ]
      rfl
    refine take_ (i := 3) (N := some 18) (v := ?_) (a' := ?_) #[true, true, true, true, false, false, false, false, false] rfl rfl (by kernel_rfl) (fun _ _ _ h => h) (Or.inl ⟨by rfl, ?_⟩) hHeld ?_ ?_   -- load 39 (%17)
    rotate_left
    · rintro w' ⟨s0, s1⟩
      go_simp
      with_reducible rfl
    rotate_left
    · simp only [Act.put, List.setIfInBounds_toArray, List.set_cons_zero, List.set_cons_succ]
      rfl
    refine take_ (i := 4) (N := some 19) (v := ?_) (a' := ?_) #[true, true, true, true, true, false, false, false, false] rfl rfl (by kernel_rfl) (fun _ _ _ h => h) (Or.inl ⟨by rfl, ?_⟩) hHeld ?_ ?_   -- move (%1)
    rotate_left
    · rintro w' ⟨s0, s1⟩
      go_simp
      with_reducible rfl
    rotate_left
    · simp only [Act.put, List.setIfInBounds_toArray, List.set_cons_zero, List.set_cons_succ]
      rfl
    refine one_ (i := 5) (N := some 20) #[true, true, true, true, true, true, false, false, false] rfl rfl (by kernel_rfl) (by decide) (fun K9 hK9 => ?_)
    refine call_ 35 #[.slice A N c] (by rfl) rfl (by go_simp; first | done | rfl) ?_
    refine HFORM.out.mono ?_
    rintro e w3 ⟨x, rfl, hR, hb3⟩
    obtain ⟨hrow, _⟩ := Row_of_R hR
    have HB3 := hid (SM.bel HB.out (SM.bel (show Below w2.heap.size w2 w2.drew from ⟨rfl, rfl, rfl, Nat.le_refl _, fun _ _ => rfl⟩) hb3))
    obtain ⟨ax, cx, rfl, _⟩ := hrow.shape
    obtain ⟨K, hK⟩ : ∃ K, K = (lits (canon l)).length := ⟨_, rfl⟩
    rw [← hK] at hrow ⊢
    have HT := hid (text_calls w3 _ (canon l) hrow (by have := length_canon_le l; have := HLL.out; omega))
    have c13 := (HAT.out.below HB3.out).c1
    clear hK hR hb3 hrow
    refine ⟨_, rfl, ?_⟩
    refine hK9.out _ _ ⟨c13, trivial⟩ (fun hHeld => ?_)
    refine norm_ (a' := ?_) ?_ ?_
    rotate_left
    · simp only [Act.put, List.setIfInBounds_toArray, List.set_cons_zero, List.set_cons_succ]
      rfl
    refine one_ (i := 6) (N := some 21) #[true, true, true, true, true, true, true, false, false] rfl rfl (by kernel_rfl) (by decide) (fun K8 hK8 => ?_)
    refine call_ 42 #[.slice ax K cx] (by rfl) rfl (by go_simp; first | done | rfl) ?_
    refine HT.out.mono ?_
    rintro e w4 ⟨rfl, hb4⟩
    have HB4 := hid (SM.bel HB3.out hb4)
    obtain ⟨b', v', A', hO, _⟩ := HCL.out.below HB4.out
    have hbb : b' = b := by
      have h1 := (HAT.out.below HB4.out).c1
      rw [show _ = _ from blk_cell hO.blk 1] at h1
      simpa using h1
    subst hbb
    obtain ⟨n, hn, hmap⟩ := hO.map
    have hlk := look_run hmap (keyF_size (show (canon l).length ≤ 1000 from by have := length_canon_le l; have := HLL.out; omega))
    have c14 := (HAT.out.below HB4.out).c1
    clear hO hmap hb4 hn HT c13
    refine ⟨_, rfl, ?_⟩
    refine hK8.out _ _ ⟨c14, trivial⟩ (fun hHeld => ?_)
    refine norm_ (a' := ?_) ?_ ?_
    rotate_left
    · simp only [Act.put, List.setIfInBounds_toArray, List.set_cons_zero, List.set_cons_succ]
      rfl
    refine one_ (i := 7) (N := some 22) #[true, true, true, true, true, true, true, true, false] rfl rfl (by kernel_rfl) (by decide) (fun K7 hK7 => ?_)
    refine value_ (by rfl) rfl (v := .int .i64 (((byM fs (keyF (canon l))).getD 0 : Nat) : Int)) (w1 := w4) (by go_simp; first | done | rfl) ?_
    refine hK7.out _ _ ⟨c14, trivial⟩ (fun hHeld => ?_)
    refine norm_ (a' := ?_) ?_ ?_
    rotate_left
    · simp only [Act.put, List.setIfInBounds_toArray, List.set_cons_zero, List.set_cons_succ]
      rfl
    refine take_ (i := 8) (N := some 6) (v := ?_) (a' := ?_) #[true, true, true, true, true, true, true, true, true] rfl rfl (by kernel_rfl) (fun _ _ _ h => h) (Or.inl ⟨by rfl, ?_⟩) hHeld ?_ ?_   -- assign (%22)
    rotate_left
    · rintro w' ⟨s0, s1⟩
      go_simp
      with_reducible rfl
    rotate_left
    · simp only [Act.put, List.setIfInBounds_toArray, List.set_cons_zero, List.set_cons_succ]
      rfl
    refine done_ (by kernel_rfl) ?_
    try simp only [NoPanic, Exit.then]
    clear hHeld c14 c1 hlk
    cases hby : byM fs (keyF (canon l)) with
    | none =>
      rw [hby] at hF
      simp only [Option.getD_none]
      clear hby
      go_wp2_with fail
      go_ret2
      rw [hF.out]
      exact ⟨rfl, HB4.out⟩
    | some i =>
      have hi : 1 ≤ i ∧ i ≤ 1000 := by
        unfold byM at hby
        cases e1 : idx (fun f => decide (keyF f = keyF (canon l))) fs with
        | none => rw [e1] at hby; cases hby
        | some j =>
          rw [e1] at hby
          cases hby
          have := idx_lt e1
          have := HCL.out.len
          show 1 ≤ j + 1 ∧ j + 1 ≤ 1000
          omega
      rw [hby] at hF
      simp only [Option.getD_some]
      clear hby
      obtain ⟨j, rfl⟩ : ∃ j, i = j + 1 := ⟨i - 1, by omega⟩
      have hj1 : ((j : Int) + 1 - 1) = (j : Int) := by omega
      have hjb : (j : Int) ≤ 1000 := by omega
      push_cast
      go_wp2_with fail
      go_ret2
      rw [hF.out]
      refine ⟨?_, HB4.out⟩

      simp
end Go.Proofs.Ytiajmgmidfinfaa.SM
