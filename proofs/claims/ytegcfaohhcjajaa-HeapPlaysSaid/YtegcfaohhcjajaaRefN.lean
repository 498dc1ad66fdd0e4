/- Walk of the document's New (printed by wip/tools/refn.py). -/
import Derived.Test.YtegcfaohhcjajaaRefH
namespace Go.Proofs.Ytegcfaohhcjajaa.RH
open Go.RowKit Go.Proofs.YtegcfaohhcjajaaW.PrintWords Go.Proofs.YtegcfaohhcjajaaW.PrintLast Go.Proofs.YtegcfaohhcjajaaW.PrintMore Go.Proofs.Ytegcfaohhcjajaa.MM Go.Proofs.Ytegcfaohhcjajaa.HM
attribute [local go_sem ↓] Go.wp_at_zero Go.wp_at_succ
set_option linter.unusedSimpArgs false
set_option linter.unusedVariables false

theorem made_bools (W : World) (e : TypeId) (m : Nat) (hm : m ≤ 1048576) : Row (W.alloc (.cells (madeCells #[.bool false] m) e)) e (.slice (some ⟨W.heap.size, 0, none⟩) m m) (bools (List.replicate m false)) := by
  refine .inr ⟨W.heap.size, 0, m, madeCells #[.bool false] m, by simp, heap_alloc_new W _, by simp, by simp [maxLen]; omega, by simp [size_madeCells], ?_⟩
  rw [List.drop_zero, List.take_of_length_le (by simp [size_madeCells])]
  apply List.ext_getElem
  · simp [size_madeCells]
  · intro j h1 h2
    simp [madeCells, Nat.mod_one]
theorem new_rh (w W : World) (ga gb m : Nat) (hA : Row W 2 (.slice (some ⟨ga, 0, none⟩) m m) (lits (List.replicate m 0))) (hB : Row W 4 (.slice (some ⟨gb, 0, none⟩) m m) (bools (List.replicate m false)))
    (hne : ga ≠ gb) (ha : w.heap.size ≤ ga) (hb : w.heap.size ≤ gb) (hW : w.heap.size ≤ W.heap.size) :
    Rh (W.alloc (.cells #[.slice (some ⟨ga, 0, none⟩) m m, .slice (some ⟨gb, 0, none⟩) m m] 60)) W.heap.size (.slice (some ⟨ga, 0, none⟩) m m) (.slice (some ⟨gb, 0, none⟩) m m) (List.replicate m 0) (List.replicate m false) (fun j => w.heap.size ≤ j ∧ j < W.heap.size + 1) where
  blk := heap_alloc_new W _
  rows := fun i r hr => by
    match i, hr with
    | 0, hr => cases hr; exact hA.alloc _
    | 1, hr => cases hr; exact hB.alloc _
    | n + 2, hr => simp at hr
  len := by simp
  fp := ⟨hW, Nat.lt_succ_self _⟩
  fr := fun i r hr j hj => by
    have la := hA.lt ga rfl
    have lb := hB.lt gb rfl
    match i, hr with
    | 0, hr => cases hr; simp [at_, Value.ownBlock] at hj; subst hj; exact ⟨⟨ha, by omega⟩, by omega⟩
    | 1, hr => cases hr; simp [at_, Value.ownBlock] at hj; subst hj; exact ⟨⟨hb, by omega⟩, by omega⟩
    | n + 2, hr => simp at hr
  ap := fun i j ri rj hi hj hij g hg hg' => by
    match i, j, hi, hj with
    | 0, 0, hi, hj => exact hij rfl
    | 1, 1, hi, hj => exact hij rfl
    | 0, 1, hi, hj => simp [at_, Value.ownBlock] at hg hg'; omega
    | 1, 0, hi, hj => simp [at_, Value.ownBlock] at hg hg'; omega
    | n + 2, _, hi, hj => simp at hi
    | _, n + 2, hi, hj => simp at hj
  old := fun j hj => by simpa using hj.2
theorem infoB : (Try.prog.info? 4).map (fun i => (i.zero, i.size, i.bytes)) = some (some (.bool false), 1, 1) := by kernel_rfl
abbrev Made (w : World) (m : Nat) (e : Ending) (w' : World) : Prop := ∃ t vw vi F, e = .returned (ptr t) ∧ Rh w' t vw vi (List.replicate m 0) (List.replicate m false) F ∧ (∀ j, F j → w.heap.size ≤ j) ∧ Below w.heap.size w w'

set_option maxRecDepth 100000 in
set_option maxHeartbeats 3200000 in
theorem new_low (w : World) (n : Int) (hn : n < 0) : Calls Try.prog 24 #[.int .i64 n] w fun e w' => Made w 0 e w' := by
  obtain ⟨m, hm⟩ : ∃ m : Nat, m = 0 := ⟨_, rfl⟩
  rw [← hm]
  have hmb : m ≤ 1048576 := by omega
  have M1 := print_make_of 39 2 (.int .i64 0) 8 Try.underlying39 infoW rfl (by omega) m (by omega)
  have M2 := print_make_of 58 4 (.bool false) 1 Try.underlying58 infoB rfl (by omega) m (by omega)
  rw [show ((m : Nat) : Int) = 0 from by omega] at M1 M2
  clear hm
  go_enter Try.func24, Try.ntmps24
  go_wp2_with fail
  refine start_ (n := 7) (S := fun _ => True) (ds := []) #[false, false, false, false, false, false, false] (by kernel_rfl) rfl rfl trivial (fun hHeld => ?_)
  refine pure_ (i := 0) (N := some 7) (v := ?_) (a' := ?_) #[true, false, false, false, false, false, false] rfl rfl (by kernel_rfl) (fun _ _ _ h => h) (Or.inl ⟨by rfl, ?_⟩) ?_ ?_   -- move (%0)
  rotate_left
  · intro w'
    go_simp
    with_reducible rfl
  rotate_left
  · simp only [Act.put, List.setIfInBounds_toArray, List.set_cons_zero, List.set_cons_succ]
    rfl
  refine pure_ (i := 2) (N := some 9) (v := ?_) (a' := ?_) #[true, false, true, false, false, false, false] rfl rfl (by kernel_rfl) (fun _ _ _ h => h) (Or.inl ⟨by rfl, ?_⟩) ?_ ?_   -- move (%0)
  rotate_left
  · intro w'
    go_simp
    with_reducible rfl
  rotate_left
  · simp only [Act.put, List.setIfInBounds_toArray, List.set_cons_zero, List.set_cons_succ]
    rfl
  refine two_ (i := 1) (j := 3) (Ni := some 8) (Nj := some 10) #[true, true, true, false, false, false, false] #[true, false, true, true, false, false, false] rfl rfl rfl rfl (by kernel_rfl) (by decide) (by decide) (fun K hK => ?_) (fun K hK => ?_)
  · refine value_ (by rfl) rfl (v := .slice (some ⟨w.heap.size, 0, none⟩) m m) (w1 := (w.drew.alloc (.cells (madeCells #[.int .i64 0] m) 2))) (by go_simp; first | done | rfl) ?_
    refine hK.out _ _ trivial (fun hHeld => ?_)
    refine norm_ (a' := ?_) ?_ ?_
    rotate_left
    · simp only [Act.put, List.setIfInBounds_toArray, List.set_cons_zero, List.set_cons_succ]
      rfl
    refine one_ (i := 3) (N := some 10) #[true, true, true, true, false, false, false] rfl rfl (by kernel_rfl) (by decide) (fun K hK => ?_)
    refine value_ (by rfl) rfl (v := .slice (some ⟨w.heap.size + 1, 0, none⟩) m m) (w1 := ((w.drew.alloc (.cells (madeCells #[.int .i64 0] m) 2)).alloc (.cells (madeCells #[.bool false] m) 4))) (by go_simp; first | done | rfl) ?_
    refine hK.out _ _ trivial (fun hHeld => ?_)
    refine norm_ (a' := ?_) ?_ ?_
    rotate_left
    · simp only [Act.put, List.setIfInBounds_toArray, List.set_cons_zero, List.set_cons_succ]
      rfl
    obtain ⟨w2, hw2⟩ : ∃ w2, w2 = ((w.drew.alloc (.cells (madeCells #[.int .i64 0] m) 2)).alloc (.cells (madeCells #[.bool false] m) 4)) := ⟨_, rfl⟩
    have r1 := made_row w.drew 2 m hmb
    have r2 := made_bools (w.drew.alloc (.cells (madeCells #[.int .i64 0] m) 2)) 4 m hmb
    rw [show ((w.drew.alloc (.cells (madeCells #[.int .i64 0] m) 2))).heap.size = w.heap.size + 1 from by simp] at r2
    rw [← hw2] at r2 ⊢
    have r1' := r1.alloc (.cells (madeCells #[.bool false] m) 4)
    rw [← hw2] at r1'
    have hob := new_rh w w2 (w.heap.size) (w.heap.size + 1) m r1' r2 (by omega) (by omega) (by omega) (by rw [hw2]; simp; omega)
    have HW2 := hid hw2
    clear r1 r2 r1' hw2
    have HOB := hid hob
    clear hob
    refine pure_ (i := 4) (N := some 11) (v := ?_) (a' := ?_) #[true, true, true, true, true, false, false] rfl rfl (by kernel_rfl) (fun _ _ _ h => h) (Or.inl ⟨by rfl, ?_⟩) ?_ ?_   -- build 60 #[(0, %8), (1, %10)]
    rotate_left
    · intro w'
      go_simp
      with_reducible rfl
    rotate_left
    · simp only [Act.put, List.setIfInBounds_toArray, List.set_cons_zero, List.set_cons_succ]
      rfl
    refine one_ (i := 5) (N := some 12) #[true, true, true, true, true, true, false] rfl rfl (by kernel_rfl) (by decide) (fun K hK => ?_)
    refine value_ (by rfl) rfl (v := ptr w2.heap.size) (w1 := w2.alloc (.cells #[.slice (some ⟨w.heap.size, 0, none⟩) m m, .slice (some ⟨w.heap.size + 1, 0, none⟩) m m] 60)) (by go_simp; first | done | rfl) ?_
    refine hK.out _ _ trivial (fun hHeld => ?_)
    refine norm_ (a' := ?_) ?_ ?_
    rotate_left
    · simp only [Act.put, List.setIfInBounds_toArray, List.set_cons_zero, List.set_cons_succ]
      rfl
    refine pure_ (i := 6) (N := some 2) (v := ?_) (a' := ?_) #[true, true, true, true, true, true, true] rfl rfl (by kernel_rfl) (fun _ _ _ h => h) (Or.inl ⟨by rfl, ?_⟩) ?_ ?_   -- assign (%12)
    rotate_left
    · intro w'
      go_simp
      with_reducible rfl
    rotate_left
    · simp only [Act.put, List.setIfInBounds_toArray, List.set_cons_zero, List.set_cons_succ]
      rfl
    refine done_ (by kernel_rfl) ?_
    have hw2 := HW2.out
    have hbel : Below w.heap.size w (w2.alloc (.cells #[.slice (some ⟨w.heap.size, 0, none⟩) m m, .slice (some ⟨w.heap.size + 1, 0, none⟩) m m] 60)) := by
      rw [hw2]
      exact ⟨rfl, rfl, rfl, by simp; omega, fun k hk => by
        rw [Go.heap_alloc_old _ _ (by simp; omega), Go.heap_alloc_old _ _ (by simp; omega), Go.heap_alloc_old _ _ (by simp; omega)]
        rfl⟩
    have HBEL := hid hbel
    clear hbel hw2
    go_wp2_with fail
    go_ret
    exact ⟨_, _, _, _, rfl, HOB.out, fun j hj => hj.1, HBEL.out⟩
  · refine value_ (by rfl) rfl (v := .slice (some ⟨w.heap.size, 0, none⟩) m m) (w1 := (w.drew.alloc (.cells (madeCells #[.bool false] m) 4))) (by go_simp; first | done | rfl) ?_
    refine hK.out _ _ trivial (fun hHeld => ?_)
    refine norm_ (a' := ?_) ?_ ?_
    rotate_left
    · simp only [Act.put, List.setIfInBounds_toArray, List.set_cons_zero, List.set_cons_succ]
      rfl
    refine one_ (i := 1) (N := some 8) #[true, true, true, true, false, false, false] rfl rfl (by kernel_rfl) (by decide) (fun K hK => ?_)
    refine value_ (by rfl) rfl (v := .slice (some ⟨w.heap.size + 1, 0, none⟩) m m) (w1 := ((w.drew.alloc (.cells (madeCells #[.bool false] m) 4)).alloc (.cells (madeCells #[.int .i64 0] m) 2))) (by go_simp; first | done | rfl) ?_
    refine hK.out _ _ trivial (fun hHeld => ?_)
    refine norm_ (a' := ?_) ?_ ?_
    rotate_left
    · simp only [Act.put, List.setIfInBounds_toArray, List.set_cons_zero, List.set_cons_succ]
      rfl
    obtain ⟨w2, hw2⟩ : ∃ w2, w2 = ((w.drew.alloc (.cells (madeCells #[.bool false] m) 4)).alloc (.cells (madeCells #[.int .i64 0] m) 2)) := ⟨_, rfl⟩
    have r1 := made_bools w.drew 4 m hmb
    have r2 := made_row (w.drew.alloc (.cells (madeCells #[.bool false] m) 4)) 2 m hmb
    rw [show ((w.drew.alloc (.cells (madeCells #[.bool false] m) 4))).heap.size = w.heap.size + 1 from by simp] at r2
    rw [← hw2] at r2 ⊢
    have r1' := r1.alloc (.cells (madeCells #[.int .i64 0] m) 2)
    rw [← hw2] at r1'
    have hob := new_rh w w2 (w.heap.size + 1) (w.heap.size) m r2 r1' (by omega) (by omega) (by omega) (by rw [hw2]; simp; omega)
    have HW2 := hid hw2
    clear r1 r2 r1' hw2
    have HOB := hid hob
    clear hob
    refine pure_ (i := 4) (N := some 11) (v := ?_) (a' := ?_) #[true, true, true, true, true, false, false] rfl rfl (by kernel_rfl) (fun _ _ _ h => h) (Or.inl ⟨by rfl, ?_⟩) ?_ ?_   -- build 60 #[(0, %8), (1, %10)]
    rotate_left
    · intro w'
      go_simp
      with_reducible rfl
    rotate_left
    · simp only [Act.put, List.setIfInBounds_toArray, List.set_cons_zero, List.set_cons_succ]
      rfl
    refine one_ (i := 5) (N := some 12) #[true, true, true, true, true, true, false] rfl rfl (by kernel_rfl) (by decide) (fun K hK => ?_)
    refine value_ (by rfl) rfl (v := ptr w2.heap.size) (w1 := w2.alloc (.cells #[.slice (some ⟨w.heap.size + 1, 0, none⟩) m m, .slice (some ⟨w.heap.size, 0, none⟩) m m] 60)) (by go_simp; first | done | rfl) ?_
    refine hK.out _ _ trivial (fun hHeld => ?_)
    refine norm_ (a' := ?_) ?_ ?_
    rotate_left
    · simp only [Act.put, List.setIfInBounds_toArray, List.set_cons_zero, List.set_cons_succ]
      rfl
    refine pure_ (i := 6) (N := some 2) (v := ?_) (a' := ?_) #[true, true, true, true, true, true, true] rfl rfl (by kernel_rfl) (fun _ _ _ h => h) (Or.inl ⟨by rfl, ?_⟩) ?_ ?_   -- assign (%12)
    rotate_left
    · intro w'
      go_simp
      with_reducible rfl
    rotate_left
    · simp only [Act.put, List.setIfInBounds_toArray, List.set_cons_zero, List.set_cons_succ]
      rfl
    refine done_ (by kernel_rfl) ?_
    have hw2 := HW2.out
    have hbel : Below w.heap.size w (w2.alloc (.cells #[.slice (some ⟨w.heap.size + 1, 0, none⟩) m m, .slice (some ⟨w.heap.size, 0, none⟩) m m] 60)) := by
      rw [hw2]
      exact ⟨rfl, rfl, rfl, by simp; omega, fun k hk => by
        rw [Go.heap_alloc_old _ _ (by simp; omega), Go.heap_alloc_old _ _ (by simp; omega), Go.heap_alloc_old _ _ (by simp; omega)]
        rfl⟩
    have HBEL := hid hbel
    clear hbel hw2
    go_wp2_with fail
    go_ret
    exact ⟨_, _, _, _, rfl, HOB.out, fun j hj => hj.1, HBEL.out⟩
set_option maxRecDepth 100000 in
set_option maxHeartbeats 3200000 in
theorem new_high (w : World) (n : Int) (hn : n > 1048576) : Calls Try.prog 24 #[.int .i64 n] w fun e w' => Made w 1048576 e w' := by
  obtain ⟨m, hm⟩ : ∃ m : Nat, m = 1048576 := ⟨_, rfl⟩
  rw [← hm]
  have hmb : m ≤ 1048576 := by omega
  have M1 := print_make_of 39 2 (.int .i64 0) 8 Try.underlying39 infoW rfl (by omega) m (by omega)
  have M2 := print_make_of 58 4 (.bool false) 1 Try.underlying58 infoB rfl (by omega) m (by omega)
  rw [show ((m : Nat) : Int) = 1048576 from by omega] at M1 M2
  clear hm
  have hn' : ¬ n < 0 := by omega
  go_enter Try.func24, Try.ntmps24
  go_wp2_with fail
  refine start_ (n := 7) (S := fun _ => True) (ds := []) #[false, false, false, false, false, false, false] (by kernel_rfl) rfl rfl trivial (fun hHeld => ?_)
  refine pure_ (i := 0) (N := some 7) (v := ?_) (a' := ?_) #[true, false, false, false, false, false, false] rfl rfl (by kernel_rfl) (fun _ _ _ h => h) (Or.inl ⟨by rfl, ?_⟩) ?_ ?_   -- move (%0)
  rotate_left
  · intro w'
    go_simp
    with_reducible rfl
  rotate_left
  · simp only [Act.put, List.setIfInBounds_toArray, List.set_cons_zero, List.set_cons_succ]
    rfl
  refine pure_ (i := 2) (N := some 9) (v := ?_) (a' := ?_) #[true, false, true, false, false, false, false] rfl rfl (by kernel_rfl) (fun _ _ _ h => h) (Or.inl ⟨by rfl, ?_⟩) ?_ ?_   -- move (%0)
  rotate_left
  · intro w'
    go_simp
    with_reducible rfl
  rotate_left
  · simp only [Act.put, List.setIfInBounds_toArray, List.set_cons_zero, List.set_cons_succ]
    rfl
  refine two_ (i := 1) (j := 3) (Ni := some 8) (Nj := some 10) #[true, true, true, false, false, false, false] #[true, false, true, true, false, false, false] rfl rfl rfl rfl (by kernel_rfl) (by decide) (by decide) (fun K hK => ?_) (fun K hK => ?_)
  · refine value_ (by rfl) rfl (v := .slice (some ⟨w.heap.size, 0, none⟩) m m) (w1 := (w.drew.alloc (.cells (madeCells #[.int .i64 0] m) 2))) (by go_simp; first | done | rfl) ?_
    refine hK.out _ _ trivial (fun hHeld => ?_)
    refine norm_ (a' := ?_) ?_ ?_
    rotate_left
    · simp only [Act.put, List.setIfInBounds_toArray, List.set_cons_zero, List.set_cons_succ]
      rfl
    refine one_ (i := 3) (N := some 10) #[true, true, true, true, false, false, false] rfl rfl (by kernel_rfl) (by decide) (fun K hK => ?_)
    refine value_ (by rfl) rfl (v := .slice (some ⟨w.heap.size + 1, 0, none⟩) m m) (w1 := ((w.drew.alloc (.cells (madeCells #[.int .i64 0] m) 2)).alloc (.cells (madeCells #[.bool false] m) 4))) (by go_simp; first | done | rfl) ?_
    refine hK.out _ _ trivial (fun hHeld => ?_)
    refine norm_ (a' := ?_) ?_ ?_
    rotate_left
    · simp only [Act.put, List.setIfInBounds_toArray, List.set_cons_zero, List.set_cons_succ]
      rfl
    obtain ⟨w2, hw2⟩ : ∃ w2, w2 = ((w.drew.alloc (.cells (madeCells #[.int .i64 0] m) 2)).alloc (.cells (madeCells #[.bool false] m) 4)) := ⟨_, rfl⟩
    have r1 := made_row w.drew 2 m hmb
    have r2 := made_bools (w.drew.alloc (.cells (madeCells #[.int .i64 0] m) 2)) 4 m hmb
    rw [show ((w.drew.alloc (.cells (madeCells #[.int .i64 0] m) 2))).heap.size = w.heap.size + 1 from by simp] at r2
    rw [← hw2] at r2 ⊢
    have r1' := r1.alloc (.cells (madeCells #[.bool false] m) 4)
    rw [← hw2] at r1'
    have hob := new_rh w w2 (w.heap.size) (w.heap.size + 1) m r1' r2 (by omega) (by omega) (by omega) (by rw [hw2]; simp; omega)
    have HW2 := hid hw2
    clear r1 r2 r1' hw2
    have HOB := hid hob
    clear hob
    refine pure_ (i := 4) (N := some 11) (v := ?_) (a' := ?_) #[true, true, true, true, true, false, false] rfl rfl (by kernel_rfl) (fun _ _ _ h => h) (Or.inl ⟨by rfl, ?_⟩) ?_ ?_   -- build 60 #[(0, %8), (1, %10)]
    rotate_left
    · intro w'
      go_simp
      with_reducible rfl
    rotate_left
    · simp only [Act.put, List.setIfInBounds_toArray, List.set_cons_zero, List.set_cons_succ]
      rfl
    refine one_ (i := 5) (N := some 12) #[true, true, true, true, true, true, false] rfl rfl (by kernel_rfl) (by decide) (fun K hK => ?_)
    refine value_ (by rfl) rfl (v := ptr w2.heap.size) (w1 := w2.alloc (.cells #[.slice (some ⟨w.heap.size, 0, none⟩) m m, .slice (some ⟨w.heap.size + 1, 0, none⟩) m m] 60)) (by go_simp; first | done | rfl) ?_
    refine hK.out _ _ trivial (fun hHeld => ?_)
    refine norm_ (a' := ?_) ?_ ?_
    rotate_left
    · simp only [Act.put, List.setIfInBounds_toArray, List.set_cons_zero, List.set_cons_succ]
      rfl
    refine pure_ (i := 6) (N := some 2) (v := ?_) (a' := ?_) #[true, true, true, true, true, true, true] rfl rfl (by kernel_rfl) (fun _ _ _ h => h) (Or.inl ⟨by rfl, ?_⟩) ?_ ?_   -- assign (%12)
    rotate_left
    · intro w'
      go_simp
      with_reducible rfl
    rotate_left
    · simp only [Act.put, List.setIfInBounds_toArray, List.set_cons_zero, List.set_cons_succ]
      rfl
    refine done_ (by kernel_rfl) ?_
    have hw2 := HW2.out
    have hbel : Below w.heap.size w (w2.alloc (.cells #[.slice (some ⟨w.heap.size, 0, none⟩) m m, .slice (some ⟨w.heap.size + 1, 0, none⟩) m m] 60)) := by
      rw [hw2]
      exact ⟨rfl, rfl, rfl, by simp; omega, fun k hk => by
        rw [Go.heap_alloc_old _ _ (by simp; omega), Go.heap_alloc_old _ _ (by simp; omega), Go.heap_alloc_old _ _ (by simp; omega)]
        rfl⟩
    have HBEL := hid hbel
    clear hbel hw2
    go_wp2_with fail
    go_ret
    exact ⟨_, _, _, _, rfl, HOB.out, fun j hj => hj.1, HBEL.out⟩
  · refine value_ (by rfl) rfl (v := .slice (some ⟨w.heap.size, 0, none⟩) m m) (w1 := (w.drew.alloc (.cells (madeCells #[.bool false] m) 4))) (by go_simp; first | done | rfl) ?_
    refine hK.out _ _ trivial (fun hHeld => ?_)
    refine norm_ (a' := ?_) ?_ ?_
    rotate_left
    · simp only [Act.put, List.setIfInBounds_toArray, List.set_cons_zero, List.set_cons_succ]
      rfl
    refine one_ (i := 1) (N := some 8) #[true, true, true, true, false, false, false] rfl rfl (by kernel_rfl) (by decide) (fun K hK => ?_)
    refine value_ (by rfl) rfl (v := .slice (some ⟨w.heap.size + 1, 0, none⟩) m m) (w1 := ((w.drew.alloc (.cells (madeCells #[.bool false] m) 4)).alloc (.cells (madeCells #[.int .i64 0] m) 2))) (by go_simp; first | done | rfl) ?_
    refine hK.out _ _ trivial (fun hHeld => ?_)
    refine norm_ (a' := ?_) ?_ ?_
    rotate_left
    · simp only [Act.put, List.setIfInBounds_toArray, List.set_cons_zero, List.set_cons_succ]
      rfl
    obtain ⟨w2, hw2⟩ : ∃ w2, w2 = ((w.drew.alloc (.cells (madeCells #[.bool false] m) 4)).alloc (.cells (madeCells #[.int .i64 0] m) 2)) := ⟨_, rfl⟩
    have r1 := made_bools w.drew 4 m hmb
    have r2 := made_row (w.drew.alloc (.cells (madeCells #[.bool false] m) 4)) 2 m hmb
    rw [show ((w.drew.alloc (.cells (madeCells #[.bool false] m) 4))).heap.size = w.heap.size + 1 from by simp] at r2
    rw [← hw2] at r2 ⊢
    have r1' := r1.alloc (.cells (madeCells #[.int .i64 0] m) 2)
    rw [← hw2] at r1'
    have hob := new_rh w w2 (w.heap.size + 1) (w.heap.size) m r2 r1' (by omega) (by omega) (by omega) (by rw [hw2]; simp; omega)
    have HW2 := hid hw2
    clear r1 r2 r1' hw2
    have HOB := hid hob
    clear hob
    refine pure_ (i := 4) (N := some 11) (v := ?_) (a' := ?_) #[true, true, true, true, true, false, false] rfl rfl (by kernel_rfl) (fun _ _ _ h => h) (Or.inl ⟨by rfl, ?_⟩) ?_ ?_   -- build 60 #[(0, %8), (1, %10)]
    rotate_left
    · intro w'
      go_simp
      with_reducible rfl
    rotate_left
    · simp only [Act.put, List.setIfInBounds_toArray, List.set_cons_zero, List.set_cons_succ]
      rfl
    refine one_ (i := 5) (N := some 12) #[true, true, true, true, true, true, false] rfl rfl (by kernel_rfl) (by decide) (fun K hK => ?_)
    refine value_ (by rfl) rfl (v := ptr w2.heap.size) (w1 := w2.alloc (.cells #[.slice (some ⟨w.heap.size + 1, 0, none⟩) m m, .slice (some ⟨w.heap.size, 0, none⟩) m m] 60)) (by go_simp; first | done | rfl) ?_
    refine hK.out _ _ trivial (fun hHeld => ?_)
    refine norm_ (a' := ?_) ?_ ?_
    rotate_left
    · simp only [Act.put, List.setIfInBounds_toArray, List.set_cons_zero, List.set_cons_succ]
      rfl
    refine pure_ (i := 6) (N := some 2) (v := ?_) (a' := ?_) #[true, true, true, true, true, true, true] rfl rfl (by kernel_rfl) (fun _ _ _ h => h) (Or.inl ⟨by rfl, ?_⟩) ?_ ?_   -- assign (%12)
    rotate_left
    · intro w'
      go_simp
      with_reducible rfl
    rotate_left
    · simp only [Act.put, List.setIfInBounds_toArray, List.set_cons_zero, List.set_cons_succ]
      rfl
    refine done_ (by kernel_rfl) ?_
    have hw2 := HW2.out
    have hbel : Below w.heap.size w (w2.alloc (.cells #[.slice (some ⟨w.heap.size + 1, 0, none⟩) m m, .slice (some ⟨w.heap.size, 0, none⟩) m m] 60)) := by
      rw [hw2]
      exact ⟨rfl, rfl, rfl, by simp; omega, fun k hk => by
        rw [Go.heap_alloc_old _ _ (by simp; omega), Go.heap_alloc_old _ _ (by simp; omega), Go.heap_alloc_old _ _ (by simp; omega)]
        rfl⟩
    have HBEL := hid hbel
    clear hbel hw2
    go_wp2_with fail
    go_ret
    exact ⟨_, _, _, _, rfl, HOB.out, fun j hj => hj.1, HBEL.out⟩
set_option maxRecDepth 100000 in
set_option maxHeartbeats 3200000 in
theorem new_mid (w : World) (m : Nat) (hmb : m ≤ 1048576) : Calls Try.prog 24 #[.int .i64 (m : Int)] w fun e w' => Made w m e w' := by
  have M1 := print_make_of 39 2 (.int .i64 0) 8 Try.underlying39 infoW rfl (by omega) m (by omega)
  have M2 := print_make_of 58 4 (.bool false) 1 Try.underlying58 infoB rfl (by omega) m (by omega)
  have hn1 : ¬ ((m : Int) < 0) := by omega
  have hn2 : ¬ ((m : Int) > 1048576) := by omega
  go_enter Try.func24, Try.ntmps24
  go_wp2_with fail
  refine start_ (n := 7) (S := fun _ => True) (ds := []) #[false, false, false, false, false, false, false] (by kernel_rfl) rfl rfl trivial (fun hHeld => ?_)
  refine pure_ (i := 0) (N := some 7) (v := ?_) (a' := ?_) #[true, false, false, false, false, false, false] rfl rfl (by kernel_rfl) (fun _ _ _ h => h) (Or.inl ⟨by rfl, ?_⟩) ?_ ?_   -- move (%0)
  rotate_left
  · intro w'
    go_simp
    with_reducible rfl
  rotate_left
  · simp only [Act.put, List.setIfInBounds_toArray, List.set_cons_zero, List.set_cons_succ]
    rfl
  refine pure_ (i := 2) (N := some 9) (v := ?_) (a' := ?_) #[true, false, true, false, false, false, false] rfl rfl (by kernel_rfl) (fun _ _ _ h => h) (Or.inl ⟨by rfl, ?_⟩) ?_ ?_   -- move (%0)
  rotate_left
  · intro w'
    go_simp
    with_reducible rfl
  rotate_left
  · simp only [Act.put, List.setIfInBounds_toArray, List.set_cons_zero, List.set_cons_succ]
    rfl
  refine two_ (i := 1) (j := 3) (Ni := some 8) (Nj := some 10) #[true, true, true, false, false, false, false] #[true, false, true, true, false, false, false] rfl rfl rfl rfl (by kernel_rfl) (by decide) (by decide) (fun K hK => ?_) (fun K hK => ?_)
  · refine value_ (by rfl) rfl (v := .slice (some ⟨w.heap.size, 0, none⟩) m m) (w1 := (w.drew.alloc (.cells (madeCells #[.int .i64 0] m) 2))) (by go_simp; first | done | rfl) ?_
    refine hK.out _ _ trivial (fun hHeld => ?_)
    refine norm_ (a' := ?_) ?_ ?_
    rotate_left
    · simp only [Act.put, List.setIfInBounds_toArray, List.set_cons_zero, List.set_cons_succ]
      rfl
    refine one_ (i := 3) (N := some 10) #[true, true, true, true, false, false, false] rfl rfl (by kernel_rfl) (by decide) (fun K hK => ?_)
    refine value_ (by rfl) rfl (v := .slice (some ⟨w.heap.size + 1, 0, none⟩) m m) (w1 := ((w.drew.alloc (.cells (madeCells #[.int .i64 0] m) 2)).alloc (.cells (madeCells #[.bool false] m) 4))) (by go_simp; first | done | rfl) ?_
    refine hK.out _ _ trivial (fun hHeld => ?_)
    refine norm_ (a' := ?_) ?_ ?_
    rotate_left
    · simp only [Act.put, List.setIfInBounds_toArray, List.set_cons_zero, List.set_cons_succ]
      rfl
    obtain ⟨w2, hw2⟩ : ∃ w2, w2 = ((w.drew.alloc (.cells (madeCells #[.int .i64 0] m) 2)).alloc (.cells (madeCells #[.bool false] m) 4)) := ⟨_, rfl⟩
    have r1 := made_row w.drew 2 m hmb
    have r2 := made_bools (w.drew.alloc (.cells (madeCells #[.int .i64 0] m) 2)) 4 m hmb
    rw [show ((w.drew.alloc (.cells (madeCells #[.int .i64 0] m) 2))).heap.size = w.heap.size + 1 from by simp] at r2
    rw [← hw2] at r2 ⊢
    have r1' := r1.alloc (.cells (madeCells #[.bool false] m) 4)
    rw [← hw2] at r1'
    have hob := new_rh w w2 (w.heap.size) (w.heap.size + 1) m r1' r2 (by omega) (by omega) (by omega) (by rw [hw2]; simp; omega)
    have HW2 := hid hw2
    clear r1 r2 r1' hw2
    have HOB := hid hob
    clear hob
    refine pure_ (i := 4) (N := some 11) (v := ?_) (a' := ?_) #[true, true, true, true, true, false, false] rfl rfl (by kernel_rfl) (fun _ _ _ h => h) (Or.inl ⟨by rfl, ?_⟩) ?_ ?_   -- build 60 #[(0, %8), (1, %10)]
    rotate_left
    · intro w'
      go_simp
      with_reducible rfl
    rotate_left
    · simp only [Act.put, List.setIfInBounds_toArray, List.set_cons_zero, List.set_cons_succ]
      rfl
    refine one_ (i := 5) (N := some 12) #[true, true, true, true, true, true, false] rfl rfl (by kernel_rfl) (by decide) (fun K hK => ?_)
    refine value_ (by rfl) rfl (v := ptr w2.heap.size) (w1 := w2.alloc (.cells #[.slice (some ⟨w.heap.size, 0, none⟩) m m, .slice (some ⟨w.heap.size + 1, 0, none⟩) m m] 60)) (by go_simp; first | done | rfl) ?_
    refine hK.out _ _ trivial (fun hHeld => ?_)
    refine norm_ (a' := ?_) ?_ ?_
    rotate_left
    · simp only [Act.put, List.setIfInBounds_toArray, List.set_cons_zero, List.set_cons_succ]
      rfl
    refine pure_ (i := 6) (N := some 2) (v := ?_) (a' := ?_) #[true, true, true, true, true, true, true] rfl rfl (by kernel_rfl) (fun _ _ _ h => h) (Or.inl ⟨by rfl, ?_⟩) ?_ ?_   -- assign (%12)
    rotate_left
    · intro w'
      go_simp
      with_reducible rfl
    rotate_left
    · simp only [Act.put, List.setIfInBounds_toArray, List.set_cons_zero, List.set_cons_succ]
      rfl
    refine done_ (by kernel_rfl) ?_
    have hw2 := HW2.out
    have hbel : Below w.heap.size w (w2.alloc (.cells #[.slice (some ⟨w.heap.size, 0, none⟩) m m, .slice (some ⟨w.heap.size + 1, 0, none⟩) m m] 60)) := by
      rw [hw2]
      exact ⟨rfl, rfl, rfl, by simp; omega, fun k hk => by
        rw [Go.heap_alloc_old _ _ (by simp; omega), Go.heap_alloc_old _ _ (by simp; omega), Go.heap_alloc_old _ _ (by simp; omega)]
        rfl⟩
    have HBEL := hid hbel
    clear hbel hw2
    go_wp2_with fail
    go_ret
    exact ⟨_, _, _, _, rfl, HOB.out, fun j hj => hj.1, HBEL.out⟩
  · refine value_ (by rfl) rfl (v := .slice (some ⟨w.heap.size, 0, none⟩) m m) (w1 := (w.drew.alloc (.cells (madeCells #[.bool false] m) 4))) (by go_simp; first | done | rfl) ?_
    refine hK.out _ _ trivial (fun hHeld => ?_)
    refine norm_ (a' := ?_) ?_ ?_
    rotate_left
    · simp only [Act.put, List.setIfInBounds_toArray, List.set_cons_zero, List.set_cons_succ]
      rfl
    refine one_ (i := 1) (N := some 8) #[true, true, true, true, false, false, false] rfl rfl (by kernel_rfl) (by decide) (fun K hK => ?_)
    refine value_ (by rfl) rfl (v := .slice (some ⟨w.heap.size + 1, 0, none⟩) m m) (w1 := ((w.drew.alloc (.cells (madeCells #[.bool false] m) 4)).alloc (.cells (madeCells #[.int .i64 0] m) 2))) (by go_simp; first | done | rfl) ?_
    refine hK.out _ _ trivial (fun hHeld => ?_)
    refine norm_ (a' := ?_) ?_ ?_
    rotate_left
    · simp only [Act.put, List.setIfInBounds_toArray, List.set_cons_zero, List.set_cons_succ]
      rfl
    obtain ⟨w2, hw2⟩ : ∃ w2, w2 = ((w.drew.alloc (.cells (madeCells #[.bool false] m) 4)).alloc (.cells (madeCells #[.int .i64 0] m) 2)) := ⟨_, rfl⟩
    have r1 := made_bools w.drew 4 m hmb
    have r2 := made_row (w.drew.alloc (.cells (madeCells #[.bool false] m) 4)) 2 m hmb
    rw [show ((w.drew.alloc (.cells (madeCells #[.bool false] m) 4))).heap.size = w.heap.size + 1 from by simp] at r2
    rw [← hw2] at r2 ⊢
    have r1' := r1.alloc (.cells (madeCells #[.int .i64 0] m) 2)
    rw [← hw2] at r1'
    have hob := new_rh w w2 (w.heap.size + 1) (w.heap.size) m r2 r1' (by omega) (by omega) (by omega) (by rw [hw2]; simp; omega)
    have HW2 := hid hw2
    clear r1 r2 r1' hw2
    have HOB := hid hob
    clear hob
    refine pure_ (i := 4) (N := some 11) (v := ?_) (a' := ?_) #[true, true, true, true, true, false, false] rfl rfl (by kernel_rfl) (fun _ _ _ h => h) (Or.inl ⟨by rfl, ?_⟩) ?_ ?_   -- build 60 #[(0, %8), (1, %10)]
    rotate_left
    · intro w'
      go_simp
      with_reducible rfl
    rotate_left
    · simp only [Act.put, List.setIfInBounds_toArray, List.set_cons_zero, List.set_cons_succ]
      rfl
    refine one_ (i := 5) (N := some 12) #[true, true, true, true, true, true, false] rfl rfl (by kernel_rfl) (by decide) (fun K hK => ?_)
    refine value_ (by rfl) rfl (v := ptr w2.heap.size) (w1 := w2.alloc (.cells #[.slice (some ⟨w.heap.size + 1, 0, none⟩) m m, .slice (some ⟨w.heap.size, 0, none⟩) m m] 60)) (by go_simp; first | done | rfl) ?_
    refine hK.out _ _ trivial (fun hHeld => ?_)
    refine norm_ (a' := ?_) ?_ ?_
    rotate_left
    · simp only [Act.put, List.setIfInBounds_toArray, List.set_cons_zero, List.set_cons_succ]
      rfl
    refine pure_ (i := 6) (N := some 2) (v := ?_) (a' := ?_) #[true, true, true, true, true, true, true] rfl rfl (by kernel_rfl) (fun _ _ _ h => h) (Or.inl ⟨by rfl, ?_⟩) ?_ ?_   -- assign (%12)
    rotate_left
    · intro w'
      go_simp
      with_reducible rfl
    rotate_left
    · simp only [Act.put, List.setIfInBounds_toArray, List.set_cons_zero, List.set_cons_succ]
      rfl
    refine done_ (by kernel_rfl) ?_
    have hw2 := HW2.out
    have hbel : Below w.heap.size w (w2.alloc (.cells #[.slice (some ⟨w.heap.size + 1, 0, none⟩) m m, .slice (some ⟨w.heap.size, 0, none⟩) m m] 60)) := by
      rw [hw2]
      exact ⟨rfl, rfl, rfl, by simp; omega, fun k hk => by
        rw [Go.heap_alloc_old _ _ (by simp; omega), Go.heap_alloc_old _ _ (by simp; omega), Go.heap_alloc_old _ _ (by simp; omega)]
        rfl⟩
    have HBEL := hid hbel
    clear hbel hw2
    go_wp2_with fail
    go_ret
    exact ⟨_, _, _, _, rfl, HOB.out, fun j hj => hj.1, HBEL.out⟩
theorem New_calls (w : World) (n : Int) : Calls Try.prog 24 #[.int .i64 n] w fun e w' => Made w (sizeN n) e w' := by
  by_cases h1 : n < 0
  · have := new_low w n h1
    rwa [show sizeN n = 0 from by unfold sizeN; omega]
  · by_cases h2 : n > 1048576
    · have := new_high w n h2
      rwa [show sizeN n = 1048576 from by unfold sizeN; omega]
    · obtain ⟨m, rfl⟩ : ∃ m : Nat, n = (m : Int) := ⟨n.toNat, by omega⟩
      have := new_mid w m (by omega)
      rwa [show sizeN (m : Int) = m from by unfold sizeN; omega]
end Go.Proofs.Ytegcfaohhcjajaa.RH
