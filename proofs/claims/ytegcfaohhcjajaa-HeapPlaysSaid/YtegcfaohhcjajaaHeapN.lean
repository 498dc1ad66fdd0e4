/- Walk of heap.New (printed by wip/tools/heapn.py). -/
import Derived.Test.YtegcfaohhcjajaaHeapH
import Derived.Laws.MakeOwn
namespace Go.Proofs.Ytegcfaohhcjajaa.HM
open Go.RowKit Go.Proofs.YtegcfaohhcjajaaW.PrintWords Go.Proofs.YtegcfaohhcjajaaW.PrintLast Go.Proofs.YtegcfaohhcjajaaW.PrintMore Go.Proofs.Ytegcfaohhcjajaa.MM
attribute [local go_sem ↓] Go.wp_at_zero Go.wp_at_succ
set_option linter.unusedSimpArgs false
set_option linter.unusedVariables false

def sizeN (n : Int) : Nat := min (max n 0).toNat 1048576
def newK (m k : Nat) (v : Value) : HS := ⟨List.replicate m 0, List.replicate k (-1) ++ List.replicate (m - k) 0, [], v⟩
def newM (m : Nat) (v : Value) : HS := ⟨List.replicate m 0, List.replicate m (-1), [], v⟩
theorem newK_all (m : Nat) (v : Value) : newK m m v = newM m v := by simp [newK, newM]
theorem newK_set (m k : Nat) (v : Value) (h : k < m) : { newK m k v with p := (newK m k v).p.set k (-1) } = newK m (k + 1) v := by
  simp only [newK, HS.mk.injEq, true_and, and_true]
  apply List.ext_getElem?
  intro j
  simp only [List.getElem?_set, List.getElem?_append, List.getElem?_replicate, List.length_append, List.length_replicate]
  by_cases e : k = j
  · subst e
    simp [h]
    omega
  · rw [if_neg e]
    by_cases h1 : j < k
    · simp [h1, show j < k + 1 by omega]
    · simp only [if_neg h1, if_neg (show ¬ j < k + 1 by omega)]
      by_cases h2 : j - k < m - k
      · rw [if_pos h2, if_pos (by omega)]
      · rw [if_neg h2, if_neg (by omega)]
theorem made_row (W : World) (e : TypeId) (m : Nat) (hm : m ≤ 1048576) : Row (W.alloc (.cells (madeCells #[.int .i64 0] m) e)) e (.slice (some ⟨W.heap.size, 0, none⟩) m m) (lits (List.replicate m 0)) := by
  refine .inr ⟨W.heap.size, 0, m, madeCells #[.int .i64 0] m, by simp, heap_alloc_new W _, by simp, by simp [maxLen]; omega, by simp [size_madeCells], ?_⟩
  rw [List.drop_zero, List.take_of_length_le (by simp [size_madeCells])]
  apply List.ext_getElem
  · simp [size_madeCells]
  · intro j h1 h2
    simp [madeCells, Nat.mod_one]
theorem new_ob (w W : World) (ga gb m : Nat) (v : Value) (hv : v = .slice (some ⟨ga, 0, none⟩) m m) (hA : Row W 2 (.slice (some ⟨ga, 0, none⟩) m m) (lits (List.replicate m 0))) (hB : Row W 3 (.slice (some ⟨gb, 0, none⟩) m m) (lits (List.replicate m 0)))
    (hne : ga ≠ gb) (ha : w.heap.size ≤ ga) (hb : w.heap.size ≤ gb) (hW : w.heap.size ≤ W.heap.size) :
    HpO (W.alloc (.cells #[.slice (some ⟨ga, 0, none⟩) m m, .slice (some ⟨gb, 0, none⟩) m m, .slice none 0 0] 67)) W.heap.size (.slice (some ⟨ga, 0, none⟩) m m) (.slice (some ⟨gb, 0, none⟩) m m) (.slice none 0 0) (newK m 0 v) (fun j => w.heap.size ≤ j ∧ j < W.heap.size + 1) where
  blk := heap_alloc_new W _
  rows := fun i r hr => by
    match i, hr with
    | 0, hr => cases hr; exact hA.alloc _
    | 1, hr => cases hr; simpa [newK] using hB.alloc _
    | 2, hr => cases hr; exact .nil _ _
    | n + 3, hr => simp at hr
  len := by simp
  fp := ⟨hW, Nat.lt_succ_self _⟩
  fr := fun i r hr j hj => by
    have la := hA.lt ga rfl
    have lb := hB.lt gb rfl
    match i, hr with
    | 0, hr => cases hr; simp [at_, Value.ownBlock] at hj; subst hj; exact ⟨⟨ha, by omega⟩, by omega⟩
    | 1, hr => cases hr; simp [at_, Value.ownBlock] at hj; subst hj; exact ⟨⟨hb, by omega⟩, by omega⟩
    | 2, hr => cases hr; simp [at_, Value.ownBlock] at hj
    | n + 3, hr => simp at hr
  ap := fun i j ri rj hi hj hij g hg hg' => by
    match i, j, hi, hj with
    | 0, 0, hi, hj => exact hij rfl
    | 1, 1, hi, hj => exact hij rfl
    | 2, j, hi, hj => simp [at_, Value.ownBlock] at hg
    | i, 2, hi, hj => simp [at_, Value.ownBlock] at hg'
    | 0, 1, hi, hj => simp [at_, Value.ownBlock] at hg hg'; omega
    | 1, 0, hi, hj => simp [at_, Value.ownBlock] at hg hg'; omega
    | n + 3, _, hi, hj => simp at hi
    | _, n + 3, hi, hj => simp at hj
  old := fun j hj => by simpa using hj.2
theorem infoW : (Try.prog.info? 2).map (fun i => (i.zero, i.size, i.bytes)) = some (some (.int .i64 0), 1, 8) := by kernel_rfl
/-- The loop. -/
structure NewAt (w : World) (t : Nat) (F : Nat → Prop) (v : Value) (m k : Nat) (wr : World) : Prop where
  hp : Hp wr t (newK m k v) F
  below : Below w.heap.size w wr
  km : k ≤ m
  new : ∀ j, F j → w.heap.size ≤ j
set_option maxRecDepth 100000 in
set_option maxHeartbeats 3200000 in
theorem New_calls (w : World) (n : Int) :
    Calls Try.prog 18 #[.int .i64 n] w fun e w' => ∃ t v F, e = .returned (ptr t) ∧ Hp w' t (newM (sizeN n) v) F ∧ (∀ j, F j → w.heap.size ≤ j) ∧ Below w.heap.size w w' := by
  obtain ⟨m, hm⟩ : ∃ m, m = sizeN n := ⟨_, rfl⟩
  rw [← hm]
  have hmb : m ≤ 1048576 := by rw [hm]; exact Nat.min_le_right _ _
  have M1 := print_make 39 2 .i64 8 Try.underlying39 infoW (by omega) m (by omega)
  have M2 := print_make 25 3 .i64 8 Try.underlying25 infoI (by omega) m (by omega)
  obtain ⟨x, hx⟩ : ∃ x, x = max n 0 := ⟨_, rfl⟩
  have hn : (m : Int) = min x 1048576 := by rw [hm, hx]; simp only [sizeN]; omega
  have MX : ∀ (ats : Array TypeId) (ty : TypeId) (W : World), Sem.run Try.prog (Builtin.max_ ats ty #[.int .i64 n, .int .i64 0]) W = .ok (.int .i64 x) W := by
    intro ats ty W
    by_cases h : n < 0
    · rw [hx, show max n 0 = 0 by omega]
      go_simp
    · rw [hx, show max n 0 = n by omega]
      go_simp
  have MN : ∀ (ats : Array TypeId) (ty : TypeId) (W : World), Sem.run Try.prog (Builtin.min_ ats ty #[.int .i64 x, .int .i64 1048576]) W = .ok (.int .i64 (m : Int)) W := by
    intro ats ty W
    rw [hn]
    go_simp
    split <;> omega
  clear hm hn hx
  go_enter Try.func18, Try.ntmps18
  go_wp2_with fail

  refine start_ (n := 7) (S := fun _ => True) (ds := []) #[false, false, false, false, false, false, false] (by kernel_rfl) rfl rfl trivial (fun hHeld => ?_)
  refine pure_ (i := 0) (N := some 8) (v := ?_) (a' := ?_) #[true, false, false, false, false, false, false] rfl rfl (by kernel_rfl) (fun _ _ _ h => h) (Or.inl ⟨by rfl, ?_⟩) ?_ ?_   -- move (%0)
  rotate_left
  · intro w'
    go_simp
    with_reducible rfl
  rotate_left
  · simp only [Act.put, List.setIfInBounds_toArray, List.set_cons_zero, List.set_cons_succ]
    rfl
  refine pure_ (i := 2) (N := some 10) (v := ?_) (a' := ?_) #[true, false, true, false, false, false, false] rfl rfl (by kernel_rfl) (fun _ _ _ h => h) (Or.inl ⟨by rfl, ?_⟩) ?_ ?_   -- move (%0)
  rotate_left
  · intro w'
    go_simp
    with_reducible rfl
  rotate_left
  · simp only [Act.put, List.setIfInBounds_toArray, List.set_cons_zero, List.set_cons_succ]
    rfl
  refine two_ (i := 1) (j := 3) (Ni := some 9) (Nj := some 11) #[true, true, true, false, false, false, false] #[true, false, true, true, false, false, false] rfl rfl rfl rfl (by kernel_rfl) (by decide) (by decide) (fun K hK => ?_) (fun K hK => ?_)
  · refine value_ (by rfl) rfl (v := .slice (some ⟨w.heap.size, 0, none⟩) m m) (w1 := (w.drew.alloc (.cells (madeCells #[.int .i64 0] m) 2))) (by go_simp; first | done | rfl) ?_
    refine hK.out _ _ trivial (fun hHeld => ?_)
    refine norm_ (a' := ?_) ?_ ?_
    rotate_left
    · simp only [Act.put, List.setIfInBounds_toArray, List.set_cons_zero, List.set_cons_succ]
      rfl
    refine one_ (i := 3) (N := some 11) #[true, true, true, true, false, false, false] rfl rfl (by kernel_rfl) (by decide) (fun K hK => ?_)
    refine value_ (by rfl) rfl (v := .slice (some ⟨w.heap.size + 1, 0, none⟩) m m) (w1 := ((w.drew.alloc (.cells (madeCells #[.int .i64 0] m) 2)).alloc (.cells (madeCells #[.int .i64 0] m) 3))) (by go_simp; first | done | rfl) ?_
    refine hK.out _ _ trivial (fun hHeld => ?_)
    refine norm_ (a' := ?_) ?_ ?_
    rotate_left
    · simp only [Act.put, List.setIfInBounds_toArray, List.set_cons_zero, List.set_cons_succ]
      rfl
    obtain ⟨w2, hw2⟩ : ∃ w2, w2 = ((w.drew.alloc (.cells (madeCells #[.int .i64 0] m) 2)).alloc (.cells (madeCells #[.int .i64 0] m) 3)) := ⟨_, rfl⟩
    have r1 := made_row w.drew 2 m hmb
    have r2 := made_row (w.drew.alloc (.cells (madeCells #[.int .i64 0] m) 2)) 3 m hmb
    rw [show ((w.drew.alloc (.cells (madeCells #[.int .i64 0] m) 2))).heap.size = w.heap.size + 1 from by simp] at r2
    rw [← hw2] at r2 ⊢
    have r1' := r1.alloc (.cells (madeCells #[.int .i64 0] m) 3)
    rw [← hw2] at r1'
    have hob := new_ob w w2 (w.heap.size) (w.heap.size + 1) m _ rfl r1' r2 (by omega) (by omega) (by omega) (by rw [hw2]; simp; omega)
    have HW2 := hid hw2
    clear r1 r2 r1' hw2
    have HOB := hid hob
    clear hob
    refine pure_ (i := 4) (N := some 12) (v := ?_) (a' := ?_) #[true, true, true, true, true, false, false] rfl rfl (by kernel_rfl) (fun _ _ _ h => h) (Or.inl ⟨by rfl, ?_⟩) ?_ ?_   -- build 67 #[(0, %9), (1, %11)]
    rotate_left
    · intro w'
      go_simp
      with_reducible rfl
    rotate_left
    · simp only [Act.put, List.setIfInBounds_toArray, List.set_cons_zero, List.set_cons_succ]
      rfl
    refine one_ (i := 5) (N := some 13) #[true, true, true, true, true, true, false] rfl rfl (by kernel_rfl) (by decide) (fun K hK => ?_)
    refine value_ (by rfl) rfl (v := ptr w2.heap.size) (w1 := w2.alloc (.cells #[.slice (some ⟨w.heap.size, 0, none⟩) m m, .slice (some ⟨w.heap.size + 1, 0, none⟩) m m, .slice none 0 0] 67)) (by go_simp; first | done | rfl) ?_
    refine hK.out _ _ trivial (fun hHeld => ?_)
    refine norm_ (a' := ?_) ?_ ?_
    rotate_left
    · simp only [Act.put, List.setIfInBounds_toArray, List.set_cons_zero, List.set_cons_succ]
      rfl
    refine pure_ (i := 6) (N := some 3) (v := ?_) (a' := ?_) #[true, true, true, true, true, true, true] rfl rfl (by kernel_rfl) (fun _ _ _ h => h) (Or.inl ⟨by rfl, ?_⟩) ?_ ?_   -- assign (%13)
    rotate_left
    · intro w'
      go_simp
      with_reducible rfl
    rotate_left
    · simp only [Act.put, List.setIfInBounds_toArray, List.set_cons_zero, List.set_cons_succ]
      rfl
    refine done_ (by kernel_rfl) ?_
    have hob := HOB.out
    have hw2 := HW2.out
    have hsz : w.heap.size ≤ w2.heap.size := by rw [hw2]; simp; omega
    have hbel : Below w.heap.size w (w2.alloc (.cells #[.slice (some ⟨w.heap.size, 0, none⟩) m m, .slice (some ⟨w.heap.size + 1, 0, none⟩) m m, .slice none 0 0] 67)) := by
      rw [hw2]
      exact ⟨rfl, rfl, rfl, by simp; omega, fun k hk => by
        rw [Go.heap_alloc_old _ _ (by simp; omega), Go.heap_alloc_old _ _ (by simp; omega), Go.heap_alloc_old _ _ (by simp; omega)]
        rfl⟩
    have START := hid (⟨⟨_, _, _, hob, hid rfl⟩, hbel, Nat.zero_le _, fun j hj => hj.1⟩ : NewAt w w2.heap.size (fun j => w.heap.size ≤ j ∧ j < w2.heap.size + 1) (.slice (some ⟨w.heap.size, 0, none⟩) m m) m 0 _)
    have hc1 := hob.cell 1 _ rfl
    obtain ⟨t, ht⟩ : ∃ t, t = w2.heap.size := ⟨_, rfl⟩
    obtain ⟨W3, hW3⟩ : ∃ W, W = w2.alloc (.cells #[.slice (some ⟨w.heap.size, 0, none⟩) m m, .slice (some ⟨w.heap.size + 1, 0, none⟩) m m, .slice none 0 0] 67) := ⟨_, rfl⟩
    rw [← ht] at START hc1 ⊢
    rw [← hW3] at START hc1 ⊢
    clear hob HOB hbel hsz hw2 HW2 hW3 ht MX MN M1 M2 hHeld
    go_wp2_with fail
    go_loopg [19] m (fun left v19 wr => ∃ k, left + k = m ∧ v19 = .int .i64 (k : Int) ∧ Hid (NewAt w t (fun j => w.heap.size ≤ j ∧ j < t + 1) (.slice (some ⟨w.heap.size, 0, none⟩) m m) m k wr))
    case atStart => exact ⟨0, by omega, rfl, START⟩
    case round =>
      obtain ⟨k, hlk, rfl, U⟩ := hrel
      by_cases hkm : k < m
      · have hkI : (k : Int) < (m : Int) := by omega
        obtain ⟨vw, vp, vr, h, HV⟩ := U.out.hp
        have hlen : (newK m k (.slice (some ⟨w.heap.size, 0, none⟩) m m)).p.length = m := by simp [newK]; omega
        obtain ⟨g, off, cap, hv, hcap, hg, hcells, hfr⟩ := row_at h 1 _ _ vp rfl rfl (by simp [hlen]; omega)
        rw [List.length_map, hlen] at hv
        subst hv
        have hc0 := h.cell 1 _ rfl
        have hf0 := hfr (off + k)
        have hx := (hcells k (by simp [hlen]; omega)).trans (lits_get _ _ (by rw [hlen]; exact hkm))
        obtain ⟨z, hz⟩ : ∃ z, z = (newK m k (.slice (some ⟨w.heap.size, 0, none⟩) m m)).p.getD k 0 := ⟨_, rfl⟩
        rw [← hz] at hx
        have T1 := h.put 1 _ _ g off m cap rfl rfl k (by simp [hlen]; omega) (.int .i64 (-1))
        have hfin : HpO (wr.setCell ⟨g, off + k, none⟩ (.int .i64 (-1))) t vw (.slice (some ⟨g, off, none⟩) m cap) vr (newK m (k + 1) (.slice (some ⟨w.heap.size, 0, none⟩) m m)) (fun j => w.heap.size ≤ j ∧ j < t + 1) := by
          rw [← newK_set m k _ hkm]
          show Ob _ _ _ _ [_, (_, lits ((newK m k (.slice (some ⟨w.heap.size, 0, none⟩) m m)).p.set k (-1))), _] _
          rw [lits_set]
          exact T1.1
        have HFIN := hid hfin
        have HKEEP := hid T1.2
        clear h hcells hfr hcap hg T1 hfin hlen hz
        cases gk with
        | zero => omega
        | succ left =>
          go_wp2_with fail
          go_roundg left
          case measure => omega
          case rel => exact ⟨k + 1, by omega, rfl, hid ⟨⟨_, _, _, HFIN.out, HV⟩, ⟨HKEEP.out.os.trans U.out.below.os, HKEEP.out.tape.trans U.out.below.tape, HKEEP.out.output.trans U.out.below.output, Nat.le_trans U.out.below.size HKEEP.out.size, fun j hj => (HKEEP.out.block j (Nat.lt_of_lt_of_le hj U.out.below.size) (fun q => by have := q.1; omega)).trans (U.out.below.block j hj)⟩, hkm, U.out.new⟩⟩
      · obtain rfl : k = m := by have := U.out.km; omega
        go_wp2_with fail
        go_ret
        exact ⟨t, _, _, rfl, by rw [← newK_all]; exact U.out.hp, U.out.new, U.out.below⟩
  · refine value_ (by rfl) rfl (v := .slice (some ⟨w.heap.size, 0, none⟩) m m) (w1 := (w.drew.alloc (.cells (madeCells #[.int .i64 0] m) 3))) (by go_simp; first | done | rfl) ?_
    refine hK.out _ _ trivial (fun hHeld => ?_)
    refine norm_ (a' := ?_) ?_ ?_
    rotate_left
    · simp only [Act.put, List.setIfInBounds_toArray, List.set_cons_zero, List.set_cons_succ]
      rfl
    refine one_ (i := 1) (N := some 9) #[true, true, true, true, false, false, false] rfl rfl (by kernel_rfl) (by decide) (fun K hK => ?_)
    refine value_ (by rfl) rfl (v := .slice (some ⟨w.heap.size + 1, 0, none⟩) m m) (w1 := ((w.drew.alloc (.cells (madeCells #[.int .i64 0] m) 3)).alloc (.cells (madeCells #[.int .i64 0] m) 2))) (by go_simp; first | done | rfl) ?_
    refine hK.out _ _ trivial (fun hHeld => ?_)
    refine norm_ (a' := ?_) ?_ ?_
    rotate_left
    · simp only [Act.put, List.setIfInBounds_toArray, List.set_cons_zero, List.set_cons_succ]
      rfl
    obtain ⟨w2, hw2⟩ : ∃ w2, w2 = ((w.drew.alloc (.cells (madeCells #[.int .i64 0] m) 3)).alloc (.cells (madeCells #[.int .i64 0] m) 2)) := ⟨_, rfl⟩
    have r1 := made_row w.drew 3 m hmb
    have r2 := made_row (w.drew.alloc (.cells (madeCells #[.int .i64 0] m) 3)) 2 m hmb
    rw [show ((w.drew.alloc (.cells (madeCells #[.int .i64 0] m) 3))).heap.size = w.heap.size + 1 from by simp] at r2
    rw [← hw2] at r2 ⊢
    have r1' := r1.alloc (.cells (madeCells #[.int .i64 0] m) 2)
    rw [← hw2] at r1'
    have hob := new_ob w w2 (w.heap.size + 1) (w.heap.size) m _ rfl r2 r1' (by omega) (by omega) (by omega) (by rw [hw2]; simp; omega)
    have HW2 := hid hw2
    clear r1 r2 r1' hw2
    have HOB := hid hob
    clear hob
    refine pure_ (i := 4) (N := some 12) (v := ?_) (a' := ?_) #[true, true, true, true, true, false, false] rfl rfl (by kernel_rfl) (fun _ _ _ h => h) (Or.inl ⟨by rfl, ?_⟩) ?_ ?_   -- build 67 #[(0, %9), (1, %11)]
    rotate_left
    · intro w'
      go_simp
      with_reducible rfl
    rotate_left
    · simp only [Act.put, List.setIfInBounds_toArray, List.set_cons_zero, List.set_cons_succ]
      rfl
    refine one_ (i := 5) (N := some 13) #[true, true, true, true, true, true, false] rfl rfl (by kernel_rfl) (by decide) (fun K hK => ?_)
    refine value_ (by rfl) rfl (v := ptr w2.heap.size) (w1 := w2.alloc (.cells #[.slice (some ⟨w.heap.size + 1, 0, none⟩) m m, .slice (some ⟨w.heap.size, 0, none⟩) m m, .slice none 0 0] 67)) (by go_simp; first | done | rfl) ?_
    refine hK.out _ _ trivial (fun hHeld => ?_)
    refine norm_ (a' := ?_) ?_ ?_
    rotate_left
    · simp only [Act.put, List.setIfInBounds_toArray, List.set_cons_zero, List.set_cons_succ]
      rfl
    refine pure_ (i := 6) (N := some 3) (v := ?_) (a' := ?_) #[true, true, true, true, true, true, true] rfl rfl (by kernel_rfl) (fun _ _ _ h => h) (Or.inl ⟨by rfl, ?_⟩) ?_ ?_   -- assign (%13)
    rotate_left
    · intro w'
      go_simp
      with_reducible rfl
    rotate_left
    · simp only [Act.put, List.setIfInBounds_toArray, List.set_cons_zero, List.set_cons_succ]
      rfl
    refine done_ (by kernel_rfl) ?_
    have hob := HOB.out
    have hw2 := HW2.out
    have hsz : w.heap.size ≤ w2.heap.size := by rw [hw2]; simp; omega
    have hbel : Below w.heap.size w (w2.alloc (.cells #[.slice (some ⟨w.heap.size + 1, 0, none⟩) m m, .slice (some ⟨w.heap.size, 0, none⟩) m m, .slice none 0 0] 67)) := by
      rw [hw2]
      exact ⟨rfl, rfl, rfl, by simp; omega, fun k hk => by
        rw [Go.heap_alloc_old _ _ (by simp; omega), Go.heap_alloc_old _ _ (by simp; omega), Go.heap_alloc_old _ _ (by simp; omega)]
        rfl⟩
    have START := hid (⟨⟨_, _, _, hob, hid rfl⟩, hbel, Nat.zero_le _, fun j hj => hj.1⟩ : NewAt w w2.heap.size (fun j => w.heap.size ≤ j ∧ j < w2.heap.size + 1) (.slice (some ⟨w.heap.size + 1, 0, none⟩) m m) m 0 _)
    have hc1 := hob.cell 1 _ rfl
    obtain ⟨t, ht⟩ : ∃ t, t = w2.heap.size := ⟨_, rfl⟩
    obtain ⟨W3, hW3⟩ : ∃ W, W = w2.alloc (.cells #[.slice (some ⟨w.heap.size + 1, 0, none⟩) m m, .slice (some ⟨w.heap.size, 0, none⟩) m m, .slice none 0 0] 67) := ⟨_, rfl⟩
    rw [← ht] at START hc1 ⊢
    rw [← hW3] at START hc1 ⊢
    clear hob HOB hbel hsz hw2 HW2 hW3 ht MX MN M1 M2 hHeld
    go_wp2_with fail
    go_loopg [19] m (fun left v19 wr => ∃ k, left + k = m ∧ v19 = .int .i64 (k : Int) ∧ Hid (NewAt w t (fun j => w.heap.size ≤ j ∧ j < t + 1) (.slice (some ⟨w.heap.size + 1, 0, none⟩) m m) m k wr))
    case atStart => exact ⟨0, by omega, rfl, START⟩
    case round =>
      obtain ⟨k, hlk, rfl, U⟩ := hrel
      by_cases hkm : k < m
      · have hkI : (k : Int) < (m : Int) := by omega
        obtain ⟨vw, vp, vr, h, HV⟩ := U.out.hp
        have hlen : (newK m k (.slice (some ⟨w.heap.size + 1, 0, none⟩) m m)).p.length = m := by simp [newK]; omega
        obtain ⟨g, off, cap, hv, hcap, hg, hcells, hfr⟩ := row_at h 1 _ _ vp rfl rfl (by simp [hlen]; omega)
        rw [List.length_map, hlen] at hv
        subst hv
        have hc0 := h.cell 1 _ rfl
        have hf0 := hfr (off + k)
        have hx := (hcells k (by simp [hlen]; omega)).trans (lits_get _ _ (by rw [hlen]; exact hkm))
        obtain ⟨z, hz⟩ : ∃ z, z = (newK m k (.slice (some ⟨w.heap.size + 1, 0, none⟩) m m)).p.getD k 0 := ⟨_, rfl⟩
        rw [← hz] at hx
        have T1 := h.put 1 _ _ g off m cap rfl rfl k (by simp [hlen]; omega) (.int .i64 (-1))
        have hfin : HpO (wr.setCell ⟨g, off + k, none⟩ (.int .i64 (-1))) t vw (.slice (some ⟨g, off, none⟩) m cap) vr (newK m (k + 1) (.slice (some ⟨w.heap.size + 1, 0, none⟩) m m)) (fun j => w.heap.size ≤ j ∧ j < t + 1) := by
          rw [← newK_set m k _ hkm]
          show Ob _ _ _ _ [_, (_, lits ((newK m k (.slice (some ⟨w.heap.size + 1, 0, none⟩) m m)).p.set k (-1))), _] _
          rw [lits_set]
          exact T1.1
        have HFIN := hid hfin
        have HKEEP := hid T1.2
        clear h hcells hfr hcap hg T1 hfin hlen hz
        cases gk with
        | zero => omega
        | succ left =>
          go_wp2_with fail
          go_roundg left
          case measure => omega
          case rel => exact ⟨k + 1, by omega, rfl, hid ⟨⟨_, _, _, HFIN.out, HV⟩, ⟨HKEEP.out.os.trans U.out.below.os, HKEEP.out.tape.trans U.out.below.tape, HKEEP.out.output.trans U.out.below.output, Nat.le_trans U.out.below.size HKEEP.out.size, fun j hj => (HKEEP.out.block j (Nat.lt_of_lt_of_le hj U.out.below.size) (fun q => by have := q.1; omega)).trans (U.out.below.block j hj)⟩, hkm, U.out.new⟩⟩
      · obtain rfl : k = m := by have := U.out.km; omega
        go_wp2_with fail
        go_ret
        exact ⟨t, _, _, rfl, by rw [← newK_all]; exact U.out.hp, U.out.new, U.out.below⟩
end Go.Proofs.Ytegcfaohhcjajaa.HM
