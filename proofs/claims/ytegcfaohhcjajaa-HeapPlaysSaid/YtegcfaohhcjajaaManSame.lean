/- Walk of the law's sameAll: a heap and the document's heap hold the same, in one order. -/
import Derived.Test.YtegcfaohhcjajaaRefA
import Derived.Test.YtegcfaohhcjajaaCollect
import Derived.Test.YtegcfaohhcjajaaHeapZ
namespace Go.Proofs.Ytegcfaohhcjajaa.HS2
open Go.RowKit Go.Proofs.YtegcfaohhcjajaaW.PrintWords Go.Proofs.YtegcfaohhcjajaaW.PrintLast Go.Proofs.YtegcfaohhcjajaaW.PrintMore Go.Proofs.Ytegcfaohhcjajaa.MM Go.Proofs.Ytegcfaohhcjajaa.TW Go.Proofs.Ytegcfaohhcjajaa.HM Go.Proofs.Ytegcfaohhcjajaa.HZ Go.Proofs.Ytegcfaohhcjajaa.RH Go.Shelf
attribute [local go_sem ↓] Go.wp_at_zero Go.wp_at_succ
attribute [local go_sem] Oper.semAt_some
set_option linter.unusedSimpArgs false
set_option linter.unusedVariables false

/-- What stands: the result, the document's row, the counter. -/
structure Std (w : World) (b4 b5 b6 : Nat) (A : Option Addr) (n c : Nat) (all : List Nat) (k : Nat) (V : World) : Prop where
  bel : Below w.heap.size w V
  h4 : V.heap[b4]? = some (.cells #[.bool false] 4 (0, 0))
  h5 : V.heap[b5]? = some (.cells #[.slice A n c] 25 (0, 0))
  h6 : V.heap[b6]? = some (.cells #[.int .i64 k] 3 (0, 0))
  row : Row V 3 (.slice A n c) (nats all)
  n4 : w.heap.size ≤ b4
  n6 : w.heap.size ≤ b6
  ne : b4 ≠ b6 ∧ b5 ≠ b6
  own : ∀ j, (Value.slice A n c).ownBlock = some j → j ≠ b6
variable {w V V1 : World} {b4 b5 b6 n c k : Nat} {A : Option Addr} {all : List Nat}
theorem Std.moved (h : Std w b4 b5 b6 A n c all k V) {G : Nat → Prop} (hk : Keep G V V1) (hG : ∀ j, G j → ∀ o, V.heap[j]? = some o → o.isCells = false) (hw : ∀ j, G j → w.heap.size ≤ j) : Std w b4 b5 b6 A n c all k V1 where
  bel := below_trans h.bel ⟨hk.os, hk.tape, hk.output, hk.size, fun j hj => hk.block j (Nat.lt_of_lt_of_le hj h.bel.size) (fun hg => by have := hw j hg; omega)⟩
  h4 := hk.blk h.h4 (fun g => by have := hG _ g _ h.h4; cases this)
  h5 := hk.blk h.h5 (fun g => by have := hG _ g _ h.h5; cases this)
  h6 := hk.blk h.h6 (fun g => by have := hG _ g _ h.h6; cases this)
  row := h.row.keep hk (fun j hj g => by
    obtain ⟨cur, hcur⟩ := h.row.typed j hj
    have := hG _ g _ hcur
    cases this)
  n4 := h.n4
  n6 := h.n6
  ne := h.ne
  own := h.own
theorem Std.below (h : Std w b4 b5 b6 A n c all k V) (hb : Below V.heap.size V V1) : Std w b4 b5 b6 A n c all k V1 :=
  h.moved (G := fun _ => False) (Keep.ofBelow hb) (fun _ q => q.elim) (fun _ q => q.elim)
theorem Std.count (h : Std w b4 b5 b6 A n c all k V) (k' : Nat) : Std w b4 b5 b6 A n c all k' (V.setCell ⟨b6, 0, none⟩ (.int .i64 (k' : Nat))) := by
  have hk := setCell_keep V b6 0 (.int .i64 (k' : Nat))
  exact ⟨below_trans h.bel ⟨hk.os, hk.tape, hk.output, hk.size, fun j hj => hk.block j (Nat.lt_of_lt_of_le hj h.bel.size) (fun e => by have := h.n6; omega)⟩, hk.blk h.h4 (fun e => h.ne.1 e), hk.blk h.h5 (fun e => h.ne.2 e), by rw [blk_set h.h6]; simp, h.row.keep hk (fun j hj e => h.own j hj e), h.n4, h.n6, h.ne, h.own⟩
theorem Std.kq (h : Std w b4 b5 b6 A n c all k V) (k' : Nat) : Kq b6 V (V.setCell ⟨b6, 0, none⟩ (.int .i64 (k' : Nat))) ∧ KeepsOthers V (V.setCell ⟨b6, 0, none⟩ (.int .i64 (k' : Nat))) := by
  have hk := setCell_keep V b6 0 (.int .i64 (k' : Nat))
  refine ⟨⟨fun j o ho hc hjb hn => hk.blk ho hjb, fun v2 j hv hj => ?_, hk.size⟩, ⟨hk.size, fun j o ho hc => hk.blk ho (fun e => ?_)⟩⟩
  · rw [blk_cell (blk_set h.h6 0 _) 0] at hv
    have : v2 = .int .i64 (k' : Nat) := by simpa using hv.symm
    subst this
    cases hj
  · rw [show j = b6 from e, h.h6] at ho
    cases ho
    cases hc
theorem Std.others4 (h : Std w b4 b5 b6 A n c all k V) (v : Value) : KeepsOthers V (V.setCell ⟨b4, 0, none⟩ v) := by
  have hk := setCell_keep V b4 0 v
  refine ⟨hk.size, fun j o ho hc => hk.blk ho (fun e => ?_)⟩
  rw [show j = b4 from e, h.h4] at ho
  cases ho
  cases hc
theorem std_own (w : World) (b4 b5 b6 : Nat) (A : Option Addr) (n c : Nat) (all : List Nat) (L : List Int) {B : Nat} (hB : w.heap.size ≤ B) : OwnFrom B (fun (pre : List Int) V => Std w b4 b5 b6 A n c all pre.length V ∧ pre <+: L) := by
  rintro pre W W' row ⟨h, hp⟩ hg hr
  refine ⟨h.moved (G := fun j => row = some j) ⟨hg.os, hg.tape, hg.output, hg.size, fun j hj hn => hg.block j hj (fun e => hn e.symm)⟩ (fun j hj o ho => ?_) (fun j hj => ?_), hp⟩
  · obtain ⟨_, o2, h2, hc⟩ := hr j hj
    rw [ho] at h2
    cases h2
    exact hc
  · exact Nat.le_trans hB (hr j hj).1
theorem std_own2 (w : World) (b4 b5 b6 : Nat) (A : Option Addr) (n c : Nat) (all : List Nat) (k D : Nat) {B : Nat} (hB : w.heap.size ≤ B) (hD : D < B) (T : List Int → Prop) : OwnFrom B (fun (pre : List Int) V => T pre ∧ Std w b4 b5 b6 A n c all k V ∧ V.heap[D]? = some (.deferred (some []))) := by
  rintro pre W W' row ⟨ht, h, hp⟩ hg hr
  refine ⟨ht, h.moved (G := fun j => row = some j) ⟨hg.os, hg.tape, hg.output, hg.size, fun j hj hn => hg.block j hj (fun e => hn e.symm)⟩ (fun j hj o ho => ?_) (fun j hj => ?_), (hg.block D (blk_lt hp) (fun e => ?_)).trans hp⟩
  · obtain ⟨_, o2, h2, hc⟩ := hr j hj
    rw [ho] at h2
    cases h2
    exact hc
  · exact Nat.le_trans hB (hr j hj).1
  · have := (hr D e.symm).1
    omega
theorem next_prefix {L pre : List Int} {x : Int} (h : pre <+: L) (hl : pre.length < L.length) (hx : x = L.getD pre.length 0) : pre ++ [x] <+: L := by
  obtain ⟨t, rfl⟩ := h
  cases t with
  | nil => simp at hl
  | cons y t =>
    have : x = y := by rw [hx]; simp
    subst this
    exact ⟨t, by simp⟩
theorem not_next {L pre : List Int} {x : Int} (h : pre <+: L) (hx : x ≠ L.getD pre.length 0) : ¬ pre ++ [x] <+: L := by
  rintro ⟨t, rfl⟩
  exact hx (by simp)
set_option maxRecDepth 100000 in
set_option maxHeartbeats 6400000 in
theorem same_calls (w : World) (t u : Nat) (s : HS) (F G : Nat → Prop) (vw vi : Value) (W : List Int) (I : List Bool) (hp : Hp w t s F) (hg : HM.Good s) (hr : Rh w u vw vi W I G) (hrel : Rel s W I) :
    Calls Try.prog 36 #[HM.ptr t, HM.ptr u] w fun e w' => e = .returned (.bool true) ∧ Below w.heap.size w w' := by
  have QF : ∀ (W : World) (f : Fn) (cl bs : Array Value), (binOp .eql 52 (.func f cl bs) .nilFunc).run Try.prog W = .ok (.bool false) W := fun W f cl bs => run_eql_func_nil W _ f cl bs Try.underlying52
  obtain ⟨all, hall⟩ : ∃ a, a = allM s.r.length s := ⟨_, rfl⟩
  have hal : all.length = s.r.length := by rw [hall, allM_len]
  obtain ⟨n, hn⟩ : ∃ n, n = all.length := ⟨_, rfl⟩
  have b1 : Below w.heap.size w (w.alloc (.cells #[.bool false] 4)) := (Below.refl _ _).alloc (Nat.le_refl _) _
  have ALL := hid (RH.All_calls (w.alloc (.cells #[.bool false] 4)) u vw vi W I G s (hr.below b1) hrel hg)
  rw [← hall] at ALL
  have HP := hid hp
  have HG := hid hg
  have HAL := hid hal
  have HALL := hid hall
  have HN := hid hn
  have HNB : Hid (n ≤ 1048576) := hid (by rw [hn, hal]; exact hg.wf.rbig)
  clear hp hg hr hrel b1 hal hall hn
  refine callsIn_wide (n := 5).1 ?_
  refine callsIn_of_wp_marks Try.func36 rfl trivial ?_ rfl
  simp only [Try.ntmps36, List.size_toArray, List.length_cons, List.length_nil, Nat.reduceAdd, Nat.reduceSub, Array.replicate_succ, Array.replicate_zero, List.push_toArray, List.append_toArray, List.nil_append, List.cons_append]
  refine wpIn_wide.2 ?_
  go_wp2_with fail
  refine ALL.out.mono ?_
  rintro e W1 ⟨v, rfl, row1, own1, bel1⟩
  obtain ⟨A, c, rfl, _, _⟩ := row1.shape
  rw [List.length_map, ← HN.out] at row1 own1
  rw [List.length_map, ← HN.out]
  have HB4 : Hid (W1.heap[w.heap.size]? = some (.cells #[.bool false] 4 (0, 0))) := hid ((bel1.block w.heap.size (by simp)).trans (heap_alloc_new w _))
  have hsz : w.heap.size + 1 ≤ W1.heap.size := by have := bel1.size; simpa using this
  have STD : Hid (Std w w.heap.size W1.heap.size (W1.heap.size + 1) A n c all 0 ((W1.alloc (.cells #[.slice A n c] 25)).alloc (.cells #[.int .i64 0] 3))) := hid (by
    have hs : (W1.alloc (.cells #[.slice A n c] 25)).heap.size = W1.heap.size + 1 := by simp
    have hb2 : Below w.heap.size w W1 := below_trans ((Below.refl w.heap.size w).alloc (Nat.le_refl _) _) (below_le bel1 (by simp))
    refine ⟨(hb2.alloc hb2.size _).alloc (by simp; omega) _, ?_, ?_, ?_, (row1.alloc _).alloc _, Nat.le_refl _, by omega, ⟨by omega, by omega⟩, fun j hj => by have := row1.lt j hj; omega⟩
    · rw [old_alloc _ (by simp; omega), old_alloc _ (by omega)]; exact HB4.out
    · rw [old_alloc _ (by simp)]; exact heap_alloc_new W1 _
    · have := heap_alloc_new (W1.alloc (.cells #[.slice A n c] 25)) (.cells #[.int .i64 0] 3)
      rw [hs] at this
      exact this)
  obtain ⟨V0, hV0⟩ : ∃ V, V = (W1.alloc (.cells #[.slice A n c] 25)).alloc (.cells #[.int .i64 0] 3) := ⟨_, rfl⟩
  obtain ⟨b4, hb4⟩ : ∃ b, b = w.heap.size := ⟨_, rfl⟩
  obtain ⟨b5, hb5⟩ : ∃ b, b = W1.heap.size := ⟨_, rfl⟩
  obtain ⟨b6, hb6⟩ : ∃ b, b = W1.heap.size + 1 := ⟨_, rfl⟩
  go_wp2_with fail
  rw [← hV0, ← hb6, ← hb5, ← hb4]
  rw [← hV0, ← hb6, ← hb5] at STD
  have STD0 : Hid (Std w b4 b5 b6 A n c all 0 V0) := hid (by rw [hb4]; exact STD.out)
  clear STD HB4 hsz hV0 hb4 hb5 hb6 bel1 own1 row1 ALL
  refine (HM.All_calls _ _).mono ?_
  rintro e V1 ⟨rfl, rfl⟩
  have STD1 := hid (STD0.out.below ((Below.refl _ _).alloc (Nat.le_refl _) (.cells #[HM.ptr t] 40)))
  obtain ⟨V1, hV1⟩ : ∃ V, V = V0.alloc (.cells #[HM.ptr t] 40) := ⟨_, rfl⟩
  rw [← hV1] at STD1 ⊢
  clear hV1 STD0
  go_wp2_with fail
  refine (HM.All_calls _ _).mono ?_
  rintro e V2 ⟨rfl, rfl⟩
  have STD2 := hid (STD1.out.below ((Below.refl _ _).alloc (Nat.le_refl _) (.cells #[HM.ptr t] 40)))
  have HBX : Hid ((V1.alloc (.cells #[HM.ptr t] 40)).cell? ⟨V1.heap.size, 0, none⟩ = some (HM.ptr t) ∧ V1.heap.size < (V1.alloc (.cells #[HM.ptr t] 40)).heap.size) := hid ⟨(blk_cell (heap_alloc_new V1 _) 0).trans rfl, by simp⟩
  obtain ⟨bx, hbx⟩ : ∃ b, b = V1.heap.size := ⟨_, rfl⟩
  obtain ⟨V2, hV2⟩ : ∃ V, V = V1.alloc (.cells #[HM.ptr t] 40) := ⟨_, rfl⟩
  rw [← hV2, ← hbx] at HBX
  rw [← hV2] at STD2 ⊢
  rw [← hbx]
  clear hV2 hbx STD1
  obtain ⟨L, hL⟩ : ∃ L, L = all.map (fun (x : Nat) => (x : Int)) := ⟨_, rfl⟩
  have HLL : Hid (L.length = n) := hid (by rw [hL, List.length_map, HN.out])
  have HLG : Hid (∀ j, j < n → L.getD j 0 = (all.getD j 0 : Nat)) := hid (fun j hj => by
    rw [hL]
    have h2 : j < all.length := by rw [← HN.out]; exact hj
    simp [List.getD_eq_getElem?_getD, h2])
  have HB6 := hid (blk_lt STD2.out.h6)
  have CB : Hid (SeqStopsK Fence.wide (5 - 1) Try.prog 46 #[.pointer (some ⟨bx, 0, none⟩)] (fun x : Int => #[Value.int .i64 x]) (Kq b6) (fun xs => xs = L) (fun pre => pre <+: L) n V2) := hid (by
    have := all_stops V2 (5 - 1) bx t b6 s F HG.out (HP.out.below STD2.out.bel) HBX.out.1 HBX.out.2 HB6.out (fun v j hv hj => by
      rw [(blk_cell STD2.out.h6 0).trans rfl] at hv
      cases hv
      cases hj)
    rw [← HALL.out, ← HAL.out, ← HN.out, ← hL] at this
    exact this)
  clear hL HBX
  go_wp2_with fail
  refine wpIn_wide (n := 5).1 ?_
  refine wpIn_rangeFunc_ownF rfl (by decide) (gf := 46) (lb := #[.pointer (some ⟨bx, 0, none⟩)]) rfl trivial (enters_of Try.func46 (by kernel_rfl) rfl)
    CB.out Kq.trans (fun V l o o' hl h hc _ => Kq.put HB6.out V l o o' hl h hc) (Below.refl _ _) (fun _ => rfl)
    (fun pre V => Std w b4 b5 b6 A n c all pre.length V ∧ pre <+: L) (fun _ pre _ => ¬ pre <+: L) (std_own w b4 b5 b6 A n c all L STD2.out.bel.size) (fun _ _ _ _ _ hs _ _ => hs) ⟨STD2.out, List.nil_prefix⟩ ?a1 ?assign ?body ?done ?stop
  case stop => exact fun _ _ _ _ _ hp hn _ => absurd hp hn
  case assign =>
    intro l x W K hK
    gi_wp2
    exact hK
  case body =>
    rintro l pre x W ⟨st, hpre⟩ hl
    obtain ⟨k, hk⟩ : ∃ k, k = pre.length := ⟨_, rfl⟩
    rw [← hk] at st hl
    have HK := hid hk
    have hka : k < all.length := by rw [← HN.out]; exact hl
    obtain ⟨g, off, cap, hv, _, _, _, hcells, _⟩ := st.row.cells (by simp; omega)
    injection hv with hA hA2 hcc
    subst hA hcc
    have hx := (hcells k (by simpa using hka)).trans (nats_get _ _ hka)
    obtain ⟨y, hy⟩ : ∃ y, y = all.getD k 0 := ⟨_, rfl⟩
    rw [← hy] at hx
    have h4 := (blk_cell st.h4 0).trans rfl
    have h5 := (blk_cell st.h5 0).trans rfl
    have h6 := (blk_cell st.h6 0).trans rfl
    have f4 := blk_frozen st.h4 0
    have f6 := blk_frozen st.h6 0
    have HY : Hid (L.getD k 0 = (y : Int)) := hid (by rw [HLG.out k hl, hy])
    have ST := hid st
    have HPRE := hid hpre
    have hkI : ¬ ((k : Int) ≥ (n : Int)) := by omega
    have hkI2 : (k : Int) < (n : Int) := by omega
    have hkb : k < 1048577 := by have := HNB.out; omega
    clear hA2 hcells hy st hpre hk hka
    by_cases hxy : x = (y : Int)
    · subst hxy
      gi_wp2
      rw [show ((k : Nat) : Int) + 1 = ((k + 1 : Nat) : Int) from by omega]
      refine ⟨(ST.out.kq (k + 1)).2, (ST.out.kq (k + 1)).1, ?_, next_prefix HPRE.out (by rw [← HK.out, HLL.out]; exact hl) (by rw [← HK.out, HY.out])⟩
      rw [show (pre ++ [(y : Int)]).length = k + 1 from by rw [List.length_append, ← HK.out]; rfl]
      exact ST.out.count (k + 1)
    · have hxb : (x != (y : Int)) = true := by simpa using hxy
      have HXY := hid hxy
      clear hxy
      gi_wp2
      exact ⟨ST.out.others4 _, not_next HPRE.out (by rw [← HK.out, HY.out]; exact HXY.out)⟩
  case done =>
    rintro D ys V hD rfl ⟨st, _⟩ hK
    rw [HLL.out] at st
    have ST3 := hid st
    have HK3 := hid hK
    have HDW : Hid (w.heap.size ≤ D) := hid (Nat.le_trans STD2.out.bel.size hD)
    clear st hK hD CB HLG HB6 STD2
    go_wp2_with fail
    refine (HM.All_calls _ _).mono ?_
    rintro e V4 ⟨rfl, rfl⟩
    have ST4 := hid (ST3.out.below ((Below.refl _ _).alloc (Nat.le_refl _) (.cells #[HM.ptr t] 40)))
    have HK4 : Hid ((V.alloc (.cells #[HM.ptr t] 40)).heap[D]? = some (.deferred (some []))) := hid ((old_alloc _ (blk_lt HK3.out)).trans HK3.out)
    have HBX : Hid ((V.alloc (.cells #[HM.ptr t] 40)).cell? ⟨V.heap.size, 0, none⟩ = some (HM.ptr t) ∧ V.heap.size < (V.alloc (.cells #[HM.ptr t] 40)).heap.size) := hid ⟨(blk_cell (heap_alloc_new V _) 0).trans rfl, by simp⟩
    obtain ⟨bx2, hbx⟩ : ∃ b, b = V.heap.size := ⟨_, rfl⟩
    obtain ⟨V4, hV4⟩ : ∃ W, W = V.alloc (.cells #[HM.ptr t] 40) := ⟨_, rfl⟩
    rw [← hV4, ← hbx] at HBX
    rw [← hV4] at ST4 HK4 ⊢
    rw [← hbx]
    clear hV4 hbx ST3 HK3
    have HB6 := hid (blk_lt ST4.out.h6)
    have CB : Hid (SeqStopsK Fence.wide (5 - 1) Try.prog 46 #[.pointer (some ⟨bx2, 0, none⟩)] (fun x : Int => #[Value.int .i64 x]) (Kq b6) (fun xs => xs.length = n) (fun pre => True) n V4) := hid (by
      have := all_stops V4 (5 - 1) bx2 t b6 s F HG.out (HP.out.below ST4.out.bel) HBX.out.1 HBX.out.2 HB6.out (fun v j hv hj => by
        rw [(blk_cell ST4.out.h6 0).trans rfl] at hv
        cases hv
        cases hj)
      rw [← HALL.out, ← HAL.out, ← HN.out] at this
      intro l J Jx W q1 q2 q3 q4 q5
      refine (this l J Jx W q1 q2 q3 q4 q5).mono fun e w' ⟨h1, h2⟩ => ⟨h1, h2.imp (fun ⟨xs, hx, hj⟩ => ⟨xs, by show xs.length = n; rw [show xs = _ from hx, List.length_map, HN.out], hj⟩) (fun ⟨pre, _, hj⟩ => ⟨pre, trivial, hj⟩)⟩)
    clear HBX
    go_wp2_with fail
    refine wpIn_wide (n := 5).1 ?_
    refine wpIn_rangeFunc_ownF rfl (by decide) (gf := 46) (lb := #[.pointer (some ⟨bx2, 0, none⟩)]) rfl trivial (enters_of Try.func46 (by kernel_rfl) rfl)
      CB.out Kq.trans (fun V l o o' hl h hc _ => Kq.put HB6.out V l o o' hl h hc) (Below.refl _ _) (fun _ => rfl)
      (fun pre W => True ∧ Std w b4 b5 b6 A n c all n W ∧ W.heap[D]? = some (.deferred (some []))) (fun cd pre W => cd = .exit 2 ∧ Std w b4 b5 b6 A n c all n W ∧ W.heap[D]? = some (.deferred (some []))) (std_own2 w b4 b5 b6 A n c all n D ST4.out.bel.size (blk_lt HK4.out) (fun _ => True)) (fun cd => std_own2 w b4 b5 b6 A n c all n D ST4.out.bel.size (blk_lt HK4.out) (fun _ => cd = .exit 2)) ⟨trivial, ST4.out, HK4.out⟩ ?a2 ?assign2 ?body2 ?done2 ?stop2
    case assign2 =>
      intro l x W K hK
      gi_wp2
      exact hK
    case body2 =>
      rintro l pre x W ⟨_, st, hk⟩ hl
      gi_wp2
      exact ⟨⟨Nat.le_refl _, fun _ _ h _ => h⟩, rfl, st, hk⟩
    case done2 =>
      rintro D2 ys V5 hD2 _ ⟨_, st, hk1⟩ hk2
      have ST5 := hid st
      have HDS := hid (And.intro hk1 hk2)
      have HDD : Hid (D ≠ D2 ∧ w.heap.size ≤ D ∧ w.heap.size ≤ D2) := hid ⟨fun e => by have := blk_lt HK4.out; omega, HDW.out, Nat.le_trans ST4.out.bel.size hD2⟩
      clear st hk1 hk2 hD2 CB HB6 ST4 HK4
      go_wp2_with fail
      have LEN := hid (fun V (h : Below w.heap.size w V) => Len_calls V t s F (HP.out.below h))
      have HS11 := hid (fun V (h : Std w b4 b5 b6 A n c all n V) => (show V.cell? ⟨b6, 0, none⟩ = some (.int .i64 (n : Nat)) ∧ V.cell? ⟨b5, 0, none⟩ = some (.slice A n c) ∧ V.frozen? ⟨b4, 0, none⟩ = false from ⟨(blk_cell h.h6 0).trans rfl, (blk_cell h.h5 0).trans rfl, blk_frozen h.h4 0⟩))
      have ST6 : Hid (Std w b4 b5 b6 A n c all n V5.drew) := hid (ST5.out.below ⟨rfl, rfl, rfl, Nat.le_refl _, fun _ _ => rfl⟩)
      go_wp2_with fail
      refine wp_region_noPanic ?_
      refine start_ (n := 11) (S := (fun w' => w'.cell? ⟨b6, 0, none⟩ = some (.int .i64 (n : Nat)) ∧ w'.cell? ⟨b5, 0, none⟩ = some (.slice A n c) ∧ w'.frozen? ⟨b4, 0, none⟩ = false)) (ds := [10]) #[false, false, false, false, false, false, false, false, false, false, false] (by kernel_rfl) rfl rfl (HS11.out _ ST6.out) (fun hHeld => ?_)
      refine take_ (i := 0) (N := some 33) (v := ?_) (a' := ?_) #[true, false, false, false, false, false, false, false, false, false, false] rfl rfl (by kernel_rfl) (fun _ _ _ h => h) (Or.inl ⟨by rfl, ?_⟩) hHeld ?_ ?_   -- load 3 (%6)
      rotate_left
      · rintro w' ⟨s0, s1, s2⟩
        go_simp
        with_reducible rfl
      rotate_left
      · simp only [Act.put, List.setIfInBounds_toArray, List.set_cons_zero, List.set_cons_succ]
        rfl
      refine take_ (i := 1) (N := some 34) (v := ?_) (a' := ?_) #[true, true, false, false, false, false, false, false, false, false, false] rfl rfl (by kernel_rfl) (fun _ _ _ h => h) (Or.inl ⟨by rfl, ?_⟩) hHeld ?_ ?_   -- load 25 (%5)
      rotate_left
      · rintro w' ⟨s0, s1, s2⟩
        go_simp
        with_reducible rfl
      rotate_left
      · simp only [Act.put, List.setIfInBounds_toArray, List.set_cons_zero, List.set_cons_succ]
        rfl
      refine take_ (i := 2) (N := some 35) (v := ?_) (a' := ?_) #[true, true, true, false, false, false, false, false, false, false, false] rfl rfl (by kernel_rfl) (fun _ _ _ h => h) (Or.inl ⟨by rfl, ?_⟩) hHeld ?_ ?_   -- call { callee := builtin len, args := #[%34], argTypes := #[
      rotate_left
      · rintro w' ⟨s0, s1, s2⟩
        go_simp
        with_reducible rfl
      rotate_left
      · simp only [Act.put, List.setIfInBounds_toArray, List.set_cons_zero, List.set_cons_succ]
        rfl
      refine take_ (i := 3) (N := some 36) (v := ?_) (a' := ?_) #[true, true, true, true, false, false, false, false, false, false, false] rfl rfl (by kernel_rfl) (fun _ _ _ h => h) (Or.inl ⟨by rfl, ?_⟩) hHeld ?_ ?_   -- binOp eql 3 (%33) (%35) 3
      rotate_left
      · rintro w' ⟨s0, s1, s2⟩
        go_simp
        with_reducible rfl
      rotate_left
      · simp only [Act.put, List.setIfInBounds_toArray, List.set_cons_zero, List.set_cons_succ]
        rfl
      refine take_ (i := 4) (N := some 37) (v := ?_) (a' := ?_) #[true, true, true, true, true, false, false, false, false, false, false] rfl rfl (by kernel_rfl) (fun _ _ _ h => h) (Or.inl ⟨by rfl, ?_⟩) hHeld ?_ ?_   -- move (%36)
      rotate_left
      · rintro w' ⟨s0, s1, s2⟩
        go_simp
        with_reducible rfl
      rotate_left
      · simp only [Act.put, List.setIfInBounds_toArray, List.set_cons_zero, List.set_cons_succ]
        rfl
      refine take_ (i := 5) (N := some 38) (v := ?_) (a' := ?_) #[true, true, true, true, true, true, false, false, false, false, false] rfl rfl (by kernel_rfl) (fun _ _ _ h => h) (Or.inl ⟨by rfl, ?_⟩) hHeld ?_ ?_   -- move (%0)
      rotate_left
      · rintro w' ⟨s0, s1, s2⟩
        go_simp
        with_reducible rfl
      rotate_left
      · simp only [Act.put, List.setIfInBounds_toArray, List.set_cons_zero, List.set_cons_succ]
        rfl
      refine take_ (i := 7) (N := some 40) (v := ?_) (a' := ?_) #[true, true, true, true, true, true, false, true, false, false, false] rfl rfl (by kernel_rfl) (fun _ _ _ h => h) (Or.inl ⟨by rfl, ?_⟩) hHeld ?_ ?_   -- load 3 (%6)
      rotate_left
      · rintro w' ⟨s0, s1, s2⟩
        go_simp
        with_reducible rfl
      rotate_left
      · simp only [Act.put, List.setIfInBounds_toArray, List.set_cons_zero, List.set_cons_succ]
        rfl
      refine one_ (i := 6) (N := some 39) #[true, true, true, true, true, true, true, true, false, false, false] rfl rfl (by kernel_rfl) (by decide) (fun K hK => ?_)
      refine call_ 37 #[HM.ptr t] (by rfl) rfl (by go_simp; first | done | rfl) ?_
      refine (LEN.out _ ST6.out.bel).mono ?_
      rintro e W7 ⟨rfl, b7⟩
      have ST7 := hid (ST6.out.below b7)
      have HD7 : Hid (W7.heap[D]? = some (.deferred (some [])) ∧ W7.heap[D2]? = some (.deferred (some []))) := hid ⟨(b7.block D (blk_lt HDS.out.1)).trans HDS.out.1, (b7.block D2 (blk_lt HDS.out.2)).trans HDS.out.2⟩
      clear b7
      rw [← HAL.out, ← HN.out]
      refine ⟨_, rfl, hK.out _ _ (HS11.out _ ST7.out) (fun hHeld => ?_)⟩
      refine norm_ (a' := ?_) ?_ ?_
      rotate_left
      · simp only [Act.put, List.setIfInBounds_toArray, List.set_cons_zero, List.set_cons_succ]
        rfl
      have hf := hHeld.2.2
      have hc4 : W7.cell? ⟨b4, 0, none⟩ = some (.bool false) := (blk_cell ST7.out.h4 0).trans rfl
      refine take_ (i := 8) (N := some 41) (v := ?_) (a' := ?_) #[true, true, true, true, true, true, true, true, true, false, false] rfl rfl (by kernel_rfl) (fun _ _ _ h => h) (Or.inl ⟨by rfl, ?_⟩) hHeld ?_ ?_   -- binOp eql 3 (%39) (%40) 3
      rotate_left
      · rintro w' ⟨s0, s1, s2⟩
        go_simp
        with_reducible rfl
      rotate_left
      · simp only [Act.put, List.setIfInBounds_toArray, List.set_cons_zero, List.set_cons_succ]
        rfl
      refine take_ (i := 9) (N := some 42) (v := ?_) (a' := ?_) #[true, true, true, true, true, true, true, true, true, true, false] rfl rfl (by kernel_rfl) (fun _ _ _ h => h) (Or.inl ⟨by rfl, ?_⟩) hHeld ?_ ?_   -- pick (%37) (%41) (const (bool false))
      rotate_left
      · rintro w' ⟨s0, s1, s2⟩
        go_simp
        with_reducible rfl
      rotate_left
      · simp only [Act.put, List.setIfInBounds_toArray, List.set_cons_zero, List.set_cons_succ]
        rfl
      refine last_ (i := 10) (N := none) #[true, true, true, true, true, true, true, true, true, true, true] rfl rfl (by kernel_rfl) (by decide) (fun K hK => ?_)
      refine skip_ (by rfl) rfl (w1 := W7.setCell ⟨b4, 0, none⟩ (.bool true)) (by go_simp; first | done | rfl) ?_
      refine hK.out _ _ ?_
      refine done_ (by kernel_rfl) ?_
      have h1 : (W7.setCell ⟨b4, 0, none⟩ (.bool true)).heap[b4]? = some (.cells #[.bool true] 4 (0, 0)) := by rw [blk_set ST7.out.h4]; simp
      have hk4 := setCell_keep W7 b4 0 (.bool true)
      have e2 : D2 ≠ b4 := fun e => by have h2 := HD7.out.2; rw [e, ST7.out.h4] at h2; cases h2
      have e1 : D ≠ b4 := fun e => by have h2 := HD7.out.1; rw [e, ST7.out.h4] at h2; cases h2
      have hK2 := hk4.blk HD7.out.2 e2
      have hK1 := (World.putObj_heap_other (o := .deferred none) HDD.out.1).trans (hk4.blk HD7.out.1 e1)
      have hc6 : (((W7.setCell ⟨b4, 0, none⟩ (.bool true)).putObj D2 (.deferred none)).putObj D (.deferred none)).cell? ⟨b4, 0, none⟩ = some (.bool true) :=
        (blk_cell ((World.putObj_heap_other (o := .deferred none) (fun e => e1 e.symm)).trans ((World.putObj_heap_other (o := .deferred none) (fun e => e2 e.symm)).trans h1)) 0).trans rfl
      have HB9 : Hid (Below w.heap.size w (((W7.setCell ⟨b4, 0, none⟩ (.bool true)).putObj D2 (.deferred none)).putObj D (.deferred none))) := hid (by
        have q : Below w.heap.size w (W7.setCell ⟨b4, 0, none⟩ (.bool true)) := ST7.out.bel.setCell (p := ⟨b4, 0, none⟩) ST7.out.n4 _
        exact (q.trans (belowK_b (w := w) (Nat.le_refl _) _ D2 _ _ HDD.out.2.2 hK2 rfl rfl)).trans (belowK_b (w := w) (Nat.le_refl _) _ D _ _ HDD.out.2.1 hK1 rfl rfl))
      try simp only [NoPanic, Exit.then]
      go_wp2_with fail
      refine ⟨by simp, .inl ⟨_, _, rfl, run_takeDeferred hK2, by simp, .inl ⟨_, _, rfl, run_takeDeferred hK1, ?_⟩⟩⟩
      refine ⟨.bool true, ?_, rfl, HB9.out⟩
      simp [results, Try.f36, go_sem, hc6]
    case stop2 =>
      rintro D2 cd pre V5 hD2 _ ⟨rfl, st, hk1⟩ hk2
      have ST5 := hid st
      have HDS := hid (And.intro hk1 hk2)
      have HDD : Hid (D ≠ D2 ∧ w.heap.size ≤ D ∧ w.heap.size ≤ D2) := hid ⟨fun e => by have := blk_lt HK4.out; omega, HDW.out, Nat.le_trans ST4.out.bel.size hD2⟩
      clear st hk1 hk2 hD2 CB HB6 ST4 HK4
      refine wpIn_wide.2 ?_
      go_wp2_with fail
      have LEN := hid (fun V (h : Below w.heap.size w V) => Len_calls V t s F (HP.out.below h))
      have HS11 := hid (fun V (h : Std w b4 b5 b6 A n c all n V) => (show V.cell? ⟨b6, 0, none⟩ = some (.int .i64 (n : Nat)) ∧ V.cell? ⟨b5, 0, none⟩ = some (.slice A n c) ∧ V.frozen? ⟨b4, 0, none⟩ = false from ⟨(blk_cell h.h6 0).trans rfl, (blk_cell h.h5 0).trans rfl, blk_frozen h.h4 0⟩))
      have ST6 : Hid (Std w b4 b5 b6 A n c all n V5.drew) := hid (ST5.out.below ⟨rfl, rfl, rfl, Nat.le_refl _, fun _ _ => rfl⟩)
      go_wp2_with fail
      refine wp_region_noPanic ?_
      refine start_ (n := 11) (S := (fun w' => w'.cell? ⟨b6, 0, none⟩ = some (.int .i64 (n : Nat)) ∧ w'.cell? ⟨b5, 0, none⟩ = some (.slice A n c) ∧ w'.frozen? ⟨b4, 0, none⟩ = false)) (ds := [10]) #[false, false, false, false, false, false, false, false, false, false, false] (by kernel_rfl) rfl rfl (HS11.out _ ST6.out) (fun hHeld => ?_)
      refine take_ (i := 0) (N := some 33) (v := ?_) (a' := ?_) #[true, false, false, false, false, false, false, false, false, false, false] rfl rfl (by kernel_rfl) (fun _ _ _ h => h) (Or.inl ⟨by rfl, ?_⟩) hHeld ?_ ?_   -- load 3 (%6)
      rotate_left
      · rintro w' ⟨s0, s1, s2⟩
        go_simp
        with_reducible rfl
      rotate_left
      · simp only [Act.put, List.setIfInBounds_toArray, List.set_cons_zero, List.set_cons_succ]
        rfl
      refine take_ (i := 1) (N := some 34) (v := ?_) (a' := ?_) #[true, true, false, false, false, false, false, false, false, false, false] rfl rfl (by kernel_rfl) (fun _ _ _ h => h) (Or.inl ⟨by rfl, ?_⟩) hHeld ?_ ?_   -- load 25 (%5)
      rotate_left
      · rintro w' ⟨s0, s1, s2⟩
        go_simp
        with_reducible rfl
      rotate_left
      · simp only [Act.put, List.setIfInBounds_toArray, List.set_cons_zero, List.set_cons_succ]
        rfl
      refine take_ (i := 2) (N := some 35) (v := ?_) (a' := ?_) #[true, true, true, false, false, false, false, false, false, false, false] rfl rfl (by kernel_rfl) (fun _ _ _ h => h) (Or.inl ⟨by rfl, ?_⟩) hHeld ?_ ?_   -- call { callee := builtin len, args := #[%34], argTypes := #[
      rotate_left
      · rintro w' ⟨s0, s1, s2⟩
        go_simp
        with_reducible rfl
      rotate_left
      · simp only [Act.put, List.setIfInBounds_toArray, List.set_cons_zero, List.set_cons_succ]
        rfl
      refine take_ (i := 3) (N := some 36) (v := ?_) (a' := ?_) #[true, true, true, true, false, false, false, false, false, false, false] rfl rfl (by kernel_rfl) (fun _ _ _ h => h) (Or.inl ⟨by rfl, ?_⟩) hHeld ?_ ?_   -- binOp eql 3 (%33) (%35) 3
      rotate_left
      · rintro w' ⟨s0, s1, s2⟩
        go_simp
        with_reducible rfl
      rotate_left
      · simp only [Act.put, List.setIfInBounds_toArray, List.set_cons_zero, List.set_cons_succ]
        rfl
      refine take_ (i := 4) (N := some 37) (v := ?_) (a' := ?_) #[true, true, true, true, true, false, false, false, false, false, false] rfl rfl (by kernel_rfl) (fun _ _ _ h => h) (Or.inl ⟨by rfl, ?_⟩) hHeld ?_ ?_   -- move (%36)
      rotate_left
      · rintro w' ⟨s0, s1, s2⟩
        go_simp
        with_reducible rfl
      rotate_left
      · simp only [Act.put, List.setIfInBounds_toArray, List.set_cons_zero, List.set_cons_succ]
        rfl
      refine take_ (i := 5) (N := some 38) (v := ?_) (a' := ?_) #[true, true, true, true, true, true, false, false, false, false, false] rfl rfl (by kernel_rfl) (fun _ _ _ h => h) (Or.inl ⟨by rfl, ?_⟩) hHeld ?_ ?_   -- move (%0)
      rotate_left
      · rintro w' ⟨s0, s1, s2⟩
        go_simp
        with_reducible rfl
      rotate_left
      · simp only [Act.put, List.setIfInBounds_toArray, List.set_cons_zero, List.set_cons_succ]
        rfl
      refine take_ (i := 7) (N := some 40) (v := ?_) (a' := ?_) #[true, true, true, true, true, true, false, true, false, false, false] rfl rfl (by kernel_rfl) (fun _ _ _ h => h) (Or.inl ⟨by rfl, ?_⟩) hHeld ?_ ?_   -- load 3 (%6)
      rotate_left
      · rintro w' ⟨s0, s1, s2⟩
        go_simp
        with_reducible rfl
      rotate_left
      · simp only [Act.put, List.setIfInBounds_toArray, List.set_cons_zero, List.set_cons_succ]
        rfl
      refine one_ (i := 6) (N := some 39) #[true, true, true, true, true, true, true, true, false, false, false] rfl rfl (by kernel_rfl) (by decide) (fun K hK => ?_)
      refine call_ 37 #[HM.ptr t] (by rfl) rfl (by go_simp; first | done | rfl) ?_
      refine (LEN.out _ ST6.out.bel).mono ?_
      rintro e W7 ⟨rfl, b7⟩
      have ST7 := hid (ST6.out.below b7)
      have HD7 : Hid (W7.heap[D]? = some (.deferred (some [])) ∧ W7.heap[D2]? = some (.deferred (some []))) := hid ⟨(b7.block D (blk_lt HDS.out.1)).trans HDS.out.1, (b7.block D2 (blk_lt HDS.out.2)).trans HDS.out.2⟩
      clear b7
      rw [← HAL.out, ← HN.out]
      refine ⟨_, rfl, hK.out _ _ (HS11.out _ ST7.out) (fun hHeld => ?_)⟩
      refine norm_ (a' := ?_) ?_ ?_
      rotate_left
      · simp only [Act.put, List.setIfInBounds_toArray, List.set_cons_zero, List.set_cons_succ]
        rfl
      have hf := hHeld.2.2
      have hc4 : W7.cell? ⟨b4, 0, none⟩ = some (.bool false) := (blk_cell ST7.out.h4 0).trans rfl
      refine take_ (i := 8) (N := some 41) (v := ?_) (a' := ?_) #[true, true, true, true, true, true, true, true, true, false, false] rfl rfl (by kernel_rfl) (fun _ _ _ h => h) (Or.inl ⟨by rfl, ?_⟩) hHeld ?_ ?_   -- binOp eql 3 (%39) (%40) 3
      rotate_left
      · rintro w' ⟨s0, s1, s2⟩
        go_simp
        with_reducible rfl
      rotate_left
      · simp only [Act.put, List.setIfInBounds_toArray, List.set_cons_zero, List.set_cons_succ]
        rfl
      refine take_ (i := 9) (N := some 42) (v := ?_) (a' := ?_) #[true, true, true, true, true, true, true, true, true, true, false] rfl rfl (by kernel_rfl) (fun _ _ _ h => h) (Or.inl ⟨by rfl, ?_⟩) hHeld ?_ ?_   -- pick (%37) (%41) (const (bool false))
      rotate_left
      · rintro w' ⟨s0, s1, s2⟩
        go_simp
        with_reducible rfl
      rotate_left
      · simp only [Act.put, List.setIfInBounds_toArray, List.set_cons_zero, List.set_cons_succ]
        rfl
      refine last_ (i := 10) (N := none) #[true, true, true, true, true, true, true, true, true, true, true] rfl rfl (by kernel_rfl) (by decide) (fun K hK => ?_)
      refine skip_ (by rfl) rfl (w1 := W7.setCell ⟨b4, 0, none⟩ (.bool true)) (by go_simp; first | done | rfl) ?_
      refine hK.out _ _ ?_
      refine done_ (by kernel_rfl) ?_
      have h1 : (W7.setCell ⟨b4, 0, none⟩ (.bool true)).heap[b4]? = some (.cells #[.bool true] 4 (0, 0)) := by rw [blk_set ST7.out.h4]; simp
      have hk4 := setCell_keep W7 b4 0 (.bool true)
      have e2 : D2 ≠ b4 := fun e => by have h2 := HD7.out.2; rw [e, ST7.out.h4] at h2; cases h2
      have e1 : D ≠ b4 := fun e => by have h2 := HD7.out.1; rw [e, ST7.out.h4] at h2; cases h2
      have hK2 := hk4.blk HD7.out.2 e2
      have hK1 := (World.putObj_heap_other (o := .deferred none) HDD.out.1).trans (hk4.blk HD7.out.1 e1)
      have hc6 : (((W7.setCell ⟨b4, 0, none⟩ (.bool true)).putObj D2 (.deferred none)).putObj D (.deferred none)).cell? ⟨b4, 0, none⟩ = some (.bool true) :=
        (blk_cell ((World.putObj_heap_other (o := .deferred none) (fun e => e1 e.symm)).trans ((World.putObj_heap_other (o := .deferred none) (fun e => e2 e.symm)).trans h1)) 0).trans rfl
      have HB9 : Hid (Below w.heap.size w (((W7.setCell ⟨b4, 0, none⟩ (.bool true)).putObj D2 (.deferred none)).putObj D (.deferred none))) := hid (by
        have q : Below w.heap.size w (W7.setCell ⟨b4, 0, none⟩ (.bool true)) := ST7.out.bel.setCell (p := ⟨b4, 0, none⟩) ST7.out.n4 _
        exact (q.trans (belowK_b (w := w) (Nat.le_refl _) _ D2 _ _ HDD.out.2.2 hK2 rfl rfl)).trans (belowK_b (w := w) (Nat.le_refl _) _ D _ _ HDD.out.2.1 hK1 rfl rfl))
      try simp only [NoPanic, Exit.then]
      go_wp2_with fail
      refine ⟨by simp, .inl ⟨_, _, rfl, run_takeDeferred hK2, by simp, .inl ⟨_, _, rfl, run_takeDeferred hK1, ?_⟩⟩⟩
      refine ⟨.bool true, ?_, rfl, HB9.out⟩
      simp [results, Try.f36, go_sem, hc6]
end Go.Proofs.Ytegcfaohhcjajaa.HS2
