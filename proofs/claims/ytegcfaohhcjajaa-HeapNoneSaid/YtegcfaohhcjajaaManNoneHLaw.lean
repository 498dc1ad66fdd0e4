/- Walk of the law HeapNone. -/
import Derived.Test.YtegcfaohhcjajaaHeapZ
import Derived.Test.YtegcfaohhcjajaaHeapK
namespace Go.Proofs.Ytegcfaohhcjajaa.Hk
open Go.RowKit Go.Proofs.YtegcfaohhcjajaaW.PrintWords Go.Proofs.YtegcfaohhcjajaaW.PrintLast Go.Proofs.YtegcfaohhcjajaaW.PrintMore Go.Proofs.Ytegcfaohhcjajaa.MM Go.Proofs.Ytegcfaohhcjajaa.TW Go.Proofs.Ytegcfaohhcjajaa.HM Go.Proofs.Ytegcfaohhcjajaa.HZ Go.Shelf
attribute [local go_sem ↓] Go.wp_at_zero Go.wp_at_succ
attribute [local go_sem] Oper.semAt_some
set_option linter.unusedSimpArgs false
set_option linter.unusedVariables false

abbrev zS : HS := ⟨[], [], [], .slice none 0 0⟩
theorem zGood : HM.Good zS := ⟨⟨⟨rfl, by simp, by simp, by simp⟩, by simp, by simp⟩, fun j _ hj => by simp at hj, by simp⟩
/-- The zero heap, and the law's result beside it. -/
theorem zero_heap (w : World) (b : Nat) (o : Obj) (hb : b < w.heap.size) (ho : w.heap[b]? = some o) (w0 : World) (hw : Below w0.heap.size w0 w) :
    OwnS w0 w.heap.size zS (Side.obj b o) (w.alloc (.cells #[.slice none 0 0, .slice none 0 0, .slice none 0 0] 67)) := by
  have hm := Ob.made w 67 [.slice none 0 0, .slice none 0 0, .slice none 0 0] [(2, []), (3, []), (3, [])] (by decide) (fun i r h => by
    match i, h with
    | 0, h => cases h; exact ⟨rfl, rfl⟩
    | 1, h => cases h; exact ⟨rfl, rfl⟩
    | 2, h => cases h; exact ⟨rfl, rfl⟩
    | n + 3, h => simp at h)
  exact ⟨_, ⟨_, _, _, hm, hid rfl⟩, fun j hj => by rw [hj]; exact hw.size, hw.alloc hw.size _, (old_alloc _ hb).trans ho, fun j hj e => by rw [show j = b from hj] at e; omega⟩
set_option maxRecDepth 100000 in
set_option maxHeartbeats 6400000 in
theorem none_walk (w : World) (a0 a1 : Int) (a2 : ByteArray) :
    Calls Try.prog 8 #[.int .i64 a0, .int .i64 a1, .string a2] w fun e w' => e = .returned (.bool true) ∧ Below w.heap.size w w' := by
  have QF : ∀ (W : World) (f : Fn) (cl bs : Array Value), (binOp .eql 52 (.func f cl bs) .nilFunc).run Try.prog W = .ok (.bool false) W := fun W f cl bs => run_eql_func_nil W _ f cl bs Try.underlying52
  have ZH := hid (zero_heap (w.alloc (.cells #[.bool false] 4)) w.heap.size (.cells #[.bool false] 4 (0, 0)) (by simp) (heap_alloc_new w _) w ((Below.refl _ _).alloc (Nat.le_refl _) _))
  refine callsIn_wide (n := 5).1 ?_
  refine callsIn_of_wp_marks Try.func8 rfl trivial ?_ rfl
  simp only [Try.ntmps8, List.size_toArray, List.length_cons, List.length_nil, Nat.reduceAdd, Nat.reduceSub, Array.replicate_succ, Array.replicate_zero, List.push_toArray, List.append_toArray, List.nil_append, List.cons_append]
  refine wpIn_wide.2 ?_
  go_wp2_with fail
  obtain ⟨Wz, hWz⟩ : ∃ W, W = (w.alloc (.cells #[.bool false] 4)).alloc (.cells #[.slice none 0 0, .slice none 0 0, .slice none 0 0] 67) := ⟨_, rfl⟩
  obtain ⟨z, hz⟩ : ∃ z, z = (w.alloc (.cells #[.bool false] 4)).heap.size := ⟨_, rfl⟩
  have hz2 : w.heap.size + 1 = z := by rw [hz]; simp
  obtain ⟨rb, hrb⟩ : ∃ b, b = w.heap.size := ⟨_, rfl⟩
  rw [← hWz, ← hz, ← hrb] at ZH
  try rw [hz2]
  rw [← hWz, ← hrb]
  have HRB : Hid (w.heap.size ≤ rb) := hid (by omega)
  clear hWz hz hz2 hrb
  refine (Halve_nil _).mono ?_
  rintro e w1 ⟨rfl, rfl⟩
  go_wp2_with fail
  refine (ZH.out.halve zGood).mono ?_
  rintro e w2 ⟨rfl, o2⟩
  have O2 : Hid (OwnS w z zS (Side.obj rb (.cells #[.bool false] 4 (0, 0))) w2) := hid o2
  clear o2 ZH
  go_wp2_with fail
  refine (tPush_nil _ _).mono ?_
  rintro e w3 ⟨rfl, rfl⟩
  go_wp2_with fail
  refine (Pop_nil _).mono ?_
  rintro e w4 ⟨rfl, rfl⟩
  go_wp2_with fail
  refine (First_nil _).mono ?_
  rintro e w5 ⟨rfl, rfl⟩
  go_wp2_with fail
  refine (O2.out.popNone rfl).mono ?_
  rintro e w6 ⟨rfl, o6⟩
  have O6 := hid o6
  clear o6 O2
  go_wp2_with fail
  refine (tAt_nil _ _).mono ?_
  rintro e w7 ⟨rfl, rfl⟩
  go_wp2_with fail
  refine (All_calls _ _).mono ?_
  rintro e w8 ⟨rfl, rfl⟩
  have O8 := hid (O6.out.below ((Below.refl _ _).alloc (Nat.le_refl _) (.cells #[.pointer none] 40)))
  obtain ⟨W8, hW8⟩ : ∃ W, W = w7.alloc (.cells #[.pointer none] 40) := ⟨_, rfl⟩
  rw [← hW8] at O8 ⊢
  clear hW8 O6
  go_wp2_with fail
  refine (All_calls _ _).mono ?_
  rintro e w9 ⟨rfl, rfl⟩
  have O9 := hid (O8.out.below ((Below.refl _ _).alloc (Nat.le_refl _) (.cells #[.pointer (some ⟨z, 0, none⟩)] 40)))
  obtain ⟨W9, hW9⟩ : ∃ W, W = W8.alloc (.cells #[.pointer (some ⟨z, 0, none⟩)] 40) := ⟨_, rfl⟩
  rw [← hW9] at O9 ⊢
  clear hW9 O8
  go_wp2_with fail
  refine (All_calls _ _).mono ?_
  rintro e w10 ⟨rfl, rfl⟩
  have O10 := hid (O9.out.below ((Below.refl _ _).alloc (Nat.le_refl _) (.cells #[.pointer none] 40)))
  have CB := hid (nil_stops (W9.alloc (.cells #[.pointer none] 40)) (5 - 1) W9.heap.size (fun _ _ => True) ((blk_cell (heap_alloc_new W9 _) 0).trans rfl) (by simp))
  obtain ⟨b10, hb10⟩ : ∃ b, b = W9.heap.size := ⟨_, rfl⟩
  obtain ⟨W10, hW10⟩ : ∃ W, W = W9.alloc (.cells #[.pointer none] 40) := ⟨_, rfl⟩
  rw [← hW10, ← hb10] at CB
  rw [← hW10] at O10 ⊢
  rw [← hb10]
  clear hW10 hb10 O9
  go_wp2_with fail
  refine wpIn_wide (n := 5).1 ?_
  refine wpIn_rangeFunc_ownF rfl (by decide) (gf := 46) (lb := #[.pointer (some ⟨b10, 0, none⟩)]) rfl trivial (enters_of Try.func46 (by kernel_rfl) rfl)
    CB.out (fun _ _ => trivial) (fun _ _ _ _ _ _ _ _ => trivial) (Below.refl _ _) (fun _ => rfl)
    (fun _ W => Below W10.heap.size W10 W) (fun _ _ _ => False) (ownFrom_below (Nat.le_refl _) (Nat.le_refl _)) (fun _ _ _ _ _ hs _ _ => hs) (Below.refl _ _) ?a1 ?assign ?body ?done ?stop
  case stop => exact fun _ _ _ _ _ h _ _ => h.elim
  case body => exact fun l pre x W _ hl => absurd hl (Nat.not_lt_zero _)
  case assign =>
    intro l x W K hK
    gi_wp2
    exact hK
  case done =>
    rintro D ys W hD rfl hB hK
    have OD := hid (O10.out.new hB (Side.obj D (.deferred (some []))) hK (fun j hj => by rw [show j = D from hj]; exact hD))
    have HD1 : Hid (w.heap.size ≤ D) := hid (Nat.le_trans O10.out.bel.size hD)
    clear O10 CB hB hK hD
    go_wp2_with fail
    refine (All_calls _ _).mono ?_
    rintro e w12 ⟨rfl, rfl⟩
    have O12 := hid (OD.out.below ((Below.refl _ _).alloc (Nat.le_refl _) (.cells #[.pointer (some ⟨z, 0, none⟩)] 40)))
    have HBX : Hid ((W.alloc (.cells #[.pointer (some ⟨z, 0, none⟩)] 40)).cell? ⟨W.heap.size, 0, none⟩ = some (ptr z) ∧ W.heap.size < (W.alloc (.cells #[.pointer (some ⟨z, 0, none⟩)] 40)).heap.size) := hid ⟨(blk_cell (heap_alloc_new W _) 0).trans rfl, by simp⟩
    obtain ⟨b12, hb12⟩ : ∃ b, b = W.heap.size := ⟨_, rfl⟩
    obtain ⟨W12, hW12⟩ : ∃ V, V = W.alloc (.cells #[.pointer (some ⟨z, 0, none⟩)] 40) := ⟨_, rfl⟩
    rw [← hW12, ← hb12] at HBX
    rw [← hW12] at O12 ⊢
    rw [← hb12]
    clear hW12 hb12 OD
    have hrl : rb < W12.heap.size := blk_lt O12.out.side.1
    have CB2 : Hid (SeqStopsK Fence.wide (5 - 1) Try.prog 46 #[.pointer (some ⟨b12, 0, none⟩)] (fun x : Int => #[Value.int .i64 x]) (Kq rb) (fun xs => xs = []) (fun pre => pre <+: []) 0 W12) := hid (by
      obtain ⟨F, h1, _, _, h4, _⟩ := O12.out
      exact all_stops W12 (5 - 1) b12 z rb zS F zGood h1 HBX.out.1 HBX.out.2 hrl (fun v j hv hj => by
        rw [(blk_cell h4.1 0).trans rfl] at hv
        cases hv
        cases hj))
    have HRL := hid hrl
    clear hrl
    go_wp2_with fail
    refine wpIn_wide (n := 5).1 ?_
    refine wpIn_rangeFunc_ownF rfl (by decide) (gf := 46) (lb := #[.pointer (some ⟨b12, 0, none⟩)]) rfl trivial (enters_of Try.func46 (by kernel_rfl) rfl)
      CB2.out Kq.trans (fun V l o o' hl h hc _ => Kq.put HRL.out V l o o' hl h hc) (Below.refl _ _) (fun _ => rfl)
      (fun _ V => Below W12.heap.size W12 V) (fun _ _ _ => False) (ownFrom_below (Nat.le_refl _) (Nat.le_refl _)) (fun _ _ _ _ _ hs _ _ => hs) (Below.refl _ _) ?a2 ?assign2 ?body2 ?done2 ?stop2
    case stop2 => exact fun _ _ _ _ _ _ h _ => h.elim
    case body2 => exact fun l pre x W _ hl => absurd hl (Nat.not_lt_zero _)
    case assign2 =>
      intro l x W K hK
      gi_wp2
      exact hK
    case done2 =>
      rintro D2 ys V hD rfl hB hK
      have OE := hid (O12.out.new hB (Side.obj D2 (.deferred (some []))) hK (fun j hj => by rw [show j = D2 from hj]; exact hD))
      have HDD : Hid (D ≠ D2) := hid (fun e => by have h1 := blk_lt O12.out.side.2; omega)
      have HD2 : Hid (w.heap.size ≤ D2) := hid (Nat.le_trans O12.out.bel.size hD)
      clear O12 CB2 hB hK hD HBX HRL
      go_wp2_with fail
      refine (Size_nil _).mono ?_
      rintro e v1 ⟨rfl, rfl⟩
      go_wp2_with fail
      refine (Len_nil _).mono ?_
      rintro e v2 ⟨rfl, rfl⟩
      go_wp2_with fail
      refine (Has_nil _ _).mono ?_
      rintro e v3 ⟨rfl, rfl⟩
      go_wp2_with fail
      refine (Push_nil _ _).mono ?_
      rintro e v4 ⟨rfl, rfl⟩
      go_wp2_with fail
      refine (Raise_nil _ _ _).mono ?_
      rintro e v5 ⟨rfl, rfl⟩
      go_wp2_with fail
      refine (Weight_nil _ _).mono ?_
      rintro e v6 ⟨rfl, rfl⟩
      go_wp2_with fail
      have hkz : ∀ i : Int, knownM zS i = false := fun i => by simp [knownM]
      refine (OE.out.quiet (Q := fun e => e = .returned (.int .i64 2)) (fun F hF => Push_unknown _ z zS F a0 hF (hkz a0))).mono ?_
      rintro e v7 ⟨rfl, o7⟩
      have O7 := hid o7
      clear o7 OE
      go_wp2_with fail
      refine (O7.out.quiet (Q := fun e => e = .returned (.int .i64 2)) (fun F hF => Raise_arg _ z zS F a0 a1 hF (.inl (hkz a0)))).mono ?_
      rintro e v8 ⟨rfl, o8⟩
      have O8 := hid o8
      clear o8 O7 hkz
      go_wp2_with fail
      refine (tLen_nil _).mono ?_
      rintro e v9 ⟨rfl, rfl⟩
      go_wp2_with fail
      refine (tLevel_nil _).mono ?_
      rintro e v10 ⟨rfl, rfl⟩
      go_wp2_with fail
      refine (tMark_nil _).mono ?_
      rintro e v11 ⟨rfl, rfl⟩
      go_wp2_with fail
      refine (tBack_nil _ _).mono ?_
      rintro e v12 ⟨rfl, rfl⟩
      go_wp2_with fail
      refine (known_calls0 _).mono ?_
      rintro e v13 ⟨rfl, b13⟩
      have O13 := hid (O8.out.below b13)
      clear b13 O8
      have hcr := (blk_cell O13.out.side.1.1 0).trans rfl
      have hfr := blk_frozen O13.out.side.1.1 0
      go_wp2_with fail
      have hk4 := setCell_keep v13 rb 0 (.bool true)
      have hK2 := hk4.blk O13.out.side.2 (fun e => by
        have h1 := O13.out.side.2
        rw [show D2 = rb from e] at h1
        have h2 := O13.out.side.1.1.symm.trans h1
        cases h2)
      have hK1 := hk4.blk O13.out.side.1.2 (fun e => by
        have h1 := O13.out.side.1.2
        rw [show D = rb from e] at h1
        have h2 := O13.out.side.1.1.symm.trans h1
        cases h2)
      have hK1' := (World.putObj_heap_other (o := .deferred none) HDD.out).trans hK1
      have hrb2 : rb ≠ D2 := fun e => by
        have h1 := O13.out.side.2
        rw [← e] at h1
        have h2 := O13.out.side.1.1.symm.trans h1
        cases h2
      have hrb1 : rb ≠ D := fun e => by
        have h1 := O13.out.side.1.2
        rw [← e] at h1
        have h2 := O13.out.side.1.1.symm.trans h1
        cases h2
      have hc6 : (((v13.setCell ⟨rb, 0, none⟩ (.bool true)).putObj D2 (.deferred none)).putObj D (.deferred none)).cell? ⟨rb, 0, none⟩ = some (.bool true) := by
        have h1 := blk_set O13.out.side.1.1 0 (.bool true)
        have h2 := (World.putObj_heap_other (o := .deferred none) hrb1).trans ((World.putObj_heap_other (o := .deferred none) hrb2).trans h1)
        exact (blk_cell h2 0).trans rfl
      refine ⟨by simp, .inl ⟨_, _, rfl, run_takeDeferred hK2, by simp, .inl ⟨_, _, rfl, run_takeDeferred hK1', ?_⟩⟩⟩
      refine ⟨.bool true, ?_, rfl, ?_⟩
      · simp [results, Try.f8, go_sem, hc6]
      · have h1 : Below w.heap.size w (v13.setCell ⟨rb, 0, none⟩ (.bool true)) := O13.out.bel.setCell (p := ⟨rb, 0, none⟩) HRB.out _
        exact (h1.trans (belowK_b (w := w) (Nat.le_refl _) _ D2 _ _ HD2.out hK2 rfl rfl)).trans (belowK_b (w := w) (Nat.le_refl _) _ D _ _ HD1.out hK1' rfl rfl)
def juristlaw02_HeapNone.f (_a0 _a1 : Int) (_a2 : ByteArray) : Option Bool := some true
theorem juristlaw02_HeapNone.calls (a0 a1 : Int) (a2 : ByteArray) (r : Bool) (w : World) (h : juristlaw02_HeapNone.f a0 a1 a2 = some r) :
    Calls Try.prog 8 #[.int .i64 a0, .int .i64 a1, .string a2] w fun e w' => e = .returned (.bool r) ∧ Below w.heap.size w w' := by
  cases h
  exact none_walk w a0 a1 a2
end Go.Proofs.Ytegcfaohhcjajaa.Hk
