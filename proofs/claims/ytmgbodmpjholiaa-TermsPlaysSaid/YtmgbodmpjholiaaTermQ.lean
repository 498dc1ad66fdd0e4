/- The program's store: a copy of it (its nodes' arguments are shared), and a call of the old one behind that (printed by wip/tools/termq.py). -/
import Derived.Test.YtmgbodmpjholiaaTermE
import Derived.Test.YtmgbodmpjholiaaShelfQ
namespace Go.Proofs.Ytmgbodmpjholiaa.TM
open Go.RowKit Go.Maps Go.Shelf Go.Lib Go.Proofs.YtmgbodmpjholiaaW.PrintWords Go.Proofs.YtmgbodmpjholiaaW.PrintLast Go.Proofs.YtmgbodmpjholiaaW.PrintMore Go.Proofs.Ytmgbodmpjholiaa.MM Go.Proofs.Ytmgbodmpjholiaa.KM
attribute [local go_sem ↓] Go.wp_at_zero Go.wp_at_succ
set_option linter.unusedSimpArgs false
set_option linter.unusedVariables false

theorem flat_one : ∀ (l : List NodeM) (vs : List Value), (∀ x ∈ vs, x.oneCell' = true) → ∀ u ∈ flat l vs, u.oneCell' = true
  | [], _, _, u, hu => by simp [flat] at hu
  | n :: l, [], _, u, hu => by simp [flat] at hu
  | n :: l, x :: vs, h, u, hu => by
    simp only [flat, List.mem_append] at hu
    rcases hu with hu | hu
    · have hx := h x (by simp)
      simp only [List.mem_cons, List.not_mem_nil, or_false] at hu
      rcases hu with rfl | rfl | rfl | rfl | rfl
      · simp [Value.oneCell']
      · simp [Value.oneCell']
      · simp [Value.oneCell']
      · simp [Value.oneCell']
      · exact hx
    · exact flat_one l vs (fun y hy => h y (by simp [hy])) u hu
theorem Nodes.lenb {w : World} {v : Value} {l : List NodeM} {A : Nat → Prop} (h : Nodes w v l A) : ∃ vs, vs.length = l.length ∧ w.ownsRow 0 54 5 v l.length (flat l vs) ∧ (∀ u ∈ flat l vs, u.oneCell' = true) ∧ ∀ (i : Nat) (n : NodeM) (x : Value), l[i]? = some n → vs[i]? = some x → Row w 26 x (lits n.args) ∧ ∀ g, x.ownBlock = some g → A g := by
  obtain ⟨vs, h1, h2, h3⟩ := h.own
  refine ⟨vs, h1, h2, flat_one l vs fun x hx => ?_, h3⟩
  obtain ⟨i, hi⟩ := List.getElem?_of_mem hx
  have hil : i < l.length := by have := (List.getElem?_eq_some_iff.1 hi).1; omega
  obtain ⟨hr, _⟩ := h3 i _ x (List.getElem?_eq_getElem hil) hi
  obtain ⟨a, c, rfl, _⟩ := hr.shape
  simp [Value.oneCell']
theorem wp_app_nds (w : World) {ops : Array Oper} {rest : List Oper} {o : Oper} {a : Act} {Q : Exit → Act → World → Prop} (hgd : o.guard = none) (s x : Operand)
    (ho : o.op = .call { callee := .builtin .append, args := #[s, x], argTypes := #[46, 46] })
    (v : Value) (n : Nat) (xs : List Value) (p : Addr) (m c : Nat) (news : List Value) (hs : a.eval s = v) (hx : a.eval x = .slice (some p) m c) (hown : w.ownsRow 0 54 5 v n xs) (hl : news.length = m * 5) (hnews : ∀ j u, news[j]? = some u → w.cell? (p.add j) = some u) (h1 : ∀ u ∈ news, u.oneCell' = true) (hn : n + m ≤ 40000)
    (hK : ∀ v' w', w'.ownsRow 0 54 5 v' (n + m) (xs ++ news) → w.grownBy w' v.ownBlock → (∀ g, v'.ownBlock = some g → v.ownBlock = some g ∨ w.heap.size ≤ g) → wpList Try.prog ops Q rest (a.put o.dst v') w') :
    wpList Try.prog ops Q (o :: rest) a w := by
  refine wpList_plain hgd fun K hKK => ?_
  obtain ⟨v', w', hr, h2, h3, h4⟩ := app_nodes o.type v n xs hown p m c news hl hnews h1 hn
  unfold Oper.wp execOp
  simp only [ho, resolve, invoke, builtin, Sem.run_bind, Sem.run_pure, Result.andThen_ok, List.map_toArray, List.map_cons, List.map_nil, hs, hx, hr]
  exact hKK _ _ (hK v' w' h2 h3 h4)
set_option maxHeartbeats 1600000 in
theorem nodes_clone (w : World) (v : Value) (l : List NodeM) (A : Nat → Prop) (h : Nodes w v l A) (hn : l.length ≤ 20000) :
    Calls Try.prog 44 #[v] w fun e w' => ∃ v', e = .returned v' ∧ Nodes w' v' l A ∧ (∀ g, v'.ownBlock = some g → w.heap.size ≤ g) ∧ Below w.heap.size w w' := by
  have q22 : ∀ (w : World) (a : Option Addr) (n c n' c' : Nat), (binOp .eql 46 (.slice a n c) (.slice none n' c')).run Try.prog w = .ok (.bool a.isNone) w := fun w a n c n' c' => Lib.run_eql_slice_nil w _ _ a n c n' c' Try.underlying46
  have HN := hid h
  obtain ⟨vs, h1, h2, h3, h4⟩ := h.lenb
  obtain ⟨N, hN⟩ : ∃ N, N = l.length := ⟨_, rfl⟩
  have H1 := hid h1
  have H3 := hid h3
  have H4 := hid h4
  rw [← hN] at h2 hn
  have HL := hid hN
  rcases id h2.2 with ⟨rfl, h0⟩ | ⟨g, cap, cur, rfl, hrest⟩
  · clear h h1 h3 h4 hN
    have H2 := hid h2
    clear h2
    go_enter Try.func44, Try.ntmps44
    go_wp2
    go_ret
    exact ⟨_, rfl, HN.out, (fun g hg => by cases hg), Below.refl _ _⟩
  · have hcs := h2.cells (g := g) rfl
    have HCS := hid hcs
    have H2 := hid h2
    have HLT := hid (h2.lt g rfl).2
    clear h h1 h3 h4 hN h2 hrest hcs
    go_enter Try.func44, Try.ntmps44
    go_wp2_with (at_builtin; go_loud (refine wp_app_nds _ rfl _ _ rfl (.slice (some ⟨w.heap.size, 0, none⟩) 0 0) 0 [] ⟨g, 0, none⟩ N cap (flat l vs) (by rfl) (by rfl) ⟨rfl, .inr ⟨w.heap.size, 0, #[], rfl, Nat.zero_le _, heap_alloc_new w _, Nat.le_refl _, by simp [maxLen], by simp, by simp⟩⟩ H2.out.1 (fun j u hj => by
      have h9 := HCS.out j u hj
      rw [Addr.add_lit] at h9 ⊢
      exact (World.cell?_of_block (old_alloc _ HLT.out)).trans h9) H3.out (by omega) ?_; intro v' w' ho hg hat; rw [Nat.zero_add, List.nil_append] at ho; obtain ⟨a9, c9, rfl⟩ := own_shape ho; have HO := hid ho; have HG := hid hg; have HAT := hid hat; clear ho hg hat))
    go_ret
    have hk : Keep (fun j => j = w.heap.size) w w' := ⟨HG.out.os, HG.out.tape, HG.out.output, by have := HG.out.size; simp at this; omega, fun k hk hn => (HG.out.block k (by simp; omega) (fun e => hn (Option.some.inj e))).trans (old_alloc _ hk)⟩
    have hb : Below w.heap.size w w' := hk.below (fun j hj => Nat.le_of_eq hj.symm) (Nat.le_refl _)
    have hfr : ∀ g', (Value.slice a9 N c9).ownBlock = some g' → w.heap.size ≤ g' := fun g' hg' => by
      rcases HAT.out g' hg' with e | e
      · exact Nat.le_of_eq (Option.some.inj e)
      · simp at e
        omega
    refine ⟨_, rfl, ⟨⟨vs, H1.out, by rw [← HL.out]; exact HO.out, fun i n x hi hx => ⟨(H4.out i n x hi hx).1.keep (Keep.ofBelow (F := fun _ => False) hb) (fun _ _ h => h), (H4.out i n x hi hx).2⟩⟩, fun g' hg' hA => ?_, fun g' hA => Nat.lt_of_lt_of_le (HN.out.old g' hA) hb.size⟩, hfr, hb⟩
    have h5 := hfr g' hg'
    have h6 := HN.out.old g' hA
    omega
theorem KMap.clone {P : Program} {K : TypeId} {α : Type} {val : α → Value} {w : World} {b n : Nat} {g : α → Option Value} {es : Array MapEntry} {cl : Nat} (h : KMap P K val w b n g) (hb : w.heap[b]? = some (.map es cl)) : KMap P K val (w.alloc (.map es cl)) w.heap.size n g := by
  obtain ⟨D, ⟨es', cl', h1, h2⟩, h3⟩ := h
  rw [hb] at h1
  cases h1
  exact ⟨D, ⟨es, cl, (MapKept.heap_alloc w _).1, h2⟩, h3⟩
theorem clone_key (w : World) (b n : Nat) (g : KeyM → Option Value) (h : KMap Try.prog 79 keyV w b n g) :
    Calls Try.prog 45 #[.map (some b)] w fun e w' => e = .returned (.map (some w.heap.size)) ∧ (KMap Try.prog 79 keyV w' w.heap.size n g) ∧ Below w.heap.size w w' := by
  obtain ⟨es, cl, hb⟩ := h.obj
  refine (AnyW.maps_Clone (ρ := layCloneK_ren) layCloneK b es cl w hb).mono fun e w' ⟨he, hw⟩ => ⟨he, by rw [hw]; exact KMap.clone h hb, by rw [hw]; exact (Below.refl _ _).alloc (Nat.le_refl _) _⟩
theorem clone_cell (w : World) (b n : Nat) (g : Nat × Int → Option Value) (h : KMap Try.prog 82 cellV w b n g) :
    Calls Try.prog 46 #[.map (some b)] w fun e w' => e = .returned (.map (some w.heap.size)) ∧ (KMap Try.prog 82 cellV w' w.heap.size n g) ∧ Below w.heap.size w w' := by
  obtain ⟨es, cl, hb⟩ := h.obj
  refine (AnyW.maps_Clone (ρ := layCloneC_ren) layCloneC b es cl w hb).mono fun e w' ⟨he, hw⟩ => ⟨he, by rw [hw]; exact KMap.clone h hb, by rw [hw]; exact (Below.refl _ _).alloc (Nat.le_refl _) _⟩
/-- A copy beside the store: their nodes' arguments are the same rows. -/
structure Copied (w : World) (t : Nat) (l : List NodeM) (q : Nat) (A : Nat → Prop) (v : Value) (b1 b2 : Nat) (L : CL) (g1 : KeyM → Option Nat) (g2 : Nat × Int → Option Nat) (t' b1' b2' : Nat) (v' : Value) (w' : World) : Prop where
  so : StO w' t' l q A v' b1' b2' L g1 g2
  fresh : w.heap.size ≤ t' ∧ w.heap.size ≤ b1' ∧ w.heap.size ≤ b2' ∧ ∀ g, v'.ownBlock = some g → w.heap.size ≤ g
  bel : Below w.heap.size w w'
set_option maxRecDepth 100000 in
set_option maxHeartbeats 1600000 in
theorem Copy_calls (w : World) (t : Nat) (l : List NodeM) (q : Nat) (A : Nat → Prop) (v : Value) (b1 b2 : Nat) (L : CL) (g1 : KeyM → Option Nat) (g2 : Nat × Int → Option Nat) (h : StO w t l q A v b1 b2 L g1 g2) :
    Calls Try.prog 22 #[ptr t] w fun e w' => ∃ t' b1' b2' v', e = .returned (ptr t') ∧ Copied w t l q A v b1 b2 L g1 g2 t' b1' b2' v' w' := by
  have H := hid h
  have HNONE := hid (none_walk w t b1 h.at.c1)
  have HLEN := hid h.wf.high
  have HS := hid (fun (W : World) (hW : Below w.heap.size w W) => (⟨(hW.cell (p := ⟨t, 0, none⟩) h.at.lt).trans ((blk_cell h.blk 0).trans rfl), (hW.cell (p := ⟨t, 1, none⟩) h.at.lt).trans ((blk_cell h.blk 1).trans rfl), (hW.cell (p := ⟨t, 2, none⟩) h.at.lt).trans ((blk_cell h.blk 2).trans rfl), trivial⟩ : W.cell? ⟨t, 0, none⟩ = some v ∧ W.cell? ⟨t, 1, none⟩ = some (.map (some b1)) ∧ W.cell? ⟨t, 2, none⟩ = some (.map (some b2)) ∧ True))
  clear h
  go_enter Try.func22, Try.ntmps22
  go_wp2_with fail
  refine HNONE.out.mono ?_
  rintro e w9 ⟨rfl, hw⟩
  obtain rfl := hw
  clear HNONE
  go_wp2_with fail
  have hbd : Below w9.heap.size w9 w9.drew := ⟨rfl, rfl, rfl, Nat.le_refl _, fun _ _ => rfl⟩
  refine wp_region_noPanic ?_
  refine start_ (n := 18) (S := (fun w' => w'.cell? ⟨t, 0, none⟩ = some v ∧ w'.cell? ⟨t, 1, none⟩ = some (.map (some b1)) ∧ w'.cell? ⟨t, 2, none⟩ = some (.map (some b2)) ∧ True)) (ds := []) #[false, false, false, false, false, false, false, false, false, false, false, false, false, false, false, false, false, false] (by kernel_rfl) rfl rfl (HS.out _ hbd) (fun hHeld => ?_)
  refine take_ (i := 0) (N := some 5) (v := ?_) (a' := ?_) #[true, false, false, false, false, false, false, false, false, false, false, false, false, false, false, false, false, false] rfl rfl (by kernel_rfl) (fun _ _ _ h => h) (Or.inl ⟨by rfl, ?_⟩) hHeld ?_ ?_   -- move (%0)
  rotate_left
  · rintro w' ⟨s0, s1, s2, s3⟩
    go_simp
    with_reducible rfl
  rotate_left
  · simp only [Act.put, List.setIfInBounds_toArray, List.set_cons_zero, List.set_cons_succ]
    rfl
  refine take_ (i := 1) (N := some 6) (v := ?_) (a' := ?_) #[true, true, false, false, false, false, false, false, false, false, false, false, false, false, false, false, false, false] rfl rfl (by kernel_rfl) (fun _ _ _ h => h) (Or.inl ⟨by rfl, ?_⟩) hHeld ?_ ?_   -- nilCheck (%5)
  rotate_left
  · rintro w' ⟨s0, s1, s2, s3⟩
    go_simp
    with_reducible rfl
  rotate_left
  · simp only [Act.put, List.setIfInBounds_toArray, List.set_cons_zero, List.set_cons_succ]
    rfl
  refine take_ (i := 2) (N := some 7) (v := ?_) (a' := ?_) #[true, true, true, false, false, false, false, false, false, false, false, false, false, false, false, false, false, false] rfl rfl (by kernel_rfl) (fun _ _ _ h => h) (Or.inl ⟨by rfl, ?_⟩) hHeld ?_ ?_   -- fieldAddr 63 (%6) 0
  rotate_left
  · rintro w' ⟨s0, s1, s2, s3⟩
    go_simp
    with_reducible rfl
  rotate_left
  · simp only [Act.put, List.setIfInBounds_toArray, List.set_cons_zero, List.set_cons_succ]
    rfl
  refine take_ (i := 3) (N := some 8) (v := ?_) (a' := ?_) #[true, true, true, true, false, false, false, false, false, false, false, false, false, false, false, false, false, false] rfl rfl (by kernel_rfl) (fun _ _ _ h => h) (Or.inl ⟨by rfl, ?_⟩) hHeld ?_ ?_   -- load 46 (%7)
  rotate_left
  · rintro w' ⟨s0, s1, s2, s3⟩
    go_simp
    with_reducible rfl
  rotate_left
  · simp only [Act.put, List.setIfInBounds_toArray, List.set_cons_zero, List.set_cons_succ]
    rfl
  refine take_ (i := 5) (N := some 10) (v := ?_) (a' := ?_) #[true, true, true, true, false, true, false, false, false, false, false, false, false, false, false, false, false, false] rfl rfl (by kernel_rfl) (fun _ _ _ h => h) (Or.inl ⟨by rfl, ?_⟩) hHeld ?_ ?_   -- move (%0)
  rotate_left
  · rintro w' ⟨s0, s1, s2, s3⟩
    go_simp
    with_reducible rfl
  rotate_left
  · simp only [Act.put, List.setIfInBounds_toArray, List.set_cons_zero, List.set_cons_succ]
    rfl
  refine take_ (i := 6) (N := some 11) (v := ?_) (a' := ?_) #[true, true, true, true, false, true, true, false, false, false, false, false, false, false, false, false, false, false] rfl rfl (by kernel_rfl) (fun _ _ _ h => h) (Or.inl ⟨by rfl, ?_⟩) hHeld ?_ ?_   -- nilCheck (%10)
  rotate_left
  · rintro w' ⟨s0, s1, s2, s3⟩
    go_simp
    with_reducible rfl
  rotate_left
  · simp only [Act.put, List.setIfInBounds_toArray, List.set_cons_zero, List.set_cons_succ]
    rfl
  refine take_ (i := 7) (N := some 12) (v := ?_) (a' := ?_) #[true, true, true, true, false, true, true, true, false, false, false, false, false, false, false, false, false, false] rfl rfl (by kernel_rfl) (fun _ _ _ h => h) (Or.inl ⟨by rfl, ?_⟩) hHeld ?_ ?_   -- fieldAddr 63 (%11) 1
  rotate_left
  · rintro w' ⟨s0, s1, s2, s3⟩
    go_simp
    with_reducible rfl
  rotate_left
  · simp only [Act.put, List.setIfInBounds_toArray, List.set_cons_zero, List.set_cons_succ]
    rfl
  refine take_ (i := 8) (N := some 13) (v := ?_) (a' := ?_) #[true, true, true, true, false, true, true, true, true, false, false, false, false, false, false, false, false, false] rfl rfl (by kernel_rfl) (fun _ _ _ h => h) (Or.inl ⟨by rfl, ?_⟩) hHeld ?_ ?_   -- load 60 (%12)
  rotate_left
  · rintro w' ⟨s0, s1, s2, s3⟩
    go_simp
    with_reducible rfl
  rotate_left
  · simp only [Act.put, List.setIfInBounds_toArray, List.set_cons_zero, List.set_cons_succ]
    rfl
  refine take_ (i := 10) (N := some 15) (v := ?_) (a' := ?_) #[true, true, true, true, false, true, true, true, true, false, true, false, false, false, false, false, false, false] rfl rfl (by kernel_rfl) (fun _ _ _ h => h) (Or.inl ⟨by rfl, ?_⟩) hHeld ?_ ?_   -- move (%0)
  rotate_left
  · rintro w' ⟨s0, s1, s2, s3⟩
    go_simp
    with_reducible rfl
  rotate_left
  · simp only [Act.put, List.setIfInBounds_toArray, List.set_cons_zero, List.set_cons_succ]
    rfl
  refine take_ (i := 11) (N := some 16) (v := ?_) (a' := ?_) #[true, true, true, true, false, true, true, true, true, false, true, true, false, false, false, false, false, false] rfl rfl (by kernel_rfl) (fun _ _ _ h => h) (Or.inl ⟨by rfl, ?_⟩) hHeld ?_ ?_   -- nilCheck (%15)
  rotate_left
  · rintro w' ⟨s0, s1, s2, s3⟩
    go_simp
    with_reducible rfl
  rotate_left
  · simp only [Act.put, List.setIfInBounds_toArray, List.set_cons_zero, List.set_cons_succ]
    rfl
  refine take_ (i := 12) (N := some 17) (v := ?_) (a' := ?_) #[true, true, true, true, false, true, true, true, true, false, true, true, true, false, false, false, false, false] rfl rfl (by kernel_rfl) (fun _ _ _ h => h) (Or.inl ⟨by rfl, ?_⟩) hHeld ?_ ?_   -- fieldAddr 63 (%16) 2
  rotate_left
  · rintro w' ⟨s0, s1, s2, s3⟩
    go_simp
    with_reducible rfl
  rotate_left
  · simp only [Act.put, List.setIfInBounds_toArray, List.set_cons_zero, List.set_cons_succ]
    rfl
  refine take_ (i := 13) (N := some 18) (v := ?_) (a' := ?_) #[true, true, true, true, false, true, true, true, true, false, true, true, true, true, false, false, false, false] rfl rfl (by kernel_rfl) (fun _ _ _ h => h) (Or.inl ⟨by rfl, ?_⟩) hHeld ?_ ?_   -- load 61 (%17)
  rotate_left
  · rintro w' ⟨s0, s1, s2, s3⟩
    go_simp
    with_reducible rfl
  rotate_left
  · simp only [Act.put, List.setIfInBounds_toArray, List.set_cons_zero, List.set_cons_succ]
    rfl
  refine one_ (i := 4) (N := some 9) #[true, true, true, true, true, true, true, true, true, false, true, true, true, true, false, false, false, false] rfl rfl (by kernel_rfl) (by decide) (fun K hK => ?_)
  refine call_ 44 #[v] (by rfl) rfl (by go_simp; first | done | rfl) ?_
  refine (nodes_clone _ v l A (H.out.nodes.below hbd) HLEN.out).mono ?_
  rintro e w1 ⟨v1, rfl, hn1, hf1, hb1⟩
  obtain ⟨a1, d1, rfl⟩ := hn1.shape
  have hb1' := TM.bel hbd hb1
  refine ⟨_, rfl, ?_⟩
  refine hK.out _ _ (HS.out _ hb1') (fun hHeld => ?_)
  refine norm_ (a' := ?_) ?_ ?_
  rotate_left
  · simp only [Act.put, List.setIfInBounds_toArray, List.set_cons_zero, List.set_cons_succ]
    rfl
  refine one_ (i := 9) (N := some 14) #[true, true, true, true, true, true, true, true, true, true, true, true, true, true, false, false, false, false] rfl rfl (by kernel_rfl) (by decide) (fun K hK => ?_)
  refine call_ 45 #[.map (some b1)] (by rfl) rfl (by go_simp; first | done | rfl) ?_
  refine (clone_key w1 b1 _ _ (H.out.m1.move (hb1'.block _ H.out.m1.lt))).mono ?_
  rintro e w2 ⟨rfl, hm1, hb2⟩
  have hb2' := TM.bel hb1' hb2
  refine ⟨_, rfl, ?_⟩
  refine hK.out _ _ (HS.out _ hb2') (fun hHeld => ?_)
  refine norm_ (a' := ?_) ?_ ?_
  rotate_left
  · simp only [Act.put, List.setIfInBounds_toArray, List.set_cons_zero, List.set_cons_succ]
    rfl
  refine one_ (i := 14) (N := some 19) #[true, true, true, true, true, true, true, true, true, true, true, true, true, true, true, false, false, false] rfl rfl (by kernel_rfl) (by decide) (fun K hK => ?_)
  refine call_ 46 #[.map (some b2)] (by rfl) rfl (by go_simp; first | done | rfl) ?_
  refine (clone_cell w2 b2 _ _ (H.out.m2.move (hb2'.block _ H.out.m2.lt))).mono ?_
  rintro e w3 ⟨rfl, hm2, hb3⟩
  have hb3' := TM.bel hb2' hb3
  refine ⟨_, rfl, ?_⟩
  refine hK.out _ _ (HS.out _ hb3') (fun hHeld => ?_)
  refine norm_ (a' := ?_) ?_ ?_
  rotate_left
  · simp only [Act.put, List.setIfInBounds_toArray, List.set_cons_zero, List.set_cons_succ]
    rfl
  refine pure_ (i := 15) (N := some 20) (v := ?_) (a' := ?_) #[true, true, true, true, true, true, true, true, true, true, true, true, true, true, true, true, false, false] rfl rfl (by kernel_rfl) (fun _ _ _ h => h) (Or.inl ⟨by rfl, ?_⟩) ?_ ?_   -- build 63 #[(0, %9), (1, %14), (2, %19)]
  rotate_left
  · intro w'
    go_simp
    with_reducible rfl
  rotate_left
  · simp only [Act.put, List.setIfInBounds_toArray, List.set_cons_zero, List.set_cons_succ]
    rfl
  refine one_ (i := 16) (N := some 21) #[true, true, true, true, true, true, true, true, true, true, true, true, true, true, true, true, true, false] rfl rfl (by kernel_rfl) (by decide) (fun K hK => ?_)
  refine value_ (by rfl) rfl (v := ptr w3.heap.size) (w1 := w3.alloc (.cells #[.slice a1 l.length d1, .map (some w1.heap.size), .map (some w2.heap.size)] 63)) (by go_simp; first | done | rfl) ?_
  have hb4' : Below w9.heap.size w9 (w3.alloc (.cells #[.slice a1 l.length d1, .map (some w1.heap.size), .map (some w2.heap.size)] 63)) := hb3'.alloc hb3'.size _
  refine hK.out _ _ (HS.out _ hb4') (fun hHeld => ?_)
  refine norm_ (a' := ?_) ?_ ?_
  rotate_left
  · simp only [Act.put, List.setIfInBounds_toArray, List.set_cons_zero, List.set_cons_succ]
    rfl
  refine take_ (i := 17) (N := some 2) (v := ?_) (a' := ?_) #[true, true, true, true, true, true, true, true, true, true, true, true, true, true, true, true, true, true] rfl rfl (by kernel_rfl) (fun _ _ _ h => h) (Or.inl ⟨by rfl, ?_⟩) hHeld ?_ ?_   -- assign (%21)
  rotate_left
  · rintro w' ⟨s0, s1, s2, s3⟩
    go_simp
    with_reducible rfl
  rotate_left
  · simp only [Act.put, List.setIfInBounds_toArray, List.set_cons_zero, List.set_cons_succ]
    rfl
  refine done_ (by kernel_rfl) ?_
  try simp only [NoPanic, Exit.then]
  go_wp2_with fail
  go_ret
  have s1 := hb1.size
  have s2 := hb2.size
  have s3 := hb3.size
  have hdr : w9.drew.heap.size = w9.heap.size := rfl
  have hN4 := (hn1.below hb2).below hb3
  have c1 := H.out.m1.lt
  have c2 := H.out.m2.lt
  have hm1' : KMap Try.prog 79 keyV w3 w1.heap.size l.length _ := hm1.move (hb3.block _ hm1.lt)
  refine ⟨w3.heap.size, w1.heap.size, w2.heap.size, .slice a1 l.length d1, rfl, ⟨heap_alloc_new w3 _, hN4.below ((Below.refl _ _).alloc (Nat.le_refl _) _), hm1'.move (old_alloc _ hm1'.lt), hm2.move (old_alloc _ hm2.lt), H.out.maps, ?_, ?_, ?_, H.out.wf, H.out.lq⟩, ?_, hb4'⟩
  · have h1 := hm1.lt
    have h2 := hm2.lt
    refine ⟨?_, ?_, ?_⟩ <;> omega
  · have hA : ∀ g, A g → g < w9.heap.size := H.out.nodes.old
    refine ⟨fun e => ?_, fun e => ?_, fun e => ?_⟩ <;> (have := hA _ e; omega)
  · intro g hg
    have h1 := hn1.lt g hg
    refine ⟨?_, ?_, ?_⟩ <;> omega
  · refine ⟨by omega, by omega, by omega, fun g hg => ?_⟩
    have := hf1 g hg
    omega
set_option maxRecDepth 100000 in
set_option maxHeartbeats 1600000 in
/-- A function of no arguments, made in a store: all but its own nodes' row and its maps stays. -/
theorem App_old (w : World) (t : Nat) (l : List NodeM) (q : Nat) (F G : Nat → Prop) (A : Nat → Prop) (v : Value) (b1 b2 : Nat) (L : CL) (g1 : KeyM → Option Nat) (g2 : Nat × Int → Option Nat) (h1 : StO w t l q A v b1 b2 L g1 g2) (hf : (F t ∧ F b1 ∧ F b2) ∧ (∀ g, v.ownBlock = some g → F g) ∧ (∀ g, A g → F g) ∧ ∀ g, F g → g < w.heap.size) (hg : (G t ∧ G b1 ∧ G b2) ∧ ∀ g, v.ownBlock = some g → G g) (hq : q < 1000000000) :
    Calls Try.prog 11 #[ptr t, .int .i64 77, .int .i64 0, .slice none 0 0] w fun e w' => (∃ x y, e = .returned (.tuple #[.int .i64 x, .int .i64 y])) ∧ Keep G w w' := by
  have HNONE := hid (none_walk w t b1 h1.at.c1)
  have hst : St w t l q F := ⟨A, v, b1, b2, L, g1, g2, h1, hf⟩
  have HTH := hid (there_calls w t l q F (.slice none 0 0) [] hst (.nil _ _))
  have HPUT := hid (fun (W : World) (hW : Below w.heap.size w W) => put_callsG W t l q F G ⟨5, 77, 0, 0, []⟩ (.slice none 0 0) A v b1 b2 L g1 g2 (h1.keep (Keep.ofBelow (F := fun _ => False) hW) ⟨fun h => h, fun h => h, fun h => h⟩ (fun _ _ h => h) (fun _ _ h => h)) ⟨hf.1, hf.2.1, hf.2.2.1, fun g hg => Nat.lt_of_lt_of_le (hf.2.2.2 g hg) hW.size⟩ hg (.nil _ _) (wfN_of hst.wf (show thereM l [] = true from rfl) (by simp) (by omega) ⟨by omega, by omega⟩ ⟨by omega, by omega⟩ ⟨by omega, by omega⟩) (by simpa using hq))
  clear h1 hf hg hst
  go_enter Try.func11, Try.ntmps11
  go_wp2_with fail
  refine HNONE.out.mono ?_
  rintro e w1 ⟨rfl, hw⟩
  obtain rfl := hw
  go_wp2_with fail
  refine HTH.out.mono ?_
  rintro e w2 ⟨rfl, hb⟩
  have HB := hid hb
  have HP := hid (HPUT.out w2 hb)
  rw [show thereE l [] = 0 from rfl]
  clear hb HPUT HTH HNONE
  go_wp2_with fail
  refine HP.out.mono ?_
  rintro e w9 ⟨rfl, F', y1, y2, y3⟩
  have HK := hid ((Keep.ofBelow (F := G) HB.out).trans y2 (fun _ h => h) (fun _ h => .inl h))
  generalize (putM l ⟨5, 77, 0, 0, []⟩).1 = r1
  generalize (putM l ⟨5, 77, 0, 0, []⟩).2.1 = r2
  clear y1 y2 y3 HP
  go_wp2_with fail
  go_ret2
  exact ⟨⟨_, _, rfl⟩, HK.out⟩
end Go.Proofs.Ytmgbodmpjholiaa.TM
