/- Walk of a store's Add (printed by wip/tools/clf.py). -/
import Derived.Test.YtiajmgmidfinfaaClF
import Derived.StillTailTactics
namespace Go.Proofs.Ytiajmgmidfinfaa.SM
open Go.Lib hiding hid
open Go.RowKit Go.Maps Go.Shelf Go.Proofs.YtiajmgmidfinfaaW.PrintWords Go.Proofs.YtiajmgmidfinfaaW.PrintLast Go.Proofs.YtiajmgmidfinfaaW.PrintMore Go.Proofs.Ytiajmgmidfinfaa.MM Go.Proofs.Ytiajmgmidfinfaa.KM Go.Proofs.Ytiajmgmidfinfaa.SP Go.Proofs.Ytiajmgmidfinfaa.TW Go.Proofs.Ytiajmgmidfinfaa.LF
set_option linter.unusedSimpArgs false
set_option linter.unusedVariables false

/-- What stays through a call of Add. -/
structure AddC (w : World) (s b : Nat) (v : Value) (fs : List (List Int)) (A F : Nat → Prop) (x : Value) (f : List Int) : Prop where
  fp : F s ∧ F b
  fv : ∀ g, v.ownBlock = some g → F g
  fA : ∀ g, A g → F g
  flt : ∀ g, F g → g < w.heap.size
  ne : s ≠ b
  nA : ¬ A s ∧ ¬ A b
  nv : ∀ g, v.ownBlock = some g → g ≠ s ∧ g ≠ b
  xf : ∀ g, x.ownBlock = some g → w.heap.size ≤ g
  len : fs.length < 1000
  inb : ∀ f ∈ fs, (∀ x ∈ f, InB x) ∧ f.Pairwise litLt ∧ f.length ≤ 1000
  inf : (∀ x ∈ f, InB x) ∧ f.Pairwise litLt ∧ f.length ≤ 1000
structure AddAt (w : World) (s b : Nat) (v : Value) (fs : List (List Int)) (A F : Nat → Prop) (G : ByteArray → Option Nat) (n : Nat) (top : Int) (x : Value) (f : List Int) (wr : World) : Prop where
  blk : wr.heap[s]? = some (.cells #[v, .map (some b), .int .i64 top] 41 (0, 0))
  forms : Forms wr v fs A
  map : KMap Try.prog 9 Value.string wr b n (fun k => (G k).map numV)
  keep : Keep F w wr
  row : Row wr 25 x (lits f)
variable {w wr W W2 : World} {s b n : Nat} {v x : Value} {fs : List (List Int)} {A F : Nat → Prop} {G : ByteArray → Option Nat} {top : Int} {f : List Int}
theorem AddAt.below (h : AddAt w s b v fs A F G n top x f wr) (hb : Below wr.heap.size wr W) : AddAt w s b v fs A F G n top x f W :=
  ⟨(hb.block _ (blk_lt h.blk)).trans h.blk, h.forms.below hb, h.map.move (hb.block _ h.map.lt), h.keep.trans (Keep.ofBelow (F := F) hb) (fun _ h => h) (fun _ h => .inl h), Row.bel h.row hb⟩
theorem AddAt.updated (h : AddAt w s b v fs A F (byM fs) n top x f wr) (c : AddC w s b v fs A F x f) (hm : KMap Try.prog 9 Value.string W2 b (n + 1) (KM.upd (fun k => (byM fs k).map numV) (keyF f) (numV (fs.length + 1)))) (hgr : wr.grownBy W2 (some b)) (hnone : byM fs (keyF f) = none) :
    AddAt w s b v fs A F (byM (fs ++ [f])) (n + 1) top x f W2 := by
  have hk2 : Keep (fun j => j = b) wr W2 := Keep.ofGrown hgr fun j hj => (Option.some.inj hj).symm
  refine ⟨hk2.blk h.blk c.ne, h.forms.keep hk2 (fun g hg => (c.nv g hg).2) (fun g hg e => c.nA.2 (e ▸ hg)), hm.congr fun k => ?_, h.keep.trans hk2 (fun _ h => h) (fun j hj => .inl (by rw [hj]; exact c.fp.2)), h.row.keep hk2 fun g hg e => ?_⟩
  · rw [byM_snoc_none hnone]
    unfold KM.upd
    by_cases e : k = keyF f
    · rw [if_pos e, if_pos e]
      simp
    · rw [if_neg e, if_neg e]
  · have h1 := c.xf g hg
    have h2 := c.flt b c.fp.2
    omega
theorem AddAt.known (h : AddAt w s b v fs A F (byM fs) n top x f wr) {i : Nat} (hs : byM fs (keyF f) = some i) : AddAt w s b v fs A F (byM (fs ++ [f])) n top x f wr := by
  have := byM_snoc_some hs
  rw [this]
  exact h
theorem AddAt.stored (h : AddAt w s b v fs A F G n top x f wr) (c : AddC w s b v fs A F x f) (t2 : Int) : AddAt w s b v fs A F G n t2 x f (wr.setCell ⟨s, 2, none⟩ (.int .i64 t2)) := by
  have ks := setCell_keep wr s 2 (.int .i64 t2)
  refine ⟨(blk_set h.blk 2 _).trans (by simp), h.forms.keep ks (fun g hg => (c.nv g hg).1) (fun g hg e => c.nA.1 (e ▸ hg)), h.map.move (ks.block _ h.map.lt (fun e => c.ne e.symm)), h.keep.trans ks (fun _ h => h) (fun j hj => .inl (by rw [hj]; exact c.fp.1)), h.row.keep ks fun g hg e => ?_⟩
  have h1 := c.xf g hg
  have h2 := c.flt s c.fp.1
  omega
theorem AddAt.pushed {v5 : Value} {vs : List Value} {w5 : World} (h : AddAt w s b v fs A F (byM (fs ++ [f])) n top x f wr) (c : AddC w s b v fs A F x f) (hn : n ≤ fs.length + 1) (ht : 0 ≤ top ∧ top ≤ 1048576) (h1 : vs.length = fs.length) (h0 : ∀ u ∈ vs, u.oneCell' = true)
    (hrows : ∀ (i : Nat) (f : List Int) (x : Value), fs[i]? = some f → vs[i]? = some x → Row wr 25 x (lits f) ∧ ∀ g, x.ownBlock = some g → A g)
    (hrow : Row w5 22 v5 (vs ++ [x])) (hk5 : Keep (fun k => v.ownBlock = some k) wr w5) (hat : ∀ g, v5.ownBlock = some g → v.ownBlock = some g ∨ wr.heap.size ≤ g) :
    LeftC w s (fs ++ [f]) top F (w5.setCell ⟨s, 0, none⟩ v5) := by
  have hvx : ∀ g, x.ownBlock = some g → v.ownBlock ≠ some g := fun g hg e => by
    have h1 := c.xf g hg
    have h2 := c.flt g (c.fv g e)
    omega
  have hN := h.forms.push hk5 h1 h0 hrows hrow hat h.row hvx
  have ks := setCell_keep w5 s 0 v5
  have hs5 : w5.heap[s]? = some (.cells #[v, .map (some b), .int .i64 top] 41 (0, 0)) := hk5.blk h.blk fun e => (c.nv s e).1 rfl
  have hz := h.keep.size
  have hsl := c.flt s c.fp.1
  have hbl := c.flt b c.fp.2
  have hv5 : ∀ g, v5.ownBlock = some g → g ≠ s ∧ g ≠ b := fun g hg => by
    rcases hat g hg with e | e
    · exact c.nv g e
    · exact ⟨by omega, by omega⟩
  have hA5 : ∀ g, (A g ∨ x.ownBlock = some g) → g ≠ s ∧ g ≠ b := fun g hg => by
    rcases hg with e | e
    · exact ⟨fun k => c.nA.1 (k ▸ e), fun k => c.nA.2 (k ▸ e)⟩
    · have := c.xf g e
      exact ⟨by omega, by omega⟩
  have hO : ClO (w5.setCell ⟨s, 0, none⟩ v5) s b v5 (fs ++ [f]) top (fun g => A g ∨ x.ownBlock = some g) := by
    refine ⟨(blk_set hs5 0 _).trans (by simp), hN.keep ks (fun g hg => (hv5 g hg).1) (fun g hg => (hA5 g hg).1), ⟨n, by simpa using hn, ?_⟩, c.ne, ⟨fun e => (hA5 s e).1 rfl, fun e => (hA5 b e).2 rfl⟩, hv5, ht, by have := c.len; simp; omega, fun g hg => ?_⟩
    · have hb5 : w5.heap[b]? = wr.heap[b]? := hk5.block b h.map.lt fun e => (c.nv b e).2 rfl
      exact h.map.move ((ks.block b (Nat.lt_of_lt_of_le h.map.lt hk5.size) (fun e => c.ne e.symm)).trans hb5)
    · rcases List.mem_append.1 hg with e | e
      · exact c.inb g e
      · rw [List.mem_singleton.1 e]
        exact c.inf
  refine ⟨fun j => F j ∨ w.heap.size ≤ j ∧ j < (w5.setCell ⟨s, 0, none⟩ v5).heap.size, ⟨b, v5, _, hO, ⟨.inl c.fp.1, .inl c.fp.2⟩, fun g hg => ?_, fun g hg => ?_, fun g hg => ?_⟩, ?_, fun j hj => hj.imp id fun e => e.1⟩
  · rcases hat g hg with e | e
    · exact .inl (c.fv g e)
    · exact .inr ⟨by omega, hO.forms.lt g hg⟩
  · rcases hg with e | e
    · exact .inl (c.fA g e)
    · exact .inr ⟨c.xf g e, hO.forms.old g (.inr e)⟩
  · rcases hg with e | e
    · have := c.flt g e
      have h1 := hk5.size
      have h2 := ks.size
      omega
    · exact e.2
  · exact (h.keep.trans hk5 (fun _ h => h) (fun j hj => .inl (c.fv j hj))).trans ks (fun _ h => h) (fun j hj => .inl (by rw [hj]; exact c.fp.1))
theorem infoF : (Try.prog.info? 22).map (fun i => (i.zero, i.size, i.bytes)) = some (some (.slice none 0 0), 1, 24) := by kernel_rfl
theorem wp_appF (w : World) {ops : Array Oper} {rest : List Oper} {o : Oper} {a : Act} {Q : Exit → Act → World → Prop} (hgd : o.guard = none) (s x : Operand)
    (ho : o.op = .call { callee := .builtin .append, args := #[s, x], argTypes := #[38, 38] })
    (v u : Value) (xs ys : List Value) (hs : a.eval s = v) (hx : a.eval x = u) (h : Row w 22 v xs) (hy : Row w 22 u ys) (h1 : ∀ u ∈ ys, u.oneCell' = true) (hl : xs.length + ys.length < 1000000)
    (hK : ∀ v' w', Row w' 22 v' (xs ++ ys) → Keep (fun k => v.ownBlock = some k) w w' → (v'.ownBlock = v.ownBlock ∨ v'.ownBlock = some w.heap.size) → wpList Try.prog ops Q rest (a.put o.dst v') w') :
    wpList Try.prog ops Q (o :: rest) a w := by
  obtain ⟨i0, hi0, hz0, hz1, hz2⟩ := info_parts infoF
  exact wpList_append_row hgd s x _ ho _ i0 _ Try.underlying38 hi0 hz0 hz1 rfl v u xs ys hs hx h hy.src h1 (by simp [maxLen]; omega) (by rw [hz2]; omega) hK
theorem at_new {v5 v : Value} {wr : World} {o : Obj} (h : v5.ownBlock = v.ownBlock ∨ v5.ownBlock = some (wr.alloc o).heap.size) : ∀ g, v5.ownBlock = some g → v.ownBlock = some g ∨ wr.heap.size ≤ g := by
  intro g hg
  rcases h with e | e
  · exact .inl (by rw [← e]; exact hg)
  · right
    rw [hg] at e
    have := Option.some.inj e
    simp at this
    omega
def addC (fs : List (List Int)) (l : List Int) : Int × Int := if MC.mayB l = true then ((fs.length : Int), 0) else (0, 2)
def addF (fs : List (List Int)) (l : List Int) : List (List Int) := if MC.mayB l = true then fs ++ [canon l] else fs
def addT (top : Int) (l : List Int) : Int := if MC.mayB l = true then topOf top l else top
set_option maxRecDepth 100000 in
set_option maxHeartbeats 6400000 in
theorem Add_calls (w : World) (s : Nat) (fs : List (List Int)) (top : Int) (F : Nat → Prop) (A0 : Option Addr) (c : Nat) (l : List Int) (h : Cl w s fs top F) (hC : Kd.C (Kd.int .i64) w A0 l.length l) (hl : l.length ≤ 1000) (hfs : fs.length < 1000) :
    Calls Try.prog 25 #[ptr s, .slice A0 l.length c] w fun e w' => e = .returned (.tuple #[.int .i64 (addC fs l).1, .int .i64 (addC fs l).2]) ∧ LeftC w s (addF fs l) (addT top l) F w' := by
  obtain ⟨b, v, A, hO, hp, hv, hA, hlt⟩ := id h
  obtain ⟨a, cc, rfl⟩ := hO.forms.shape
  have HR := hid (ready_calls w s b ((blk_cell hO.blk 1).trans rfl))
  have HMAY := hid (MC.May_calls A0 c l w hC)
  have HCL := hid h
  have HO := hid hO
  have HP := hid (And.intro hp (And.intro hv (And.intro hA hlt)))
  have HC := hid hC
  have HLL := hid hl
  have HFS := hid hfs
  obtain ⟨N, hN⟩ : ∃ N, N = l.length := ⟨_, rfl⟩
  obtain ⟨M, hM⟩ : ∃ M, M = fs.length := ⟨_, rfl⟩
  have HN := hid hN
  have HM := hid hM
  rw [← hM] at HO HP
  rw [← hN] at HMAY ⊢
  have hMb : (M : Int) < 1000 := by omega
  clear h hO hp hv hA hlt hC hl hfs hN hM
  cases hm : MC.mayB l with
  | false =>
    have h1 := hid (show addC fs l = (0, 2) by unfold addC; rw [if_neg (by simp [hm])])
    have h2 := hid (show addF fs l = fs by unfold addF; rw [if_neg (by simp [hm])])
    have h3 := hid (show addT top l = top by unfold addT; rw [if_neg (by simp [hm])])
    rw [hm] at HMAY
    clear hm
    go_enter Try.func25, Try.ntmps25
    go_wp2_with fail
    refine HR.out.mono ?_
    rintro e w1 ⟨rfl, hw⟩
    obtain rfl := hw
    go_wp2_with fail
    refine HMAY.out.mono ?_
    rintro e w2 ⟨rfl, hb⟩
    have HB := hid hb
    clear hb
    go_wp2_with fail
    go_ret2
    rw [h1.out, h2.out, h3.out]
    exact ⟨rfl, F, HCL.out.below HB.out, Keep.ofBelow HB.out, fun _ h => .inl h⟩
  | true =>
    have h1 := hid (show addC fs l = ((fs.length : Int), 0) by unfold addC; rw [if_pos hm])
    have h2 := hid (show addF fs l = fs ++ [canon l] by unfold addF; rw [if_pos hm])
    have h3 := hid (show addT top l = topOf top (canon l) by unfold addT; rw [if_pos hm, topOf_canon])
    have HIN := hid (mayB_in hm)
    rw [hm] at HMAY
    clear hm
    go_enter Try.func25, Try.ntmps25
    go_wp2_with fail
    refine HR.out.mono ?_
    rintro e w1 ⟨rfl, hw⟩
    obtain rfl := hw
    clear HR
    go_wp2_with fail
    refine HMAY.out.mono ?_
    rintro e w2 ⟨rfl, hb⟩
    have HB := hid hb
    have c0 : w2.cell? ⟨s, 0, none⟩ = some (.slice a M cc) := (hb.cell (p := ⟨s, 0, none⟩) (blk_lt HO.out.blk)).trans ((blk_cell HO.out.blk 0).trans rfl)
    have HFORM := hid (MC.form_calls A0 c l w2 (Kd.C_below HC.out hb) (by have := HLL.out; omega) HIN.out)
    rw [← HN.out] at HFORM
    have hbig : decide ((M : Int) ≥ 1048576) = false := by simp; omega
    clear hb HMAY
    go_wp2_with fail
    refine HFORM.out.mono ?_
    rintro e w3 ⟨x, rfl, hR, hb3⟩
    obtain ⟨hrow, hxf⟩ := Row_of_R hR
    have HB3 := hid (SM.bel HB.out hb3)
    obtain ⟨ax, cx, rfl, _⟩ := hrow.shape
    obtain ⟨KF, hK⟩ : ∃ KF, KF = (canon l).length := ⟨_, rfl⟩
    have HK := hid hK
    rw [lits_len, ← hK] at hrow hxf ⊢
    have hKb : (canon l).length ≤ 1000 := by have := length_canon_le l; have := HLL.out; omega
    have HT := hid (text_calls w3 _ (canon l) hrow hKb)
    have HROW := hid hrow
    have HCC := hid (show AddC w1 s b (.slice a M cc) fs A F (.slice ax KF cx) (canon l) from ⟨HP.out.1, HP.out.2.1, HP.out.2.2.1, HP.out.2.2.2, HO.out.ne, HO.out.nA, HO.out.nv, fun g hg => Nat.le_trans HB.out.size (hxf g hg), HFS.out, HO.out.inb, fun y hy => HIN.out y ((mem_canon y l).1 hy), rising_canon l, hKb⟩)
    have HKB := hid hKb
    have hKF : KF ≤ 1000 := by rw [hK]; exact hKb
    clear hR hb3 hrow hxf HFORM c0 hK hKb
    go_wp2_with fail
    refine HT.out.mono ?_
    rintro e w4 ⟨rfl, hb4⟩
    have HB4 := hid (SM.bel HB3.out hb4)
    obtain ⟨n, hn, hmap⟩ := (HO.out.keep (Keep.ofBelow (F := fun _ => False) HB4.out) ⟨fun h => h, fun h => h⟩ (fun _ _ h => h) (fun _ _ h => h)).map
    have hlk := look_run hmap (keyF_size HKB.out)
    have hO4 := HO.out.keep (Keep.ofBelow (F := fun _ => False) HB4.out) ⟨fun h => h, fun h => h⟩ (fun _ _ h => h) (fun _ _ h => h)
    have c0 : w4.cell? ⟨s, 0, none⟩ = some (.slice a M cc) := (blk_cell hO4.blk 0).trans rfl
    have c1 : w4.cell? ⟨s, 1, none⟩ = some (.map (some b)) := (blk_cell hO4.blk 1).trans rfl
    have HA4 := hid (show AddAt w1 s b (.slice a M cc) fs A F (byM fs) n top (.slice ax KF cx) (canon l) w4 from ⟨hO4.blk, hO4.forms, hmap, Keep.ofBelow HB4.out, Row.bel HROW.out hb4⟩)
    have HNB := hid hn
    have hw1 : IntKind.i64.wrap ((M : Int) + 1) = ((M + 1 : Nat) : Int) := by simp [IntKind.wrap, IntKind.signed, IntKind.bits]; omega
    clear hmap hb4 hn HT hO4
    cases hby : byM fs (keyF (canon l)) with
    | none =>
      have HBY := hid hby
      rw [hby] at hlk
      simp only [Option.getD_none] at hlk
      clear hby
      go_wp2_with fail
      go_still_tail 11, (by kernel_rfl)
      change wpList _ _ _ _ _ w4.drew
      have hm2 : KMap Try.prog 9 Value.string w4.drew b n _ := KMap.move HA4.out.map rfl
      refine wp_update_k _ rfl _ _ _ 39 rfl keyedS Try.underlying39 b n _ hm2 (keyF (canon l)) (numV (M + 1)) rfl rfl (by rfl) (keyS (keyF_size HKB.out)) (fun x y h => by injection h) (by show Option.map numV (byM fs (keyF (canon l))) = none; rw [HBY.out]; rfl) (by have := HNB.out; have := HFS.out; unfold maxLen; omega) ?_
      intro W2 hm3 hgr
      have HAA := hid ((HA4.out.below (show Below w4.heap.size w4 w4.drew from ⟨rfl, rfl, rfl, Nat.le_refl _, fun _ _ => rfl⟩)).updated HCC.out (by rw [← HM.out]; exact hm3) hgr HBY.out)
      have HNN := hid (show n + 1 ≤ fs.length + 1 by have := HNB.out; omega)
      clear hm2 hm3 hgr hlk c0 c1 HA4 hw1
      generalize n + 1 = n' at HAA HNN
      go_wp2_with fail
      go_loopg [49] KF (fun left v49 wr => ∃ (k : Nat), left + k = KF ∧ v49 = .int .i64 (k : Int) ∧ Hid (AddAt w1 s b (.slice a M cc) fs A F (byM (fs ++ [canon l])) n' (topOf top ((canon l).take k)) (.slice ax KF cx) (canon l) wr))
      case atStart => exact ⟨0, by omega, rfl, HAA⟩
      case round =>
        obtain ⟨k, hk, rfl, U⟩ := hrel
        clear HAA
        by_cases hkK : k < KF
        · have hkI : (k : Int) < (KF : Int) := by omega
          cases gk with
          | zero => omega
          | succ left =>
          have hkl : k < (canon l).length := by rw [← HK.out]; exact hkK
          obtain ⟨g, off, cap, hv, _, _, hg, hc, _⟩ := U.out.row.cells (by simp; omega)
          injection hv with z1 z2 z3
          subst z1 z3
          have hx := (hc k (by simpa using hkl)).trans (lits_get _ _ hkl)
          obtain ⟨y, hy⟩ : ∃ y, y = (canon l).getD k 0 := ⟨_, rfl⟩
          rw [← hy] at hx
          have HYE := hid hy
          have HKL := hid hkl
          have HY := hid (show InB y from HIN.out y ((mem_canon y l).1 (by rw [hy, List.getD_eq_getElem?_getD, List.getElem?_eq_getElem hkl]; exact List.getElem_mem hkl)))
          obtain ⟨t, ht⟩ : ∃ t, t = topOf top ((canon l).take k) := ⟨_, rfl⟩
          have HTT := hid ht
          have s2 : wr.cell? ⟨s, 2, none⟩ = some (.int .i64 t) := by rw [ht]; exact (blk_cell U.out.blk 2).trans rfl
          have f2 : wr.frozen? ⟨s, 2, none⟩ = false := blk_frozen U.out.blk 2
          clear hc z2 hy hkl ht
          go_upto_region 14 with fail
          clear hx
          refine wp_region_noPanic ?_
          refine start_ (n := 11) (S := (fun w' => w'.cell? ⟨s, 2, none⟩ = some (.int .i64 t) ∧ w'.frozen? ⟨s, 2, none⟩ = false ∧ True)) (ds := [10]) #[false, false, false, false, false, false, false, false, false, false, false] (by kernel_rfl) rfl rfl ⟨s2, f2, trivial⟩ (fun hHeld => ?_)
          refine take_ (i := 0) (N := some 53) (v := ?_) (a' := ?_) #[true, false, false, false, false, false, false, false, false, false, false] rfl rfl (by kernel_rfl) (fun _ _ _ h => h) (Or.inl ⟨by rfl, ?_⟩) hHeld ?_ ?_   -- move (%0)
          rotate_left
          · rintro w' ⟨s0, s1, s2⟩
            go_simp
            with_reducible rfl
          rotate_left
          · simp only [Act.put, List.setIfInBounds_toArray, List.set_cons_zero, List.set_cons_succ]
            rfl
          refine take_ (i := 1) (N := some 54) (v := ?_) (a' := ?_) #[true, true, false, false, false, false, false, false, false, false, false] rfl rfl (by kernel_rfl) (fun _ _ _ h => h) (Or.inl ⟨by rfl, ?_⟩) hHeld ?_ ?_   -- move (%0)
          rotate_left
          · rintro w' ⟨s0, s1, s2⟩
            go_simp
            with_reducible rfl
          rotate_left
          · simp only [Act.put, List.setIfInBounds_toArray, List.set_cons_zero, List.set_cons_succ]
            rfl
          refine take_ (i := 2) (N := some 55) (v := ?_) (a' := ?_) #[true, true, true, false, false, false, false, false, false, false, false] rfl rfl (by kernel_rfl) (fun _ _ _ h => h) (Or.inl ⟨by rfl, ?_⟩) hHeld ?_ ?_   -- nilCheck (%54)
          rotate_left
          · rintro w' ⟨s0, s1, s2⟩
            go_simp
            with_reducible rfl
          rotate_left
          · simp only [Act.put, List.setIfInBounds_toArray, List.set_cons_zero, List.set_cons_succ]
            rfl
          refine take_ (i := 3) (N := some 56) (v := ?_) (a' := ?_) #[true, true, true, true, false, false, false, false, false, false, false] rfl rfl (by kernel_rfl) (fun _ _ _ h => h) (Or.inl ⟨by rfl, ?_⟩) hHeld ?_ ?_   -- fieldAddr 41 (%55) 2
          rotate_left
          · rintro w' ⟨s0, s1, s2⟩
            go_simp
            with_reducible rfl
          rotate_left
          · simp only [Act.put, List.setIfInBounds_toArray, List.set_cons_zero, List.set_cons_succ]
            rfl
          refine take_ (i := 4) (N := some 57) (v := ?_) (a' := ?_) #[true, true, true, true, true, false, false, false, false, false, false] rfl rfl (by kernel_rfl) (fun _ _ _ h => h) (Or.inl ⟨by rfl, ?_⟩) hHeld ?_ ?_   -- load 25 (%56)
          rotate_left
          · rintro w' ⟨s0, s1, s2⟩
            go_simp
            with_reducible rfl
          rotate_left
          · simp only [Act.put, List.setIfInBounds_toArray, List.set_cons_zero, List.set_cons_succ]
            rfl
          refine take_ (i := 5) (N := some 58) (v := ?_) (a' := ?_) #[true, true, true, true, true, true, false, false, false, false, false] rfl rfl (by kernel_rfl) (fun _ _ _ h => h) (Or.inl ⟨by rfl, ?_⟩) hHeld ?_ ?_   -- move (%9)
          rotate_left
          · rintro w' ⟨s0, s1, s2⟩
            go_simp
            with_reducible rfl
          rotate_left
          · simp only [Act.put, List.setIfInBounds_toArray, List.set_cons_zero, List.set_cons_succ]
            rfl
          refine one_ (i := 6) (N := some 59) #[true, true, true, true, true, true, true, false, false, false, false] rfl rfl (by kernel_rfl) (by decide) (fun K hK => ?_)
          refine call_ 43 #[.int .i64 y] (by rfl) rfl (by go_simp; first | done | rfl) ?_
          refine (MC.atom_calls y _ HY.out.1 HY.out.2).mono ?_
          rintro e w' ⟨rfl, hw'⟩
          obtain rfl := hw'
          refine ⟨_, rfl, ?_⟩
          refine hK.out _ _ ⟨s2, f2, trivial⟩ (fun hHeld => ?_)
          refine norm_ (a' := ?_) ?_ ?_
          rotate_left
          · simp only [Act.put, List.setIfInBounds_toArray, List.set_cons_zero, List.set_cons_succ]
            rfl
          refine one_ (i := 7) (N := some 60) #[true, true, true, true, true, true, true, true, false, false, false] rfl rfl (by kernel_rfl) (by decide) (fun K hK => ?_)
          refine value_ (by rfl) rfl (v := .int .i64 (max t (litAtom y))) (w1 := wr.drew) (by go_simp; first | done | rfl) ?_
          refine hK.out _ _ ⟨s2, f2, trivial⟩ (fun hHeld => ?_)
          refine norm_ (a' := ?_) ?_ ?_
          rotate_left
          · simp only [Act.put, List.setIfInBounds_toArray, List.set_cons_zero, List.set_cons_succ]
            rfl
          refine take_ (i := 8) (N := some 61) (v := ?_) (a' := ?_) #[true, true, true, true, true, true, true, true, true, false, false] rfl rfl (by kernel_rfl) (fun _ _ _ h => h) (Or.inl ⟨by rfl, ?_⟩) hHeld ?_ ?_   -- nilCheck (%53)
          rotate_left
          · rintro w' ⟨s0, s1, s2⟩
            go_simp
            with_reducible rfl
          rotate_left
          · simp only [Act.put, List.setIfInBounds_toArray, List.set_cons_zero, List.set_cons_succ]
            rfl
          refine take_ (i := 9) (N := some 62) (v := ?_) (a' := ?_) #[true, true, true, true, true, true, true, true, true, true, false] rfl rfl (by kernel_rfl) (fun _ _ _ h => h) (Or.inl ⟨by rfl, ?_⟩) hHeld ?_ ?_   -- fieldAddr 41 (%61) 2
          rotate_left
          · rintro w' ⟨s0, s1, s2⟩
            go_simp
            with_reducible rfl
          rotate_left
          · simp only [Act.put, List.setIfInBounds_toArray, List.set_cons_zero, List.set_cons_succ]
            rfl
          refine last_ (i := 10) (N := none) #[true, true, true, true, true, true, true, true, true, true, true] rfl rfl (by kernel_rfl) (by decide) (fun K hK => ?_)
          refine skip_ (by rfl) rfl (w1 := wr.drew.setCell ⟨s, 2, none⟩ (.int .i64 (max t (litAtom y)))) (by go_simp; first | done | rfl) ?_
          refine hK.out _ _ ?_
          refine done_ (by kernel_rfl) ?_
          try simp only [NoPanic, Exit.then]
          have NX := hid (show AddAt w1 s b (.slice a M cc) fs A F (byM (fs ++ [canon l])) n' (topOf top ((canon l).take (k + 1))) (.slice (some ⟨g, off, none⟩) KF cx) (canon l) (wr.drew.setCell ⟨s, 2, none⟩ (.int .i64 (max t (litAtom y)))) from by
            have h9 := (U.out.below (show Below wr.heap.size wr wr.drew from ⟨rfl, rfl, rfl, Nat.le_refl _, fun _ _ => rfl⟩)).stored HCC.out (max t (litAtom y))
            rw [take_snoc _ _ HKL.out, topOf_snoc, ← HTT.out, ← HYE.out]
            exact h9)
          clear hHeld s2 f2
          go_wp2_with fail
          go_roundg left
          case measure => omega
          case rel => exact ⟨k + 1, by omega, by go_num, NX⟩
        · obtain rfl : k = KF := by omega
          have hge : ¬ (k : Int) < (k : Int) := by omega
          have HU := hid (show AddAt w1 s b (.slice a M cc) fs A F (byM (fs ++ [canon l])) n' (topOf top (canon l)) (.slice ax k cx) (canon l) wr from by
            have h9 := U.out
            rw [List.take_of_length_le (by have := HK.out; omega)] at h9
            exact h9)
          have htb : 0 ≤ topOf top (canon l) ∧ topOf top (canon l) ≤ 1048576 := topOf_bound HO.out.tb.1 HO.out.tb.2 (fun y hy => HIN.out y ((mem_canon y l).1 hy))
          obtain ⟨tt, htt⟩ : ∃ t, t = topOf top (canon l) := ⟨_, rfl⟩
          have HTT := hid htt
          rw [← htt] at HU htb
          have HTB := hid htb
          have c0 : wr.cell? ⟨s, 0, none⟩ = some (.slice a M cc) := (blk_cell HU.out.blk 0).trans rfl
          obtain ⟨vs, q1, q2, q0, q3⟩ := HU.out.forms.own
          have HOWN := hid (And.intro q1 (And.intro q2 (And.intro q0 q3)))
          clear hkK hk U htb htt q1 q2 q0 q3
          go_wp2_with (at_builtin; go_loud (refine wp_appF _ rfl _ _ rfl (.slice a M cc) _ vs [.slice ax k cx] (by rfl) (by rfl) (HOWN.out.2.1.alloc _) (Row.one _ _ _) (by simp [Value.oneCell']) (by have := HOWN.out.1; have := HFS.out; simp; omega) ?_; intro v5 w5 hr5 hk5 hat5; obtain ⟨a5, c5, rfl, _⟩ := hr5.shape; have hl5 : (vs ++ [Value.slice ax k cx]).length = M + 1 := (by have := HOWN.out.1; have := HM.out; simp; omega); rw [hl5] at hr5 hat5; try rw [hl5]; have hk5' : Keep (fun g => (Value.slice a M cc).ownBlock = some g) wr w5 := (⟨rfl, rfl, rfl, by simp, fun q hq _ => old_alloc (w := wr) _ hq⟩ : Keep (fun g => (Value.slice a M cc).ownBlock = some g) wr (wr.alloc (.cells #[.slice ax k cx] 22))).trans hk5 (fun _ h => h) (fun _ h => .inl h); have hs5 := hk5'.blk HU.out.blk (fun e => (HCC.out.nv s e).1 rfl); have f0 : w5.frozen? ⟨s, 0, none⟩ = false := blk_frozen hs5 0; have z0 : w5.cell? ⟨s, 0, none⟩ = some (.slice a M cc) := (blk_cell hs5 0).trans rfl; have FIN := hid (HU.out.pushed HCC.out HNN.out HTB.out HOWN.out.1 HOWN.out.2.2.1 HOWN.out.2.2.2 hr5 hk5' (at_new hat5)); clear hr5 hk5 hat5 hk5' hs5))
          go_ret2
          rw [h1.out, h2.out, h3.out, ← HTT.out]
          refine ⟨?_, FIN.out⟩
          rw [← HM.out]
          simp
    | some i =>
      have hi : 1 ≤ i ∧ i ≤ 1000 := by
        have hby2 := hby
        unfold byM at hby2
        cases e1 : idx (fun f => decide (keyF f = keyF (canon l))) fs with
        | none => rw [e1] at hby2; cases hby2
        | some j =>
          rw [e1] at hby2
          cases hby2
          have := idx_lt e1
          have := HFS.out
          show 1 ≤ j + 1 ∧ j + 1 ≤ 1000
          omega
      have HAA := hid (HA4.out.known hby)
      rw [hby] at hlk
      simp only [Option.getD_some] at hlk
      have HNN := hid (show n ≤ fs.length + 1 by have := HNB.out; omega)
      have hi0 : ((i : Int) == 0) = false := by simp; omega
      obtain ⟨W2, hW2⟩ : ∃ W, W = w4 := ⟨_, rfl⟩
      have HW2 := hid hW2
      rw [← hW2] at HAA
      clear hby HA4 c0 hw1
      generalize n = n' at HAA HNN
      go_upto_region 11 with fail
      rw [← hW2]
      clear hlk hi0 c1 hW2
      go_wp2_with fail
      go_loopg [49] KF (fun left v49 wr => ∃ (k : Nat), left + k = KF ∧ v49 = .int .i64 (k : Int) ∧ Hid (AddAt w1 s b (.slice a M cc) fs A F (byM (fs ++ [canon l])) n' (topOf top ((canon l).take k)) (.slice ax KF cx) (canon l) wr))
      case atStart => exact ⟨0, by omega, rfl, HAA⟩
      case round =>
        obtain ⟨k, hk, rfl, U⟩ := hrel
        clear HAA
        by_cases hkK : k < KF
        · have hkI : (k : Int) < (KF : Int) := by omega
          cases gk with
          | zero => omega
          | succ left =>
          have hkl : k < (canon l).length := by rw [← HK.out]; exact hkK
          obtain ⟨g, off, cap, hv, _, _, hg, hc, _⟩ := U.out.row.cells (by simp; omega)
          injection hv with z1 z2 z3
          subst z1 z3
          have hx := (hc k (by simpa using hkl)).trans (lits_get _ _ hkl)
          obtain ⟨y, hy⟩ : ∃ y, y = (canon l).getD k 0 := ⟨_, rfl⟩
          rw [← hy] at hx
          have HYE := hid hy
          have HKL := hid hkl
          have HY := hid (show InB y from HIN.out y ((mem_canon y l).1 (by rw [hy, List.getD_eq_getElem?_getD, List.getElem?_eq_getElem hkl]; exact List.getElem_mem hkl)))
          obtain ⟨t, ht⟩ : ∃ t, t = topOf top ((canon l).take k) := ⟨_, rfl⟩
          have HTT := hid ht
          have s2 : wr.cell? ⟨s, 2, none⟩ = some (.int .i64 t) := by rw [ht]; exact (blk_cell U.out.blk 2).trans rfl
          have f2 : wr.frozen? ⟨s, 2, none⟩ = false := blk_frozen U.out.blk 2
          clear hc z2 hy hkl ht
          go_upto_region 14 with fail
          clear hx
          refine wp_region_noPanic ?_
          refine start_ (n := 11) (S := (fun w' => w'.cell? ⟨s, 2, none⟩ = some (.int .i64 t) ∧ w'.frozen? ⟨s, 2, none⟩ = false ∧ True)) (ds := [10]) #[false, false, false, false, false, false, false, false, false, false, false] (by kernel_rfl) rfl rfl ⟨s2, f2, trivial⟩ (fun hHeld => ?_)
          refine take_ (i := 0) (N := some 53) (v := ?_) (a' := ?_) #[true, false, false, false, false, false, false, false, false, false, false] rfl rfl (by kernel_rfl) (fun _ _ _ h => h) (Or.inl ⟨by rfl, ?_⟩) hHeld ?_ ?_   -- move (%0)
          rotate_left
          · rintro w' ⟨s0, s1, s2⟩
            go_simp
            with_reducible rfl
          rotate_left
          · simp only [Act.put, List.setIfInBounds_toArray, List.set_cons_zero, List.set_cons_succ]
            rfl
          refine take_ (i := 1) (N := some 54) (v := ?_) (a' := ?_) #[true, true, false, false, false, false, false, false, false, false, false] rfl rfl (by kernel_rfl) (fun _ _ _ h => h) (Or.inl ⟨by rfl, ?_⟩) hHeld ?_ ?_   -- move (%0)
          rotate_left
          · rintro w' ⟨s0, s1, s2⟩
            go_simp
            with_reducible rfl
          rotate_left
          · simp only [Act.put, List.setIfInBounds_toArray, List.set_cons_zero, List.set_cons_succ]
            rfl
          refine take_ (i := 2) (N := some 55) (v := ?_) (a' := ?_) #[true, true, true, false, false, false, false, false, false, false, false] rfl rfl (by kernel_rfl) (fun _ _ _ h => h) (Or.inl ⟨by rfl, ?_⟩) hHeld ?_ ?_   -- nilCheck (%54)
          rotate_left
          · rintro w' ⟨s0, s1, s2⟩
            go_simp
            with_reducible rfl
          rotate_left
          · simp only [Act.put, List.setIfInBounds_toArray, List.set_cons_zero, List.set_cons_succ]
            rfl
          refine take_ (i := 3) (N := some 56) (v := ?_) (a' := ?_) #[true, true, true, true, false, false, false, false, false, false, false] rfl rfl (by kernel_rfl) (fun _ _ _ h => h) (Or.inl ⟨by rfl, ?_⟩) hHeld ?_ ?_   -- fieldAddr 41 (%55) 2
          rotate_left
          · rintro w' ⟨s0, s1, s2⟩
            go_simp
            with_reducible rfl
          rotate_left
          · simp only [Act.put, List.setIfInBounds_toArray, List.set_cons_zero, List.set_cons_succ]
            rfl
          refine take_ (i := 4) (N := some 57) (v := ?_) (a' := ?_) #[true, true, true, true, true, false, false, false, false, false, false] rfl rfl (by kernel_rfl) (fun _ _ _ h => h) (Or.inl ⟨by rfl, ?_⟩) hHeld ?_ ?_   -- load 25 (%56)
          rotate_left
          · rintro w' ⟨s0, s1, s2⟩
            go_simp
            with_reducible rfl
          rotate_left
          · simp only [Act.put, List.setIfInBounds_toArray, List.set_cons_zero, List.set_cons_succ]
            rfl
          refine take_ (i := 5) (N := some 58) (v := ?_) (a' := ?_) #[true, true, true, true, true, true, false, false, false, false, false] rfl rfl (by kernel_rfl) (fun _ _ _ h => h) (Or.inl ⟨by rfl, ?_⟩) hHeld ?_ ?_   -- move (%9)
          rotate_left
          · rintro w' ⟨s0, s1, s2⟩
            go_simp
            with_reducible rfl
          rotate_left
          · simp only [Act.put, List.setIfInBounds_toArray, List.set_cons_zero, List.set_cons_succ]
            rfl
          refine one_ (i := 6) (N := some 59) #[true, true, true, true, true, true, true, false, false, false, false] rfl rfl (by kernel_rfl) (by decide) (fun K hK => ?_)
          refine call_ 43 #[.int .i64 y] (by rfl) rfl (by go_simp; first | done | rfl) ?_
          refine (MC.atom_calls y _ HY.out.1 HY.out.2).mono ?_
          rintro e w' ⟨rfl, hw'⟩
          obtain rfl := hw'
          refine ⟨_, rfl, ?_⟩
          refine hK.out _ _ ⟨s2, f2, trivial⟩ (fun hHeld => ?_)
          refine norm_ (a' := ?_) ?_ ?_
          rotate_left
          · simp only [Act.put, List.setIfInBounds_toArray, List.set_cons_zero, List.set_cons_succ]
            rfl
          refine one_ (i := 7) (N := some 60) #[true, true, true, true, true, true, true, true, false, false, false] rfl rfl (by kernel_rfl) (by decide) (fun K hK => ?_)
          refine value_ (by rfl) rfl (v := .int .i64 (max t (litAtom y))) (w1 := wr.drew) (by go_simp; first | done | rfl) ?_
          refine hK.out _ _ ⟨s2, f2, trivial⟩ (fun hHeld => ?_)
          refine norm_ (a' := ?_) ?_ ?_
          rotate_left
          · simp only [Act.put, List.setIfInBounds_toArray, List.set_cons_zero, List.set_cons_succ]
            rfl
          refine take_ (i := 8) (N := some 61) (v := ?_) (a' := ?_) #[true, true, true, true, true, true, true, true, true, false, false] rfl rfl (by kernel_rfl) (fun _ _ _ h => h) (Or.inl ⟨by rfl, ?_⟩) hHeld ?_ ?_   -- nilCheck (%53)
          rotate_left
          · rintro w' ⟨s0, s1, s2⟩
            go_simp
            with_reducible rfl
          rotate_left
          · simp only [Act.put, List.setIfInBounds_toArray, List.set_cons_zero, List.set_cons_succ]
            rfl
          refine take_ (i := 9) (N := some 62) (v := ?_) (a' := ?_) #[true, true, true, true, true, true, true, true, true, true, false] rfl rfl (by kernel_rfl) (fun _ _ _ h => h) (Or.inl ⟨by rfl, ?_⟩) hHeld ?_ ?_   -- fieldAddr 41 (%61) 2
          rotate_left
          · rintro w' ⟨s0, s1, s2⟩
            go_simp
            with_reducible rfl
          rotate_left
          · simp only [Act.put, List.setIfInBounds_toArray, List.set_cons_zero, List.set_cons_succ]
            rfl
          refine last_ (i := 10) (N := none) #[true, true, true, true, true, true, true, true, true, true, true] rfl rfl (by kernel_rfl) (by decide) (fun K hK => ?_)
          refine skip_ (by rfl) rfl (w1 := wr.drew.setCell ⟨s, 2, none⟩ (.int .i64 (max t (litAtom y)))) (by go_simp; first | done | rfl) ?_
          refine hK.out _ _ ?_
          refine done_ (by kernel_rfl) ?_
          try simp only [NoPanic, Exit.then]
          have NX := hid (show AddAt w1 s b (.slice a M cc) fs A F (byM (fs ++ [canon l])) n' (topOf top ((canon l).take (k + 1))) (.slice (some ⟨g, off, none⟩) KF cx) (canon l) (wr.drew.setCell ⟨s, 2, none⟩ (.int .i64 (max t (litAtom y)))) from by
            have h9 := (U.out.below (show Below wr.heap.size wr wr.drew from ⟨rfl, rfl, rfl, Nat.le_refl _, fun _ _ => rfl⟩)).stored HCC.out (max t (litAtom y))
            rw [take_snoc _ _ HKL.out, topOf_snoc, ← HTT.out, ← HYE.out]
            exact h9)
          clear hHeld s2 f2
          go_wp2_with fail
          go_roundg left
          case measure => omega
          case rel => exact ⟨k + 1, by omega, by go_num, NX⟩
        · obtain rfl : k = KF := by omega
          have hge : ¬ (k : Int) < (k : Int) := by omega
          have HU := hid (show AddAt w1 s b (.slice a M cc) fs A F (byM (fs ++ [canon l])) n' (topOf top (canon l)) (.slice ax k cx) (canon l) wr from by
            have h9 := U.out
            rw [List.take_of_length_le (by have := HK.out; omega)] at h9
            exact h9)
          have htb : 0 ≤ topOf top (canon l) ∧ topOf top (canon l) ≤ 1048576 := topOf_bound HO.out.tb.1 HO.out.tb.2 (fun y hy => HIN.out y ((mem_canon y l).1 hy))
          obtain ⟨tt, htt⟩ : ∃ t, t = topOf top (canon l) := ⟨_, rfl⟩
          have HTT := hid htt
          rw [← htt] at HU htb
          have HTB := hid htb
          have c0 : wr.cell? ⟨s, 0, none⟩ = some (.slice a M cc) := (blk_cell HU.out.blk 0).trans rfl
          obtain ⟨vs, q1, q2, q0, q3⟩ := HU.out.forms.own
          have HOWN := hid (And.intro q1 (And.intro q2 (And.intro q0 q3)))
          clear hkK hk U htb htt q1 q2 q0 q3
          go_wp2_with (at_builtin; go_loud (refine wp_appF _ rfl _ _ rfl (.slice a M cc) _ vs [.slice ax k cx] (by rfl) (by rfl) (HOWN.out.2.1.alloc _) (Row.one _ _ _) (by simp [Value.oneCell']) (by have := HOWN.out.1; have := HFS.out; simp; omega) ?_; intro v5 w5 hr5 hk5 hat5; obtain ⟨a5, c5, rfl, _⟩ := hr5.shape; have hl5 : (vs ++ [Value.slice ax k cx]).length = M + 1 := (by have := HOWN.out.1; have := HM.out; simp; omega); rw [hl5] at hr5 hat5; try rw [hl5]; have hk5' : Keep (fun g => (Value.slice a M cc).ownBlock = some g) wr w5 := (⟨rfl, rfl, rfl, by simp, fun q hq _ => old_alloc (w := wr) _ hq⟩ : Keep (fun g => (Value.slice a M cc).ownBlock = some g) wr (wr.alloc (.cells #[.slice ax k cx] 22))).trans hk5 (fun _ h => h) (fun _ h => .inl h); have hs5 := hk5'.blk HU.out.blk (fun e => (HCC.out.nv s e).1 rfl); have f0 : w5.frozen? ⟨s, 0, none⟩ = false := blk_frozen hs5 0; have z0 : w5.cell? ⟨s, 0, none⟩ = some (.slice a M cc) := (blk_cell hs5 0).trans rfl; have FIN := hid (HU.out.pushed HCC.out HNN.out HTB.out HOWN.out.1 HOWN.out.2.2.1 HOWN.out.2.2.2 hr5 hk5' (at_new hat5)); clear hr5 hk5 hat5 hk5' hs5))
          go_ret2
          rw [h1.out, h2.out, h3.out, ← HTT.out]
          refine ⟨?_, FIN.out⟩
          rw [← HM.out]
          simp
end Go.Proofs.Ytiajmgmidfinfaa.SM
