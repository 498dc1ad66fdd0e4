/- Walk of the law LinksCut. -/
import Derived.Test.YtpopohkbffhckaaDoorManMoreKLaw
namespace Go.Proofs.YtpopohkbffhckaaDoor.KL
open Go.Proofs.YtpopohkbffhckaaDoor.Pure Go.RowKit Go.Proofs.YtpopohkbffhckaaDoorW.PrintWords Go.Proofs.YtpopohkbffhckaaDoorW.PrintLast Go.Proofs.YtpopohkbffhckaaDoorW.PrintMore Go.Proofs.YtpopohkbffhckaaDoor.MM Go.Proofs.YtpopohkbffhckaaDoor.Hk Go.Proofs.YtpopohkbffhckaaDoor.RC
set_option linter.unusedSimpArgs false
set_option linter.unusedVariables false
theorem check_cut {v : List Vx} {a : List At} {l : List Lk} (h : (checkR v a l).2 = 0) : l.length ≠ 0 ∧ checkR v a (l.take (l.length - 1)) = ([], 5) ∧ ∀ m, checkR v a (l ++ [m]) = ([], 5) := by
  obtain ⟨h1, s, h2, h3⟩ := check_ok h
  have hne : l ≠ [] := by
    rintro rfl
    cases h2
  have he : l = l.dropLast ++ [l.getLast hne] := (List.dropLast_concat_getLast hne).symm
  have h5 := h2
  rw [he] at h5
  refine ⟨by simpa using hne, ?_, fun m => ?_⟩
  · rw [← List.dropLast_eq_take]
    unfold checkR
    rw [h1, chk_cut _ _ _ _ _ h5]
    rfl
  · have h6 := chk_one_more m _ _ _ _ _ _ h5
    rw [← he] at h6
    unfold checkR
    rw [h1, h6]
    rfl
theorem C_take {α : Type} {d : Kd α} {W : World} {A : Option Addr} {l : List α} (h : d.C W A l.length l) (m : Nat) (hm : m ≤ l.length) : d.C W A (l.take m).length (l.take m) := by
  refine ⟨rfl, by have := h.2.1; rw [List.length_take]; omega, fun h0 => ?_⟩
  rw [List.length_take] at h0
  obtain ⟨ad, he, hc⟩ := h.2.2 (by omega)
  refine ⟨ad, he, fun j p hj => hc j p ?_⟩
  rw [List.getElem?_take] at hj
  split at hj
  · exact hj
  · cases hj
theorem info36c : (Tryd.prog.info? 36).map (fun i => (i.zero, i.size, i.bytes)) = some (some (.agg #[.int .u8 0, .int .i64 0, .int .i64 0, .int .i64 0, .int .i64 0, .int .i64 0, .slice none 0 0]), 7, 72) := by kernel_rfl
/-- An append of cells that lie somewhere, at a step. -/
theorem step_push {α : Type} {d : Kd α} {w0 W : World} {ops : Array Oper} {o : Oper} {a : Act} {K : Act → World → Prop} {Q : Exit → Act → World → Prop} {E : Prop} {N : Option Tmp} (hN : o.dst = N) (hgd : o.guard = none) (s x : Operand) (t : TypeId)
    (ho : o.op = .call { callee := .builtin .append, args := #[s, x], argTypes := #[t, t] }) (e : TypeId) (i : TypeInfo) (z : Value) (bytes : Nat) (ht : Tryd.prog.underlying t = some (.slice e)) (hi : Tryd.prog.info? e = some i) (hz : i.zero = some z)
    (hsize : i.size = d.sz) (hby : i.bytes = bytes) (hzs : z.cells.size = d.sz) (hsz : 0 < d.sz) (v : Value) (l ys : List α) (ad : Addr) (c n k : Nat) (cs : List Value) (hn : n = ys.length) (hk : k = l.length + n) (hs : a.eval s = v) (hx : a.eval x = .slice (some ad) n c) (h : Own d e w0 v l W) (hcs : Reps (d.K w0) d.sz ys cs) (hat : ∀ j u, cs[j]? = some u → W.cell? (ad.add j) = some u)
    (h63 : k ≤ 1000000) (hbb : bytes ≤ 1000)
    (hK : ∀ A' c' w', Own d e w0 (.slice A' k c') (l ++ ys) w' → W.grownBy w' v.ownBlock → (∀ g, Value.ownBlock (.slice A' k c') = some g → v.ownBlock = some g ∨ W.heap.size ≤ g) → K (a.put N (.slice A' k c')) w') : if Region.wanted o (yielded ops a.tmps) = true then Oper.wp Tryd.prog o a W K Q else E := by
  have hw : Region.wanted o (yielded ops a.tmps) = true := by simp [Region.wanted, hgd]
  rw [if_pos hw]
  subst hn hk hN
  obtain ⟨hb, inner, hown, hr⟩ := h
  obtain ⟨v', w', hrun, ho', hg, _, hat'⟩ := run_append_own_at (P := Tryd.prog) W w0.heap.size t o.type e i z d.sz bytes ht hi hz hsize hby hzs hsz v l.length inner hown ad ys.length c cs hcs.1 hat (reps_one hsz hcs) (by simp only [maxLen]; omega) (Nat.le_trans (Nat.mul_le_mul h63 hbb) (by decide)) hb.size
  have hO : Own d e w0 v' (l ++ ys) w' := ⟨hb.grown hg hb.size (fun j hj => (hown.lt j hj).1), inner ++ cs, by rw [List.length_append]; exact ho', Kd.reps_append hr hcs⟩
  obtain ⟨A', c', hv', _, _⟩ := hO.C (by rw [List.length_append]; omega)
  rw [List.length_append] at hv'
  subst hv'
  unfold Oper.wp execOp
  simp only [ho, resolve, invoke, builtin, Sem.run_bind, Sem.run_pure, Result.andThen_ok, List.map_toArray, List.map_cons, List.map_nil, hs, hx, hrun]
  refine hK A' c' w' hO hg fun g hg' => ?_
  rcases hat' with h1 | h1
  · exact .inl (h1.symm.trans hg')
  · have : W.heap.size = g := Option.some.inj (h1.symm.trans hg')
    exact .inr (by omega)
theorem step_appN {α : Type} {d : Kd α} {w0 w : World} {ops : Array Oper} {o : Oper} {a : Act} {K : Act → World → Prop} {Q : Exit → Act → World → Prop} {E : Prop} {N : Option Tmp} (hN : o.dst = N) (hgd : o.guard = none) (s x : Operand) (t : TypeId)
    (ho : o.op = .call { callee := .builtin .append, args := #[s, x], argTypes := #[t, t] }) (e : TypeId) (i : TypeInfo) (z : Value) (bytes : Nat) (ht : Tryd.prog.underlying t = some (.slice e)) (hi : Tryd.prog.info? e = some i) (hz : i.zero = some z)
    (hsize : i.size = d.sz) (hby : i.bytes = bytes) (hzs : z.cells.size = d.sz) (hsz : 0 < d.sz) (v : Value) (l ys : List α) (A : Option Addr) (c : Nat) (hs : a.eval s = v) (hx : a.eval x = .slice A ys.length c) (h : Own d e w0 v l w) (hy : d.C w0 A ys.length ys)
    (h63 : l.length + ys.length ≤ maxLen) (hbytes : (l.length + ys.length) * bytes ≤ 140737488355328)
    (hK : ∀ v' w', Own d e w0 v' (l ++ ys) w' → w.grownBy w' v.ownBlock → K (a.put N v') w') : if Region.wanted o (yielded ops a.tmps) = true then Oper.wp Tryd.prog o a w K Q else E := by
  subst hN
  exact step_append_C hgd s x t ho e i z bytes ht hi hz hsize hby hzs hsz hs hx h hy h63 hbytes fun v' w' h1 h2 _ => hK v' w' h1 h2
/-- .. in a world of more. -/
theorem Own.drew {α : Type} {d : Kd α} {e : TypeId} {w0 W : World} {v : Value} {l : List α} (h : Own d e w0 v l W) : Own d e w0 v l W.drew := by
  obtain ⟨h1, inner, ho, hr⟩ := h
  exact ⟨h1.drew, inner, own_move ho fun k _ => rfl, hr⟩
set_option maxRecDepth 100000 in
set_option maxHeartbeats 6400000 in
theorem cut_law (A0 : Option Addr) (c0 : Nat) (v : List Vx) (A1 : Option Addr) (c1 : Nat) (a : List At) (A2 : Option Addr) (c2 : Nat) (l : List Lk) (m : Lk) (A3 : Option Addr) (c3 : Nat) (w : World)
    (hv : Kd.C k46 w A0 v.length v) (hc0 : v.length ≤ c0) (ha : Kd.C k66 w A1 a.length a) (hc1 : a.length ≤ c1) (hl : Kd.C k36 w A2 l.length l) (hc2 : l.length ≤ c2) (hm : (Kd.int .i64).C w A3 m.f6.length m.f6) (hc3 : m.f6.length ≤ c3)
    (hno : Noth w) (bv : v.length < 4611686018427387904) (bl : l.length < 4611686018427387904) (hwf : ∀ x ∈ l, (Lit.int .i64 x.f1).wf = true) (hwm : (Lit.int .i64 m.f1).wf = true) :
    Calls Tryd.prog 5 #[.slice A0 v.length c0, .slice A1 a.length c1, .slice A2 l.length c2, .agg (lkC m (.slice A3 m.f6.length c3))] w (True1 w) := by
  have HKN := hid (fun W (hW : Below w.heap.size w W) => known_calls W (hno.below hW hno.pos))
  have HLG := hid (fun W (hW : Below w.heap.size w W) => large_calls A0 c0 v A1 c1 a A2 c2 l W (Kd.C_below hv hW) hc0 (Kd.C_below ha hW) hc1 (Kd.C_below hl hW) hc2 bv bl)
  have HCK := hid (fun W (hW : Below w.heap.size w W) (h1 : v.length ≤ 1000) (h2 : a.length ≤ 1000) (A : Option Addr) (c : Nat) (ls : List Lk) (hls : Kd.C K3 W A ls.length ls) (h3 : ls.length ≤ 1000) (h4 : ∀ x ∈ ls, (Lit.int .i64 x.f1).wf = true ∧ x.f6.length ≤ 1000) => check_calls A0 c0 v A1 c1 a A c ls W (Kd.C_below hv hW) hc0 (Kd.C_below ha hW) hc1 hls (hno.below hW hno.pos) h1 h2 h3 h4)
  have HL := hid (And.intro hc2 hl)
  have HM := hid (And.intro hc3 hm)
  have HWF := hid (And.intro hwm hwf)
  have hbm : m.f6.length ≤ 9223372036854775807 := hm.2.1
  have hbl : l.length ≤ 9223372036854775807 := hl.2.1
  obtain ⟨nv, hnv⟩ : ∃ n, n = v.length := ⟨_, rfl⟩
  obtain ⟨na, hna⟩ : ∃ n, n = a.length := ⟨_, rfl⟩
  obtain ⟨nl, hnl⟩ : ∃ n, n = l.length := ⟨_, rfl⟩
  obtain ⟨nm, hnm⟩ : ∃ n, n = m.f6.length := ⟨_, rfl⟩
  rw [← hnv, ← hna, ← hnl] at HLG
  rw [← hnv, ← hna] at HCK
  rw [← hnv, ← hna, ← hnl, ← hnm]
  rw [← hnm] at hbm
  rw [← hnl] at hbl
  have HN := hid (And.intro hnv (And.intro hna (And.intro hnl hnm)))
  clear hv hc0 ha hc1 hl hc2 hm hc3 hno bv bl hwf hwm hnv hna hnl hnm
  cases hlg : largeM v a l with
  | true =>
    rw [hlg] at HLG
    clear hlg
    go_enter Tryd.func5, Tryd.ntmps5
    go_wp2_with fail
    obtain ⟨W0, hW0⟩ : ∃ W0, W0 = w.alloc (.cells (lkC m (.slice A3 nm c3)) 36) := ⟨_, rfl⟩
    have HB0 := hid (show Below w.heap.size w W0 by rw [hW0]; exact (Below.refl _ _).alloc (Nat.le_refl _) _)
    have HX0 := hid (show W0.heap[w.heap.size]? = some (.cells (lkC m (.slice A3 nm c3)) 36 (0, 0)) by rw [hW0]; exact heap_alloc_new _ _)
    rw [← hW0]
    clear hW0
    refine (HLG.out W0 HB0.out).mono ?_
    rintro e w1 ⟨rfl, hb1⟩
    have HB1 := hid (HB0.out.trans (hb1.mono HB0.out.size))
    have HX1 := hid ((hb1.block _ (blk_lt HX0.out)).trans HX0.out)
    have hs1 : w.heap.size < w1.heap.size := blk_lt HX1.out
    have z6 : w1.cell? ⟨w.heap.size, 6, none⟩ = some (.slice A3 nm c3) := (blk_cell HX1.out 6).trans rfl
    clear hb1
    go_wp2_with fail
    refine (HKN.out w1 HB1.out).mono ?_
    rintro e w8 ⟨rfl, hb8⟩
    have HB8 := hid (HB1.out.trans (hb8.mono HB1.out.size))
    clear hb8
    go_wp2
    go_ret
    exact ⟨rfl, HB8.out⟩
  | false =>
    have hlf := large_false hlg
    rw [hlg] at HLG
    have hv100 : nv ≤ 100 := by have := HN.out.1; omega
    have ha200 : na ≤ 200 := by have := HN.out.2.1; omega
    have hl300 : nl ≤ 300 := by have := HN.out.2.2.1; omega
    have HWL := hid (show ∀ x ∈ l, (Lit.int .i64 x.f1).wf = true ∧ x.f6.length ≤ 1000 from fun x hx => ⟨HWF.out.2 x hx, by have := hlf.2.2.2.2 x hx; omega⟩)
    clear hlg hlf
    by_cases hm30 : nm > 30
    · have f1 : decide ((nm : Int) > 30) = true := by simp; omega
      go_enter Tryd.func5, Tryd.ntmps5
      go_wp2_with fail
      obtain ⟨W0, hW0⟩ : ∃ W0, W0 = w.alloc (.cells (lkC m (.slice A3 nm c3)) 36) := ⟨_, rfl⟩
      have HB0 := hid (show Below w.heap.size w W0 by rw [hW0]; exact (Below.refl _ _).alloc (Nat.le_refl _) _)
      have HX0 := hid (show W0.heap[w.heap.size]? = some (.cells (lkC m (.slice A3 nm c3)) 36 (0, 0)) by rw [hW0]; exact heap_alloc_new _ _)
      rw [← hW0]
      clear hW0
      refine (HLG.out W0 HB0.out).mono ?_
      rintro e w1 ⟨rfl, hb1⟩
      have HB1 := hid (HB0.out.trans (hb1.mono HB0.out.size))
      have HX1 := hid ((hb1.block _ (blk_lt HX0.out)).trans HX0.out)
      have hs1 : w.heap.size < w1.heap.size := blk_lt HX1.out
      have z6 : w1.cell? ⟨w.heap.size, 6, none⟩ = some (.slice A3 nm c3) := (blk_cell HX1.out 6).trans rfl
      clear hb1
      go_wp2_with fail
      refine (HKN.out w1 HB1.out).mono ?_
      rintro e w8 ⟨rfl, hb8⟩
      have HB8 := hid (HB1.out.trans (hb8.mono HB1.out.size))
      clear hb8
      go_wp2
      go_ret
      exact ⟨rfl, HB8.out⟩
    have f1 : decide ((nm : Int) > 30) = false := by simp; omega
    have HCK2 := hid (fun W hW hl => HCK.out W hW (by omega) (by omega) A2 c2 l hl (by have := HN.out.2.2.1; omega) HWL.out)
    rw [← HN.out.2.2.1] at HCK2
    have hcode := check_code v a l
    have HCUT := hid (fun h => check_cut (v := v) (a := a) (l := l) h)
    obtain ⟨⟨r, n⟩, hrn⟩ : ∃ r, checkR v a l = r := ⟨_, rfl⟩
    rw [hrn] at HCK2 HCUT
    clear hcode hrn
    by_cases hn0 : n = 0
    case neg =>
      have hn1 : (n != 0) = true := by simpa using hn0
      go_enter Tryd.func5, Tryd.ntmps5
      go_wp2_with fail
      obtain ⟨W0, hW0⟩ : ∃ W0, W0 = w.alloc (.cells (lkC m (.slice A3 nm c3)) 36) := ⟨_, rfl⟩
      have HB0 := hid (show Below w.heap.size w W0 by rw [hW0]; exact (Below.refl _ _).alloc (Nat.le_refl _) _)
      have HX0 := hid (show W0.heap[w.heap.size]? = some (.cells (lkC m (.slice A3 nm c3)) 36 (0, 0)) by rw [hW0]; exact heap_alloc_new _ _)
      rw [← hW0]
      clear hW0
      refine (HLG.out W0 HB0.out).mono ?_
      rintro e w1 ⟨rfl, hb1⟩
      have HB1 := hid (HB0.out.trans (hb1.mono HB0.out.size))
      have HX1 := hid ((hb1.block _ (blk_lt HX0.out)).trans HX0.out)
      have hs1 : w.heap.size < w1.heap.size := blk_lt HX1.out
      have z6 : w1.cell? ⟨w.heap.size, 6, none⟩ = some (.slice A3 nm c3) := (blk_cell HX1.out 6).trans rfl
      clear hb1
      go_wp2_with fail
      refine (HCK2.out w1 HB1.out (Kd.C_below (by rw [HN.out.2.2.1]; exact HL.out.2) HB1.out)).mono ?_
      rintro e w4 ⟨Ax, cx, rfl, hcx, hCx, hb4⟩
      have HB4 := hid (HB1.out.trans (hb4.mono HB1.out.size))
      clear hb4 hcx hCx
      go_wp2_with fail
      refine (HKN.out w4 HB4.out).mono ?_
      rintro e w8 ⟨rfl, hb8⟩
      have HB8 := hid (HB4.out.trans (hb8.mono HB4.out.size))
      clear hb8
      go_wp2
      go_ret
      exact ⟨rfl, HB8.out⟩
    subst hn0
    obtain ⟨q1, q2, q3⟩ := HCUT.out rfl
    have hl0 : nl ≠ 0 := by have := HN.out.2.2.1; omega
    have HCA := hid (fun W hW A c hls => HCK.out W hW (by omega) (by omega) A c (l.take (l.length - 1)) hls (by rw [List.length_take]; have := HN.out.2.2.1; omega) (fun x hx => HWL.out x (List.mem_of_mem_take hx)))
    have ht : (l.take (l.length - 1)).length = nl - 1 := by rw [List.length_take]; have := HN.out.2.2.1; omega
    have ht2 : (l ++ [m]).length = nl + 1 := by rw [List.length_append]; have := HN.out.2.2.1; simp; omega
    rw [q2, ht] at HCA
    have HT := hid ht
    have HT2 := hid ht2
    have HCB := hid (fun W hW A c hls => HCK.out W hW (by omega) (by omega) A c (l ++ [m]) hls (by rw [List.length_append]; have := HN.out.2.2.1; simp; omega) (fun x hx => by
      rcases List.mem_append.1 hx with h | h
      · exact HWL.out x h
      · obtain rfl : x = m := by simpa using h
        exact ⟨HWF.out.1, by have := HN.out.2.2.2; omega⟩))
    rw [q3 m, ht2] at HCB
    have g1 : ¬ (nl : Int) = 0 := by omega
    have g2 : ((nl : Int) == 0) = false := by simpa using g1
    have g3 : (nl : Int) ≥ 1 := by omega
    obtain ⟨i36, hi36, z36, y36, x36⟩ := info_parts info36c
    have HI := hid (And.intro hi36 (And.intro z36 (And.intro y36 x36)))
    clear ht ht2 q1 q2 q3 HCUT hi36 z36 y36 x36
    go_enter Tryd.func5, Tryd.ntmps5
    go_wp2_with fail
    obtain ⟨W0, hW0⟩ : ∃ W0, W0 = w.alloc (.cells (lkC m (.slice A3 nm c3)) 36) := ⟨_, rfl⟩
    have HB0 := hid (show Below w.heap.size w W0 by rw [hW0]; exact (Below.refl _ _).alloc (Nat.le_refl _) _)
    have HX0 := hid (show W0.heap[w.heap.size]? = some (.cells (lkC m (.slice A3 nm c3)) 36 (0, 0)) by rw [hW0]; exact heap_alloc_new _ _)
    rw [← hW0]
    clear hW0
    refine (HLG.out W0 HB0.out).mono ?_
    rintro e w1 ⟨rfl, hb1⟩
    have HB1 := hid (HB0.out.trans (hb1.mono HB0.out.size))
    have HX1 := hid ((hb1.block _ (blk_lt HX0.out)).trans HX0.out)
    have hs1 : w.heap.size < w1.heap.size := blk_lt HX1.out
    have z6 : w1.cell? ⟨w.heap.size, 6, none⟩ = some (.slice A3 nm c3) := (blk_cell HX1.out 6).trans rfl
    clear hb1
    go_wp2_with fail
    refine (HCK2.out w1 HB1.out (Kd.C_below (by rw [HN.out.2.2.1]; exact HL.out.2) HB1.out)).mono ?_
    rintro e w4 ⟨Ax, cx, rfl, hcx, hCx, hb4⟩
    have HB4 := hid (HB1.out.trans (hb4.mono HB1.out.size))
    have HX4 := hid ((hb4.block _ hs1).trans HX1.out)
    clear hb4 hcx hCx
    have hlc : nl ≤ c2 := by have := HL.out.1; have := HN.out.2.2.1; omega
    have hlc2 : (nl : Int) ≤ c2 := by omega
    go_wp2_with fail
    refine (HCA.out w4 HB4.out A2 c2 (by rw [← HT.out]; exact C_take (Kd.C_below HL.out.2 HB4.out) _ (by omega))).mono ?_
    rintro e w5 ⟨Ay, cy, rfl, hcy, hCy, hb5⟩
    have HB5 := hid (show Below w.heap.size w w5.drew from (HB4.out.trans (hb5.mono HB4.out.size)).drew)
    have HX5 := hid (show w5.drew.heap[w.heap.size]? = some (.cells (lkC m (.slice A3 nm c3)) 36 (0, 0)) from (hb5.block _ (blk_lt HX4.out)).trans HX4.out)
    clear hb5 hcy hCy
    have HSS := hid (fun (W : World) (h : W.heap[w.heap.size]? = some (.cells (lkC m (.slice A3 nm c3)) 36 (0, 0))) => (show (fun w' : World => w'.cell? ⟨w.heap.size, 0, none⟩ = some (.int .u8 m.f0) ∧ w'.cell? ⟨w.heap.size, 1, none⟩ = some (.int .i64 m.f1) ∧ w'.cell? ⟨w.heap.size, 2, none⟩ = some (.int .i64 m.f2) ∧ w'.cell? ⟨w.heap.size, 3, none⟩ = some (.int .i64 m.f3) ∧ w'.cell? ⟨w.heap.size, 4, none⟩ = some (.int .i64 m.f4) ∧ w'.cell? ⟨w.heap.size, 5, none⟩ = some (.int .i64 m.f5) ∧ w'.cell? ⟨w.heap.size, 6, none⟩ = some (.slice A3 nm c3)) W from ⟨(blk_cell h 0).trans rfl, (blk_cell h 1).trans rfl, (blk_cell h 2).trans rfl, (blk_cell h 3).trans rfl, (blk_cell h 4).trans rfl, (blk_cell h 5).trans rfl, (blk_cell h 6).trans rfl⟩))
    go_wp2_with fail
    have hSS := HSS.out _ HX5.out
    refine wp_region_noPanic ?_
    refine start_ (n := 14) (S := (fun w' : World => w'.cell? ⟨w.heap.size, 0, none⟩ = some (.int .u8 m.f0) ∧ w'.cell? ⟨w.heap.size, 1, none⟩ = some (.int .i64 m.f1) ∧ w'.cell? ⟨w.heap.size, 2, none⟩ = some (.int .i64 m.f2) ∧ w'.cell? ⟨w.heap.size, 3, none⟩ = some (.int .i64 m.f3) ∧ w'.cell? ⟨w.heap.size, 4, none⟩ = some (.int .i64 m.f4) ∧ w'.cell? ⟨w.heap.size, 5, none⟩ = some (.int .i64 m.f5) ∧ w'.cell? ⟨w.heap.size, 6, none⟩ = some (.slice A3 nm c3))) (ds := [7, 8]) #[false, false, false, false, false, false, false, false, false, false, false, false, false, false] (by kernel_rfl) rfl rfl hSS (fun hHeld => ?_)
    refine pure_ (i := 0) (N := some 53) (v := ?_) (a' := ?_) #[true, false, false, false, false, false, false, false, false, false, false, false, false, false] rfl rfl (by kernel_rfl) (fun _ _ _ h => h) (Or.inl ⟨by rfl, ?_⟩) ?_ ?_   -- move (%0)
    rotate_left
    · intro w'
      go_simp
      with_reducible rfl
    rotate_left
    · simp only [Act.put, List.setIfInBounds_toArray, List.set_cons_zero, List.set_cons_succ]
      rfl
    refine pure_ (i := 1) (N := some 54) (v := ?_) (a' := ?_) #[true, true, false, false, false, false, false, false, false, false, false, false, false, false] rfl rfl (by kernel_rfl) (fun _ _ _ h => h) (Or.inl ⟨by rfl, ?_⟩) ?_ ?_   -- move (%1)
    rotate_left
    · intro w'
      go_simp
      with_reducible rfl
    rotate_left
    · simp only [Act.put, List.setIfInBounds_toArray, List.set_cons_zero, List.set_cons_succ]
      rfl
    refine pure_ (i := 3) (N := some 56) (v := ?_) (a' := ?_) #[true, true, false, true, false, false, false, false, false, false, false, false, false, false] rfl rfl (by kernel_rfl) (fun _ _ _ h => h) (Or.inl ⟨by rfl, ?_⟩) ?_ ?_   -- move (%2)
    rotate_left
    · intro w'
      go_simp
      with_reducible rfl
    rotate_left
    · simp only [Act.put, List.setIfInBounds_toArray, List.set_cons_zero, List.set_cons_succ]
      rfl
    refine take_ (i := 5) (N := some 58) (v := ?_) (a' := ?_) #[true, true, false, true, false, true, false, false, false, false, false, false, false, false] rfl rfl (by kernel_rfl) (fun _ _ _ h => h) (Or.inl ⟨by rfl, ?_⟩) hHeld ?_ ?_   -- load 36 (%7)
    rotate_left
    · rintro w' ⟨s0, s1, s2, s3, s4, s5, s6⟩
      go_simp
      with_reducible rfl
    rotate_left
    · simp only [Act.put, List.setIfInBounds_toArray, List.set_cons_zero, List.set_cons_succ]
      rfl
    obtain ⟨W, hW⟩ : ∃ W, W = w5.drew := ⟨_, rfl⟩
    rw [← hW] at HB5 HX5 ⊢
    clear hW hSS
    have HL5 := hid (Kd.C_below HL.out.2 HB5.out)
    have HM5 := hid (Kd.C_below HM.out.2 HB5.out)
    have hsW : w.heap.size < W.heap.size := blk_lt HX5.out
    refine join_ 7 #[true, true, true, true, true, true, true, false, false, false, false, false, false, false] (fun s : Value × Value × Nat => [(55, s.1), (57, s.2.1), (59, .slice (some ⟨s.2.2, 0, none⟩) 1 1)]) (fun s w' => Own K3 36 W s.2.1 l w' ∧ w'.heap[s.2.2]? = some (.cells (lkC m (.slice A3 nm c3)) 36 (0, 0))) ?_ ?_
    · rintro ⟨v5, v7, b⟩ w' ⟨hO, hb⟩
      dsimp only at hO hb
      have HO := hid hO
      have HBK := hid hb
      clear hO hb
      refine last_ (i := 7) (N := some 60) #[true, true, true, true, true, true, true, true, false, false, false, false, false, false] rfl rfl (by kernel_rfl) (by decide) (fun K hK => ?_)
      refine step_push (d := K3) (w0 := W) (N := some 60) rfl rfl (.tmp 57) (.tmp 59) 24 (by rfl) 36 i36 (.agg #[.int .u8 0, .int .i64 0, .int .i64 0, .int .i64 0, .int .i64 0, .int .i64 0, .slice none 0 0]) 72 Tryd.underlying24 HI.out.1 HI.out.2.1 HI.out.2.2.1 HI.out.2.2.2 rfl (by decide) v7 l [m] ⟨b, 0, none⟩ 1 1 (nl + 1) (lkL m (.slice A3 nm c3)) rfl (by have := HN.out.2.2.1; omega) (by rfl) (by rfl) HO.out (by
        have h1 := lk_reps W (.none _ _) m (A6 := A3) (c6 := c3) HM.out.1 HM5.out
        rw [← HN.out.2.2.2] at h1
        exact h1) (blk_cells HBK.out) (by omega) (by decide) ?_
      intro A' c' w6 hO6 hg6 hat6
      have HO6 := hid hO6
      have HB6 := hid (HB5.out.trans (hO6.1.mono HB5.out.size))
      clear hO6 hg6 hat6
      refine hK.out _ _ ?_
      refine norm_ (a' := ?_) ?_ ?_
      rotate_left
      · simp only [Act.put, putAll, List.setIfInBounds_toArray, List.set_cons_zero, List.set_cons_succ]
        rfl
      refine last_ (i := 8) (N := some 61) #[true, true, true, true, true, true, true, true, true, false, false, false, false, false] rfl rfl (by kernel_rfl) (by decide) (fun K hK => ?_)
      have hC6 := own_C' HO6.out (by rw [HT2.out]; omega)
      refine goes_ Tryd.func11 (by kernel_rfl) rfl #[.slice A0 nv c0, .slice A1 na c1, .slice A' (nl + 1) c'] (by rfl) rfl rfl (by simp only [List.map_toArray, List.map_cons, List.map_nil]; rfl) ?_
      refine (HCB.out w6 HB6.out A' c' (by rw [← HT2.out]; exact hC6.2.2)).mono ?_
      rintro e w7 ⟨Az, cz, rfl, hcz, hCz, hb7⟩
      have HB7 := hid (HB6.out.trans (hb7.mono HB6.out.size))
      clear hb7 hcz hCz
      refine ⟨_, rfl, hK.out _ _ ?_⟩
      refine norm_ (a' := ?_) ?_ ?_
      rotate_left
      · simp only [Act.put, putAll, List.setIfInBounds_toArray, List.set_cons_zero, List.set_cons_succ]
        rfl
      refine pure_ (i := 9) (N := some 52) (v := ?_) (a' := ?_) #[true, true, true, true, true, true, true, true, true, true, false, false, false, false] rfl rfl (by kernel_rfl) (fun _ _ _ h => h) (Or.inl ⟨by rfl, ?_⟩) ?_ ?_   -- move (%61)
      rotate_left
      · intro w'
        go_simp
        with_reducible rfl
      rotate_left
      · simp only [Act.put, List.setIfInBounds_toArray, List.set_cons_zero, List.set_cons_succ]
        rfl
      refine pure_ (i := 10) (N := some 62) (v := ?_) (a' := ?_) #[true, true, true, true, true, true, true, true, true, true, true, false, false, false] rfl rfl (by kernel_rfl) (fun _ _ _ h => h) (Or.inl ⟨by rfl, ?_⟩) ?_ ?_   -- extract (%52) 0
      rotate_left
      · intro w'
        go_simp
        with_reducible rfl
      rotate_left
      · simp only [Act.put, List.setIfInBounds_toArray, List.set_cons_zero, List.set_cons_succ]
        rfl
      refine pure_ (i := 11) (N := some 63) (v := ?_) (a' := ?_) #[true, true, true, true, true, true, true, true, true, true, true, true, false, false] rfl rfl (by kernel_rfl) (fun _ _ _ h => h) (Or.inl ⟨by rfl, ?_⟩) ?_ ?_   -- extract (%52) 1
      rotate_left
      · intro w'
        go_simp
        with_reducible rfl
      rotate_left
      · simp only [Act.put, List.setIfInBounds_toArray, List.set_cons_zero, List.set_cons_succ]
        rfl
      refine pure_ (i := 12) (N := some 13) (v := ?_) (a' := ?_) #[true, true, true, true, true, true, true, true, true, true, true, true, true, false] rfl rfl (by kernel_rfl) (fun _ _ _ h => h) (Or.inl ⟨by rfl, ?_⟩) ?_ ?_   -- assign (%62)
      rotate_left
      · intro w'
        go_simp
        with_reducible rfl
      rotate_left
      · simp only [Act.put, List.setIfInBounds_toArray, List.set_cons_zero, List.set_cons_succ]
        rfl
      refine pure_ (i := 13) (N := some 14) (v := ?_) (a' := ?_) #[true, true, true, true, true, true, true, true, true, true, true, true, true, true] rfl rfl (by kernel_rfl) (fun _ _ _ h => h) (Or.inl ⟨by rfl, ?_⟩) ?_ ?_   -- assign (%63)
      rotate_left
      · intro w'
        go_simp
        with_reducible rfl
      rotate_left
      · simp only [Act.put, List.setIfInBounds_toArray, List.set_cons_zero, List.set_cons_succ]
        rfl
      refine done_ (by kernel_rfl) ?_
      try simp only [NoPanic, Exit.then]
      go_wp2_with fail
      refine (HKN.out w7 HB7.out).mono ?_
      rintro e w8 ⟨rfl, hb8⟩
      have HB8 := hid (HB7.out.trans (hb8.mono HB7.out.size))
      clear hb8
      go_wp2
      go_ret
      exact ⟨rfl, HB8.out⟩
    · intro hcont
      have HC := hid hcont
      clear hcont
      have HDW := hid (Below.refl W.heap.size W)
      have HXW := hid HX5.out
      refine two_ (i := 2) (j := 6) (Ni := some 55) (Nj := some 59) #[true, true, true, true, false, true, false, false, false, false, false, false, false, false] #[true, true, false, true, false, true, true, false, false, false, false, false, false, false] rfl rfl rfl rfl (by kernel_rfl) (by decide) (by decide) (fun K hK => ?_) (fun K hK => ?_)
      · refine value_ (by rfl) rfl (v := .slice (some ⟨W.heap.size, 0, none⟩) 0 0) (w1 := W.alloc (.cells #[] 36)) (by go_simp; first | done | rfl) ?_
        have HEX1 := hid (Own.made K3 36 (w0 := W) HDW.out)
        have HDX1 := hid (HDW.out.alloc HDW.out.size (.cells #[] 36))
        have HXX1 := hid ((heap_alloc_old _ (.cells #[] 36) (blk_lt HXW.out)).trans HXW.out)
        obtain ⟨e5, he5⟩ : ∃ e5, e5 = W.heap.size := ⟨_, rfl⟩
        have hse : e5 < (W.alloc (.cells #[] 36)).heap.size := by rw [he5]; simp
        skip
        obtain ⟨X1, hX1⟩ : ∃ u, u = W.alloc (.cells #[] 36) := ⟨_, rfl⟩
        rw [← hX1] at HEX1 HDX1 HXX1 hse  ⊢
        rw [← he5] at HEX1 ⊢
        refine hK.out _ _ (HSS.out _ HXX1.out) (fun _ => ?_)
        refine norm_ (a' := ?_) ?_ ?_
        rotate_left
        · simp only [Act.put, putAll, List.setIfInBounds_toArray, List.set_cons_zero, List.set_cons_succ]
          rfl
        refine two_ (i := 4) (j := 6) (Ni := some 57) (Nj := some 59) #[true, true, true, true, true, true, false, false, false, false, false, false, false, false] #[true, true, true, true, false, true, true, false, false, false, false, false, false, false] rfl rfl rfl rfl (by kernel_rfl) (by decide) (by decide) (fun K hK => ?_) (fun K hK => ?_)
        · refine step_appN (d := K3) (w0 := W) (N := some 57) rfl rfl (.tmp 55) (.tmp 56) 24 (by rfl) 36 i36 (.agg #[.int .u8 0, .int .i64 0, .int .i64 0, .int .i64 0, .int .i64 0, .int .i64 0, .slice none 0 0]) 72 Tryd.underlying24 HI.out.1 HI.out.2.1 HI.out.2.2.1 HI.out.2.2.2 rfl (by decide) (.slice (some ⟨e5, 0, none⟩) 0 0) [] l A2 c2 (by rfl) (by rw [← HN.out.2.2.1]; rfl) HEX1.out HL5.out (by simp only [maxLen, List.length_nil]; have := HN.out.2.2.1; omega) (by simp only [List.length_nil]; have := HN.out.2.2.1; omega) ?_
          intro v7 X2 hO hg
          have HDX2 := hid hO.1
          have HOX2 := hid (show Own K3 36 W v7 l X2 from hO)
          have HXX2 := hid ((hg.block _ (blk_lt HXX1.out) (by have := HEX1.out.lt e5 rfl; simp [Value.ownBlock]; omega)).trans HXX1.out)
          skip
          clear hO hg
          refine hK.out _ _ (HSS.out _ HXX2.out) (fun _ => ?_)
          refine norm_ (a' := ?_) ?_ ?_
          rotate_left
          · simp only [Act.put, putAll, List.setIfInBounds_toArray, List.set_cons_zero, List.set_cons_succ]
            rfl
          refine one_ (i := 6) (N := some 59) #[true, true, true, true, true, true, true, false, false, false, false, false, false, false] rfl rfl (by kernel_rfl) (by decide) (fun K hK => ?_)
          refine value_ (by rfl) rfl (v := .slice (some ⟨X2.heap.size, 0, none⟩) 1 1) (w1 := X2.alloc (.cells (lkC m (.slice A3 nm c3)) 36)) (by go_simp; first | done | rfl) ?_
          have HXX3 := hid ((heap_alloc_old _ (.cells (lkC m (.slice A3 nm c3)) 36) (blk_lt HXX2.out)).trans HXX2.out)
          have HQX3 := hid (heap_alloc_new X2 (.cells (lkC m (.slice A3 nm c3)) 36))
          have HDX3 := hid (HDX2.out.alloc HDX2.out.size (.cells (lkC m (.slice A3 nm c3)) 36))
          skip
          obtain ⟨b, hb⟩ : ∃ b, b = X2.heap.size := ⟨_, rfl⟩
          obtain ⟨X3, hX3⟩ : ∃ u, u = X2.alloc (.cells (lkC m (.slice A3 nm c3)) 36) := ⟨_, rfl⟩
          rw [← hX3] at HXX3 HQX3 HDX3  ⊢
          rw [← hb] at HQX3 ⊢
          refine hK.out _ _ (HSS.out _ HXX3.out) (fun _ => ?_)
          
          refine norm_ (a' := ?_) ?_ ?_
          rotate_left
          · simp only [Act.put, putAll, List.setIfInBounds_toArray, List.set_cons_zero, List.set_cons_succ]
            rfl
          have HOX3 := hid (HOX2.out.move ((Below.refl _ _).alloc (Nat.le_refl _) (.cells (lkC m (.slice A3 nm c3)) 36)))
          rw [← hX3] at HOX3
          refine norm_ ?_ (HC.out (.slice (some ⟨e5, 0, none⟩) 0 0, v7, b) _ ⟨HOX3.out, HQX3.out⟩)
          rfl
        · refine value_ (by rfl) rfl (v := .slice (some ⟨X1.heap.size, 0, none⟩) 1 1) (w1 := X1.alloc (.cells (lkC m (.slice A3 nm c3)) 36)) (by go_simp; first | done | rfl) ?_
          have HXX2 := hid ((heap_alloc_old _ (.cells (lkC m (.slice A3 nm c3)) 36) (blk_lt HXX1.out)).trans HXX1.out)
          have HQX2 := hid (heap_alloc_new X1 (.cells (lkC m (.slice A3 nm c3)) 36))
          have HDX2 := hid (HDX1.out.alloc HDX1.out.size (.cells (lkC m (.slice A3 nm c3)) 36))
          have HEX2 := hid (HEX1.out.move ((Below.refl _ _).alloc (Nat.le_refl _) (.cells (lkC m (.slice A3 nm c3)) 36)))
          obtain ⟨b, hb⟩ : ∃ b, b = X1.heap.size := ⟨_, rfl⟩
          obtain ⟨X2, hX2⟩ : ∃ u, u = X1.alloc (.cells (lkC m (.slice A3 nm c3)) 36) := ⟨_, rfl⟩
          rw [← hX2] at HXX2 HQX2 HDX2 HEX2 ⊢
          rw [← hb] at HQX2 ⊢
          refine hK.out _ _ (HSS.out _ HXX2.out) (fun _ => ?_)
          
          refine norm_ (a' := ?_) ?_ ?_
          rotate_left
          · simp only [Act.put, putAll, List.setIfInBounds_toArray, List.set_cons_zero, List.set_cons_succ]
            rfl
          have hbe : e5 < b := by omega
          refine one_ (i := 4) (N := some 57) #[true, true, true, true, true, true, true, false, false, false, false, false, false, false] rfl rfl (by kernel_rfl) (by decide) (fun K hK => ?_)
          refine step_appN (d := K3) (w0 := W) (N := some 57) rfl rfl (.tmp 55) (.tmp 56) 24 (by rfl) 36 i36 (.agg #[.int .u8 0, .int .i64 0, .int .i64 0, .int .i64 0, .int .i64 0, .int .i64 0, .slice none 0 0]) 72 Tryd.underlying24 HI.out.1 HI.out.2.1 HI.out.2.2.1 HI.out.2.2.2 rfl (by decide) (.slice (some ⟨e5, 0, none⟩) 0 0) [] l A2 c2 (by rfl) (by rw [← HN.out.2.2.1]; rfl) HEX2.out HL5.out (by simp only [maxLen, List.length_nil]; have := HN.out.2.2.1; omega) (by simp only [List.length_nil]; have := HN.out.2.2.1; omega) ?_
          intro v7 X3 hO hg
          have HDX3 := hid hO.1
          have HOX3 := hid (show Own K3 36 W v7 l X3 from hO)
          have HXX3 := hid ((hg.block _ (blk_lt HXX2.out) (by have := HEX2.out.lt e5 rfl; simp [Value.ownBlock]; omega)).trans HXX2.out)
          have HQX3 := hid ((hg.block _ (blk_lt HQX2.out) (by simp [Value.ownBlock]; omega)).trans HQX2.out)
          clear hO hg
          refine hK.out _ _ (HSS.out _ HXX3.out) (fun _ => ?_)
          refine norm_ (a' := ?_) ?_ ?_
          rotate_left
          · simp only [Act.put, putAll, List.setIfInBounds_toArray, List.set_cons_zero, List.set_cons_succ]
            rfl
          refine norm_ ?_ (HC.out (.slice (some ⟨e5, 0, none⟩) 0 0, v7, b) _ ⟨HOX3.out, HQX3.out⟩)
          rfl
      · refine value_ (by rfl) rfl (v := .slice (some ⟨W.heap.size, 0, none⟩) 1 1) (w1 := W.alloc (.cells (lkC m (.slice A3 nm c3)) 36)) (by go_simp; first | done | rfl) ?_
        have HXX1 := hid ((heap_alloc_old _ (.cells (lkC m (.slice A3 nm c3)) 36) (blk_lt HXW.out)).trans HXW.out)
        have HQX1 := hid (heap_alloc_new W (.cells (lkC m (.slice A3 nm c3)) 36))
        have HDX1 := hid (HDW.out.alloc HDW.out.size (.cells (lkC m (.slice A3 nm c3)) 36))
        skip
        obtain ⟨b, hb⟩ : ∃ b, b = W.heap.size := ⟨_, rfl⟩
        obtain ⟨X1, hX1⟩ : ∃ u, u = W.alloc (.cells (lkC m (.slice A3 nm c3)) 36) := ⟨_, rfl⟩
        rw [← hX1] at HXX1 HQX1 HDX1  ⊢
        rw [← hb] at HQX1 ⊢
        refine hK.out _ _ (HSS.out _ HXX1.out) (fun _ => ?_)
        
        refine norm_ (a' := ?_) ?_ ?_
        rotate_left
        · simp only [Act.put, putAll, List.setIfInBounds_toArray, List.set_cons_zero, List.set_cons_succ]
          rfl
        refine one_ (i := 2) (N := some 55) #[true, true, true, true, false, true, true, false, false, false, false, false, false, false] rfl rfl (by kernel_rfl) (by decide) (fun K hK => ?_)
        refine value_ (by rfl) rfl (v := .slice (some ⟨X1.heap.size, 0, none⟩) 0 0) (w1 := X1.alloc (.cells #[] 36)) (by go_simp; first | done | rfl) ?_
        have HEX2 := hid (Own.made K3 36 (w0 := W) HDX1.out)
        have HDX2 := hid (HDX1.out.alloc HDX1.out.size (.cells #[] 36))
        have HXX2 := hid ((heap_alloc_old _ (.cells #[] 36) (blk_lt HXX1.out)).trans HXX1.out)
        obtain ⟨e5, he5⟩ : ∃ e5, e5 = X1.heap.size := ⟨_, rfl⟩
        have hse : e5 < (X1.alloc (.cells #[] 36)).heap.size := by rw [he5]; simp
        have HQX2 := hid ((heap_alloc_old _ (.cells #[] 36) (blk_lt HQX1.out)).trans HQX1.out)
        have hbe : b < e5 := by have := blk_lt HQX1.out; omega
        obtain ⟨X2, hX2⟩ : ∃ u, u = X1.alloc (.cells #[] 36) := ⟨_, rfl⟩
        rw [← hX2] at HEX2 HDX2 HXX2 hse HQX2 ⊢
        rw [← he5] at HEX2 ⊢
        refine hK.out _ _ (HSS.out _ HXX2.out) (fun _ => ?_)
        refine norm_ (a' := ?_) ?_ ?_
        rotate_left
        · simp only [Act.put, putAll, List.setIfInBounds_toArray, List.set_cons_zero, List.set_cons_succ]
          rfl
        refine one_ (i := 4) (N := some 57) #[true, true, true, true, true, true, true, false, false, false, false, false, false, false] rfl rfl (by kernel_rfl) (by decide) (fun K hK => ?_)
        refine step_appN (d := K3) (w0 := W) (N := some 57) rfl rfl (.tmp 55) (.tmp 56) 24 (by rfl) 36 i36 (.agg #[.int .u8 0, .int .i64 0, .int .i64 0, .int .i64 0, .int .i64 0, .int .i64 0, .slice none 0 0]) 72 Tryd.underlying24 HI.out.1 HI.out.2.1 HI.out.2.2.1 HI.out.2.2.2 rfl (by decide) (.slice (some ⟨e5, 0, none⟩) 0 0) [] l A2 c2 (by rfl) (by rw [← HN.out.2.2.1]; rfl) HEX2.out HL5.out (by simp only [maxLen, List.length_nil]; have := HN.out.2.2.1; omega) (by simp only [List.length_nil]; have := HN.out.2.2.1; omega) ?_
        intro v7 X3 hO hg
        have HDX3 := hid hO.1
        have HOX3 := hid (show Own K3 36 W v7 l X3 from hO)
        have HXX3 := hid ((hg.block _ (blk_lt HXX2.out) (by have := HEX2.out.lt e5 rfl; simp [Value.ownBlock]; omega)).trans HXX2.out)
        have HQX3 := hid ((hg.block _ (blk_lt HQX2.out) (by simp [Value.ownBlock]; omega)).trans HQX2.out)
        clear hO hg
        refine hK.out _ _ (HSS.out _ HXX3.out) (fun _ => ?_)
        refine norm_ (a' := ?_) ?_ ?_
        rotate_left
        · simp only [Act.put, putAll, List.setIfInBounds_toArray, List.set_cons_zero, List.set_cons_succ]
          rfl
        refine norm_ ?_ (HC.out (.slice (some ⟨e5, 0, none⟩) 0 0, v7, b) _ ⟨HOX3.out, HQX3.out⟩)
        rfl
end Go.Proofs.YtpopohkbffhckaaDoor.KL
