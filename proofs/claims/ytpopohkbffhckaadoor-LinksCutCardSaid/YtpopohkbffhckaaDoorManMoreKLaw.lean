/- Walk of the law LinksMore. -/
import Derived.Test.YtpopohkbffhckaaDoorLkK
import Derived.Test.YtpopohkbffhckaaDoorPLg
import Derived.Outline
namespace Go.Proofs.YtpopohkbffhckaaDoor.KL
open Go.Proofs.YtpopohkbffhckaaDoor.Pure Go.RowKit Go.Proofs.YtpopohkbffhckaaDoorW.PrintWords Go.Proofs.YtpopohkbffhckaaDoorW.PrintLast Go.Proofs.YtpopohkbffhckaaDoorW.PrintMore Go.Proofs.YtpopohkbffhckaaDoor.MM Go.Proofs.YtpopohkbffhckaaDoor.Hk Go.Proofs.YtpopohkbffhckaaDoor.RC
set_option linter.unusedSimpArgs false
set_option linter.unusedVariables false
theorem check_code (v : List Vx) (a : List At) (l : List Lk) : (checkR v a l).2 = 0 ∨ (checkR v a l).2 = 2 ∨ (checkR v a l).2 = 5 := by
  unfold checkR
  split
  · exact .inr (.inl rfl)
  · split
    · exact .inr (.inr rfl)
    · exact .inl rfl
theorem check_ok {v : List Vx} {a : List At} {l : List Lk} (h : (checkR v a l).2 = 0) : mayM v a = true ∧ ∃ s, goM v a [] [] false l = some s ∧ checkR v a l = (LF.canon s, 0) := by
  unfold checkR at h ⊢
  by_cases hm : mayM v a = false
  · rw [if_pos hm] at h; cases h
  · rw [if_neg hm] at h ⊢
    cases hg : goM v a [] [] false l with
    | none => rw [hg] at h; cases h
    | some s => exact ⟨by simpa using hm, s, rfl, rfl⟩
theorem check_len (v : List Vx) (a : List At) (l : List Lk) : (checkR v a l).1.length ≤ l.length := by
  unfold checkR
  split
  · simp
  · split
    · simp
    · rename_i s hs
      have h1 := go_snoc_lits l _ _ _ _ hs
      have h2 := LF.length_canon_le s
      simp at h1
      show (LF.canon s).length ≤ _
      omega
theorem check_more {v u : List Vx} {a b : List At} {l : List Lk} (h : (checkR v a l).2 = 0) (hm : mayM (v ++ u) (a ++ b) = true) : checkR (v ++ u) (a ++ b) l = checkR v a l := by
  obtain ⟨h1, s, h2, h3⟩ := check_ok h
  rw [h3]
  unfold checkR
  rw [hm, chk_more u b l _ _ _ _ h2]
  rfl
theorem info46' : (Tryd.prog.info? 46).map (fun i => (i.zero, i.size, i.bytes)) = some (some (.agg #[.int .i64 0, .slice none 0 0, .int .i64 0, .int .i64 0, .int .i64 0]), 5, 56) := by kernel_rfl
theorem info66' : (Tryd.prog.info? 66).map (fun i => (i.zero, i.size, i.bytes)) = some (some (.agg #[.int .u8 0, .int .i64 0, .int .i64 0, .int .i64 0]), 4, 32) := by kernel_rfl
/-- An append to a row of the call's own, at a plain region: what stood below B stays. -/
theorem app_C {α : Type} {d : Kd α} {w0 W : World} {ops : Array Oper} {rest : List Oper} {o : Oper} {a : Act} {Q : Exit → Act → World → Prop} (hgd : o.guard = none) (s x : Operand) (t : TypeId)
    (ho : o.op = .call { callee := .builtin .append, args := #[s, x], argTypes := #[t, t] }) (e : TypeId) (i : TypeInfo) (z : Value) (bytes : Nat) (ht : Tryd.prog.underlying t = some (.slice e)) (hi : Tryd.prog.info? e = some i) (hz : i.zero = some z)
    (hsize : i.size = d.sz) (hby : i.bytes = bytes) (hbb : bytes ≤ 1000) (hzs : z.cells.size = d.sz) (hsz : 0 < d.sz) (B : Nat) (Wb : World) (v : Value) (l ys : List α) (A : Option Addr) (c n m : Nat) (hn : n = ys.length) (hm : m = l.length + n) (hs : a.eval s = v) (hx : a.eval x = .slice A n c) (h : Own d e w0 v l W) (hy : d.C w0 A ys.length ys)
    (hlen : m ≤ 1000000) (hB : B ≤ W.heap.size) (hBb : Below B Wb W) (hv : ∀ g, v.ownBlock = some g → B ≤ g)
    (hK : ∀ A' c' w', Own d e w0 (.slice A' m c') (l ++ ys) w' → Below B Wb w' → B ≤ w'.heap.size → (∀ g, Value.ownBlock (.slice A' m c') = some g → B ≤ g) → wpList Tryd.prog ops Q rest (a.put o.dst (.slice A' m c')) w') : wpList Tryd.prog ops Q (o :: rest) a W := by
  subst hn hm
  refine wpList_append_C hgd s x t ho e i z bytes ht hi hz hsize hby hzs hsz hs hx h hy (by simp only [maxLen]; omega) (Nat.le_trans (Nat.mul_le_mul hlen hbb) (by decide)) fun v' w' ho' hg hat => ?_
  obtain ⟨A', c', hv', _, _⟩ := ho'.C (by rw [List.length_append]; omega)
  rw [List.length_append] at hv'
  subst hv'
  refine hK A' c' w' ho' (hBb.grown hg hB hv) (Nat.le_trans hB hg.size) fun g hg' => ?_
  rcases hat with h1 | h1
  · exact hv g (h1.symm.trans hg')
  · have : W.heap.size = g := Option.some.inj (h1.symm.trans hg')
    omega
theorem own_C' {α : Type} {d : Kd α} {e : TypeId} {w0 w : World} {A : Option Addr} {n c : Nat} {l : List α} (h : Own d e w0 (.slice A n c) l w) (hn : l.length ≤ 9223372036854775807) : n = l.length ∧ l.length ≤ c ∧ d.C w A l.length l := by
  obtain ⟨A', c', he, hc, hC⟩ := h.C hn
  injection he with e1 e2 e3
  subst e1 e3
  exact ⟨e2, hc, hC⟩
/-- The end of a law: known. -/
def True1 (w : World) (e : Ending) (w' : World) : Prop := e = .returned (.bool true) ∧ Below w.heap.size w w'
set_option maxRecDepth 100000 in
set_option maxHeartbeats 6400000 in
theorem more_law (A0 : Option Addr) (c0 : Nat) (v : List Vx) (A1 : Option Addr) (c1 : Nat) (u : List Vx) (A2 : Option Addr) (c2 : Nat) (a : List At) (A3 : Option Addr) (c3 : Nat) (b : List At) (A4 : Option Addr) (c4 : Nat) (l : List Lk) (w : World)
    (hv : Kd.C k46 w A0 v.length v) (hc0 : v.length ≤ c0) (hu : Kd.C k46 w A1 u.length u) (hc1 : u.length ≤ c1) (ha : Kd.C k66 w A2 a.length a) (hc2 : a.length ≤ c2) (hb : Kd.C k66 w A3 b.length b) (hc3 : b.length ≤ c3) (hl : Kd.C k36 w A4 l.length l) (hc4 : l.length ≤ c4)
    (hno : Noth w) (bv : v.length < 4611686018427387904) (bu : u.length < 4611686018427387904) (bl : l.length < 4611686018427387904) (hwf : ∀ x ∈ l, (Lit.int .i64 x.f1).wf = true) :
    Calls Tryd.prog 6 #[.slice A0 v.length c0, .slice A1 u.length c1, .slice A2 a.length c2, .slice A3 b.length c3, .slice A4 l.length c4] w (True1 w) := by
  have HKN := hid (fun W (hW : Below w.heap.size w W) => known_calls W (hno.below hW hno.pos))
  have HLG := hid (large_calls A0 c0 v A2 c2 a A4 c4 l w hv hc0 ha hc2 hl hc4 bv bl)
  have HLG2 := hid (fun W (hW : Below w.heap.size w W) => large_calls A1 c1 u A3 c3 b none 0 [] W (Kd.C_below hu hW) hc1 (Kd.C_below hb hW) hc3 ⟨rfl, by simp, fun h => absurd h (by simp)⟩ (Nat.le_refl _) bu (by simp))
  have HCK := hid (fun W (hW : Below w.heap.size w W) (h1 : v.length ≤ 1000) (h2 : a.length ≤ 1000) (h3 : l.length ≤ 1000) (h4 : ∀ x ∈ l, (Lit.int .i64 x.f1).wf = true ∧ x.f6.length ≤ 1000) => check_calls A0 c0 v A2 c2 a A4 c4 l W (Kd.C_below hv hW) hc0 (Kd.C_below ha hW) hc2 (Kd.C_below hl hW) (hno.below hW hno.pos) h1 h2 h3 h4)
  have HV := hid (And.intro hc0 hv)
  have HU := hid (And.intro hc1 hu)
  have HA := hid (And.intro hc2 ha)
  have HB0 := hid (And.intro hc3 hb)
  have HL := hid (And.intro hc4 hl)
  have HNO := hid hno
  have HWF := hid hwf
  obtain ⟨nv, hnv⟩ : ∃ n, n = v.length := ⟨_, rfl⟩
  obtain ⟨nu, hnu⟩ : ∃ n, n = u.length := ⟨_, rfl⟩
  obtain ⟨na, hna⟩ : ∃ n, n = a.length := ⟨_, rfl⟩
  obtain ⟨nb, hnb⟩ : ∃ n, n = b.length := ⟨_, rfl⟩
  obtain ⟨nl, hnl⟩ : ∃ n, n = l.length := ⟨_, rfl⟩
  have bb : nb ≤ 9223372036854775807 := by rw [hnb]; exact hb.2.1
  have bu' : nu < 4611686018427387904 := by rw [hnu]; exact bu
  rw [← hnv, ← hna, ← hnl] at HLG
  rw [← hnu, ← hnb] at HLG2
  rw [← hnv, ← hna, ← hnl] at HCK
  rw [← hnv, ← hnu, ← hna, ← hnb, ← hnl]
  have HN := hid (And.intro hnv (And.intro hnu (And.intro hna (And.intro hnb hnl))))
  clear hv hc0 hu hc1 ha hc2 hb hc3 hl hc4 hno bv bu bl hwf hnv hnu hna hnb hnl
  cases hlg : largeM v a l with
  | true =>
    rw [hlg] at HLG
    clear hlg
    go_enter Tryd.func6, Tryd.ntmps6
    go_wp2_with fail
    refine HLG.out.mono ?_
    rintro e w1 ⟨rfl, hb1⟩
    have HB1 := hid hb1
    clear hb1
    go_wp2_with fail
    refine (HKN.out w1 HB1.out).mono ?_
    rintro e w2 ⟨rfl, hb2⟩
    have HB2 := hid (HB1.out.trans (hb2.mono HB1.out.size))
    clear hb2
    go_wp2
    go_ret
    exact ⟨rfl, HB2.out⟩
  | false =>
    have hlf := large_false hlg
    rw [hlg] at HLG
    have hv100 : nv ≤ 100 := by have := HN.out.1; omega
    have ha200 : na ≤ 200 := by have := HN.out.2.2.1; omega
    have hl300 : nl ≤ 300 := by have := HN.out.2.2.2.2; omega
    have HWL := hid (show ∀ x ∈ l, (Lit.int .i64 x.f1).wf = true ∧ x.f6.length ≤ 1000 from fun x hx => ⟨HWF.out x hx, by have := hlf.2.2.2.2 x hx; omega⟩)
    clear hlg hlf
    by_cases hu20 : nu > 20
    · have f1 : decide ((nu : Int) > 20) = true := by simp; omega
      go_enter Tryd.func6, Tryd.ntmps6
      go_wp2_with fail
      refine HLG.out.mono ?_
      rintro e w1 ⟨rfl, hb1⟩
      have HB1 := hid hb1
      clear hb1
      go_wp2_with fail
      refine (HKN.out w1 HB1.out).mono ?_
      rintro e w2 ⟨rfl, hb2⟩
      have HB2 := hid (HB1.out.trans (hb2.mono HB1.out.size))
      clear hb2
      go_wp2
      go_ret
      exact ⟨rfl, HB2.out⟩
    have f1 : decide ((nu : Int) > 20) = false := by simp; omega
    by_cases hb20 : nb > 20
    · have f2 : decide ((nb : Int) > 20) = true := by simp; omega
      go_enter Tryd.func6, Tryd.ntmps6
      go_wp2_with fail
      refine HLG.out.mono ?_
      rintro e w1 ⟨rfl, hb1⟩
      have HB1 := hid hb1
      clear hb1
      go_wp2_with fail
      refine (HKN.out w1 HB1.out).mono ?_
      rintro e w2 ⟨rfl, hb2⟩
      have HB2 := hid (HB1.out.trans (hb2.mono HB1.out.size))
      clear hb2
      go_wp2
      go_ret
      exact ⟨rfl, HB2.out⟩
    have f2 : decide ((nb : Int) > 20) = false := by simp; omega
    cases hlg2 : largeM u b [] with
    | true =>
      rw [hlg2] at HLG2
      clear hlg2
      go_enter Tryd.func6, Tryd.ntmps6
      go_wp2_with fail
      refine HLG.out.mono ?_
      rintro e w1 ⟨rfl, hb1⟩
      have HB1 := hid hb1
      clear hb1
      go_wp2_with fail
      refine (HLG2.out w1 HB1.out).mono ?_
      rintro e w3 ⟨rfl, hb3⟩
      have HB3 := hid (HB1.out.trans (hb3.mono HB1.out.size))
      clear hb3
      go_wp2_with fail
      refine (HKN.out w3 HB3.out).mono ?_
      rintro e w2 ⟨rfl, hb2⟩
      have HB2 := hid (HB3.out.trans (hb2.mono HB3.out.size))
      clear hb2
      go_wp2
      go_ret
      exact ⟨rfl, HB2.out⟩
    | false =>
      rw [hlg2] at HLG2
      clear hlg2
      have HCK2 := hid (fun W hW => HCK.out W hW (by omega) (by omega) (by omega) HWL.out)
      obtain ⟨⟨r, n⟩, hrn⟩ : ∃ r, checkR v a l = r := ⟨_, rfl⟩
      have hcode := check_code v a l
      have hlen := check_len v a l
      have HMO := hid (fun (h0 : n = 0) (hm : mayM (v ++ u) (a ++ b) = true) => (check_more (u := u) (b := b) (l := l) (by rw [hrn]; exact h0) hm).trans hrn)
      rw [hrn] at HCK2 hcode hlen
      have hlen' : r.length ≤ 300 := by have h1 := HN.out.2.2.2.2; replace hlen : r.length ≤ l.length := hlen; omega
      clear hlen
      clear hrn HCK
      obtain ⟨i46, hi46, z46, y46, x46⟩ := info_parts info46'
      obtain ⟨i66, hi66, z66, y66, x66⟩ := info_parts info66'
      have HI := hid (And.intro hi46 (And.intro z46 (And.intro y46 (And.intro x46 (And.intro hi66 (And.intro z66 (And.intro y66 x66)))))))
      clear hi46 z46 y46 x46 hi66 z66 y66 x66
      go_enter Tryd.func6, Tryd.ntmps6
      go_wp2_with fail
      refine HLG.out.mono ?_
      rintro e w1 ⟨rfl, hb1⟩
      have HB1 := hid hb1
      clear hb1
      go_wp2_with fail
      refine (HLG2.out w1 HB1.out).mono ?_
      rintro e w3 ⟨rfl, hb3⟩
      have HB3 := hid (HB1.out.trans (hb3.mono HB1.out.size))
      clear hb3
      go_wp2_with fail
      refine (HCK2.out w3 HB3.out).mono ?_
      rintro e w4 ⟨Ax, cx, rfl, hcx, hCx, hb4⟩
      have HX := hid (And.intro hcx hCx)
      have HB4 := hid (HB3.out.trans (hb4.mono HB3.out.size))
      clear hb4 hcx hCx
      obtain ⟨nr, hnr⟩ : ∃ n, n = r.length := ⟨_, rfl⟩
      try simp only [← hnr]
      have HNR := hid hnr
      have hnr' : nr ≤ 300 := by omega
      clear hnr hlen'
      have hlA : nv + nu ≤ 1000000 := by omega
      have hlB : na + nb ≤ 1000000 := by omega
      rcases hcode with rfl | rfl | rfl
      · go_wp2_with (first | (at_builtin; (refine app_C rfl (.tmp 45) (.tmp 46) 22 rfl 46 i46 _ 56 Tryd.underlying22 HI.out.1 HI.out.2.1 HI.out.2.2.1 HI.out.2.2.2.1 (by omega) rfl (by decide) w4.heap.size w4 (.slice (some ⟨w4.heap.size, 0, none⟩) 0 0) [] v A0 c0 nv nv HN.out.1 (by simp) (by rfl) (by rfl) (Own.made _ _ HB4.out) HV.out.2 (by omega) (by simp) ((Below.refl _ _).alloc (Nat.le_refl _) _) (by intro g hg; have : w4.heap.size = g := (by simpa [Value.ownBlock] using hg); omega) ?_; intro A5 c5 w5 ho5 hb5 hs5 hg5; have HO5 := hid ho5; have HB5 := hid hb5; have HG5 := hid (And.intro hs5 hg5); clear ho5 hb5 hg5)) | (at_builtin; (refine app_C rfl (.tmp 47) (.tmp 48) 22 rfl 46 i46 _ 56 Tryd.underlying22 HI.out.1 HI.out.2.1 HI.out.2.2.1 HI.out.2.2.2.1 (by omega) rfl (by decide) w4.heap.size w4 (.slice A5 nv c5) ([] ++ v) u A1 c1 nu (nv + nu) HN.out.2.1 (by have := HN.out.1; simp; omega) (by rfl) (by rfl) HO5.out HU.out.2 hlA HG5.out.1 HB5.out HG5.out.2 ?_; intro A6 c6 w6 ho6 hb6 hs6 hg6; have HO6 := hid ho6; have HB6 := hid hb6; have HG6 := hid (And.intro hs6 hg6); clear ho6 hb6 hg6 HO5 HB5 HG5 hs5)) | (at_builtin; (refine app_C rfl (.tmp 50) (.tmp 51) 23 rfl 66 i66 _ 32 Tryd.underlying23 HI.out.2.2.2.2.1 HI.out.2.2.2.2.2.1 HI.out.2.2.2.2.2.2.1 HI.out.2.2.2.2.2.2.2 (by omega) rfl (by decide) w6.heap.size w6 (.slice (some ⟨w6.heap.size, 0, none⟩) 0 0) [] a A2 c2 na na HN.out.2.2.1 (by simp) (by rfl) (by rfl) (Own.made _ _ (HB4.out.trans (HB6.out.mono HB4.out.size))) HA.out.2 (by omega) (by simp) ((Below.refl _ _).alloc (Nat.le_refl _) _) (by intro g hg; have : w6.heap.size = g := (by simpa [Value.ownBlock] using hg); omega) ?_; intro A5 c5 w5 ho5 hb5 hs5 hg5; have HO5 := hid ho5; have HB5 := hid hb5; have HG5 := hid (And.intro hs5 hg5); clear ho5 hb5 hg5)) | (at_builtin; (refine app_C rfl (.tmp 52) (.tmp 53) 23 rfl 66 i66 _ 32 Tryd.underlying23 HI.out.2.2.2.2.1 HI.out.2.2.2.2.2.1 HI.out.2.2.2.2.2.2.1 HI.out.2.2.2.2.2.2.2 (by omega) rfl (by decide) w6.heap.size w6 (.slice A5 na c5) ([] ++ a) b A3 c3 nb (na + nb) HN.out.2.2.2.1 (by have := HN.out.2.2.1; simp; omega) (by rfl) (by rfl) HO5.out HB0.out.2 hlB HG5.out.1 HB5.out HG5.out.2 ?_; intro A7 c7 w7 ho7 hb7 hs7 hg7; have HO7 := hid ho7; have HB7 := hid hb7; clear ho7 hb7 hg7 HO5 HB5 HG5 hs5)))
        have HBW7 := hid (HB4.out.trans ((HB6.out.trans (HB7.out.mono HB6.out.size)).mono HB4.out.size))
        have hO6 := own_C' (HO6.out.move HB7.out) (by have := HN.out.1; have := HN.out.2.1; simp; omega)
        have hO7 := own_C' HO7.out (by have := HN.out.2.2.1; have := HN.out.2.2.2.1; simp; omega)
        simp only [List.nil_append] at hO6 hO7
        have HMY := hid (may_calls A6 c6 (v ++ u) A7 c7 (a ++ b) w7 hO6.2.2 hO7.2.2)
        rw [← hO6.1, ← hO7.1] at HMY
        have HO67 := hid (And.intro hO6 hO7)
        clear hO6 hO7 HO6 HO7 hs6 hs7
        obtain ⟨bm, hbm⟩ : ∃ bm, mayM (v ++ u) (a ++ b) = bm := ⟨_, rfl⟩
        rw [hbm] at HMY
        refine HMY.out.mono ?_
        rintro e w8 ⟨rfl, hb8⟩
        have HB8' := hid hb8
        have HB8 := hid (HBW7.out.trans (hb8.mono HBW7.out.size))
        clear hb8 HMY
        cases bm with
        | false =>
          go_wp2_with fail
          refine (HKN.out w8 HB8.out).mono ?_
          rintro e w9 ⟨rfl, hb9⟩
          have HB9 := hid (HB8.out.trans (hb9.mono HB8.out.size))
          clear hb9
          go_wp2
          go_ret
          exact ⟨rfl, HB9.out⟩
        | true =>
          have HR2 := hid (HMO.out (by first | trivial | rfl) hbm)
          have HCY := hid (check_calls A6 c6 (v ++ u) A7 c7 (a ++ b) A4 c4 l w8 (Kd.C_below HO67.out.1.2.2 HB8'.out) HO67.out.1.2.1 (Kd.C_below HO67.out.2.2.2 HB8'.out) HO67.out.2.2.1 (Kd.C_below HL.out.2 HB8.out) (HNO.out.below HB8.out HNO.out.pos) (by have := HO67.out.1.1; omega) (by have := HO67.out.2.1; omega) (by have := HN.out.2.2.2.2; omega) HWL.out)
          rw [HR2.out, ← HO67.out.1.1, ← HO67.out.2.1, ← HN.out.2.2.2.2] at HCY
          clear hbm
          go_wp2_with fail
          refine HCY.out.mono ?_
          rintro e w9 ⟨Ay, cy, rfl, hcy, hCy, hb9⟩
          have HY := hid (And.intro hcy hCy)
          have HB9 := hid (HB8.out.trans (hb9.mono HB8.out.size))
          have HB49 := hid (((HB6.out.trans (HB7.out.mono HB6.out.size)).trans (HB8'.out.mono (HB6.out.trans (HB7.out.mono HB6.out.size)).size)).trans (hb9.mono ((HB6.out.trans (HB7.out.mono HB6.out.size)).trans (HB8'.out.mono (HB6.out.trans (HB7.out.mono HB6.out.size)).size)).size))
          clear hb9 hcy hCy HCY
          try simp only [← HNR.out]
          go_wp2_with fail
          go_loopg [17, 82] nr (fun left v17 v82 wr => ∃ i : Nat, i + left = nr ∧ v82 = .int .i64 i ∧ Hid (Below w9.heap.size w9 wr))
          case atStart => exact ⟨0, by omega, rfl, hid (Below.refl _ _)⟩
          case round =>
            obtain ⟨i, hi, rfl, HW⟩ := hrel
            have HBR := hid (HB9.out.trans (HW.out.mono HB9.out.size))
            cases gk with
            | zero =>
              have hin : ¬ ((i : Int) < (nr : Int)) := by omega
              go_wp2_with fail
              refine (HKN.out wr HBR.out).mono ?_
              rintro e w10 ⟨rfl, hb10⟩
              have HB10 := hid (HBR.out.trans (hb10.mono HBR.out.size))
              clear hb10
              go_wp2
              go_ret
              exact ⟨rfl, HB10.out⟩
            | succ left =>
              have hin : (i : Int) < (nr : Int) := by omega
              obtain ⟨ax, rfl, q0⟩ := Kd.at_int (Kd.C_below HX.out.2 (HB49.out.trans (HW.out.mono HB49.out.size))) (i : Int) (by omega) (by have := HNR.out; omega)
              obtain ⟨ay, rfl, q1⟩ := Kd.at_int (Kd.C_below HY.out.2 HW.out) (i : Int) (by omega) (by have := HNR.out; show (i : Int) < ((r.length : Nat) : Int); omega)
              rw [Int.toNat_natCast] at q0 q1
              obtain ⟨z, hz⟩ : ∃ z, rd r (i : Int) = z := ⟨_, rfl⟩
              replace q1 : wr.cell? (ay.add i) = some (.int .i64 (rd r (i : Int))) := q1
              rw [hz] at q0 q1
              clear hz
              have q9 : (z != z) = false := by simp
              have q10 : (z == z) = true := by simp
              go_wp2_with fail
              go_quiet (fail)
              go_wp2_with fail
              go_roundg left
              case measure => omega
              case rel => exact ⟨i + 1, by omega, by go_num, hid (pw_below_drewN HW.out _)⟩
      · go_wp2_with (first | (at_builtin; (refine app_C rfl (.tmp 45) (.tmp 46) 22 rfl 46 i46 _ 56 Tryd.underlying22 HI.out.1 HI.out.2.1 HI.out.2.2.1 HI.out.2.2.2.1 (by omega) rfl (by decide) w4.heap.size w4 (.slice (some ⟨w4.heap.size, 0, none⟩) 0 0) [] v A0 c0 nv nv HN.out.1 (by simp) (by rfl) (by rfl) (Own.made _ _ HB4.out) HV.out.2 (by omega) (by simp) ((Below.refl _ _).alloc (Nat.le_refl _) _) (by intro g hg; have : w4.heap.size = g := (by simpa [Value.ownBlock] using hg); omega) ?_; intro A5 c5 w5 ho5 hb5 hs5 hg5; have HO5 := hid ho5; have HB5 := hid hb5; have HG5 := hid (And.intro hs5 hg5); clear ho5 hb5 hg5)) | (at_builtin; (refine app_C rfl (.tmp 47) (.tmp 48) 22 rfl 46 i46 _ 56 Tryd.underlying22 HI.out.1 HI.out.2.1 HI.out.2.2.1 HI.out.2.2.2.1 (by omega) rfl (by decide) w4.heap.size w4 (.slice A5 nv c5) ([] ++ v) u A1 c1 nu (nv + nu) HN.out.2.1 (by have := HN.out.1; simp; omega) (by rfl) (by rfl) HO5.out HU.out.2 hlA HG5.out.1 HB5.out HG5.out.2 ?_; intro A6 c6 w6 ho6 hb6 hs6 hg6; have HO6 := hid ho6; have HB6 := hid hb6; have HG6 := hid (And.intro hs6 hg6); clear ho6 hb6 hg6 HO5 HB5 HG5 hs5)) | (at_builtin; (refine app_C rfl (.tmp 50) (.tmp 51) 23 rfl 66 i66 _ 32 Tryd.underlying23 HI.out.2.2.2.2.1 HI.out.2.2.2.2.2.1 HI.out.2.2.2.2.2.2.1 HI.out.2.2.2.2.2.2.2 (by omega) rfl (by decide) w6.heap.size w6 (.slice (some ⟨w6.heap.size, 0, none⟩) 0 0) [] a A2 c2 na na HN.out.2.2.1 (by simp) (by rfl) (by rfl) (Own.made _ _ (HB4.out.trans (HB6.out.mono HB4.out.size))) HA.out.2 (by omega) (by simp) ((Below.refl _ _).alloc (Nat.le_refl _) _) (by intro g hg; have : w6.heap.size = g := (by simpa [Value.ownBlock] using hg); omega) ?_; intro A5 c5 w5 ho5 hb5 hs5 hg5; have HO5 := hid ho5; have HB5 := hid hb5; have HG5 := hid (And.intro hs5 hg5); clear ho5 hb5 hg5)) | (at_builtin; (refine app_C rfl (.tmp 52) (.tmp 53) 23 rfl 66 i66 _ 32 Tryd.underlying23 HI.out.2.2.2.2.1 HI.out.2.2.2.2.2.1 HI.out.2.2.2.2.2.2.1 HI.out.2.2.2.2.2.2.2 (by omega) rfl (by decide) w6.heap.size w6 (.slice A5 na c5) ([] ++ a) b A3 c3 nb (na + nb) HN.out.2.2.2.1 (by have := HN.out.2.2.1; simp; omega) (by rfl) (by rfl) HO5.out HB0.out.2 hlB HG5.out.1 HB5.out HG5.out.2 ?_; intro A7 c7 w7 ho7 hb7 hs7 hg7; have HO7 := hid ho7; have HB7 := hid hb7; clear ho7 hb7 hg7 HO5 HB5 HG5 hs5)))
        have HBW7 := hid (HB4.out.trans ((HB6.out.trans (HB7.out.mono HB6.out.size)).mono HB4.out.size))
        refine (HKN.out w7 HBW7.out).mono ?_
        rintro e w8 ⟨rfl, hb8⟩
        have HB8 := hid (HBW7.out.trans (hb8.mono HBW7.out.size))
        clear hb8
        go_wp2
        go_ret
        exact ⟨rfl, HB8.out⟩
      · go_wp2_with (first | (at_builtin; (refine app_C rfl (.tmp 45) (.tmp 46) 22 rfl 46 i46 _ 56 Tryd.underlying22 HI.out.1 HI.out.2.1 HI.out.2.2.1 HI.out.2.2.2.1 (by omega) rfl (by decide) w4.heap.size w4 (.slice (some ⟨w4.heap.size, 0, none⟩) 0 0) [] v A0 c0 nv nv HN.out.1 (by simp) (by rfl) (by rfl) (Own.made _ _ HB4.out) HV.out.2 (by omega) (by simp) ((Below.refl _ _).alloc (Nat.le_refl _) _) (by intro g hg; have : w4.heap.size = g := (by simpa [Value.ownBlock] using hg); omega) ?_; intro A5 c5 w5 ho5 hb5 hs5 hg5; have HO5 := hid ho5; have HB5 := hid hb5; have HG5 := hid (And.intro hs5 hg5); clear ho5 hb5 hg5)) | (at_builtin; (refine app_C rfl (.tmp 47) (.tmp 48) 22 rfl 46 i46 _ 56 Tryd.underlying22 HI.out.1 HI.out.2.1 HI.out.2.2.1 HI.out.2.2.2.1 (by omega) rfl (by decide) w4.heap.size w4 (.slice A5 nv c5) ([] ++ v) u A1 c1 nu (nv + nu) HN.out.2.1 (by have := HN.out.1; simp; omega) (by rfl) (by rfl) HO5.out HU.out.2 hlA HG5.out.1 HB5.out HG5.out.2 ?_; intro A6 c6 w6 ho6 hb6 hs6 hg6; have HO6 := hid ho6; have HB6 := hid hb6; have HG6 := hid (And.intro hs6 hg6); clear ho6 hb6 hg6 HO5 HB5 HG5 hs5)) | (at_builtin; (refine app_C rfl (.tmp 50) (.tmp 51) 23 rfl 66 i66 _ 32 Tryd.underlying23 HI.out.2.2.2.2.1 HI.out.2.2.2.2.2.1 HI.out.2.2.2.2.2.2.1 HI.out.2.2.2.2.2.2.2 (by omega) rfl (by decide) w6.heap.size w6 (.slice (some ⟨w6.heap.size, 0, none⟩) 0 0) [] a A2 c2 na na HN.out.2.2.1 (by simp) (by rfl) (by rfl) (Own.made _ _ (HB4.out.trans (HB6.out.mono HB4.out.size))) HA.out.2 (by omega) (by simp) ((Below.refl _ _).alloc (Nat.le_refl _) _) (by intro g hg; have : w6.heap.size = g := (by simpa [Value.ownBlock] using hg); omega) ?_; intro A5 c5 w5 ho5 hb5 hs5 hg5; have HO5 := hid ho5; have HB5 := hid hb5; have HG5 := hid (And.intro hs5 hg5); clear ho5 hb5 hg5)) | (at_builtin; (refine app_C rfl (.tmp 52) (.tmp 53) 23 rfl 66 i66 _ 32 Tryd.underlying23 HI.out.2.2.2.2.1 HI.out.2.2.2.2.2.1 HI.out.2.2.2.2.2.2.1 HI.out.2.2.2.2.2.2.2 (by omega) rfl (by decide) w6.heap.size w6 (.slice A5 na c5) ([] ++ a) b A3 c3 nb (na + nb) HN.out.2.2.2.1 (by have := HN.out.2.2.1; simp; omega) (by rfl) (by rfl) HO5.out HB0.out.2 hlB HG5.out.1 HB5.out HG5.out.2 ?_; intro A7 c7 w7 ho7 hb7 hs7 hg7; have HO7 := hid ho7; have HB7 := hid hb7; clear ho7 hb7 hg7 HO5 HB5 HG5 hs5)))
        have HBW7 := hid (HB4.out.trans ((HB6.out.trans (HB7.out.mono HB6.out.size)).mono HB4.out.size))
        refine (HKN.out w7 HBW7.out).mono ?_
        rintro e w8 ⟨rfl, hb8⟩
        have HB8 := hid (HBW7.out.trans (hb8.mono HBW7.out.size))
        clear hb8
        go_wp2
        go_ret
        exact ⟨rfl, HB8.out⟩
end Go.Proofs.YtpopohkbffhckaaDoor.KL
