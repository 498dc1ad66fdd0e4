/- Plain law: what comes, clause by clause, is what comes by units, or it ends in a conflict. Plain laws of rup: what the program's calls and the document's answers tell, by the derivations. Plain laws of rup: what follows, what comes and rows, of the program and of the document. -/
import Derived.Test.YtjlkjgoncfdaeaaHkx0
import Derived.Test.YtjlkjgoncfdaeaaHkx1
import Derived.Test.YtjlkjgoncfdaeaaHkx3
import Derived.Test.YtjlkjgoncfdaeaaHkx40
import Derived.Test.YtjlkjgoncfdaeaaPBase
import Derived.Test.YtjlkjgoncfdaeaaRupRu
namespace Go.Proofs.Ytjlkjgoncfdaeaa.Pure
open Go.RowKit Go.Proofs.Ytjlkjgoncfdaeaa.Hk Go.Proofs.YtjlkjgoncfdaeaaW.PrintWords Go.Proofs.YtjlkjgoncfdaeaaW.PrintLast Go.Proofs.YtjlkjgoncfdaeaaW.PrintMore Go.Proofs.Ytjlkjgoncfdaeaa.LF Go.Proofs.Ytjlkjgoncfdaeaa.MC Go.Proofs.Ytjlkjgoncfdaeaa.RM

theorem rdL_lt {l : List (List Int)} {i : Nat} (h : i < l.length) : rd_L1 l (i : Int) = l[i] := by
  unfold rd_L1
  rw [Int.toNat_natCast, List.getD_eq_getElem?_getD, List.getElem?_eq_getElem h]
  rfl
/-- What has been seen of the first literals of a clause. -/
structure Scan (hv : List Int) (c : List Int) (left : Int) (two done : Bool) : Prop where
  done_ : done = true ↔ ∃ y ∈ c, y ∈ hv
  none_ : left = 0 → ∀ y ∈ c, -y ∈ hv
  some_ : left ≠ 0 → left ∈ c ∧ -left ∉ hv
  one : two = false → ∀ y ∈ c, -y ∉ hv → y = left
  both : two = true → ∃ y ∈ c, ∃ z ∈ c, y ≠ z ∧ -y ∉ hv ∧ -z ∉ hv
theorem Scan.start (hv : List Int) : Scan hv [] 0 false false := ⟨by simp, by simp, by simp, by simp, by simp⟩
theorem Scan.false_ {hv c : List Int} {left : Int} {two done : Bool} (h : Scan hv c left two done) {x : Int} (hn : -x ∈ hv) : Scan hv (c ++ [x]) left two (done || decide (x ∈ hv)) where
  done_ := by
    rw [Bool.or_eq_true, h.done_, decide_eq_true_eq]
    constructor
    · rintro (⟨y, hy, h1⟩ | h1)
      · exact ⟨y, by simp [hy], h1⟩
      · exact ⟨x, by simp, h1⟩
    · rintro ⟨y, hy, h1⟩
      rcases List.mem_append.1 hy with hy | hy
      · exact .inl ⟨y, hy, h1⟩
      · rw [List.mem_singleton.1 hy] at h1; exact .inr h1
  none_ := fun h0 y hy => by
    rcases List.mem_append.1 hy with hy | hy
    · exact h.none_ h0 y hy
    · rw [List.mem_singleton.1 hy]; exact hn
  some_ := fun h0 => ⟨List.mem_append_left _ (h.some_ h0).1, (h.some_ h0).2⟩
  one := fun h0 y hy h1 => by
    rcases List.mem_append.1 hy with hy | hy
    · exact h.one h0 y hy h1
    · rw [List.mem_singleton.1 hy] at h1; exact absurd hn h1
  both := fun h0 => by
    obtain ⟨y, hy, z, hz, h1⟩ := h.both h0
    exact ⟨y, by simp [hy], z, by simp [hz], h1⟩
theorem Scan.true_ {hv c : List Int} {left : Int} {two done : Bool} (h : Scan hv c left two done) {x : Int} (hx0 : x ≠ 0) (hn : -x ∉ hv) : Scan hv (c ++ [x]) x (two || (decide (left ≠ 0) && decide (left ≠ x))) (done || decide (x ∈ hv)) where
  done_ := by
    rw [Bool.or_eq_true, h.done_, decide_eq_true_eq]
    constructor
    · rintro (⟨y, hy, h1⟩ | h1)
      · exact ⟨y, by simp [hy], h1⟩
      · exact ⟨x, by simp, h1⟩
    · rintro ⟨y, hy, h1⟩
      rcases List.mem_append.1 hy with hy | hy
      · exact .inl ⟨y, hy, h1⟩
      · rw [List.mem_singleton.1 hy] at h1; exact .inr h1
  none_ := fun h0 => absurd h0 hx0
  some_ := fun _ => ⟨by simp, hn⟩
  one := fun h0 y hy h1 => by
    rw [Bool.or_eq_false_iff] at h0
    rcases List.mem_append.1 hy with hy | hy
    · have hl := h.one h0.1 y hy h1
      by_cases hl0 : left = 0
      · exact absurd (h.none_ hl0 y hy) h1
      · have := h0.2
        rw [show decide (left ≠ 0) = true from by simp [hl0], Bool.true_and] at this
        have : left = x := by simpa using this
        rw [hl, this]
    · exact List.mem_singleton.1 hy
  both := fun h0 => by
    rw [Bool.or_eq_true] at h0
    rcases h0 with h0 | h0
    · obtain ⟨y, hy, z, hz, h1⟩ := h.both h0
      exact ⟨y, by simp [hy], z, by simp [hz], h1⟩
    · rw [Bool.and_eq_true] at h0
      have h1 : left ≠ 0 := by simpa using h0.1
      have h2 : left ≠ x := by simpa using h0.2
      exact ⟨left, by simp [(h.some_ h1).1], x, by simp, h2, (h.some_ h1).2, hn⟩

theorem come_inner (db : List (List Int)) (hv : List Int) (more : Bool) (i : Nat) (hi : i < db.length) (r : List Int × Bool) (_ : db.length < 4611686018427387904) (hc : (db[i]).length < 4611686018427387904) (hh : hv.length < 4611686018427387904) (hb : ∀ x ∈ db[i], Bd x) :
    ∀ d k, k + d = (db[i]).length → ∀ (left : Int) (two done : Bool), Scan hv ((db[i]).take k) left two done →
    (∀ (left' : Int) (two' done' : Bool), Scan hv (db[i]) left' two' done' → Ev (fun n => juristref16_Come.j4 n db hv more i left' (if done' = true then true else two')) r) →
    Ev (fun n => juristref16_Come.l2 n db hv more i left two done (k : Int)) r := by
  intro d
  induction d with
  | zero =>
    intro k hk left two done hs hend
    have e : (db[i]).take k = db[i] := List.take_of_length_le (by omega)
    rw [e] at hs
    have := hend left two done hs
    refine Ev.step (fun n => by simp only [juristref16_Come.l2]; rw [if_pos (by omega), if_pos (by omega), rdL_lt hi, if_neg (by omega)]) ?_
    by_cases hd : done = true
    · refine ev_pos hd ?_
      rw [if_pos hd] at this
      exact this
    · refine ev_neg hd ?_
      rw [if_neg hd] at this
      exact this
  | succ d ih =>
    intro k hk left two done hs hend
    have hkl : k < (db[i]).length := by omega
    have hx : rd (db[i]) (k : Int) = (db[i])[k] := rd_lt hkl
    have hbx := hb _ (List.getElem_mem hkl)
    have ht : (db[i]).take (k + 1) = (db[i]).take k ++ [(db[i])[k]] := List.take_succ_eq_append_getElem hkl
    generalize hxx : (db[i])[k] = x at hx hbx ht
    -- behind the look for x itself
    have main : ∀ done' : Bool, done' = (done || decide (x ∈ hv)) → Ev (fun n => juristref16_Come.j3 n db hv more i left two done' (k : Int) x) r := by
      intro done' hd'
      refine Ev.step (fun n => by simp only [juristref16_Come.j3]; rw [RM.wrap64_lit hbx, wrap_succ (by omega)]) ?_
      refine Ev.bind (has_ev hv (-x) hh) ?_
      by_cases hn : -x ∈ hv
      · refine ev_pos (by simpa using hn) ?_
        exact ih (k + 1) (by omega) left two done' (by rw [ht, hd']; exact hs.false_ hn) hend
      · refine ev_neg (by simpa using hn) ?_
        have hs2 := hs.true_ hbx.1 hn
        rw [← ht, ← hd'] at hs2
        by_cases hl0 : left = 0
        · refine ev_pos hl0 ?_
          rw [show (two || (decide (left ≠ 0) && decide (left ≠ x))) = two from by simp [hl0]] at hs2
          exact ih (k + 1) (by omega) x two done' hs2 hend
        · refine ev_neg hl0 ?_
          by_cases hlx : left = x
          · refine ev_pos hlx ?_
            rw [show (two || (decide (left ≠ 0) && decide (left ≠ x))) = two from by simp [hlx]] at hs2
            exact ih (k + 1) (by omega) x two done' hs2 hend
          · refine ev_neg hlx ?_
            rw [show (two || (decide (left ≠ 0) && decide (left ≠ x))) = true from by simp [hlx, hl0]] at hs2
            exact ih (k + 1) (by omega) x true done' hs2 hend
    refine Ev.step (fun n => by simp only [juristref16_Come.l2]; rw [if_pos (by omega), if_pos (by omega), rdL_lt hi, if_pos (by omega), if_pos (by omega), hx]) ?_
    refine Ev.bind (has_ev hv x hh) ?_
    by_cases hn : x ∈ hv
    · refine ev_pos (by simpa using hn) ?_
      exact main true (by simp [hn])
    · refine ev_neg (by simpa using hn) ?_
      exact main done (by simp [hn])

/-- What Come tells. -/
def ComeOk (db : List (List Int)) (given : List Int) (r : List Int × Bool) : Prop := (r = ([], false) ∧ Conf db given) ∨ ∃ l, r = (canon l, true) ∧ Ans db given (some l)
/-- Nothing comes of a clause. -/
def Quiet (hv c : List Int) : Prop := (∃ y ∈ c, y ∈ hv) ∨ ∃ y ∈ c, ∃ z ∈ c, y ≠ z ∧ -y ∉ hv ∧ -z ∉ hv

theorem come_last (db : List (List Int)) (given hv : List Int) (hb : ∀ x ∈ hv, Bd x) (hl : hv.length < 17592186044416) (hg : ∀ x ∈ given, x ∈ hv) (hD : ∀ x ∈ hv, Drv db given x) (hq : ∀ j (h : j < db.length), Quiet hv (db[j])) :
    ∃ r, Ev (fun n => juristref16_Come.l0 n db hv false) r ∧ ComeOk db given r := by
  have hw : ∀ x ∈ hv, (Lit.int .i64 x).wf = true := fun x hx => WalkArith.wf_i64 (by have := hb x hx; omega)
  have hsay := saysR_ev hv (by omega)
  rw [saysR_eq hv hw] at hsay
  by_cases hs : saysB hv = true
  · refine ⟨([], false), Ev.step (fun n => by simp only [juristref16_Come.l0]; rw [if_neg (by simp)]) (Ev.bind hsay (ev_pos hs (ev_ret _))), .inl ⟨rfl, ?_⟩⟩
    obtain ⟨x, hx, hn⟩ := (saysB_iff hb).1 hs
    exact .inr ⟨x, hD x hx, hD _ hn⟩
  · refine ⟨(canon hv, true), ?_, .inr ⟨hv, rfl, ?_⟩⟩
    · refine Ev.step (fun n => by simp only [juristref16_Come.l0]; rw [if_neg (by simp)]) ?_
      refine Ev.bind hsay ?_
      refine ev_neg hs ?_
      refine Ev.bind (normal_ev hv hl (fun x hx => by have := hb x hx; exact ⟨this.1, by omega, by omega⟩)) ?_
      exact ev_ret _
    have hsane : ∀ x ∈ hv, -x ∉ hv := fun x hx hn => hs ((saysB_iff hb).2 ⟨x, hx, hn⟩)
    have hsub : ∀ x, Drv db given x → x ∈ hv := by
      intro x hx
      refine Drv.least (S := fun x => x ∈ hv) hg (fun c hc x hx hy => ?_) hx
      obtain ⟨j, hj, rfl⟩ := List.getElem_of_mem hc
      rcases hq j hj with ⟨y, hyc, hyh⟩ | ⟨y, hyc, z, hzc, hne, hny, hnz⟩
      · by_cases e : y = x
        · exact e ▸ hyh
        · exact absurd (hy y hyc e) (hsane y hyh)
      · by_cases e : y = x
        · exact absurd (hy z hzc (fun e2 => hne (e.trans e2.symm))) hnz
        · exact absurd (hy y hyc e) hny
    refine ⟨?_, fun x => ⟨hD x, hsub x⟩⟩
    rintro (hc | ⟨x, h1, h2⟩)
    · obtain ⟨j, hj, e⟩ := List.getElem_of_mem hc
      rcases hq j hj with ⟨y, hyc, _⟩ | ⟨y, hyc, _⟩
      · rw [e] at hyc; cases hyc
      · rw [e] at hyc; cases hyc
    · exact hsane x (hsub x h1) (hsub _ h2)

theorem come_loop (db : List (List Int)) (given : List Int) (hbd : ∀ c ∈ db, ∀ x ∈ c, Bd x) (hdb : db.length < 4611686018427387904) (hcl : ∀ c ∈ db, c.length < 4611686018427387904) (M : Nat) (hM : M < 17592186044416) :
    ∀ (a : Nat) (hv : List Int), (db.flatten.filter (fun x => !hv.contains x)).length ≤ a → hv.length + (db.flatten.filter (fun x => !hv.contains x)).length ≤ M → (∀ x ∈ hv, Bd x) → (∀ x ∈ given, x ∈ hv) → (∀ x ∈ hv, Drv db given x) →
    ∃ r, Ev (fun n => juristref16_Come.l0 n db hv true) r ∧ ComeOk db given r := by
  intro a
  induction a using Nat.strongRecOn with
  | _ a iha =>
    -- one pass
    have pass : ∀ d i, i + d = db.length → ∀ (hv : List Int) (more : Bool), (db.flatten.filter (fun x => !hv.contains x)).length ≤ a → hv.length + (db.flatten.filter (fun x => !hv.contains x)).length ≤ M → (∀ x ∈ hv, Bd x) → (∀ x ∈ given, x ∈ hv) → (∀ x ∈ hv, Drv db given x) →
        (more = true → (db.flatten.filter (fun x => !hv.contains x)).length < a) → (more = false → ∀ j (h : j < db.length), j < i → Quiet hv (db[j])) →
        ∃ r, Ev (fun n => juristref16_Come.l1 n db hv more (i : Int)) r ∧ ComeOk db given r := by
      intro d
      induction d with
      | zero =>
        intro i hi hv more ha hm hb hg hD hmore hq
        have next : ∃ r, Ev (fun n => juristref16_Come.l0 n db hv more) r ∧ ComeOk db given r := by
          cases more with
          | true => exact iha _ (hmore rfl) hv (Nat.le_refl _) hm hb hg hD
          | false => exact come_last db given hv hb (by omega) hg hD fun j hj => hq rfl j hj (by omega)
        obtain ⟨r, h1, h2⟩ := next
        exact ⟨r, Ev.step (fun n => by simp only [juristref16_Come.l1]; rw [if_neg (by omega)]) h1, h2⟩
      | succ d ih =>
        intro i hi hv more ha hm hb hg hD hmore hq
        have hil : i < db.length := by omega
        have hcm : db[i] ∈ db := List.getElem_mem hil
        obtain ⟨r, hr⟩ : ∃ r : List Int × Bool, (∀ (left : Int) (two done : Bool), Scan hv (db[i]) left two done → Ev (fun n => juristref16_Come.j4 n db hv more i left (if done = true then true else two)) r) ∧ ComeOk db given r := by
          by_cases hquiet : Quiet hv (db[i])
          · obtain ⟨r, h1, h2⟩ := ih (i + 1) (by omega) hv more ha hm hb hg hD hmore (fun e j hj hji => by
              by_cases e2 : j = i
              · subst e2; exact hquiet
              · exact hq e j hj (by omega))
            refine ⟨r, fun left two done hs => ?_, h2⟩
            have hdt : (if done = true then true else two) = true := by
              rcases hquiet with h | ⟨y, hy, z, hz, hne, hny, hnz⟩
              · rw [if_pos (hs.done_.2 h)]
              · by_cases hd : done = true
                · rw [if_pos hd]
                · rw [if_neg hd]
                  by_cases ht : two = true
                  · exact ht
                  · have ht : two = false := by simpa using ht
                    exact absurd ((hs.one ht y hy hny).trans (hs.one ht z hz hnz).symm) hne
            exact Ev.step (fun n => by simp only [juristref16_Come.j4]; rw [if_pos hdt, wrap_succ (by omega)]) h1
          · have hnone : ∀ y ∈ db[i], y ∉ hv := fun y hy h1 => hquiet (.inl ⟨y, hy, h1⟩)
            have hdt : ∀ (left : Int) (two done : Bool), Scan hv (db[i]) left two done → two = false ∧ ¬ (if done = true then true else two) = true := by
              intro left two done hs
              have hd : ¬ done = true := fun e => by
                obtain ⟨y, hy, h1⟩ := hs.done_.1 e
                exact hnone y hy h1
              have ht : two = false := by
                by_cases ht : two = true
                · exact absurd (.inr (hs.both ht)) hquiet
                · simpa using ht
              exact ⟨ht, by rw [if_neg hd, ht]; simp⟩
            by_cases hz : ∃ z ∈ db[i], -z ∉ hv
            · obtain ⟨z, hzc, hzn⟩ := hz
              have huniq : ∀ y ∈ db[i], -y ∉ hv → y = z := fun y hy hny => Classical.byContradiction fun hne => hquiet (.inr ⟨y, hy, z, hzc, hne, hny, hzn⟩)
              have hDz : Drv db given z := .unit hcm hzc fun y hy hne => by
                by_cases hyn : -y ∈ hv
                · exact hD _ hyn
                · exact absurd (huniq y hy hyn) hne
              have hlt : (db.flatten.filter (fun x => !(hv ++ [z]).contains x)).length < (db.flatten.filter (fun x => !hv.contains x)).length := by
                have e : db.flatten.filter (fun x => !(hv ++ [z]).contains x) = (db.flatten.filter (fun x => !hv.contains x)).filter (fun x => x != z) := by
                  rw [List.filter_filter]
                  refine List.filter_congr fun x _ => ?_
                  rw [Bool.eq_iff_iff]
                  simp [bne, and_comm]
                rw [e, List.length_filter_lt_length_iff_exists]
                exact ⟨z, List.mem_filter.2 ⟨List.mem_flatten.2 ⟨_, hcm, hzc⟩, by simpa using hnone z hzc⟩, by simp⟩
              obtain ⟨r, h1, h2⟩ := ih (i + 1) (by omega) (hv ++ [z]) true (by omega) (by rw [List.length_append, List.length_singleton]; omega) (fun x hx => by
                rcases List.mem_append.1 hx with hx | hx
                · exact hb x hx
                · rw [List.mem_singleton.1 hx]; exact hbd _ hcm z hzc) (fun x hx => List.mem_append_left _ (hg x hx)) (fun x hx => by
                rcases List.mem_append.1 hx with hx | hx
                · exact hD x hx
                · rw [List.mem_singleton.1 hx]; exact hDz) (fun _ => by omega) (fun e => by cases e)
              refine ⟨r, fun left two done hs => ?_, h2⟩
              obtain ⟨ht, hd⟩ := hdt left two done hs
              have hlz : left = z := (hs.one ht z hzc hzn).symm
              subst hlz
              have hl0 : left ≠ 0 := (hbd _ hcm left hzc).1
              exact Ev.step (fun n => by simp only [juristref16_Come.j4]; rw [if_neg hd, if_neg hl0, if_pos (by omega), wrap_succ (by omega)]) h1
            · have hall : ∀ y ∈ db[i], -y ∈ hv := fun y hy => Classical.byContradiction fun h => hz ⟨y, hy, h⟩
              refine ⟨([], false), fun left two done hs => ?_, .inl ⟨rfl, ?_⟩⟩
              · obtain ⟨ht, hd⟩ := hdt left two done hs
                have hl0 : left = 0 := Classical.byContradiction fun h => (hs.some_ h).2 (hall _ (hs.some_ h).1)
                exact Ev.step (fun n => by simp only [juristref16_Come.j4]; rw [if_neg hd, if_pos hl0]) (ev_ret _)
              · cases hc : db[i] with
                | nil => rw [hc] at hcm; exact .inl hcm
                | cons x c' =>
                  have hx : x ∈ db[i] := by rw [hc]; simp
                  exact .inr ⟨x, .unit hcm hx fun y hy _ => hD _ (hall y hy), hD _ (hall x hx)⟩
        exact ⟨r, Ev.step (f := fun n => juristref16_Come.l2 n db hv more i 0 false false 0) (fun n => by simp only [juristref16_Come.l1]; rw [if_pos (by omega)]) (come_inner db hv more i hil r hdb (hcl _ hcm) (by omega) (hbd _ hcm) (db[i]).length 0 (by omega) 0 false false (by rw [List.take_zero]; exact Scan.start hv) hr.1), hr.2⟩
    intro hv ha hm hb hg hD
    obtain ⟨r, h1, h2⟩ := pass db.length 0 (by omega) hv false ha hm hb hg hD (fun e => by cases e) (fun _ j hj h => by omega)
    exact ⟨r, Ev.step (fun n => by simp only [juristref16_Come.l0]; rw [if_pos trivial]; rfl) h1, h2⟩
theorem come_ev (db : List (List Int)) (given : List Int) (hbd : ∀ c ∈ db, ∀ x ∈ c, Bd x) (hg : ∀ x ∈ given, Bd x) (hdb : db.length < 4611686018427387904) (hcl : ∀ c ∈ db, c.length < 4611686018427387904) (hM : given.length + db.flatten.length < 17592186044416) :
    ∃ r, Ev (fun n => juristref16_Come.f n db given) r ∧ ComeOk db given r := by
  have hle := List.length_filter_le (fun x => !given.contains x) db.flatten
  obtain ⟨r, h1, h2⟩ := come_loop db given hbd hdb hcl _ hM _ given (Nat.le_refl _) (by omega) hg (fun x hx => hx) (fun x hx => .given hx)
  exact ⟨r, by unfold juristref16_Come.f; exact ev_got (copied_some given (by omega)) h1, h2⟩
end Go.Proofs.Ytjlkjgoncfdaeaa.Pure

namespace Go.Proofs.Ytjlkjgoncfdaeaa.Pure
open Go.RowKit Go.Proofs.Ytjlkjgoncfdaeaa.Hk Go.Proofs.YtjlkjgoncfdaeaaW.PrintWords Go.Proofs.YtjlkjgoncfdaeaaW.PrintLast Go.Proofs.YtjlkjgoncfdaeaaW.PrintMore Go.Proofs.Ytjlkjgoncfdaeaa.LF Go.Proofs.Ytjlkjgoncfdaeaa.MC Go.Proofs.Ytjlkjgoncfdaeaa.RM
set_option linter.unusedVariables false

/-- At most n clauses, of at most 30 literals. -/
def Small (n : Nat) (l : List (List Int)) : Prop := l.length ≤ n ∧ ∀ c ∈ l, c.length ≤ 30
theorem flat_le : ∀ (l : List (List Int)), (∀ c ∈ l, c.length ≤ 30) → l.flatten.length ≤ 30 * l.length
  | [], _ => by simp
  | c :: l, h => by
    have := flat_le l fun d hd => h d (by simp [hd])
    have := h c (by simp)
    simp only [List.flatten_cons, List.length_append, List.length_cons]
    omega
theorem Small.flat {n : Nat} {l : List (List Int)} (h : Small n l) : l.flatten.length ≤ 30 * n := by
  have := flat_le l h.2
  have := h.1
  omega
theorem Small.app {n m : Nat} {l l' : List (List Int)} (h : Small n l) (h' : Small m l') : Small (n + m) (l ++ l') :=
  ⟨by rw [List.length_append]; have := h.1; have := h'.1; omega, fun c hc => (List.mem_append.1 hc).elim (h.2 c) (h'.2 c)⟩
theorem Small.take {n : Nat} {l : List (List Int)} (h : Small n l) (k : Nat) : Small n (l.take k) :=
  ⟨by rw [List.length_take]; have := h.1; omega, fun c hc => h.2 c (List.mem_of_mem_take hc)⟩

/-- .. a loop over a list of lists. -/
theorem ev_rows {ρ : Type} (l : List (List Int)) (L : Nat → Int → Option ρ) (P : Nat → ρ → Prop)
    (hend : ∀ r, P l.length r → Ev (fun k => L k (l.length : Int)) r)
    (hround : ∀ i, i < l.length → ∀ r, P i r → (∀ r', P (i + 1) r' → Ev (fun k => L k ((i + 1 : Nat) : Int)) r') → Ev (fun k => L k (i : Int)) r) :
    ∀ d i, i + d = l.length → ∀ r, P i r → Ev (fun k => L k (i : Int)) r := ev_upto l.length L P hend hround
theorem drop_rdL {l : List (List Int)} {i : Nat} (h : i < l.length) : l.drop i = rd_L1 l (i : Int) :: l.drop (i + 1) := by rw [rdL_lt h]; exact List.drop_eq_getElem_cons h

def largeB (l : List (List Int)) : Bool := decide (60 < l.length) || l.any fun c => decide (30 < c.length)
theorem large_false {l : List (List Int)} (h : largeB l = false) : Small 60 l := by
  unfold largeB at h
  rw [Bool.or_eq_false_iff] at h
  refine ⟨by have := of_decide_eq_false h.1; omega, fun c hc => ?_⟩
  have := List.any_eq_false.1 h.2 c hc
  simp at this
  omega
theorem large_ev (l : List (List Int)) (hl : l.length < 4611686018427387904) : Ev (fun k => juristlaw16_large.f k l) (largeB l) := by
  unfold juristlaw16_large.f
  by_cases h : 60 < l.length
  · refine ev_pos (by omega) ?_
    have : largeB l = true := by unfold largeB; simp [h]
    rw [this]
    exact ev_ret true
  · refine ev_neg (by omega) ?_
    refine ev_rows l (fun k i => juristlaw16_large.l0 k l (l.length : Int) i) (fun i r => r = (l.drop i).any fun c => decide (30 < c.length)) ?_ ?_ l.length 0 (by omega) _ (by unfold largeB; simp [h])
    · rintro r rfl
      refine Ev.step (f := fun _ => some false) (fun k => by simp only [juristlaw16_large.l0]; rw [if_neg (by omega)]) ?_
      simpa using ev_ret false
    · rintro i hi r rfl ih
      rw [drop_rdL hi, List.any_cons]
      by_cases he : 30 < (rd_L1 l (i : Int)).length
      · refine Ev.step (f := fun _ => some true) (fun k => by simp only [juristlaw16_large.l0]; rw [if_pos (by omega), if_pos (by omega), if_pos (by omega), if_pos (by omega)]) ?_
        simpa [he] using ev_ret true
      · refine Ev.step (f := fun k => juristlaw16_large.l0 k l (l.length : Int) ((i + 1 : Nat) : Int)) (fun k => by simp only [juristlaw16_large.l0]; rw [if_pos (by omega), if_pos (by omega), if_pos (by omega), if_neg (by omega), wrap_succ (by omega)]) ?_
        rw [show decide (30 < (rd_L1 l (i : Int)).length) = false from by simp [he], Bool.false_or]
        exact ih _ rfl
theorem mays_ev (l : List (List Int)) (hl : l.length < 4611686018427387904) (hc : ∀ c ∈ l, c.length < 4611686018427387904) : Ev (fun k => juristref16_may.f k l) (l.all mayB) := by
  unfold juristref16_may.f
  refine ev_rows l (fun k i => juristref16_may.l0 k l i) (fun i r => r = (l.drop i).all mayB) ?_ ?_ l.length 0 (by omega) _ (by simp)
  · rintro r rfl
    refine Ev.step (f := fun _ => some true) (fun k => by simp only [juristref16_may.l0]; rw [if_neg (by omega)]) ?_
    simpa using ev_ret true
  · rintro i hi r rfl ih
    rw [drop_rdL hi, List.all_cons]
    have hm := may_ev (rd_L1 l (i : Int)) (hc _ (by rw [rdL_lt hi]; exact List.getElem_mem hi))
    refine Ev.step (fun k => by simp only [juristref16_may.l0]; rw [if_pos (by omega), if_pos (by omega), wrap_succ (by omega)]) ?_
    refine Ev.bind hm ?_
    by_cases he : mayB (rd_L1 l (i : Int)) = true
    · refine ev_pos he ?_
      rw [he, Bool.true_and]
      exact ih _ rfl
    · refine ev_neg he ?_
      have he' : mayB (rd_L1 l (i : Int)) = false := by simpa using he
      rw [he', Bool.false_and]
      exact ev_ret false
end Go.Proofs.Ytjlkjgoncfdaeaa.Pure

namespace Go.Proofs.Ytjlkjgoncfdaeaa.Pure
open Go.RowKit Go.Proofs.Ytjlkjgoncfdaeaa.Hk Go.Proofs.YtjlkjgoncfdaeaaW.PrintWords Go.Proofs.YtjlkjgoncfdaeaaW.PrintLast Go.Proofs.YtjlkjgoncfdaeaaW.PrintMore Go.Proofs.Ytjlkjgoncfdaeaa.LF Go.Proofs.Ytjlkjgoncfdaeaa.MC Go.Proofs.Ytjlkjgoncfdaeaa.RM
set_option linter.unusedVariables false

theorem copieds_ev (l : List (List Int)) (h : Small 200 l) : Ev (fun k => juristlaw16_copied.f k l) l := by
  unfold juristlaw16_copied.f
  have hl := h.1
  have : ∀ d i, i + d = l.length → Ev (fun k => juristlaw16_copied.l0 k l (l.take i) (l.length : Int) (i : Int)) l := by
    intro d
    induction d with
    | zero =>
      intro i hi
      refine Ev.step (f := fun _ => some l) (fun k => by simp only [juristlaw16_copied.l0]; rw [if_neg (by omega), List.take_of_length_le (by omega)]) (ev_ret _)
    | succ d ih =>
      intro i hi
      have hil : i < l.length := by omega
      have hc := copied_some (rd_L1 l (i : Int)) (by rw [rdL_lt hil]; have := h.2 _ (List.getElem_mem hil); omega)
      refine Ev.step (f := fun k => juristlaw16_copied.l0 k l (l.take (i + 1)) (l.length : Int) ((i + 1 : Nat) : Int)) (fun k => by
        simp only [juristlaw16_copied.l0]
        rw [if_pos (by omega), if_pos (by omega), if_pos (by omega), hc]
        simp only [Option.bind_some]
        rw [if_pos (by rw [List.length_take]; omega), wrap_succ (by omega), rdL_lt hil, ← List.take_succ_eq_append_getElem hil]) (ih (i + 1) (by omega))
  have := this l.length 0 (by omega)
  rw [List.take_zero] at this
  exact this
theorem sames_ev (l : List (List Int)) (h : Small 200 l) : Ev (fun k => juristlaw16_same.f k l l) true := by
  unfold juristlaw16_same.f
  have hl := h.1
  refine ev_rows l (fun k i => juristlaw16_same.l0 k l l (l.length : Int) i) (fun i r => r = true) ?_ ?_ l.length 0 (by omega) _ rfl
  · rintro r rfl
    exact Ev.step (f := fun _ => some true) (fun k => by simp only [juristlaw16_same.l0]; rw [if_neg (by omega)]; simp) (ev_ret _)
  · rintro i hi r rfl ih
    have ha := alike_ev (rd_L1 l (i : Int)) (rd_L1 l (i : Int)) (by rw [rdL_lt hi]; have := h.2 _ (List.getElem_mem hi); omega)
    simp only [decide_true] at ha
    refine Ev.step (fun k => by simp only [juristlaw16_same.l0]; rw [if_pos (by omega), if_pos (by omega), if_pos (by omega), if_pos (by omega), wrap_succ (by omega)]) ?_
    exact Ev.bind ha (ev_pos rfl (ih _ rfl))

theorem known_ev : Ev (fun _ => juristlaw16_known.f) true := ev_ret true

/-! #### what follows -/
def Fol (db : List (List Int)) (c : List Int) : Prop := Conf db (negs c) ∨ ∃ x ∈ c, -x ∈ c
open Classical in
noncomputable def fol (db : List (List Int)) (c : List Int) : Bool := decide (Fol db c)
theorem fol_iff {db : List (List Int)} {c : List Int} : fol db c = true ↔ Fol db c := by unfold fol; simp
theorem conf_come {db : List (List Int)} {given : List Int} {r : List Int × Bool} (h : ComeOk db given r) : r.2 = false ↔ Conf db given := by
  rcases h with ⟨rfl, h⟩ | ⟨l, rfl, h⟩
  · exact ⟨fun _ => h, fun _ => rfl⟩
  · exact ⟨(fun e => by cases e), fun e => absurd e h.1⟩
theorem conf_ans {db : List (List Int)} {given : List Int} {r : Option (List Int)} (h : Ans db given r) : r.isSome = false ↔ Conf db given := by
  cases r with
  | none => exact ⟨fun _ => h, fun _ => rfl⟩
  | some l => exact ⟨(fun e => by cases e), fun e => absurd e h.1⟩
theorem followsM_fol {b : RB} {db : List (List Int)} (h : Stands b db) {c : List Int} (hm : mayB c = true) : followsM b c (runC b (negs c)) = fol db c ∧ Stands (outR b (runC b (negs c))).2 db := by
  obtain ⟨m, hrun⟩ := runC_run h.inv (negs c)
  have hb := (may_bd hm).2
  have ho := out_ans h (negs_bd hb) hrun
  refine ⟨?_, ho.1⟩
  rw [Bool.eq_iff_iff, fol_iff]
  unfold followsM
  rw [Bool.or_eq_true, Bool.not_eq_true', conf_ans ho.2.1, saysB_iff hb]
  rfl
theorem mays_bd {l : List (List Int)} (h : l.all mayB = true) : ∀ c ∈ l, ∀ x ∈ c, Bd x := fun c hc => (may_bd (List.all_eq_true.1 h c hc)).2

/-! #### Units -/
theorem canon_same {l m : List Int} (h : ∀ x, x ∈ l ↔ x ∈ m) : canon l = canon m := canon_eq (rising_canon m) (fun x => by rw [mem_canon, h x])
/-- What comes: none for a conflict. -/
theorem units_some {db : List (List Int)} {given : List Int} (hfit : db.length + given.length < 10000) (h1 : db.all mayB = true) (h2 : mayB given = true) :
    ∃ r, Ans db given r ∧ rup_Units.f db given = some (match r with | none => ([], true, 0) | some H => (canon H, false, 0)) := by
  have hst := basedM_stands h1
  obtain ⟨m, hrun⟩ := runC_run hst.inv given
  have ho := out_ans hst (may_bd h2).2 hrun
  refine ⟨_, ho.2.1, ?_⟩
  unfold rup_Units.f unitsR fitB
  rw [if_pos (by simpa using hfit), if_pos (by simp [h1, h2])]
  cases (outR (basedM db) (runC (basedM db) given)).1 <;> rfl
theorem units_none {db : List (List Int)} {given : List Int} (hfit : db.length + given.length < 10000) (h : (db.all mayB && mayB given) = false) : rup_Units.f db given = some ([], false, 2) := by
  unfold rup_Units.f unitsR fitB
  rw [if_pos (by simpa using hfit), if_neg (by simp [h])]
theorem Units_ref {n : Nat} {db : List (List Int)} {given : List Int} (hs : Small n db) (hn : n < 100000) (hc : given.length ≤ 5000) : ∃ r : List Int × Bool × Int, Ev (fun k => juristref16_Units.f k db given) r ∧ (db.length + given.length < 10000 → rup_Units.f db given = some r) ∧ r.1.length ≤ 2097153 := by
  unfold juristref16_Units.f
  have e1 := mays_ev db (by have := hs.1; omega) (fun d hd => by have := hs.2 d hd; omega)
  have e2 := may_ev given (by omega)
  by_cases h1 : db.all mayB = true
  · by_cases h2 : mayB given = true
    · have hfl := hs.flat
      obtain ⟨r, hr, hok⟩ := come_ev db given (mays_bd h1) (may_bd h2).2 (by have := hs.1; omega) (fun d hd => by have := hs.2 d hd; omega) (by omega)
      refine ⟨(r.1, !r.2, 0), Ev.bind e1 (ev_pos h1 (Ev.bind e2 (ev_pos h2 (Ev.bind hr (ev_ret _))))), fun hfit => ?_, ?_⟩
      · obtain ⟨r', ha, hu⟩ := units_some hfit h1 h2
        rw [hu]
        rcases hok with ⟨rfl, hcf⟩ | ⟨l, rfl, hl⟩
        · cases r' with
          | none => rfl
          | some H => exact absurd hcf ha.1
        · cases r' with
          | none => exact absurd ha hl.1
          | some H =>
            show some (canon H, false, (0 : Int)) = some (canon l, false, 0)
            rw [canon_same (fun x => (ha.2 x).trans (hl.2 x).symm)]
      · rcases hok with ⟨rfl, hcf⟩ | ⟨l, rfl, hl⟩
        · simp
        · exact held_short (canon_nodup l) fun x hx => drv_bd (mays_bd h1) (may_bd h2).2 ((hl.2 x).1 ((mem_canon x l).1 hx))
    · refine ⟨([], false, 2), Ev.bind e1 (ev_pos h1 (Ev.bind e2 (ev_neg h2 (ev_ret _)))), fun hfit => units_none hfit (by simp [h2]), by simp⟩
  · refine ⟨([], false, 2), Ev.bind e1 (ev_neg h1 (ev_ret _)), fun hfit => units_none hfit (by simp [h1]), by simp⟩

theorem known_t : Ev (fun _ => juristlaw16_known.f.bind fun t => some t) true := Ev.bind known_ev (ev_ret true)
theorem alike_same (l : List Int) (hl : l.length < 4611686018427387904) : Ev (fun k => juristref14_Alike.f k l l) true := by
  have := alike_ev l l hl
  simpa using this
theorem Small.more {n m : Nat} {l : List (List Int)} (h : Small n l) (hn : n ≤ m) : Small m l := ⟨Nat.le_trans h.1 hn, h.2⟩
end Go.Proofs.Ytjlkjgoncfdaeaa.Pure
