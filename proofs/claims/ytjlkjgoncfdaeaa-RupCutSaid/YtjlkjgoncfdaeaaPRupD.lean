/- Plain laws of rup: what follows, and rows. -/
import Derived.Test.YtjlkjgoncfdaeaaHkx0
import Derived.Test.YtjlkjgoncfdaeaaHkx3
import Derived.Test.YtjlkjgoncfdaeaaHkx42
import Derived.Test.YtjlkjgoncfdaeaaHkx44
import Derived.Test.YtjlkjgoncfdaeaaHkx52
import Derived.Test.YtjlkjgoncfdaeaaPRups
namespace Go.Proofs.Ytjlkjgoncfdaeaa.Pure
open Go.RowKit Go.Proofs.Ytjlkjgoncfdaeaa.Hk Go.Proofs.YtjlkjgoncfdaeaaW.PrintWords Go.Proofs.YtjlkjgoncfdaeaaW.PrintLast Go.Proofs.YtjlkjgoncfdaeaaW.PrintMore Go.Proofs.Ytjlkjgoncfdaeaa.LF Go.Proofs.Ytjlkjgoncfdaeaa.MC Go.Proofs.Ytjlkjgoncfdaeaa.RM
set_option linter.unusedVariables false

theorem follows_ref {n : Nat} (db : List (List Int)) (c : List Int) (hbd : ∀ d ∈ db, ∀ x ∈ d, Bd x) (hs : Small n db) (hn : n < 100000) (hb : ∀ x ∈ c, Bd x) (hc : c.length ≤ 5000) : Ev (fun k => juristref16_follows.f k db c) (fol db c) := by
  unfold juristref16_follows.f
  have hw : ∀ x ∈ c, (Lit.int .i64 x).wf = true := fun x hx => WalkArith.wf_i64 (by have := hb x hx; omega)
  have hsay := saysR_ev c (by omega)
  rw [saysR_eq c hw] at hsay
  refine Ev.bind hsay ?_
  by_cases he : saysB c = true
  · refine ev_pos he ?_
    rw [show fol db c = true from fol_iff.2 (.inr ((saysB_iff hb).1 he))]
    exact ev_ret _
  · refine ev_neg he ?_
    have hfl := hs.flat
    obtain ⟨r, hr, hok⟩ := come_ev db (negs c) hbd (negs_bd hb) (by have := hs.1; omega) (fun d hd => by have := hs.2 d hd; omega) (by unfold negs; rw [List.length_map]; omega)
    have hres : (!r.2) = fol db c := by
      rw [Bool.eq_iff_iff, Bool.not_eq_true', conf_come hok, fol_iff]
      exact ⟨.inl, fun h => h.resolve_right fun hx => he ((saysB_iff hb).2 hx)⟩
    have : ∀ d i, i + d = c.length → Ev (fun k => juristref16_follows.l0 k db c (negs (c.take i)) (i : Int)) (fol db c) := by
      intro d
      induction d with
      | zero =>
        intro i hi
        refine Ev.step (f := fun k => (juristref16_Come.f k db (negs c)).bind fun bt => some (!bt.2)) (fun k => by simp only [juristref16_follows.l0]; rw [if_neg (by omega), List.take_of_length_le (by omega)]) ?_
        rw [← hres]
        exact Ev.bind hr (ev_ret _)
      | succ d ih =>
        intro i hi
        have hil : i < c.length := by omega
        refine Ev.step (f := fun k => juristref16_follows.l0 k db c (negs (c.take (i + 1))) ((i + 1 : Nat) : Int)) (fun k => by
          simp only [juristref16_follows.l0]
          rw [if_pos (by omega), if_pos (by omega), if_pos (by unfold negs; rw [List.length_map, List.length_take]; omega), wrap_succ (by omega), rd_lt hil, RM.wrap64_lit (hb _ (List.getElem_mem hil))]
          rw [show negs (c.take i) ++ [-c[i]] = negs (c.take (i + 1)) from by rw [List.take_succ_eq_append_getElem hil]; unfold negs; rw [List.map_append]; rfl]) (ih (i + 1) (by omega))
    have := this c.length 0 (by omega)
    rw [List.take_zero] at this
    exact this

/-! #### Follows -/
theorem follows_some {db : List (List Int)} {c : List Int} (hfit : db.length + c.length < 10000) : rup_Follows.f db c = some (if (db.all mayB && mayB c) = true then (fol db c, 0) else (false, 2)) := by
  unfold rup_Follows.f followsR fitB
  rw [if_pos (by simpa using hfit)]
  by_cases h : (db.all mayB && mayB c) = true
  · rw [if_pos h, if_pos h]
    rw [Bool.and_eq_true] at h
    rw [(followsM_fol (basedM_stands h.1) h.2).1]
  · rw [if_neg h, if_neg h]
theorem Follows_ref {n : Nat} {db : List (List Int)} {c : List Int} (hs : Small n db) (hn : n < 100000) (hc : c.length ≤ 5000) : Ev (fun k => juristref16_Follows.f k db c) (if (db.all mayB && mayB c) = true then (fol db c, 0) else (false, 2)) := by
  unfold juristref16_Follows.f
  have h1 := mays_ev db (by have := hs.1; omega) (fun d hd => by have := hs.2 d hd; omega)
  have h2 := may_ev c (by omega)
  refine Ev.bind h1 ?_
  by_cases e1 : db.all mayB = true
  · refine ev_pos e1 (Ev.bind h2 ?_)
    by_cases e2 : mayB c = true
    · refine ev_pos e2 ?_
      rw [if_pos (by simp [e1, e2])]
      exact Ev.bind (follows_ref db c (mays_bd e1) hs hn (may_bd e2).2 hc) (ev_ret _)
    · refine ev_neg e2 ?_
      rw [if_neg (by simp [e2])]
      exact ev_ret _
  · refine ev_neg e1 ?_
    rw [if_neg (by simp [e1])]
    exact ev_ret _

/-! #### Row -/
noncomputable def rowS (db : List (List Int)) : List (List Int) → Nat → Bool → Int × Bool
  | [], i, ref => (i, ref)
  | c :: r, i, ref => if fol db c = true then rowS (db ++ [c]) r (i + 1) (ref || decide ((c.length : Int) = 0)) else (i, false)
theorem rowL_rowS : ∀ (l : List (List Int)) (b : RB) (db : List (List Int)) (i : Nat) (ref : Bool), Stands b db → l.all mayB = true → rowL b l i ref = rowS db l i ref
  | [], _, _, _, _, _, _ => rfl
  | c :: l, b, db, i, ref, h, hm => by
    rw [List.all_cons, Bool.and_eq_true] at hm
    have hf := followsM_fol h hm.1
    rw [rowL, rowS, hf.1]
    by_cases e : fol db c = true
    · rw [if_pos e, if_pos e]
      exact rowL_rowS l _ _ _ _ (addC_stands hf.2 hm.1) hm.2
    · rw [if_neg e, if_neg e]
theorem row_some {db row : List (List Int)} (hfit : db.length + row.length < 10000) : rup_Row.f db row = some (if (db.all mayB && row.all mayB) = true then ((rowS db row 0 false).1, (rowS db row 0 false).2, 0) else (0, false, 2)) := by
  unfold rup_Row.f rowR fitB
  rw [if_pos (by simpa using hfit)]
  by_cases h : (db.all mayB && row.all mayB) = true
  · rw [if_pos h, if_pos h]
    rw [Bool.and_eq_true] at h
    rw [rowL_rowS row _ _ 0 false (basedM_stands h.1) h.2]
  · rw [if_neg h, if_neg h]
theorem Row_ref {n m : Nat} {db row : List (List Int)} (hs : Small n db) (hr : Small m row) (hn : n + m < 100000) : Ev (fun k => juristref16_Row.f k db row) (if (db.all mayB && row.all mayB) = true then ((rowS db row 0 false).1, (rowS db row 0 false).2, 0) else (0, false, 2)) := by
  unfold juristref16_Row.f
  have e1 := mays_ev db (by have := hs.1; omega) (fun d hd => by have := hs.2 d hd; omega)
  have e2 := mays_ev row (by have := hr.1; omega) (fun d hd => by have := hr.2 d hd; omega)
  have no : Ev (fun k => juristref16_Row.j0 k db row true) ((0 : Int), false, (2 : Int)) := Ev.step (f := fun _ => some (0, false, 2)) (fun k => by simp only [juristref16_Row.j0]; rw [if_pos trivial]) (ev_ret _)
  refine Ev.bind e1 ?_
  by_cases h1 : db.all mayB = true
  · refine ev_pos h1 (Ev.bind e2 ?_)
    by_cases h2 : row.all mayB = true
    · rw [if_pos (by simp [h1, h2]), h2]
      have hd := hs.1
      have hrl := hr.1
      refine Ev.step (f := fun k => juristref16_Row.l0 k row db false 0) (fun k => by simp only [juristref16_Row.j0, Bool.not_true]; rw [if_neg (by simp)]; simp only [Option.bind_some, List.nil_append, List.length_nil, Nat.zero_add]; rw [if_pos (by omega)]) ?_
      have key : ∀ d i, i + d = row.length → ∀ ref, Ev (fun k => juristref16_Row.l0 k row (db ++ row.take i) ref (i : Int)) ((rowS (db ++ row.take i) (row.drop i) i ref).1, (rowS (db ++ row.take i) (row.drop i) i ref).2, (0 : Int)) := by
        intro d
        induction d with
        | zero =>
          intro i hi ref
          rw [List.drop_eq_nil_of_le (by omega), rowS]
          have : i = row.length := by omega
          exact Ev.step (f := fun _ => some ((row.length : Int), ref, 0)) (fun k => by simp only [juristref16_Row.l0]; rw [if_neg (by omega)]) (by rw [this]; exact ev_ret _)
        | succ d ih =>
          intro i hi ref
          have hil : i < row.length := by omega
          have hmem : row[i] ∈ row := List.getElem_mem hil
          have hmy : mayB row[i] = true := List.all_eq_true.1 h2 _ hmem
          have hf := follows_ref (n := n + m) (db ++ row.take i) row[i] (fun d hd => by
            rcases List.mem_append.1 hd with hd | hd
            · exact mays_bd h1 d hd
            · exact mays_bd h2 d (List.mem_of_mem_take hd)) (hs.app (hr.take i)) hn (may_bd hmy).2 (may_bd hmy).1
          rw [List.drop_eq_getElem_cons hil, rowS]
          refine Ev.step (fun k => by simp only [juristref16_Row.l0]; rw [if_pos (by omega), if_pos (by omega), rdL_lt hil, wrap_succ (by omega)]) ?_
          refine Ev.bind hf ?_
          by_cases e : fol (db ++ row.take i) row[i] = true
          · refine ev_pos e (ev_pos (by rw [List.length_append, List.length_take]; omega) (ev_got rfl ?_))
            rw [if_pos e]
            have e3 : db ++ row.take i ++ [row[i]] = db ++ row.take (i + 1) := by rw [List.take_succ_eq_append_getElem hil, List.append_assoc]
            rw [e3]
            by_cases hrf : ref = true
            · refine ev_pos hrf ?_
              subst hrf
              exact ih (i + 1) (by omega) true
            · refine ev_neg hrf ?_
              have hrf : ref = false := by simpa using hrf
              subst hrf
              rw [Bool.false_or, show (((row[i].length : Int) == 0) : Bool) = decide ((row[i].length : Int) = 0) from rfl]
              exact ih (i + 1) (by omega) _
          · refine ev_neg e ?_
            rw [if_neg e]
            exact ev_ret _
      have := key row.length 0 (by omega) false
      simpa using this
    · rw [if_neg (by simp [h2])]
      have h2 : row.all mayB = false := by simpa using h2
      rw [h2]
      exact no
  · refine ev_neg h1 ?_
    rw [if_neg (by simp [h1])]
    exact no
end Go.Proofs.Ytjlkjgoncfdaeaa.Pure
