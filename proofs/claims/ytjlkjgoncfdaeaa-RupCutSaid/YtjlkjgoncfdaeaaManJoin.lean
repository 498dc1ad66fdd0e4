/- Rows of clauses joined: what an append to copied clauses, or copied literals, leaves. -/
import Derived.Test.YtjlkjgoncfdaeaaRupRu
namespace Go.Proofs.Ytjlkjgoncfdaeaa.RM
open Go.RowKit Go.Proofs.YtjlkjgoncfdaeaaW.PrintWords Go.Proofs.YtjlkjgoncfdaeaaW.PrintLast Go.Proofs.YtjlkjgoncfdaeaaW.PrintMore Go.Sort Go.Shelf Go.Maps Go.Proofs.Ytjlkjgoncfdaeaa.LF Go.Proofs.Ytjlkjgoncfdaeaa.MC Go.Proofs.Ytjlkjgoncfdaeaa.MM
set_option linter.unusedVariables false

abbrev KC : Kd (List Int) := Kd.slice 46 (Kd.int .i64)
/-- .. what is appended is only read. -/
theorem wp_app_rows (w : World) {ops : Array Oper} {rest : List Oper} {o : Oper} {a : Act} {Q : Exit → Act → World → Prop} (hgd : o.guard = none) (s x : Operand)
    (ho : o.op = .call { callee := .builtin .append, args := #[s, x], argTypes := #[22, 22] })
    (v u : Value) (xs ys : List Value) (hs : a.eval s = v) (hx : a.eval x = u) (h : Row w 31 v xs) (hy : Src w u ys) (h1 : ∀ u ∈ ys, u.oneCell' = true) (hl : xs.length + ys.length < 4611686018427)
    (hK : ∀ v' w', Row w' 31 v' (xs ++ ys) → Keep (fun k => v.ownBlock = some k) w w' → (v'.ownBlock = v.ownBlock ∨ v'.ownBlock = some w.heap.size) → wpList Try.prog ops Q rest (a.put o.dst v') w') :
    wpList Try.prog ops Q (o :: rest) a w := by
  obtain ⟨i0, hi0, hz0, hz1, hz2⟩ := info_parts info31
  exact wpList_append_row hgd s x _ ho _ i0 _ Try.underlying22 hi0 hz0 hz1 rfl v u xs ys hs hx h hy h1 (by simp [maxLen]; omega) (by rw [hz2]; omega) hK

theorem take_one {α : Type} {l : List α} {j : Nat} (h : j < l.length) : (l.drop j).take 1 = [l[j]] := by
  rw [List.drop_eq_getElem_cons h]
  rfl
/-- A row of a kind's elements, one cell each, of the call's own. -/
theorem inner_of_R {α : Type} {d : Kd α} (hsz : d.sz = 1) {e : Nat} {w : World} {base : Nat} {ok : Nat → Prop} {v : Value} {xs : List α} (h : d.R e w base ok v xs) :
    ∃ inner, Row w e v inner ∧ inner.length = xs.length ∧ (∀ g, v.ownBlock = some g → base ≤ g) ∧ Reps (d.M w base (fun k => ok k ∧ some k ≠ v.ownBlock)) 1 xs inner := by
  obtain ⟨h0, inner, ho, hr⟩ := h
  rw [hsz] at ho hr
  obtain ⟨a1, a2, a3⟩ := Row.ofOwns ho
  exact ⟨inner, a1, a2.symm, a3, hr⟩
/-- A row that is read, as cells. -/
theorem cells_src {α : Type} {d : Kd α} (hsz : d.sz = 1) {w : World} {A : Option Addr} {xs : List α} (c : Nat) (h : d.C w A xs.length xs) :
    ∃ ys, ys.length = xs.length ∧ (∀ W, Below w.heap.size w W → Src W (.slice A xs.length c) ys) ∧ Reps (d.K w) 1 xs ys ∧ ∀ u ∈ ys, u.oneCell' = true := by
  obtain ⟨_, _, h⟩ := h
  by_cases h0 : 0 < xs.length
  · obtain ⟨ad, rfl, hc⟩ := h h0
    rw [hsz] at hc
    have hat : ∀ j, j < xs.length → ∃ u, w.cell? (ad.add j) = some u := by
      intro j hj
      obtain ⟨c, h1, _, h2⟩ := hc j xs[j] (List.getElem?_eq_getElem hj)
      obtain ⟨u, rfl⟩ := List.length_eq_one_iff.1 h1
      exact ⟨u, by simpa using h2 0 u rfl⟩
    obtain ⟨ys, hys⟩ : ∃ ys : List Value, ys = (List.range xs.length).map fun j => (w.cell? (ad.add j)).getD (.bool false) := ⟨_, rfl⟩
    have hlen : ys.length = xs.length := by rw [hys]; simp
    have hget : ∀ j, j < xs.length → w.cell? (ad.add j) = ys[j]? := by
      intro j hj
      obtain ⟨u, hu⟩ := hat j hj
      rw [hys, List.getElem?_map, List.getElem?_range hj, hu]
      simp [hu]
    have hreps : Reps (d.K w) 1 xs ys := by
      refine ⟨by rw [hlen, Nat.mul_one], fun j p hj => ?_⟩
      have hjl : j < xs.length := (List.getElem?_eq_some_iff.1 hj).1
      obtain ⟨c, h1, h2, h3⟩ := hc j p hj
      obtain ⟨u, rfl⟩ := List.length_eq_one_iff.1 h1
      have hu := h3 0 u rfl
      rw [Nat.mul_one, Nat.add_zero, hget j hjl] at hu
      rw [Nat.mul_one]
      have : (ys.drop j).take 1 = [u] := by
        rw [List.getElem?_eq_getElem (by omega)] at hu
        rw [take_one (by omega), Option.some.inj hu]
      rw [this]
      exact h2
    refine ⟨ys, hlen, fun W hW => .inr ⟨ad, c, by rw [hlen], fun j u hj => ?_⟩, hreps, fun u hu => ?_⟩
    · have hjl : j < xs.length := by have := (List.getElem?_eq_some_iff.1 hj).1; omega
      have : w.cell? (ad.add j) = some u := (hget j hjl).trans hj
      exact (hW.cell (World.block_lt_of_cell? w _ this)).trans this
    · obtain ⟨j, hj, rfl⟩ := List.mem_iff_getElem.1 hu
      have := hreps.2 j xs[j] (List.getElem?_eq_getElem (by omega))
      refine d.K_one this _ ?_
      rw [Nat.mul_one, take_one hj]
      simp
  · obtain rfl : xs = [] := List.eq_nil_of_length_eq_zero (by omega)
    exact ⟨[], rfl, fun W _ => by cases A with | none => exact .inl ⟨c, rfl, rfl⟩ | some a => exact .inr ⟨a, c, rfl, fun j u hj => by simp at hj⟩, .none _ _, by simp⟩
/-- A row of cells is read as the kind tells. -/
theorem C_of_row {α : Type} {d : Kd α} (hsz : d.sz = 1) {w : World} {e : Nat} {v : Value} {xs : List α} {cs : List Value} (h : Row w e v cs) (hr : Reps (d.K w) 1 xs cs) :
    ∃ A c, v = .slice A xs.length c ∧ xs.length ≤ c ∧ d.C w A xs.length xs := by
  have hl : cs.length = xs.length := by rw [hr.1, Nat.mul_one]
  rcases h with ⟨rfl, rfl⟩ | ⟨g, off, cap, cur, rfl, hg, h2, h3, h4, h5⟩
  · obtain rfl : xs = [] := List.eq_nil_of_length_eq_zero hl.symm
    exact ⟨none, 0, rfl, Nat.le_refl _, rfl, by simp, fun h => absurd h (by simp)⟩
  · refine ⟨some ⟨g, off, none⟩, cap, by rw [hl], by omega, rfl, by simp only [maxLen] at h3; omega, fun _ => ⟨_, rfl, fun j p hj => ?_⟩⟩
    rw [hsz]
    have hjl : j < cs.length := by have := (List.getElem?_eq_some_iff.1 hj).1; omega
    refine ⟨[cs[j]], rfl, ?_, fun i u hu => ?_⟩
    · have := hr.2 j p hj
      rw [Nat.mul_one, List.drop_eq_getElem_cons hjl] at this
      exact this
    · have hi : i = 0 := by have := (List.getElem?_eq_some_iff.1 hu).1; simp at this; exact this
      subst hi
      have hu : cs[j] = u := by simpa using hu
      subst hu
      rw [Nat.mul_one, Nat.add_zero, Addr.add_lit, blk_cell hg]
      exact shown h5 (List.getElem?_eq_getElem hjl)
/-- What an append to a row of one's own leaves: both rows, one behind the other. -/
theorem joined_C {α : Type} {d : Kd α} (hsz : d.sz = 1) {e : Nat} {w w1 w2 : World} {ok : Nat → Prop} {v v' : Value} {xs zs : List α} {inner ys : List Value} (hb : Below w.heap.size w w1) (hbase : ∀ g, v.ownBlock = some g → w.heap.size ≤ g)
    (hm : Reps (d.M w1 w.heap.size (fun k => ok k ∧ some k ≠ v.ownBlock)) 1 xs inner) (hz : Reps (d.K w) 1 zs ys) (hr : Row w2 e v' (inner ++ ys)) (hk : Keep (fun k => v.ownBlock = some k) w1 w2) :
    (∃ A n c, v' = .slice A n c ∧ n ≤ c ∧ n = (xs ++ zs).length ∧ d.C w2 A (xs ++ zs).length (xs ++ zs)) ∧ Below w.heap.size w w2 := by
  have hb2 : Below w.heap.size w w2 := hb.trans (hk.below hbase hb.size)
  obtain ⟨A, c, h1, h2, h3⟩ := C_of_row hsz hr (Kd.reps_append (hm.imp_ fun p c hp => d.K_of_M (Kd.M_step hp fun k ho hlt => hk.block k hlt fun e => ho.2 e.symm)) (hz.imp_ fun p c hp => d.K_below hb2 hp))
  exact ⟨⟨A, _, c, h1, h2, rfl, h3⟩, hb2⟩
end Go.Proofs.Ytjlkjgoncfdaeaa.RM
