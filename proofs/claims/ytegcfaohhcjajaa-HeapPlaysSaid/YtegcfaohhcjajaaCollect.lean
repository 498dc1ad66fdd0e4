/- A loop over heap.All that collects into a boxed slice: what holds between two rounds. -/
import Derived.Test.YtegcfaohhcjajaaHeapAll
import Derived.Test.YtegcfaohhcjajaaOwnS
import Derived.RangeFuncFrom
import Derived.RangeFuncBox
import Derived.Shelf.Abstract
namespace Go.Proofs.Ytegcfaohhcjajaa.HC
open Go.RowKit Go.Proofs.YtegcfaohhcjajaaW.PrintWords Go.Proofs.YtegcfaohhcjajaaW.PrintLast Go.Proofs.YtegcfaohhcjajaaW.PrintMore Go.Proofs.Ytegcfaohhcjajaa.MM Go.Proofs.Ytegcfaohhcjajaa.TW Go.Proofs.Ytegcfaohhcjajaa.HM
set_option linter.unusedVariables false

theorem keep_grown {F : Nat → Prop} {B : Nat} {Wl W W' : World} {row : Option Nat} (hB : Wl.heap.size ≤ B) (h : Keep F Wl W) (hg : W.grownBy W' row) (hr : ∀ r, row = some r → B ≤ r) : Keep F Wl W' :=
  ⟨hg.os.trans h.os, hg.tape.trans h.tape, hg.output.trans h.output, Nat.le_trans h.size hg.size, fun j hj hn => (hg.block j (Nat.lt_of_lt_of_le hj h.size) (fun e => by have := hr j e.symm; omega)).trans (h.block j hj hn)⟩
/-- Appending, inside a fence. -/
theorem wpIn_app {F : Fence} {n : Nat} (w : World) {ops : Array Oper} {rest : List Oper} {o : Oper} {a : Act} {Q : Exit → Act → World → Prop} (hgd : o.guard = none) (s x : Operand)
    (ho : o.op = .call { callee := .builtin .append, args := #[s, x], argTypes := #[25, 25] })
    (v u : Value) (xs ys : List Value) (hs : a.eval s = v) (hx : a.eval x = u) (h : Row w 3 v xs) (hy : Row w 3 u ys) (h1 : ∀ u ∈ ys, u.oneCell' = true) (hl : xs.length + ys.length < 461168601842)
    (hK : ∀ v' w', Row w' 3 v' (xs ++ ys) → Keep (fun k => v.ownBlock = some k) w w' → (v'.ownBlock = v.ownBlock ∨ v'.ownBlock = some w.heap.size) → wpListIn F n Try.prog ops Q rest (a.put o.dst v') w') :
    wpListIn F n Try.prog ops Q (o :: rest) a w := by
  obtain ⟨i0, hi0, hz0, hz1, hz2⟩ := info_parts infoI
  refine wpListIn_plain hgd fun K hKK => ?_
  obtain ⟨v', w', hr, h2, h3, h4⟩ := run_append_src (P := Try.prog) w 25 o.type 3 i0 _ Try.underlying25 hi0 hz0 hz1 rfl h hy.src h1 (by simp [maxLen]; omega) (by rw [hz2]; omega)
  unfold Oper.wpIn
  refine ⟨?_, ?_⟩
  · simp [Oper.about, ho, resolve, Target.leads, Sem.run_pure]
  · rw [Oper.semAt_plain F _ _ (by rw [ho]; intro c hc'; cases hc')]
    simp [execOp, ho, resolve, invoke, builtin, hs, hx, hr, Result.andThen]
    exact hKK _ _ (hK v' w' h2 h3 h4)
theorem ints_open {w : World} {A : Option Addr} {n : Nat} {xs : List Int} (h : Kd.C (Kd.int .i64) w A n xs) (h0 : 0 < xs.length) : ∃ b off, A = some ⟨b, off, none⟩ := by
  have hn := h.1
  obtain ⟨ad, e, hc⟩ := Kd.at_int h 0 (by omega) (by omega)
  obtain ⟨b, off, sp⟩ := ad
  have hsp : sp = none := by
    unfold World.cell? at hc
    simp only [Addr.add] at hc
    cases sp with
    | none => rfl
    | some s => split at hc <;> simp at hc
  subst hsp
  exact ⟨b, off, e⟩
theorem ints_cell {w : World} {b off n : Nat} {xs : List Int} (h : Kd.C (Kd.int .i64) w (some ⟨b, off, none⟩) n xs) (j : Nat) (hj : j < xs.length) : w.cell? ⟨b, off + j, none⟩ = some (.int .i64 (xs.getD j 0)) := by
  have hn := h.1
  obtain ⟨ad, e, hc⟩ := Kd.at_int h (j : Int) (by omega) (by omega)
  cases e
  rw [Int.toNat_natCast, Addr.add_lit] at hc
  rw [hc]
  congr 2
/-- Between two rounds: box b holds what has come; all else is as it was. -/
structure Col (b : Nat) (Wl : World) (pre : List Int) (W : World) : Prop where
  ex : ∃ v, W.heap[b]? = some (.cells #[v] 25 (0, 0)) ∧ Row W 3 v (lits pre) ∧ ∀ j, v.ownBlock = some j → Wl.heap.size ≤ j
  keep : Keep (fun j => j = b) Wl W
theorem col_own (b : Nat) (Wl : World) : OwnFrom Wl.heap.size (Col b Wl) := by
  rintro pre W W' row ⟨⟨v, h1, h2, h3⟩, hk⟩ hg hr
  refine ⟨⟨v, ?_, ?_, h3⟩, keep_grown (Nat.le_refl _) hk hg (fun r e => (hr r e).1)⟩
  · refine (hg.block b (blk_lt h1) (fun e => ?_)).trans h1
    obtain ⟨_, o, ho, hc⟩ := hr b e.symm
    rw [h1] at ho
    cases ho
    cases hc
  · refine h2.keep (F := fun j => row = some j) ⟨hg.os, hg.tape, hg.output, hg.size, fun j hj hn => hg.block j hj (fun e => hn e.symm)⟩ (fun j hj e => ?_)
    obtain ⟨_, o, ho, hc⟩ := hr j e
    obtain ⟨cur, hcur⟩ := h2.typed j hj
    rw [hcur] at ho
    cases ho
    cases hc
theorem col_start {b : Nat} {Wl : World} (h : Wl.heap[b]? = some (.cells #[.slice none 0 0] 25 (0, 0))) : Col b Wl [] Wl :=
  ⟨⟨_, h, .nil _ _, fun j hj => by cases hj⟩, Keep.refl _ _⟩
/-- One more has come. -/
theorem col_next {b : Nat} {Wl W w1 : World} {pre : List Int} {x : Int} {v v' : Value} {o : Obj} (hb : b < Wl.heap.size) (hk : Keep (fun j => j = b) Wl W) (h1 : W.heap[b]? = some (.cells #[v] 25 (0, 0))) (hrow : Row W 3 v (lits pre)) (h3 : ∀ j, v.ownBlock = some j → Wl.heap.size ≤ j)
    (hr : Row w1 3 v' (lits pre ++ [.int .i64 x])) (hkv : Keep (fun k => v.ownBlock = some k) (W.alloc o) w1) (hat : v'.ownBlock = v.ownBlock ∨ v'.ownBlock = some (W.alloc o).heap.size) :
    w1.heap[b]? = some (.cells #[v] 25 (0, 0)) ∧ Col b Wl (pre ++ [x]) (w1.setCell ⟨b, 0, none⟩ v') ∧ Kq b W (w1.setCell ⟨b, 0, none⟩ v') ∧ KeepsOthers W (w1.setCell ⟨b, 0, none⟩ v') := by
  have hka : Keep (fun k => v.ownBlock = some k) W w1 := (Keep.ofBelow (F := fun _ => False) ((Below.refl W.heap.size W).alloc (Nat.le_refl _) o)).trans hkv (fun _ h => h.elim) (fun _ h => .inl h)
  have hbv : ¬ v.ownBlock = some b := fun e => by have := h3 b e; omega
  have h1w : w1.heap[b]? = some (.cells #[v] 25 (0, 0)) := hka.blk h1 hbv
  have hks := setCell_keep w1 b 0 v'
  have hall : Keep (fun j => j = b ∨ v.ownBlock = some j) W (w1.setCell ⟨b, 0, none⟩ v') := hka.trans hks (fun _ h => .inr h) (fun _ h => .inl (.inl h))
  have hown : ∀ j, v'.ownBlock = some j → v.ownBlock = some j ∨ W.heap.size ≤ j := fun j hj => by
    rcases hat with e | e
    · exact .inl (e ▸ hj)
    · rw [e] at hj; cases hj; exact .inr (by simp)
  have hnb : ∀ j, v'.ownBlock = some j → j ≠ b := fun j hj e => by
    subst e
    rcases hown _ hj with q | q
    · exact hbv q
    · have := blk_lt h1; omega
  refine ⟨h1w, ⟨⟨v', by rw [blk_set h1w]; simp, ?_, fun j hj => ?_⟩, hk.trans hall (fun _ h => h) (fun j hj => hj.elim .inl (fun q => .inr (h3 j q)))⟩, ⟨fun j o2 ho hc hjb hn => hall.blk ho (fun q => q.elim hjb (hn v ((blk_cell h1 0).trans rfl))), fun v2 j hv2 hj => ?_, hall.size⟩, ⟨hall.size, fun j o2 ho hc => hall.blk ho (fun q => ?_)⟩⟩
  · rw [show lits (pre ++ [x]) = lits pre ++ [.int .i64 x] from by simp [lits]]
    exact hr.keep hks (fun j hj => hnb j hj)
  · rcases hown j hj with q | q
    · exact h3 j q
    · exact Nat.le_trans hk.size q
  · have e2 : v2 = v' := by
      rw [blk_cell (blk_set h1w 0 v') 0] at hv2
      simpa using hv2.symm
    subst e2
    rcases hown j hj with q | q
    · exact .inl ⟨v, (blk_cell h1 0).trans rfl, q⟩
    · exact .inr q
  · rcases q with q | q
    · rw [q, h1] at ho
      cases ho
      cases hc
    · obtain ⟨cur, hcur⟩ := hrow.typed j q
      rw [hcur] at ho
      cases ho
      cases hc
theorem OwnS_sub {w0 w : World} {t : Nat} {s : HS} {S S' : Side} (h : OwnS w0 t s S w) (hp : S'.P w) (hd : ∀ j, S'.D j → S.D j) : OwnS w0 t s S' w := by
  obtain ⟨F, h1, h2, h3, h4, h5⟩ := h
  exact ⟨F, h1, h2, h3, hp, fun j hj => h5 j (hd j hj)⟩
/-- All has come. -/
theorem collected {w0 Wl W : World} {t b D : Nat} {s : HS} {S0 : Side} {xs : List Int} {o : Obj} (h : OwnS w0 t s (S0.and (Side.obj b o)) Wl) (hS0 : ∀ j, S0.D j → j ≠ b) (hb : w0.heap.size ≤ b) (hc : Col b Wl xs W) (hK : W.heap[D]? = some (.deferred (some []))) (hD : Wl.heap.size ≤ D) :
    ∃ A c, OwnS w0 t s (((S0.and (Side.obj b (.cells #[.slice A xs.length c] 25 (0, 0)))).and (Side.row 3 (.slice A xs.length c) (lits xs))).and (Side.obj D (.deferred (some [])))) W ∧ (∀ j, (Value.slice A xs.length c).ownBlock = some j → Wl.heap.size ≤ j) := by
  obtain ⟨F, h1, h2, h3, h4, h5⟩ := h
  obtain ⟨⟨v, k1, k2, k3⟩, hk⟩ := hc
  obtain ⟨A, c, rfl, _, _⟩ := k2.shape
  rw [List.length_map] at k1 k2 k3
  refine ⟨A, c, ⟨F, hpKeep h1 hk (fun j hF e => h5 j (.inr e) hF), h2, below_trans h3 ⟨hk.os, hk.tape, hk.output, hk.size, fun j hj => hk.block j (Nat.lt_of_lt_of_le hj h3.size) (fun e => by omega)⟩, ⟨⟨⟨S0.mv hk (fun j hj e => hS0 j hj e) h4.1, k1⟩, k2⟩, hK⟩, fun j hj hF => ?_⟩, k3⟩
  have hF' := hpOld h1 j hF
  rcases hj with ((hj | hj) | hj) | hj
  · exact h5 j (.inl hj) hF
  · exact h5 j (.inr hj) hF
  · have := k3 j hj; omega
  · have : j = D := hj; omega
end Go.Proofs.Ytegcfaohhcjajaa.HC
