/- Rows of elements of any size: read, laid down at once, appended to rows of the call's own. Over any program. -/
import Derived.Test.YtpopohkbffhckaaDoorWMore
import Derived.Test.YtpopohkbffhckaaDoorWN
import Derived.Maps.AppendAt
import Derived.Deep.AppendLies
namespace Go.Proofs.YtpopohkbffhckaaDoor.RC
open Go.RowKit Go.Proofs.YtpopohkbffhckaaDoorW.PrintWords Go.Proofs.YtpopohkbffhckaaDoorW.PrintLast Go.Proofs.YtpopohkbffhckaaDoorW.PrintMore
set_option linter.unusedVariables false
section
variable {α : Type} {d : Kd α} {w w0 w1 : World} {l : List α} {cs : List Value}
/-- Where the cells lie, there the row is read. -/
theorem C_of_reps {ad : Addr} (hr : Reps (d.K w) d.sz l cs) (hn : l.length ≤ 9223372036854775807) (hc : ∀ j u, cs[j]? = some u → w.cell? (ad.add j) = some u) : d.C w (some ad) l.length l := by
 refine ⟨rfl, hn, fun _ => ⟨ad, rfl, fun j p hj => ?_⟩⟩
 have hk := hr.2 j p hj
 refine ⟨_, d.K_len hk, hk, fun i u hu => ?_⟩
 refine hc _ _ ?_
 rw [List.getElem?_take] at hu
 split at hu
 ·
  rwa [List.getElem?_drop] at hu
 ·
  cases hu
theorem reps_K (hr : Reps (d.K w) d.sz l cs) (hb : Below w.heap.size w w1) : Reps (d.K w1) d.sz l cs := hr.imp_ fun _ _ h => d.K_below hb h
theorem reps_one (hs : 0 < d.sz) (hr : Reps (d.K w) d.sz l cs) : ∀ u ∈ cs, u.oneCell' = true := by
 intro u hu
 obtain ⟨j, hj, rfl⟩ := List.mem_iff_getElem.1 hu
 have hjl : j / d.sz < l.length := by
  rw [hr.1] at hj
  exact Nat.div_lt_of_lt_mul (by rw [Nat.mul_comm]; exact hj)
 refine d.K_one (hr.2 _ _ (List.getElem?_eq_getElem hjl)) _ ?_
 refine List.mem_iff_getElem?.2 ⟨j % d.sz, ?_⟩
 rw [List.getElem?_take, if_pos (Nat.mod_lt _ hs), List.getElem?_drop]
 have : j / d.sz * d.sz + j % d.sz = j := by rw [Nat.mul_comm]; exact Nat.div_add_mod _ _
 rw [this, List.getElem?_eq_getElem hj]
/-- A row that is read, as cells. -/
theorem reps_of_C {A : Option Addr} (hs : 0 < d.sz) (h : d.C w A l.length l) : ∃ cs, Reps (d.K w) d.sz l cs ∧ (l.length = 0 ∨ ∃ ad, A = some ad ∧ ∀ j u, cs[j]? = some u → w.cell? (ad.add j) = some u) := by
 rcases Nat.eq_zero_or_pos l.length with h0 | h0
 ·
  obtain rfl : l = [] := List.eq_nil_of_length_eq_zero h0
  exact ⟨[], .none _ _, .inl rfl⟩
 ·
  obtain ⟨ad, rfl, hc⟩ := h.2.2 h0
  have key : ∀ m, m ≤ l.length → ∃ cs, Reps (d.K w) d.sz (l.take m) cs ∧ ∀ j u, cs[j]? = some u → w.cell? (ad.add j) = some u := by
   intro m
   induction m with
   | zero => intro _; exact ⟨[], by simpa using Reps.none _ _, by simp⟩
   | succ m ih =>
    intro hm
    obtain ⟨cs, h1, h2⟩ := ih (by omega)
    have hml : m < l.length := by omega
    obtain ⟨c, hcl, hk, hcell⟩ := hc m _ (List.getElem?_eq_getElem hml)
    refine ⟨cs ++ c, ?_, fun j u hu => ?_⟩
    ·
     rw [List.take_succ_eq_append_getElem hml]
     exact h1.snoc hk hcl
    ·
     have hl : cs.length = m * d.sz := by rw [h1.1, List.length_take, Nat.min_eq_left (by omega)]
     rcases Nat.lt_or_ge j cs.length with hj | hj
     ·
      rw [List.getElem?_append_left hj] at hu
      exact h2 j u hu
     ·
      rw [List.getElem?_append_right hj] at hu
      have := hcell _ u hu
      rw [hl] at this hj
      rw [show m * d.sz + (j - m * d.sz) = j by omega] at this
      exact this
  obtain ⟨cs, h1, h2⟩ := key l.length (Nat.le_refl _)
  rw [List.take_length] at h1
  exact ⟨cs, h1, .inr ⟨ad, rfl, h2⟩⟩
/-- A row of the call's own, whose elements lead into the world ahead. -/
def Own (d : Kd α) (e : TypeId) (w0 : World) (v : Value) (l : List α) (w : World) : Prop := Below w0.heap.size w0 w ∧ ∃ inner, w.ownsRow w0.heap.size e d.sz v l.length inner ∧ Reps (d.K w0) d.sz l inner
theorem Own.C {e : TypeId} {v : Value} (h : Own d e w0 v l w) (hn : l.length ≤ 9223372036854775807) : ∃ A c, v = .slice A l.length c ∧ l.length ≤ c ∧ d.C w A l.length l := by
 obtain ⟨hb, inner, ho, hr⟩ := h
 have hr2 := reps_K hr hb
 rcases ho.2 with ⟨rfl, h0⟩ | ⟨g, cap, cur, rfl, hg, hh, h3, h4, h5, h6⟩
 ·
  obtain rfl : l = [] := List.eq_nil_of_length_eq_zero h0
  exact ⟨none, 0, rfl, Nat.le_refl _, rfl, by simp, fun h => absurd h (by simp)⟩
 ·
  exact ⟨_, _, rfl, h3, C_of_reps hr2 hn (ho.cells (g := g) rfl)⟩
theorem Own.nil (d : Kd α) (e : TypeId) (w0 w : World) (hb : Below w0.heap.size w0 w) : Own d e w0 (.slice none 0 0) [] w := ⟨hb, [], World.ownsRow_nil _ _ _ _, .none _ _⟩
/-- An empty row, made at once. -/
theorem Own.made (d : Kd α) (e : TypeId) (hb : Below w0.heap.size w0 w) : Own d e w0 (.slice (some ⟨w.heap.size, 0, none⟩) 0 0) [] (w.alloc (.cells #[] e)) :=
 ⟨hb.alloc hb.size _, [], ⟨by simp, .inr ⟨_, 0, #[], rfl, hb.size, heap_alloc_new w _, Nat.le_refl _, by simp [maxLen], by simp, by simp⟩⟩, .none _ _⟩
theorem Own.move {e : TypeId} {v : Value} (h : Own d e w0 v l w) (hb : Below w.heap.size w w1) : Own d e w0 v l w1 := by
 obtain ⟨h1, inner, ho, hr⟩ := h
 exact ⟨h1.trans (hb.mono h1.size), inner, own_move ho fun k hk => hb.block k (ho.lt k hk).2, hr⟩
theorem Own.lt {e : TypeId} {v : Value} (h : Own d e w0 v l w) (k : Nat) (hk : v.ownBlock = some k) : w0.heap.size ≤ k ∧ k < w.heap.size := h.2.elim fun _ h => h.1.lt k hk
end
section
variable {P : Program} {α : Type} {d : Kd α} {w w0 : World}
/-- What an append to a row of the call's own leaves, whatever is appended. -/
theorem run_append_C (t ty e : TypeId) (i : TypeInfo) (z : Value) (bytes : Nat) (ht : P.underlying t = some (.slice e)) (hi : P.info? e = some i) (hz : i.zero = some z)
 (hsize : i.size = d.sz) (hby : i.bytes = bytes) (hzs : z.cells.size = d.sz) (hsz : 0 < d.sz) {v : Value} {l ys : List α} {A : Option Addr} (c : Nat) (h : Own d e w0 v l w) (hy : d.C w0 A ys.length ys)
 (h63 : l.length + ys.length ≤ maxLen) (hbytes : (l.length + ys.length) * bytes ≤ 140737488355328) :
 ∃ v' w', (Builtin.append_ #[t, t] ty #[v, .slice A ys.length c]).run P w = .ok v' w' ∧ Own d e w0 v' (l ++ ys) w' ∧ w.grownBy w' v.ownBlock ∧ (v'.ownBlock = v.ownBlock ∨ v'.ownBlock = some w.heap.size) := by
 obtain ⟨hb, inner, ho, hr⟩ := h
 obtain ⟨cs, hcs, hA⟩ := reps_of_C hsz hy
 cases A with
 | none =>
  have h0 : ys.length = 0 := by
   rcases hA with h0 | ⟨ad, h, _⟩
   ·
    exact h0
   ·
    cases h
  obtain rfl : ys = [] := List.eq_nil_of_length_eq_zero h0
  refine ⟨v, w, ?_, by rw [List.append_nil]; exact ⟨hb, inner, ho, hr⟩, ⟨rfl, rfl, rfl, Nat.le_refl _, fun _ _ _ => rfl⟩, .inl rfl⟩
  rcases ho.2 with ⟨rfl, h0⟩ | ⟨g, cap, cur, rfl, hg, hh, h3, h4, h5, h6⟩
  ·
   simp [Builtin.append_, run_underlying ht, sizeOf, typeInfo, hi, Builtin.lenOf, Builtin.firstCells]
  ·
   simp [Builtin.append_, run_underlying ht, sizeOf, typeInfo, hi, Builtin.lenOf, Builtin.firstCells, h3, storeCells]
 | some ad =>
  have hnews : ∀ j u, cs[j]? = some u → w.cell? (ad.add j) = some u := by
   intro j u hj
   rcases hA with h0 | ⟨ad', he, hc⟩
   ·
    have : cs = [] := List.eq_nil_of_length_eq_zero (by simpa [h0] using hcs.1)
    rw [this] at hj
    cases hj
   ·
    cases he
    have h1 := hc j u hj
    exact (hb.cell (World.block_lt_of_cell? w0 _ h1)).trans h1
  obtain ⟨v', w', hrun, ho', hg, _, hat⟩ := run_append_own_at (P := P) w w0.heap.size t ty e i z d.sz bytes ht hi hz hsize hby hzs hsz v l.length inner ho ad ys.length c cs hcs.1 hnews (reps_one hsz hcs) h63 hbytes hb.size
  refine ⟨v', w', hrun, ⟨hb.grown hg hb.size (fun j hj => (ho.lt j hj).1), inner ++ cs, ?_, Kd.reps_append hr hcs⟩, hg, hat⟩
  rw [List.length_append]
  exact ho'
theorem wpList_append_C {ops : Array Oper} {rest : List Oper} {o : Oper} {a : Act} {Q : Exit → Act → World → Prop} (hgd : o.guard = none) (s x : Operand) (t : TypeId)
 (ho : o.op = .call { callee := .builtin .append, args := #[s, x], argTypes := #[t, t] }) (e : TypeId) (i : TypeInfo) (z : Value) (bytes : Nat) (ht : P.underlying t = some (.slice e)) (hi : P.info? e = some i) (hz : i.zero = some z)
 (hsize : i.size = d.sz) (hby : i.bytes = bytes) (hzs : z.cells.size = d.sz) (hsz : 0 < d.sz) {v : Value} {l ys : List α} {A : Option Addr} {c : Nat} (hs : a.eval s = v) (hx : a.eval x = .slice A ys.length c) (h : Own d e w0 v l w) (hy : d.C w0 A ys.length ys)
 (h63 : l.length + ys.length ≤ maxLen) (hbytes : (l.length + ys.length) * bytes ≤ 140737488355328)
 (hK : ∀ v' w', Own d e w0 v' (l ++ ys) w' → w.grownBy w' v.ownBlock → (v'.ownBlock = v.ownBlock ∨ v'.ownBlock = some w.heap.size) → wpList P ops Q rest (a.put o.dst v') w') : wpList P ops Q (o :: rest) a w := by
 refine wpList_plain hgd fun K hKK => ?_
 obtain ⟨v', w', hr, h2, h3, h4⟩ := run_append_C (P := P) t o.type e i z bytes ht hi hz hsize hby hzs hsz c h hy h63 hbytes
 unfold Oper.wp execOp
 simp only [ho, resolve, invoke, builtin, Sem.run_bind, Sem.run_pure, Result.andThen_ok, List.map_toArray, List.map_cons, List.map_nil, hs, hx, hr]
 exact hKK _ _ (hK v' w' h2 h3 h4)
theorem step_append_C {ops : Array Oper} {o : Oper} {a : Act} {K : Act → World → Prop} {Q : Exit → Act → World → Prop} {E : Prop} (hgd : o.guard = none) (s x : Operand) (t : TypeId)
 (ho : o.op = .call { callee := .builtin .append, args := #[s, x], argTypes := #[t, t] }) (e : TypeId) (i : TypeInfo) (z : Value) (bytes : Nat) (ht : P.underlying t = some (.slice e)) (hi : P.info? e = some i) (hz : i.zero = some z)
 (hsize : i.size = d.sz) (hby : i.bytes = bytes) (hzs : z.cells.size = d.sz) (hsz : 0 < d.sz) {v : Value} {l ys : List α} {A : Option Addr} {c : Nat} (hs : a.eval s = v) (hx : a.eval x = .slice A ys.length c) (h : Own d e w0 v l w) (hy : d.C w0 A ys.length ys)
 (h63 : l.length + ys.length ≤ maxLen) (hbytes : (l.length + ys.length) * bytes ≤ 140737488355328)
 (hK : ∀ v' w', Own d e w0 v' (l ++ ys) w' → w.grownBy w' v.ownBlock → (v'.ownBlock = v.ownBlock ∨ v'.ownBlock = some w.heap.size) → K (a.put o.dst v') w') : if Region.wanted o (yielded ops a.tmps) = true then Oper.wp P o a w K Q else E := by
 have hw : Region.wanted o (yielded ops a.tmps) = true := by simp [Region.wanted, hgd]
 rw [if_pos hw]
 obtain ⟨v', w', hr, h2, h3, h4⟩ := run_append_C (P := P) t o.type e i z bytes ht hi hz hsize hby hzs hsz c h hy h63 hbytes
 unfold Oper.wp execOp
 simp only [ho, resolve, invoke, builtin, Sem.run_bind, Sem.run_pure, Result.andThen_ok, List.map_toArray, List.map_cons, List.map_nil, hs, hx, hr]
 exact hK v' w' h2 h3 h4
end
end Go.Proofs.YtpopohkbffhckaaDoor.RC
