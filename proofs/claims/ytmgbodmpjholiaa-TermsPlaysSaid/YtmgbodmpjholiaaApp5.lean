/- Appends to a row of elements of several cells, and clones of rows of terms. -/
import Derived.Test.YtmgbodmpjholiaaTermR
namespace Go.Proofs.Ytmgbodmpjholiaa.TM
open Go.RowKit Go.Maps Go.Shelf Go.Lib Go.Proofs.YtmgbodmpjholiaaW.PrintWords Go.Proofs.YtmgbodmpjholiaaW.PrintLast Go.Proofs.YtmgbodmpjholiaaW.PrintMore Go.Proofs.Ytmgbodmpjholiaa.MM Go.Proofs.Ytmgbodmpjholiaa.KM
set_option linter.unusedSimpArgs false
set_option linter.unusedVariables false

theorem app_many {P : Program} {w : World} (base : Nat) (t ty e : TypeId) (i : TypeInfo) (z : Value) (size bytes : Nat) (ht : P.underlying t = some (.slice e)) (hi : P.info? e = some i) (hz : i.zero = some z)
    (hsize : i.size = size) (hby : i.bytes = bytes) (hzs : z.cells.size = size) (hsz : 0 < size)
    (v : Value) (n : Nat) (xs : List Value) (hown : w.ownsRow base e size v n xs)
    (a : Addr) (m c : Nat) (news : List Value) (hl : news.length = m * size) (hnews : ∀ j u, news[j]? = some u → w.cell? (a.add j) = some u) (h1 : ∀ u ∈ news, u.oneCell' = true)
    (h63 : n + m ≤ maxLen) (hbytes : (n + m) * bytes ≤ 140737488355328) (hbase : base ≤ w.heap.size) :
    ∃ v' w', (Builtin.append_ #[t, t] ty #[v, .slice (some a) m c]).run P w = .ok v' w' ∧ w'.ownsRow base e size v' (n + m) (xs ++ news) ∧ w.grownBy w' v.ownBlock ∧ (∀ g, v'.ownBlock = some g → v.ownBlock = some g ∨ w.heap.size ≤ g) := by
  obtain ⟨v', w', hr, ho, hg, _⟩ := run_append_own (P := P) w base t ty e i z size bytes ht hi hz hsize hby hzs hsz v n xs hown a m c news hl hnews h1 h63 hbytes hbase
  refine ⟨v', w', hr, ho, hg, ?_⟩
  subst hsize
  subst hby
  have hsmall : n + m ≤ 9223372036854775807 := by simp only [maxLen] at h63; omega
  rcases hown.2 with ⟨rfl, rfl⟩ | ⟨g, cap, cur, rfl, hbg, hgg, hnc, hcm, hcs, htake⟩
  · have hx : xs = [] := List.eq_nil_of_length_eq_zero (by simpa using hown.1)
    subst hx
    obtain ⟨v2, w2, hr2, ho2, _⟩ := run_append_own (P := P) w w.heap.size t ty e i z i.size i.bytes ht hi hz rfl rfl hzs hsz (.slice none 0 0) 0 [] (World.ownsRow_nil _ _ _ _) a m c news hl hnews h1 h63 hbytes (Nat.le_refl _)
    rw [hr] at hr2
    injection hr2 with e1 e2
    subst e1 e2
    intro g hg
    exact .inr (ho2.lt g hg).1
  · by_cases hroom : n + m ≤ cap
    · have hfit : n * i.size + news.length ≤ cur.size := by rw [hl, hcs, ← Nat.add_mul]; exact Nat.mul_le_mul_right _ hroom
      have hr2 := run_append_room (P := P) w t ty e i ht hi g n cap cur hgg a m c news hl hnews h1 hroom hfit
      rw [hr] at hr2
      injection hr2 with e1 e2
      subst e1
      intro g' hg'
      exact .inl hg'
    · have holds : ∀ j u, xs[j]? = some u → w.cell? ((⟨g, 0, none⟩ : Addr).add j) = some u := hown.cells (g := g) rfl
      have hr2 := run_append_grow (P := P) w t ty e i z ht hi hz ⟨g, 0, none⟩ n cap xs hown.1 holds a m c news hl hnews (by omega) (by omega) (growslice_fits (by omega) hbytes)
      rw [hr] at hr2
      injection hr2 with e1 e2
      subst e1
      intro g' hg'
      cases hg'
      exact .inr (Nat.le_refl _)
theorem infoN : (Try.prog.info? 54).map (fun i => (i.zero, i.size, i.bytes)) = some (some (.agg #[.int .u8 0, .int .i64 0, .int .i64 0, .int .i64 0, .slice none 0 0]), 5, 56) := by kernel_rfl
/-- An append of nodes. -/
theorem app_nodes {w : World} (ty : TypeId) (v : Value) (n : Nat) (xs : List Value) (hown : w.ownsRow 0 54 5 v n xs) (a : Addr) (m c : Nat) (news : List Value) (hl : news.length = m * 5) (hnews : ∀ j u, news[j]? = some u → w.cell? (a.add j) = some u) (h1 : ∀ u ∈ news, u.oneCell' = true) (hn : n + m ≤ 40000) :
    ∃ v' w', (Builtin.append_ #[46, 46] ty #[v, .slice (some a) m c]).run Try.prog w = .ok v' w' ∧ w'.ownsRow 0 54 5 v' (n + m) (xs ++ news) ∧ w.grownBy w' v.ownBlock ∧ (∀ g, v'.ownBlock = some g → v.ownBlock = some g ∨ w.heap.size ≤ g) := by
  obtain ⟨i0, hi0, hz0, hz1, hz2⟩ := info_parts infoN
  exact app_many 0 _ ty _ i0 _ 5 56 Try.underlying46 hi0 hz0 hz1 hz2 rfl (by omega) v n xs hown a m c news hl hnews h1 (by simp [maxLen]; omega) (by omega) (Nat.zero_le _)
theorem step_node (w : World) {ops : Array Oper} {o : Oper} {a : Act} {K : Act → World → Prop} {Q : Exit → Act → World → Prop} {E : Prop} (hgd : o.guard = none) {N : Option Tmp} (hN : o.dst = N) (s x : Operand)
    (ho : o.op = .call { callee := .builtin .append, args := #[s, x], argTypes := #[46, 46] })
    (v : Value) (n : Nat) (xs : List Value) (p : Nat) (news : List Value) (hs : a.eval s = v) (hx : a.eval x = .slice (some ⟨p, 0, none⟩) 1 1) (hown : w.ownsRow 0 54 5 v n xs) (hl : news.length = 5) (hnews : ∀ j u, news[j]? = some u → w.cell? ⟨p, j, none⟩ = some u) (h1 : ∀ u ∈ news, u.oneCell' = true) (hn : n ≤ 20000)
    (hK : ∀ v' w', w'.ownsRow 0 54 5 v' (n + 1) (xs ++ news) → w.grownBy w' v.ownBlock → (∀ g, v'.ownBlock = some g → v.ownBlock = some g ∨ w.heap.size ≤ g) → K (a.put N v') w') :
    if Region.wanted o (yielded ops a.tmps) = true then Oper.wp Try.prog o a w K Q else E := by
  subst hN
  have hw : Region.wanted o (yielded ops a.tmps) = true := by simp [Region.wanted, hgd]
  rw [if_pos hw]
  obtain ⟨v', w', hr, h2, h3, h4⟩ := app_nodes o.type v n xs hown ⟨p, 0, none⟩ 1 1 news (by omega) (fun j u hj => by rw [Addr.add_lit, Nat.zero_add]; exact hnews j u hj) h1 (by omega)
  unfold Oper.wp execOp
  simp only [ho, resolve, invoke, builtin, Sem.run_bind, Sem.run_pure, Result.andThen_ok, List.map_toArray, List.map_cons, List.map_nil, hs, hx, hr]
  exact hK v' w' h2 h3 h4
/-- Clones. -/
theorem clone_calls (w : World) (v : Value) (xs : List Int) (hr : Row w 26 v (lits xs)) (hn : xs.length ≤ 20000) :
    Calls Try.prog 43 #[v] w fun e w' => ∃ v', e = .returned v' ∧ Row w' 26 v' (lits xs) ∧ (∀ g, v'.ownBlock = some g → w.heap.size ≤ g) ∧ Below w.heap.size w w' := by
  have fin : ∀ {w' v'}, w'.ownsRow w.heap.size 26 1 v' xs.length (lits xs) → Row w' 26 v' (lits xs) ∧ (∀ g, v'.ownBlock = some g → w.heap.size ≤ g) := fun h => ⟨(Row.ofOwns h).1, (Row.ofOwns h).2.2⟩
  rcases Nat.eq_zero_or_pos xs.length with h | h
  · have h0 := List.eq_nil_of_length_eq_zero h
    subst h0
    obtain ⟨a, c, rfl, _⟩ := hr.shape
    cases a with
    | none => exact (AnyG.slices_Clone_int_nil (ρ := layClone_ren) layClone 0 c w).mono fun _ w' ⟨he, hw⟩ => ⟨_, he, by rw [hw]; exact .nil _ _, (by intro g hg; cases hg), by rw [hw]; exact Below.refl _ _⟩
    | some ad => exact (AnyG.slices_Clone_int_zero (ρ := layClone_ren) layClone ad c w).mono fun _ _ ⟨v', he, ho, _, hb⟩ => ⟨v', he, (fin ho).1, (fin ho).2, hb⟩
  · obtain ⟨b, off, cap, rfl, hcap, hmax, _, hc, _⟩ := hr.cells (by simpa using h)
    rw [List.length_map] at hcap ⊢
    have := AnyG.slices_Clone_int (ρ := layClone_ren) layClone b off xs.length cap xs w (Nat.le_refl _) (by omega) (fun j hj => by rw [hc j (by simpa using hj)]; simp [List.getD_eq_getElem?_getD, hj])
    rw [List.take_length] at this
    exact this.mono fun _ _ ⟨v', he, ho, hne, hb⟩ => ⟨v', he, (fin ho).1, (fin ho).2, hb⟩
end Go.Proofs.Ytmgbodmpjholiaa.TM
