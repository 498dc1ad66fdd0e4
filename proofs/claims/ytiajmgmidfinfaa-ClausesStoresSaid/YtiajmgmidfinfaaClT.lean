/- Walk of clauses' text: a form's bytes. -/
import Derived.Test.YtiajmgmidfinfaaClM
import Derived.Test.YtiajmgmidfinfaaWLast
import Derived.Test.YtiajmgmidfinfaaWMore
import Derived.Test.YtiajmgmidfinfaaWGuard
import Derived.WalkKit
import Derived.WalkSpells
import Derived.BigQuiet
import Derived.StillTailTactics
import Derived.IntWalk
import Derived.Deep.LoopGhost
namespace Go.Proofs.Ytiajmgmidfinfaa.SM
open Go.RowKit Go.Maps Go.Shelf Go.Lib Go.Proofs.YtiajmgmidfinfaaW.PrintWords Go.Proofs.YtiajmgmidfinfaaW.PrintLast Go.Proofs.YtiajmgmidfinfaaW.PrintMore Go.Proofs.Ytiajmgmidfinfaa.MM Go.Proofs.Ytiajmgmidfinfaa.KM Go.Proofs.Ytiajmgmidfinfaa.SP Go.Proofs.Ytiajmgmidfinfaa.TW
set_option linter.unusedSimpArgs false
set_option linter.unusedVariables false

abbrev byts (l : List Int) : List Value := l.map (Value.int .u8)
theorem infoB : (Try.prog.info? 5).map (fun i => (i.zero, i.size, i.bytes)) = some (some (.int .u8 0), 1, 1) := by kernel_rfl
theorem wp_appB (w : World) {ops : Array Oper} {rest : List Oper} {o : Oper} {a : Act} {Q : Exit → Act → World → Prop} (hgd : o.guard = none) (s x : Operand)
    (ho : o.op = .call { callee := .builtin .append, args := #[s, x], argTypes := #[64, 64] })
    (v u : Value) (xs ys : List Value) (hs : a.eval s = v) (hx : a.eval x = u) (h : Row w 5 v xs) (hy : Row w 5 u ys) (h1 : ∀ u ∈ ys, u.oneCell' = true) (hl : xs.length + ys.length < 461168601842)
    (hK : ∀ v' w', Row w' 5 v' (xs ++ ys) → Keep (fun k => v.ownBlock = some k) w w' → (v'.ownBlock = v.ownBlock ∨ v'.ownBlock = some w.heap.size) → wpList Try.prog ops Q rest (a.put o.dst v') w') :
    wpList Try.prog ops Q (o :: rest) a w := by
  obtain ⟨i0, hi0, hz0, hz1, hz2⟩ := info_parts infoB
  exact wpList_append_row hgd s x _ ho _ i0 _ Try.underlying64 hi0 hz0 hz1 rfl v u xs ys hs hx h hy.src h1 (by simp [maxLen]; omega) (by rw [hz2]; omega) hK
/-- The bytes so far. -/
structure TextAt (w : World) (l : List Int) (vl : Value) (k : Nat) (v : Value) (wr : World) : Prop where
  bel : Below w.heap.size w wr
  row : Row wr 5 v (byts (textN (l.take k)))
  fresh : ∀ g, v.ownBlock = some g → w.heap.size ≤ g
  kl : k ≤ l.length
theorem take_snoc (l : List Int) (k : Nat) (h : k < l.length) : l.take (k + 1) = l.take k ++ [l.getD k 0] := by
  rw [List.take_succ_eq_append_getElem h, List.getD_eq_getElem?_getD, List.getElem?_eq_getElem h]
  rfl
theorem byts_len (l : List Int) : (byts l).length = l.length := by simp [byts]
set_option maxRecDepth 100000 in
set_option maxHeartbeats 3200000 in
theorem text_calls (w : World) (v : Value) (l : List Int) (h : Row w 25 v (lits l)) (hl : l.length ≤ 1000) :
    Calls Try.prog 42 #[v] w fun e w' => e = .returned (.string (keyF l)) ∧ Below w.heap.size w w' := by
  obtain ⟨a, c, rfl, _⟩ := h.shape
  obtain ⟨N, hN⟩ : ∃ N, N = l.length := ⟨_, rfl⟩
  rw [lits_len, ← hN] at h ⊢
  have HN := hid hN
  have HR := hid h
  have hNb : N ≤ 1000 := by omega
  have START := hid (show TextAt w l (.slice a N c) 0 (.slice none 0 0) w from ⟨Below.refl _ _, .nil _ _, (fun g hg => by cases hg), Nat.zero_le _⟩)
  clear h hN
  go_enter Try.func42, Try.ntmps42
  go_wp2_with fail
  go_loopg [3, 9] N (fun left v3 v9 wr => ∃ (k : Nat) (A : Option Addr) (c' : Nat), left + k = N ∧ v3 = .slice A (4 * k) c' ∧ v9 = .int .i64 (k : Int) ∧ Hid (TextAt w l (.slice a N c) k (.slice A (4 * k) c') wr))
  case atStart => exact ⟨0, none, 0, by omega, rfl, rfl, START⟩
  case round =>
    obtain ⟨k, A, c', hk, rfl, rfl, U⟩ := hrel
    clear START
    by_cases hkN : k < N
    · have hkI : (k : Int) < (N : Int) := by omega
      have hkl : k < l.length := by rw [← HN.out]; exact hkN
      cases gk with
      | zero => omega
      | succ left =>
      obtain ⟨g, off, cap, hv, _, _, hg, hc, _⟩ := (Row.bel HR.out U.out.bel).cells (by simp; omega)
      injection hv with z1 z2 z3
      subst z1 z3
      have hx := (hc k (by simpa using hkl)).trans (lits_get _ _ hkl)
      obtain ⟨x, hxx⟩ : ∃ x, x = l.getD k 0 := ⟨_, rfl⟩
      rw [← hxx] at hx
      have HX := hid hxx
      have HKL := hid hkl
      obtain ⟨n, hn⟩ : ∃ n, n = num4 x := ⟨_, rfl⟩
      have e1 : IntKind.u32.wrap x = n := by rw [hn]; simp [IntKind.wrap, IntKind.signed, IntKind.bits, num4]
      have hn0 : 0 ≤ n := by rw [hn]; unfold num4; omega
      have hn1 : n < 4294967296 := by rw [hn]; unfold num4; omega
      have HNN := hid hn
      clear hc z2 hxx hn hkl
      have HB4 := hid (show b4 x = [n % 256, n / 256 % 256, n / 65536 % 256, n / 16777216] from by
        unfold b4
        rw [← HNN.out]
        congr 4
        omega)
      have HTL := hid (show (textN (l.take k)).length = 4 * k from by rw [textN_len, List.length_take]; have := HKL.out; omega)
      go_wp2_with (at_builtin; go_loud (refine wp_appB _ rfl _ _ rfl (.slice A (4 * k) c') _ (byts (textN (l.take k))) (byts [n % 256, n / 256 % 256, n / 65536 % 256, n / 16777216]) (by rfl) (by rfl) (U.out.row.alloc _) (.inr ⟨wr.heap.size, 0, 4, _, rfl, heap_alloc_new wr _, by simp, by simp [maxLen], by simp, rfl⟩) (by simp [Value.oneCell']) (by have := HTL.out; simp; omega) ?_; intro v2 w2 hr2 hk2 hat2; obtain ⟨A2, c2, rfl, _⟩ := hr2.shape; have hl2 : (byts (textN (l.take k)) ++ byts [n % 256, n / 256 % 256, n / 65536 % 256, n / 16777216]).length = 4 * (k + 1) := (by have := HTL.out; simp; omega); rw [hl2] at hr2 hat2; try rw [hl2]))
      have hkw : Keep (fun g => (Value.slice A (4 * k) c').ownBlock = some g) wr w2 := (⟨rfl, rfl, rfl, by simp, fun q hq _ => old_alloc (w := wr) _ hq⟩ : Keep (fun g => (Value.slice A (4 * k) c').ownBlock = some g) wr (wr.alloc (.cells #[.int .u8 (n % 256), .int .u8 (n / 256 % 256), .int .u8 (n / 65536 % 256), .int .u8 (n / 16777216)] 5))).trans hk2 (fun _ h => h) (fun _ h => .inl h)
      have NX := hid (show TextAt w l (.slice (some ⟨g, off, none⟩) N c) (k + 1) (.slice A2 (4 * (k + 1)) c2) w2 from ⟨U.out.bel.trans (hkw.below (fun j hj => U.out.fresh j hj) U.out.bel.size), (by
        rw [take_snoc _ _ HKL.out, textN_snoc, ← HX.out, HB4.out]
        unfold byts
        rw [List.map_append]
        exact hr2), fun g' hg' => by
          have hz := U.out.bel.size
          rcases hat2 with e | e
          · exact U.out.fresh g' (by rw [← e]; exact hg')
          · rw [hg'] at e
            have := Option.some.inj e
            simp at this
            omega, HKL.out⟩)
      clear hr2 hk2 hat2 hkw
      go_roundg left
      case measure => omega
      case rel => exact ⟨k + 1, A2, c2, by omega, rfl, by go_num, NX⟩
    · obtain rfl : k = N := by have := U.out.kl; have := HN.out; omega
      have hge : ¬ (k : Int) < (k : Int) := by omega
      have hrow := U.out.row
      rw [List.take_of_length_le (by have := HN.out; omega)] at hrow
      have HB := hid U.out.bel
      have hcv : (convert 64 9 (.slice A (4 * k) c')).run Try.prog wr = .ok (.string (keyF l)) wr := by
        rcases Nat.eq_zero_or_pos k with h0 | h0
        · have hl0 : l = [] := List.eq_nil_of_length_eq_zero (by have := HN.out; omega)
          have hA : A = none ∨ ∃ ad, A = some ad := by cases A with | none => exact .inl rfl | some ad => exact .inr ⟨ad, rfl⟩
          rcases hA with rfl | ⟨ad, rfl⟩
          · rw [hl0]
            exact run_convert_bytes_nil wr _ _ Try.underlying64 Try.underlying5 _ _ _ Try.underlying9
          · rcases hrow with ⟨h1, _⟩ | ⟨g, off, cap, cur, h1, _⟩
            · cases h1
            · injection h1 with h1 _ _
              injection h1 with h1
              subst h1
              rw [hl0, h0]
              exact run_convert_bytes_arg wr _ _ Try.underlying64 Try.underlying5 g off 0 c' [] rfl (fun i hi => by omega) _ Try.underlying9
        · have hlen : (byts (textN l)).length = 4 * k := by have := HN.out; simp [textN_len]; omega
          obtain ⟨g, off, cap, hv, _, _, _, hc, _⟩ := hrow.cells (by omega)
          injection hv with z1 z2 z3
          subst z1 z3
          refine run_convert_bytes_arg wr _ _ Try.underlying64 Try.underlying5 g off (4 * k) c' (textN l) (by have := byts_len (textN l); omega) (fun i hi => ?_) _ Try.underlying9
          rw [hc i (by omega)]
          have hi' : i < (textN l).length := by have := byts_len (textN l); omega
          simp [byts, hi', List.getD_eq_getElem?_getD]
      clear hrow U hkN hk
      go_wp2_with fail
      go_ret
      exact ⟨rfl, HB.out⟩
end Go.Proofs.Ytiajmgmidfinfaa.SM
