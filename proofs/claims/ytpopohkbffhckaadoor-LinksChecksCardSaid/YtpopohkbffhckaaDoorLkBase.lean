/- Certificates of congruence in plain Lean: what the program's calls answer. The look at a certificate in memory: its block, what is told, the literals so far. Walks of the look at a certificate: atom, tell. Walks of the look at a certificate: given, against. Walks of the look at a certificate: against. -/
import Derived.Test.YtpopohkbffhckaaDoorHkx0
import Derived.IntWalk
import Derived.Test.YtpopohkbffhckaaDoorMemA
import Derived.Test.YtpopohkbffhckaaDoorWMore
import Derived.Laws.AppendOwn
import Derived.Test.YtpopohkbffhckaaDoorWGuard
import Derived.Test.YtpopohkbffhckaaDoorWLast
import Derived.WalkKit
import Derived.WalkSpells
import Derived.BigQuiet
import Derived.Deep.LoopGhost
import Derived.Deep.DrawnRows
import Derived.Deep.QuietTactic
import Derived.Lib.Hide
import Derived.KernelRfl
import Derived.ChangeKeysEq
namespace Go.Proofs.YtpopohkbffhckaaDoor.KL
set_option linter.unusedVariables false
/-- What is done of a region's n operations, taken in their order: the first k. -/
def msk (k n : Nat) : Array Bool := (List.replicate k true ++ List.replicate (n - k) false).toArray
theorem sA {α : Type} (l : List α) (i : Nat) (a : α) : l.toArray.setIfInBounds i a = (l.set i a).toArray := by rw [List.setIfInBounds_toArray]
theorem sB {α : Type} (a b : α) (l : List α) : (a :: l).set 0 b = b :: l := rfl
theorem sC {α : Type} (a b : α) (l : List α) (n : Nat) : (a :: l).set (n + 1) b = a :: l.set n b := rfl
/-- A vertex: f0 its function, f1 its arguments. -/
abbrev Vx := Hk.S46
/-- An atom: f0 its kind, f1 and f2 its two vertices. -/
abbrev At := Hk.S66
/-- A link: f0 its kind, f1 literal, f2 f3 vertices, f4 f5 links ahead, f6 links ahead of arguments. -/
abbrev Lk := Hk.S36
abbrev vx0 : Vx := Hk.z46
abbrev at0 : At := Hk.z66
abbrev lk0 : Lk := Hk.z36
abbrev Pr := Int × Int
def inB (n : Nat) (x : Int) : Bool := decide (0 ≤ x) && decide (x < (n : Int))
def makerM (i : Int) (fn : Int) : Bool := if i = 0 then fn == -1 else if i = 1 then fn == -2 else decide (0 ≤ fn) || fn == -3
def vxB (n : Nat) (i : Int) (x : Vx) : Bool := makerM i x.f0 && x.f1.all (inB n)
def vxsB (n : Nat) : Int → List Vx → Bool
  | _, [] => true
  | i, x :: l => vxB n i x && vxsB n (i + 1) l
def atB (n : Nat) (x : At) : Bool := !((x.f0 == 1 && !(inB n x.f1 && inB n x.f2)) || (x.f0 == 3 && !(inB n x.f1)))
def mayM (v : List Vx) (a : List At) : Bool := decide (2 ≤ v.length) && (decide (v.length ≤ 20000) && (vxsB v.length 0 v && a.all (atB v.length)))
/-- The number of a literal's atom. -/
def litN (l : Int) : Int := if l < 0 then -l else l
def atomM (a : List At) (l : Int) : Option At := if 1 ≤ litN l ∧ litN l ≤ (a.length : Int) then some (a.getD (litN l - 1).toNat at0) else none
def tellM (t : List Pr) (i : Int) : Option Pr := if 0 ≤ i ∧ i < (t.length : Int) then some (t.getD i.toNat (0, 0)) else none
def givenM (a : List At) (l : Int) : Option Pr := match atomM a l with
  | none => none
  | some x => if x.f0 = 1 ∧ 0 < l then some (x.f1, x.f2) else if x.f0 = 3 ∧ 0 < l then some (x.f1, 0) else if x.f0 = 3 then some (x.f1, 1) else none
def vxM (v : List Vx) (i : Int) : Vx := v.getD i.toNat vx0
def listM (t : List Pr) : List Int → List Int → List Int → Bool
  | n :: l, p :: ps, q :: qs => decide (tellM t n = some (p, q)) && listM t l ps qs
  | _, _, _ => true
def sameFn (x y : Vx) : Bool := decide (0 ≤ x.f0) && (decide (x.f0 = y.f0) && decide (x.f1.length = y.f1.length))
def applyB (v : List Vx) (t : List Pr) (x : Lk) : Bool := inB v.length x.f2 && (inB v.length x.f3 && (sameFn (vxM v x.f2) (vxM v x.f3) && (decide (x.f6.length = (vxM v x.f2).f1.length) && listM t x.f6 (vxM v x.f2).f1 (vxM v x.f3).f1)))
def applyM (v : List Vx) (t : List Pr) (x : Lk) : Option Pr := if applyB v t x = true then some (x.f2, x.f3) else none
def againstM (a : List At) (t : List Pr) (x : Lk) : Bool := match atomM a x.f1, tellM t x.f4 with
  | some y, some p => decide (x.f1 < 0) && (decide (y.f0 = 1) && decide (p = (y.f1, y.f2)))
  | _, _ => false
/-- What the caller of a call reads of a pair that may be none. -/
def prO (o : Option Pr) : Pr := o.getD (-1, -1)
/-- What a link answers: the pair, whether it ends the certificate, whether it is right. -/
def linkM (v : List Vx) (a : List At) (t : List Pr) (x : Lk) : Pr × Bool × Bool :=
  if x.f0 = 1 then (prO (givenM a x.f1), false, (givenM a x.f1).isSome)
  else if x.f0 = 2 then ((x.f2, x.f2), false, inB v.length x.f2)
  else if x.f0 = 3 then (((prO (tellM t x.f4)).2, (prO (tellM t x.f4)).1), false, (tellM t x.f4).isSome)
  else if x.f0 = 4 then (((prO (tellM t x.f4)).1, (prO (tellM t x.f5)).2), false, (tellM t x.f4).isSome && ((tellM t x.f5).isSome && decide ((prO (tellM t x.f4)).2 = (prO (tellM t x.f5)).1)))
  else if x.f0 = 5 then (prO (applyM v t x), false, (applyM v t x).isSome)
  else if x.f0 = 6 then ((-1, -1), true, againstM a t x)
  else if x.f0 = 7 then ((-1, -1), true, (tellM t x.f4).isSome && decide (prO (tellM t x.f4) = (0, 1)))
  else ((0, 0), false, false)
def litsOf (x : Lk) : List Int := if x.f0 = 1 ∨ x.f0 = 6 then [x.f1] else []
/-- The loop: what is told so far, the literals so far; none: wrong. At an empty rest: whether the last one ended it. -/
def goM (v : List Vx) (a : List At) : List Pr → List Int → Bool → List Lk → Option (List Int)
  | _, s, e, [] => if e = true then some s else none
  | t, s, _, x :: l => match linkM v a t x with
    | (p, e, ok) => if ok = true ∧ e = decide (l = []) then goM v a (t ++ [p]) (s ++ litsOf x) e l else none
/-- links.Check ahead of the literals' normal form: none: wrong; otherwise the literals. -/
def checkM (v : List Vx) (a : List At) (l : List Lk) : List Int × Int :=
  if mayM v a = false then ([], 2) else if 20000 < l.length then ([], 3) else match goM v a [] [] false l with
  | none => ([], 5)
  | some s => if 5000 < s.length then ([], 3) else (s, 0)
end Go.Proofs.YtpopohkbffhckaaDoor.KL

namespace Go.Proofs.YtpopohkbffhckaaDoor.KL
open Go.RowKit Go.Proofs.YtpopohkbffhckaaDoorW.PrintWords Go.Proofs.YtpopohkbffhckaaDoorW.PrintLast Go.Proofs.YtpopohkbffhckaaDoorW.PrintMore Go.Proofs.YtpopohkbffhckaaDoor.MM Go.Proofs.YtpopohkbffhckaaDoor.Hk
set_option linter.unusedVariables false

abbrev ptr (t : Nat) : Value := .pointer (some ⟨t, 0, none⟩)
abbrev prV (p : Pr) : List Value := [.int .i64 p.1, .int .i64 p.2]
abbrev prA (p : Pr) : Value := .agg #[.int .i64 p.1, .int .i64 p.2]
def prs : List Pr → List Value
  | [] => []
  | p :: t => prV p ++ prs t
theorem prs_snoc (p : Pr) : ∀ t : List Pr, prs (t ++ [p]) = prs t ++ prV p
  | [] => rfl
  | q :: t => by
    show prV q ++ prs (t ++ [p]) = _
    rw [prs_snoc p t]
    simp [prs]
theorem prs_get : ∀ (t : List Pr) (i : Nat) (p : Pr), t[i]? = some p → (prs t)[i * 2]? = some (.int .i64 p.1) ∧ (prs t)[i * 2 + 1]? = some (.int .i64 p.2)
  | q :: t, 0, p, h => by
    cases h
    exact ⟨rfl, rfl⟩
  | q :: t, i + 1, p, h => by
    have := prs_get t i p (by simpa using h)
    rw [show (i + 1) * 2 = i * 2 + 2 by omega, show i * 2 + 2 + 1 = i * 2 + 1 + 2 by omega]
    exact this
  | [], i, p, h => by simp at h
theorem own_move {w w1 : World} {base : Nat} {e : TypeId} {size n : Nat} {v : Value} {xs : List Value} (h : w.ownsRow base e size v n xs) (hb : ∀ g, v.ownBlock = some g → w1.heap[g]? = w.heap[g]?) : w1.ownsRow base e size v n xs := by
  obtain ⟨h0, h⟩ := h
  refine ⟨h0, ?_⟩
  rcases h with h | ⟨g, cap, cur, rfl, h1, hg, h2⟩
  · exact .inl h
  · exact .inr ⟨g, cap, cur, rfl, h1, (hb g rfl).trans hg, h2⟩
/-- What the package's variable 'nothing' reads as. -/
def Noth (w : World) : Prop := w.cell? ⟨0, 0, none⟩ = some (.int .i64 (-1)) ∧ w.cell? ⟨0, 1, none⟩ = some (.int .i64 (-1))
theorem cell_lt {w : World} {p : Addr} {u : Value} (h : w.cell? p = some u) : p.block < w.heap.size := by
  rcases Nat.lt_or_ge p.block w.heap.size with h1 | h1
  · exact h1
  · have : w.heap[p.block]? = none := Array.getElem?_eq_none h1
    simp [World.cell?, this] at h
theorem Noth.below {B : Nat} {w w1 : World} (h : Noth w) (hb : Below B w w1) (hB : 0 < B) : Noth w1 :=
  ⟨(hb.cell (p := ⟨0, 0, none⟩) hB).trans h.1, (hb.cell (p := ⟨0, 1, none⟩) hB).trans h.2⟩
theorem Noth.pos {w : World} (h : Noth w) : 0 < w.heap.size := cell_lt h.1
/-- What the caller's world shows. -/
structure Ctx (W0 : World) (A0 : Option Addr) (c0 : Nat) (v : List Vx) (A1 : Option Addr) (c1 : Nat) (a : List At) : Prop where
  hv : Kd.C k46 W0 A0 v.length v
  vc : v.length ≤ c0
  ha : Kd.C k66 W0 A1 a.length a
  ac : a.length ≤ c1
  no : Noth W0
structure Look (W0 : World) (k : Nat) (A0 : Option Addr) (c0 : Nat) (v : List Vx) (A1 : Option Addr) (c1 : Nat) (a : List At) (t : List Pr) (s : List Int) (tv sv : Value) (w : World) : Prop where
  ctx : Ctx W0 A0 c0 v A1 c1 a
  below : Below W0.heap.size W0 w
  new : W0.heap.size ≤ k
  blk : w.heap[k]? = some (.cells #[.slice A0 v.length c0, .slice A1 a.length c1, tv, sv] 52 (0, 0))
  told : w.ownsRow 0 54 2 tv t.length (prs t)
  lts : w.ownsRow 0 33 1 sv s.length (MM.lits s)
  tnew : ∀ g, tv.ownBlock = some g → W0.heap.size ≤ g ∧ g ≠ k
  snew : ∀ g, sv.ownBlock = some g → W0.heap.size ≤ g ∧ g ≠ k
  ap : ∀ g, tv.ownBlock = some g → sv.ownBlock ≠ some g
theorem lits_len (l : List Int) : (MM.lits l).length = l.length := by simp [MM.lits]
theorem C_of_Row {w : World} {e : TypeId} {v : Value} {xs : List Int} (h : Row w e v (MM.lits xs)) : ∃ A c, v = .slice A xs.length c ∧ xs.length ≤ c ∧ Kd.C (Kd.int .i64) w A xs.length xs := by
  rcases h with ⟨rfl, h0⟩ | ⟨g, off, cap, cur, rfl, hg, h2, h3, h4, h5⟩
  · obtain rfl : xs = [] := by simpa using h0
    exact ⟨none, 0, rfl, Nat.le_refl _, rfl, by simp, fun h => absurd h (by simp)⟩
  · rw [lits_len] at h2 h5 ⊢
    refine ⟨some ⟨g, off, none⟩, cap, rfl, h2, rfl, by simp only [maxLen] at h3; omega, fun _ => ⟨_, rfl, fun j p hj => ?_⟩⟩
    refine ⟨[.int .i64 p], rfl, rfl, fun i u hu => ?_⟩
    have hi : i = 0 := by have := (List.getElem?_eq_some_iff.1 hu).1; simp at this; exact this
    subst hi
    have hu : Value.int .i64 p = u := by simpa using hu
    subst hu
    show w.cell? (Addr.add ⟨g, off, none⟩ (j * 1 + 0)) = _
    rw [Nat.mul_one, Nat.add_zero, Addr.add_lit, blk_cell hg]
    refine shown (xs := MM.lits xs) (by rw [lits_len]; exact h5) ?_
    simp [MM.lits, hj]
variable {W0 w w1 w2 : World} {k : Nat} {A0 A1 : Option Addr} {c0 c1 : Nat} {v : List Vx} {a : List At} {t : List Pr} {s : List Int} {tv sv : Value}
theorem Look.lt (h : Look W0 k A0 c0 v A1 c1 a t s tv sv w) : k < w.heap.size := blk_lt h.blk
theorem Look.cells (h : Look W0 k A0 c0 v A1 c1 a t s tv sv w) : w.cell? ⟨k, 0, none⟩ = some (.slice A0 v.length c0) ∧ w.cell? ⟨k, 1, none⟩ = some (.slice A1 a.length c1) ∧ w.cell? ⟨k, 2, none⟩ = some tv ∧ w.cell? ⟨k, 3, none⟩ = some sv :=
  ⟨(blk_cell h.blk 0).trans rfl, (blk_cell h.blk 1).trans rfl, (blk_cell h.blk 2).trans rfl, (blk_cell h.blk 3).trans rfl⟩
theorem Look.frozen (h : Look W0 k A0 c0 v A1 c1 a t s tv sv w) (i : Nat) : w.frozen? ⟨k, i, none⟩ = false := blk_frozen h.blk i
theorem Look.hv (h : Look W0 k A0 c0 v A1 c1 a t s tv sv w) : Kd.C k46 w A0 v.length v := Kd.C_below h.ctx.hv h.below
theorem Look.ha (h : Look W0 k A0 c0 v A1 c1 a t s tv sv w) : Kd.C k66 w A1 a.length a := Kd.C_below h.ctx.ha h.below
theorem Look.no (h : Look W0 k A0 c0 v A1 c1 a t s tv sv w) : Noth w := h.ctx.no.below h.below h.ctx.no.pos
theorem Look.tshape (h : Look W0 k A0 c0 v A1 c1 a t s tv sv w) : ∃ A c, tv = .slice A t.length c := by
  rcases h.told.2 with ⟨rfl, h0⟩ | ⟨g, cap, cur, rfl, _⟩
  · exact ⟨none, 0, by rw [h0]⟩
  · exact ⟨_, _, rfl⟩
theorem Look.sshape (h : Look W0 k A0 c0 v A1 c1 a t s tv sv w) : ∃ A c, sv = .slice A s.length c ∧ s.length ≤ c ∧ Kd.C (Kd.int .i64) w A s.length s := C_of_Row (Row.ofOwns h.lts).1
theorem Look.told_at (h : Look W0 k A0 c0 v A1 c1 a t s tv sv w) (i : Nat) (hi : i < t.length) : ∃ g cap, tv = .slice (some ⟨g, 0, none⟩) t.length cap ∧ w.cell? ⟨g, i * 2, none⟩ = some (.int .i64 (t.getD i (0, 0)).1) ∧ w.cell? ⟨g, i * 2 + 1, none⟩ = some (.int .i64 (t.getD i (0, 0)).2) := by
  have hg := prs_get t i (t.getD i (0, 0)) (by simp [hi])
  rcases h.told.2 with ⟨rfl, h0⟩ | ⟨g, cap, cur, rfl, _⟩
  · omega
  · have hc := h.told.cells (g := g) rfl
    refine ⟨g, cap, rfl, ?_, ?_⟩
    · have := hc _ _ hg.1
      rw [← this, Addr.add_lit, Nat.zero_add]
    · have := hc _ _ hg.2
      rw [← this, Addr.add_lit, Nat.zero_add]
theorem Look.move (h : Look W0 k A0 c0 v A1 c1 a t s tv sv w) (hb : Below w.heap.size w w1) : Look W0 k A0 c0 v A1 c1 a t s tv sv w1 where
  ctx := h.ctx
  below := h.below.trans (hb.mono h.below.size)
  new := h.new
  blk := (hb.block k h.lt).trans h.blk
  told := own_move h.told fun g hg => hb.block g (h.told.lt g hg).2
  lts := own_move h.lts fun g hg => hb.block g (h.lts.lt g hg).2
  tnew := h.tnew
  snew := h.snew
  ap := h.ap
/-- A new one. -/
theorem Look.made (hc : Ctx W0 A0 c0 v A1 c1 a) (hb : Below W0.heap.size W0 w) (hw : w1 = w.alloc (.cells #[.slice A0 v.length c0, .slice A1 a.length c1, .slice none 0 0, .slice none 0 0] 52)) : Look W0 w.heap.size A0 c0 v A1 c1 a [] [] (.slice none 0 0) (.slice none 0 0) w1 where
  ctx := hc
  below := by rw [hw]; exact hb.alloc hb.size _
  new := hb.size
  blk := by rw [hw]; exact heap_alloc_new w _
  told := World.ownsRow_nil _ _ _ _
  lts := World.ownsRow_nil _ _ _ _
  tnew := by intro g hg; cases hg
  snew := by intro g hg; cases hg
  ap := by intro g hg; cases hg
/-- A pair more is told: the row has grown, its slice is stored. -/
theorem Look.pushT (h : Look W0 k A0 c0 v A1 c1 a t s tv sv w) (p : Pr) {tv' : Value} (ho : w1.ownsRow 0 54 2 tv' (t.length + 1) (prs t ++ prV p)) (hg : w.grownBy w1 tv.ownBlock) (hat : ∀ g, tv'.ownBlock = some g → tv.ownBlock = some g ∨ w.heap.size ≤ g) :
    Look W0 k A0 c0 v A1 c1 a (t ++ [p]) s tv' sv (w1.setCell ⟨k, 2, none⟩ tv') := by
  have hk := h.lt
  have hb : w1.heap[k]? = some (.cells #[.slice A0 v.length c0, .slice A1 a.length c1, tv, sv] 52 (0, 0)) := (hg.block k hk (fun e => (h.tnew k e.symm).2 rfl)).trans h.blk
  have hn : ∀ g, tv'.ownBlock = some g → W0.heap.size ≤ g ∧ g ≠ k := fun g hg' => by
    rcases hat g hg' with h1 | h1
    · exact h.tnew g h1
    · exact ⟨Nat.le_trans h.below.size h1, by omega⟩
  refine ⟨h.ctx, ?_, h.new, ?_, ?_, ?_, hn, h.snew, fun g hg' hs => ?_⟩
  · exact (h.below.grown hg h.below.size (fun j hj => (h.tnew j hj).1)).setCell h.new _
  · rw [blk_set hb]
    rfl
  · rw [prs_snoc, List.length_append, List.length_singleton]
    exact own_move ho fun g hg' => Below.heap_setCell _ _ _ _ (hn g hg').2
  · refine own_move (own_move h.lts fun g hg' => hg.block g (h.lts.lt g hg').2 fun e => h.ap g e.symm hg') fun g hg' => Below.heap_setCell _ _ _ _ (h.snew g hg').2
  · rcases hat g hg' with h1 | h1
    · exact h.ap g h1 hs
    · have := (h.lts.lt g hs).2
      omega
/-- A literal more. -/
theorem Look.pushS (h : Look W0 k A0 c0 v A1 c1 a t s tv sv w) (x : Int) {sv' : Value} (ho : w1.ownsRow 0 33 1 sv' (s.length + 1) (MM.lits s ++ [.int .i64 x])) (hg : w.grownBy w1 sv.ownBlock) (hat : ∀ g, sv'.ownBlock = some g → sv.ownBlock = some g ∨ w.heap.size ≤ g) :
    Look W0 k A0 c0 v A1 c1 a t (s ++ [x]) tv sv' (w1.setCell ⟨k, 3, none⟩ sv') := by
  have hk := h.lt
  have hb : w1.heap[k]? = some (.cells #[.slice A0 v.length c0, .slice A1 a.length c1, tv, sv] 52 (0, 0)) := (hg.block k hk (fun e => (h.snew k e.symm).2 rfl)).trans h.blk
  have hn : ∀ g, sv'.ownBlock = some g → W0.heap.size ≤ g ∧ g ≠ k := fun g hg' => by
    rcases hat g hg' with h1 | h1
    · exact h.snew g h1
    · exact ⟨Nat.le_trans h.below.size h1, by omega⟩
  refine ⟨h.ctx, ?_, h.new, ?_, ?_, ?_, h.tnew, hn, fun g hg' hs => ?_⟩
  · exact (h.below.grown hg h.below.size (fun j hj => (h.snew j hj).1)).setCell h.new _
  · rw [blk_set hb]
    rfl
  · refine own_move (own_move h.told fun g hg' => hg.block g (h.told.lt g hg').2 fun e => h.ap g hg' e.symm) fun g hg' => Below.heap_setCell _ _ _ _ (h.tnew g hg').2
  · rw [MM.lits, List.map_append, List.length_append]
    exact own_move ho fun g hg' => Below.heap_setCell _ _ _ _ (hn g hg').2
  · rcases hat g hs with h1 | h1
    · exact h.ap g hg' h1
    · have := (h.told.lt g hg').2
      omega
end Go.Proofs.YtpopohkbffhckaaDoor.KL

namespace Go.Proofs.YtpopohkbffhckaaDoor.KL
open Go.RowKit Go.Proofs.YtpopohkbffhckaaDoorW.PrintWords Go.Proofs.YtpopohkbffhckaaDoorW.PrintLast Go.Proofs.YtpopohkbffhckaaDoorW.PrintMore Go.Proofs.YtpopohkbffhckaaDoor.MM Go.Proofs.YtpopohkbffhckaaDoor.Hk
attribute [local go_sem] max2_int min2_int
set_option linter.unusedSimpArgs false
set_option linter.unusedVariables false
variable {W0 w w1 w2 : World} {k : Nat} {A0 A1 : Option Addr} {c0 c1 : Nat} {v : List Vx} {a : List At} {t : List Pr} {s : List Int} {tv sv : Value}
abbrev atA (x : At) : Value := .agg #[.int .u8 x.f0, .int .i64 x.f1, .int .i64 x.f2, .int .i64 x.f3]
set_option maxHeartbeats 1600000 in
theorem tell_calls (h : Look W0 k A0 c0 v A1 c1 a t s tv sv w) (i : Int) :
    Calls Tryd.prog 28 #[ptr k, .int .i64 i] w fun e w' => e = .returned (.tuple #[prA (prO (tellM t i)), .bool (tellM t i).isSome]) ∧ Below w.heap.size w w' := by
  have hk := h.lt
  obtain ⟨hc0, hc1, hc2, hc3⟩ := h.cells
  have hp := h.no.pos
  obtain ⟨hn0, hn1⟩ := h.no
  by_cases h1 : 0 ≤ i
  · by_cases h2 : i < (t.length : Int)
    · have e : tellM t i = some (t.getD i.toNat (0, 0)) := if_pos ⟨h1, h2⟩
      rw [e]
      clear e
      obtain ⟨g, cap, rfl, ht0, ht1⟩ := h.told_at i.toNat (by omega)
      have hg : g < w.heap.size := cell_lt ht0
      go_enter Tryd.func28, Tryd.ntmps28
      go_wp2
      refine bodyPost_ret (results_ct rfl _ _ _ _ _ _ _ rfl (heap_alloc_new w _) Tryd.underlying54 rfl (by kernel_rfl)) rfl ?_
      exact ⟨by simp [prO, List.getD_eq_getElem?_getD, List.getElem?_eq_getElem (show i.toNat < t.length by omega)], (Below.refl _ _).alloc (Nat.le_refl _) _⟩
    · have e : tellM t i = none := if_neg fun h => h2 h.2
      rw [e]
      clear e
      obtain ⟨A, c, rfl⟩ := h.tshape
      go_enter Tryd.func28, Tryd.ntmps28
      go_wp2
      refine bodyPost_ret (results_ct rfl _ _ _ _ _ _ _ rfl (heap_alloc_new w _) Tryd.underlying54 rfl (by kernel_rfl)) rfl ?_
      exact ⟨rfl, (Below.refl _ _).alloc (Nat.le_refl _) _⟩
  · have e : tellM t i = none := if_neg fun h => h1 h.1
    rw [e]
    clear e
    go_enter Tryd.func28, Tryd.ntmps28
    go_wp2
    refine bodyPost_ret (results_ct rfl _ _ _ _ _ _ _ rfl (heap_alloc_new w _) Tryd.underlying54 rfl (by kernel_rfl)) rfl ?_
    exact ⟨rfl, (Below.refl _ _).alloc (Nat.le_refl _) _⟩
theorem lit_range (l : Int) (hl : (Lit.int .i64 l).wf = true) : -9223372036854775808 ≤ l ∧ l ≤ 9223372036854775807 := by
  have h := hl
  simp only [Lit.wf, Bool.and_eq_true, decide_eq_true_eq] at h
  exact ⟨h.1, h.2⟩
theorem litN_out (l : Int) (n : Nat) (hn : n ≤ 140737488355328) (hl : (Lit.int .i64 l).wf = true) (h : ¬ (1 ≤ litN l ∧ litN l ≤ (n : Int))) : (if l < wrap64 (-l) then wrap64 (-l) else l) < 1 ∨ (n : Int) < (if l < wrap64 (-l) then wrap64 (-l) else l) := by
  have hr := lit_range l hl
  unfold litN at h
  unfold wrap64
  split at h <;> split <;> omega
set_option maxHeartbeats 1600000 in
theorem atom_calls (h : Look W0 k A0 c0 v A1 c1 a t s tv sv w) (l : Int) (hl : (Lit.int .i64 l).wf = true) (ha : a.length ≤ 1000) :
    Calls Tryd.prog 34 #[ptr k, .int .i64 l] w fun e w' => e = .returned (.tuple #[atA ((atomM a l).getD at0), .bool (atomM a l).isSome]) ∧ Below w.heap.size w w' := by
  have hk := h.lt
  have hr := lit_range l hl
  obtain ⟨hc0, hc1, hc2, hc3⟩ := h.cells
  by_cases h1 : 1 ≤ litN l ∧ litN l ≤ (a.length : Int)
  · have e : atomM a l = some (a.getD (litN l - 1).toNat at0) := if_pos h1
    rw [e]
    clear e
    obtain ⟨M, hM⟩ : ∃ M : Nat, litN l = (M : Int) + 1 := ⟨(litN l - 1).toNat, by omega⟩
    have e2 : (litN l - 1).toNat = M := by omega
    rw [e2]
    have hMa : M < a.length := by omega
    obtain ⟨ad, e1, x0, x1, x2, x3⟩ := at_T66 h.ha (M : Int) (by omega) (by omega)
    subst e1
    have e3 : rd_T66 a (M : Int) = a.getD M at0 := rfl
    rw [e3] at x0 x1 x2 x3
    rw [Int.toNat_natCast] at x0 x1 x2 x3
    obtain ⟨x, hx⟩ : ∃ x, a.getD M at0 = x := ⟨_, rfl⟩
    rw [hx] at x0 x1 x2 x3 ⊢
    have hg : (ad.add (M * 4)).block < w.heap.size := cell_lt x0
    obtain ⟨N, hN⟩ : ∃ N : Int, N = (M : Int) + 1 := ⟨_, rfl⟩
    have hw : wrap64 (N - 1) = (M : Int) := by rw [Go.IntWalk.wrap64_in] <;> omega
    rw [← hN] at hM
    have hNt : N.toNat - 1 = M := by omega
    have hN1 : ¬ N < 1 := by omega
    have hN2 : ¬ (a.length : Int) < N := by omega
    by_cases hneg : l < 0
    · have hw2 : wrap64 (-l) = N := by rw [← hM, litN, if_pos hneg]; rw [litN, if_pos hneg] at hM; exact Go.IntWalk.wrap64_in _ ⟨by omega, by omega⟩
      have hlN : l < N := by omega
      clear hM hN h1 e2 e3 hx hr hl h
      go_enter Tryd.func34, Tryd.ntmps34
      go_wp2
      refine bodyPost_ret (results_ct rfl _ _ _ _ _ _ _ rfl (heap_alloc_new w _) Tryd.underlying66 rfl (by kernel_rfl)) rfl ?_
      exact ⟨rfl, (Below.refl _ _).alloc (Nat.le_refl _) _⟩
    · have hw2 : ¬ l < wrap64 (-l) := by
        have : wrap64 (-l) = -l := Go.IntWalk.wrap64_in _ ⟨by omega, by omega⟩
        rw [litN, if_neg hneg] at hM
        omega
      rw [litN, if_neg hneg] at hM
      subst hM
      clear hN h1 e2 e3 hx hr hl h
      go_enter Tryd.func34, Tryd.ntmps34
      go_wp2
      refine bodyPost_ret (results_ct rfl _ _ _ _ _ _ _ rfl (heap_alloc_new w _) Tryd.underlying66 rfl (by kernel_rfl)) rfl ?_
      exact ⟨rfl, (Below.refl _ _).alloc (Nat.le_refl _) _⟩
  · have e : atomM a l = none := if_neg h1
    rw [e]
    clear e
    have hm := litN_out l a.length (by omega) hl h1
    clear h1 hr hl h
    go_enter Tryd.func34, Tryd.ntmps34
    go_wp2
    all_goals first
      | (exfalso; split at hm <;> omega)
      | (refine bodyPost_ret (results_ct rfl _ _ _ _ _ _ _ rfl (heap_alloc_new w _) Tryd.underlying66 rfl (by kernel_rfl)) rfl ?_
         exact ⟨rfl, (Below.refl _ _).alloc (Nat.le_refl _) _⟩)
end Go.Proofs.YtpopohkbffhckaaDoor.KL

namespace Go.Proofs.YtpopohkbffhckaaDoor.KL
open Go.RowKit Go.Proofs.YtpopohkbffhckaaDoorW.PrintWords Go.Proofs.YtpopohkbffhckaaDoorW.PrintLast Go.Proofs.YtpopohkbffhckaaDoorW.PrintMore Go.Proofs.YtpopohkbffhckaaDoor.MM Go.Proofs.YtpopohkbffhckaaDoor.Hk
attribute [local go_sem] max2_int min2_int
set_option linter.unusedSimpArgs false
set_option linter.unusedVariables false
variable {W0 w w1 w2 : World} {k : Nat} {A0 A1 : Option Addr} {c0 c1 : Nat} {v : List Vx} {a : List At} {t : List Pr} {s : List Int} {tv sv : Value}
/-- A new block of two cells, behind a call. -/
theorem two_new {o1 o2 : Value} {ty : TypeId} (hb : Below (w.alloc (.cells #[o1, o2] ty)).heap.size (w.alloc (.cells #[o1, o2] ty)) w1) :
    Below w.heap.size w w1 ∧ w.heap.size < w1.heap.size ∧ w1.heap[w.heap.size]? = some (.cells #[o1, o2] ty (0, 0)) ∧ w1.cell? ⟨w.heap.size, 0, none⟩ = some o1 ∧ w1.cell? ⟨w.heap.size, 1, none⟩ = some o2 ∧ ∀ i, w1.frozen? ⟨w.heap.size, i, none⟩ = false := by
  have hl : w.heap.size < (w.alloc (.cells #[o1, o2] ty)).heap.size := by simp
  have h1 : w1.heap[w.heap.size]? = some (.cells #[o1, o2] ty (0, 0)) := (hb.block _ hl).trans (heap_alloc_new w _)
  exact ⟨((Below.refl _ w).alloc (Nat.le_refl _) _).trans (hb.mono (Nat.le_of_lt hl)), Nat.lt_of_lt_of_le hl hb.size, h1, (blk_cell h1 0).trans rfl, (blk_cell h1 1).trans rfl, fun i => blk_frozen h1 i⟩
theorem two_set {b : Nat} {o1 o2 : Value} {ty : TypeId} (h : w.heap[b]? = some (.cells #[o1, o2] ty (0, 0))) (x y : Value) : ((w.setCell ⟨b, 0, none⟩ x).setCell ⟨b, 1, none⟩ y).heap[b]? = some (.cells #[x, y] ty (0, 0)) := by
  rw [blk_set (blk_set h 0 x) 1 y]
  rfl
theorem two_below {B b : Nat} (h : Below B w w1) (hb : B ≤ b) (x y : Value) : Below B w ((w1.setCell ⟨b, 0, none⟩ x).setCell ⟨b, 1, none⟩ y) := (h.setCell hb _).setCell hb _
set_option maxHeartbeats 1600000 in
theorem given_calls (h : Look W0 k A0 c0 v A1 c1 a t s tv sv w) (l : Int) (hl : (Lit.int .i64 l).wf = true) (ha : a.length ≤ 1000) :
    Calls Tryd.prog 27 #[ptr k, .int .i64 l] w fun e w' => e = .returned (.tuple #[prA (prO (givenM a l)), .bool (givenM a l).isSome]) ∧ Below w.heap.size w w' := by
  have HA := hid (fun W (hW : Below w.heap.size w W) => atom_calls (h.move hW) l hl ha)
  have HN := hid (h.no)
  have hp := h.no.pos
  clear h
  go_enter Tryd.func27, Tryd.ntmps27
  go_wp2_with fail
  refine (HA.out _ ((Below.refl _ _).alloc (Nat.le_refl _) _)).mono ?_
  rintro e w1 ⟨rfl, hb⟩
  obtain ⟨hB, hs, hblk, hq0, hq1, hfz⟩ := two_new hb
  have HB := hid hB
  have HBLK := hid hblk
  have hno := (HN.out.below hB hp)
  obtain ⟨hn0, hn1⟩ := hno
  have hp1 : 0 < w1.heap.size := by omega
  clear hb hB hblk
  cases hat : atomM a l with
  | none =>
    have e : givenM a l = none := by simp [givenM, hat]
    have HG := hid e
    clear e hat
    go_wp2
    rw [HG.out]
    refine bodyPost_ret (results_ct rfl _ _ _ _ _ _ _ rfl (blk_alloc (two_set HBLK.out _ _) _) Tryd.underlying54 rfl (by kernel_rfl)) rfl ?_
    exact ⟨rfl, (two_below HB.out (Nat.le_refl _) _ _).alloc (Nat.le_trans HB.out.size (by simp [World.setCell])) _⟩
  | some x =>
    have H1 := hid hat
    clear hat
    by_cases h1 : x.f0 = 1
    · by_cases h2 : l > 0
      · have e : givenM a l = some (x.f1, x.f2) := by simp [givenM, H1.out, h1, h2]
        have HG := hid e
        clear e
        go_wp2
        rw [HG.out]
        refine bodyPost_ret (results_ct rfl _ _ _ _ _ _ _ rfl (blk_alloc (two_set HBLK.out _ _) _) Tryd.underlying54 rfl (by kernel_rfl)) rfl ?_
        exact ⟨rfl, (two_below HB.out (Nat.le_refl _) _ _).alloc (Nat.le_trans HB.out.size (by simp [World.setCell])) _⟩
      · have e : givenM a l = none := by simp [givenM, H1.out, h1, h2]
        have HG := hid e
        clear e
        go_wp2
        rw [HG.out]
        refine bodyPost_ret (results_ct rfl _ _ _ _ _ _ _ rfl (blk_alloc (two_set HBLK.out _ _) _) Tryd.underlying54 rfl (by kernel_rfl)) rfl ?_
        exact ⟨rfl, (two_below HB.out (Nat.le_refl _) _ _).alloc (Nat.le_trans HB.out.size (by simp [World.setCell])) _⟩
    · by_cases h3 : x.f0 = 3
      · by_cases h2 : l > 0
        · have e : givenM a l = some (x.f1, 0) := by simp [givenM, H1.out, h1, h2, h3]
          have HG := hid e
          clear e
          go_wp2
          rw [HG.out]
          refine bodyPost_ret (results_ct rfl _ _ _ _ _ _ _ rfl (blk_alloc (two_set HBLK.out _ _) _) Tryd.underlying54 rfl (by kernel_rfl)) rfl ?_
          exact ⟨rfl, (two_below HB.out (Nat.le_refl _) _ _).alloc (Nat.le_trans HB.out.size (by simp [World.setCell])) _⟩
        · have e : givenM a l = some (x.f1, 1) := by simp [givenM, H1.out, h1, h2, h3]
          have HG := hid e
          clear e
          go_wp2
          rw [HG.out]
          refine bodyPost_ret (results_ct rfl _ _ _ _ _ _ _ rfl (blk_alloc (two_set HBLK.out _ _) _) Tryd.underlying54 rfl (by kernel_rfl)) rfl ?_
          exact ⟨rfl, (two_below HB.out (Nat.le_refl _) _ _).alloc (Nat.le_trans HB.out.size (by simp [World.setCell])) _⟩
      · have e : givenM a l = none := by simp [givenM, H1.out, h1, h3]
        have HG := hid e
        clear e
        go_wp2
        rw [HG.out]
        refine bodyPost_ret (results_ct rfl _ _ _ _ _ _ _ rfl (blk_alloc (two_set HBLK.out _ _) _) Tryd.underlying54 rfl (by kernel_rfl)) rfl ?_
        exact ⟨rfl, (two_below HB.out (Nat.le_refl _) _ _).alloc (Nat.le_trans HB.out.size (by simp [World.setCell])) _⟩
end Go.Proofs.YtpopohkbffhckaaDoor.KL

namespace Go.Proofs.YtpopohkbffhckaaDoor.KL
open Go.RowKit Go.Proofs.YtpopohkbffhckaaDoorW.PrintWords Go.Proofs.YtpopohkbffhckaaDoorW.PrintLast Go.Proofs.YtpopohkbffhckaaDoorW.PrintMore Go.Proofs.YtpopohkbffhckaaDoor.MM Go.Proofs.YtpopohkbffhckaaDoor.Hk
set_option linter.unusedSimpArgs false
set_option linter.unusedVariables false
variable {W0 w w1 w2 : World} {k : Nat} {A0 A1 : Option Addr} {c0 c1 : Nat} {v : List Vx} {a : List At} {t : List Pr} {s : List Int} {tv sv : Value}
/-- A link's value: L its slice. -/
abbrev lkA (x : Lk) (L : Value) : Value := .agg #[.int .u8 x.f0, .int .i64 x.f1, .int .i64 x.f2, .int .i64 x.f3, .int .i64 x.f4, .int .i64 x.f5, L]
theorem pair_equal (w : World) (p1 p2 q1 q2 : Int) : (Op.equalIn 10000 54 (.agg #[.int .i64 p1, .int .i64 p2]) (.agg #[.int .i64 q1, .int .i64 q2])).run Tryd.prog w = .ok (p1 == q1 && p2 == q2) w := by
  obtain ⟨i, hi, _⟩ := info_parts info3
  have hc : Tryd.prog.cellsOf 3 = 1 := by kernel_rfl
  have pt : ∀ (xs : Array Value) (j : Nat) (u : Value), xs[j]? = some u → (part 3 xs j).run Tryd.prog w = .ok u w := fun xs j u h => run_part_plain w (by kernel_rfl) h
  have ee : ∀ (d : Nat) (x y : Int), (Op.equalIn (d + 1) 3 (.int .i64 x) (.int .i64 y)).run Tryd.prog w = .ok (x == y) w := by
    intro d x y
    simp [Op.equalIn, Sem.run_bind, run_underlying Tryd.underlying3]
  have h := run_equalIn_array (P := Tryd.prog) w 9999 #[.int .i64 p1, .int .i64 p2] #[.int .i64 q1, .int .i64 q2] Tryd.underlying54 hi
  refine h.trans ?_
  rw [hc]
  simp only [List.range, List.range.loop, Op.eqItems, Sem.run_bind, Nat.zero_mul, Nat.one_mul]
  rw [pt _ 0 (.int .i64 p1) rfl, Result.andThen_ok, pt _ 0 (.int .i64 q1) rfl, Result.andThen_ok, ee 9998, Result.andThen_ok]
  cases hpq : (p1 == q1)
  · simp
  · simp only [Bool.not_true, Bool.false_eq_true, if_false, Sem.run_bind, Bool.true_and]
    rw [pt _ 1 (.int .i64 p2) rfl, Result.andThen_ok, pt _ 1 (.int .i64 q2) rfl, Result.andThen_ok, ee 9998, Result.andThen_ok]
    cases hpq2 : (p2 == q2) <;> simp
theorem tell_yes (h : Look W0 k A0 c0 v A1 c1 a t s tv sv w) {i p1 p2 : Int} (ho : tellM t i = some (p1, p2)) :
    Calls Tryd.prog 28 #[ptr k, .int .i64 i] w fun e w' => e = .returned (.tuple #[.agg #[.int .i64 p1, .int .i64 p2], .bool true]) ∧ Below w.heap.size w w' := by
  have h1 := tell_calls h i
  rw [ho] at h1
  exact h1
theorem tell_no (h : Look W0 k A0 c0 v A1 c1 a t s tv sv w) {i : Int} (ho : tellM t i = none) :
    Calls Tryd.prog 28 #[ptr k, .int .i64 i] w fun e w' => e = .returned (.tuple #[.agg #[.int .i64 (-1), .int .i64 (-1)], .bool false]) ∧ Below w.heap.size w w' := by
  have h1 := tell_calls h i
  rw [ho] at h1
  exact h1
/-- A new block, behind a call. -/
theorem one_new {cs : Array Value} {ty : TypeId} (hb : Below (w.alloc (.cells cs ty)).heap.size (w.alloc (.cells cs ty)) w1) : Below w.heap.size w w1 ∧ w.heap.size < w1.heap.size ∧ w1.heap[w.heap.size]? = some (.cells cs ty (0, 0)) := by
  have hl : w.heap.size < (w.alloc (.cells cs ty)).heap.size := by simp
  exact ⟨((Below.refl _ w).alloc (Nat.le_refl _) _).trans (hb.mono (Nat.le_of_lt hl)), Nat.lt_of_lt_of_le hl hb.size, (hb.block _ hl).trans (heap_alloc_new w _)⟩
set_option maxRecDepth 100000 in
set_option maxHeartbeats 3200000 in
theorem against_calls (h : Look W0 k A0 c0 v A1 c1 a t s tv sv w) (x : Lk) (A6 : Option Addr) (n6 c6 : Nat) (hl : (Lit.int .i64 x.f1).wf = true) (ha : a.length ≤ 1000) :
    Calls Tryd.prog 30 #[ptr k, lkA x (.slice A6 n6 c6)] w fun e w' => e = .returned (.bool (againstM a t x)) ∧ Below w.heap.size w w' := by
  have HA := hid (fun W (hW : Below w.heap.size w W) => atom_calls (h.move hW) x.f1 hl ha)
  obtain ⟨y, hy⟩ : ∃ y, (atomM a x.f1).getD at0 = y := ⟨_, rfl⟩
  obtain ⟨b, hb0⟩ : ∃ b, (atomM a x.f1).isSome = b := ⟨_, rfl⟩
  have HG0 := hid (show b = false → againstM a t x = false by
    intro hb
    have : atomM a x.f1 = none := by rw [hb] at hb0; simpa using hb0
    unfold againstM
    rw [this])
  have HG1 := hid (show b = true → atomM a x.f1 = some y by
    intro hb
    rw [hb] at hb0
    obtain ⟨z, hz⟩ := Option.isSome_iff_exists.1 hb0
    rw [hz] at hy ⊢
    exact congrArg some hy)
  rw [hy, hb0] at HA
  clear hy hb0
  cases h2 : tellM t x.f4 with
  | none =>
    have HT := hid (fun W (hW : Below w.heap.size w W) => tell_no (h.move hW) h2)
    have HG := hid (show againstM a t x = false by unfold againstM; rw [h2]; cases atomM a x.f1 <;> rfl)
    clear h h2 HG0 HG1
    go_enter Tryd.func30, Tryd.ntmps30
    go_wp2_with fail
    refine (HA.out _ ((Below.refl _ _).alloc (Nat.le_refl _) _)).mono ?_
    rintro e w1 ⟨rfl, hb⟩
    obtain ⟨hB, hs, hblk⟩ := one_new hb
    have HB := hid hB
    have HBLK := hid hblk
    have x1 : w1.cell? ⟨w.heap.size, 1, none⟩ = some (.int .i64 x.f1) := (blk_cell hblk 1).trans rfl
    have x4 : w1.cell? ⟨w.heap.size, 4, none⟩ = some (.int .i64 x.f4) := (blk_cell hblk 4).trans rfl
    clear hb hB hblk
    go_wp2_with fail
    refine (HT.out _ (HB.out.alloc HB.out.size _)).mono ?_
    rintro e w2 ⟨rfl, hb⟩
    obtain ⟨hB, hs2, hblk⟩ := one_new hb
    have HB2 := hid (HB.out.trans (hB.mono (Nat.le_of_lt hs)))
    have y1 : w2.cell? ⟨w.heap.size, 1, none⟩ = some (.int .i64 x.f1) := (hB.cell (p := ⟨w.heap.size, 1, none⟩) hs).trans x1
    have hs3 : w.heap.size < w2.heap.size := by omega
    have z0 : w2.cell? ⟨w1.heap.size, 0, none⟩ = some (.int .u8 y.f0) := (blk_cell hblk 0).trans rfl
    have z1 : w2.cell? ⟨w1.heap.size, 1, none⟩ = some (.int .i64 y.f1) := (blk_cell hblk 1).trans rfl
    have z2 : w2.cell? ⟨w1.heap.size, 2, none⟩ = some (.int .i64 y.f2) := (blk_cell hblk 2).trans rfl
    clear hb hB hblk x1 x4
    cases b
    all_goals
      go_wp2
      go_ret
      rw [HG.out]
      exact ⟨rfl, HB2.out.alloc HB2.out.size _⟩
  | some p =>
    obtain ⟨p1, p2⟩ := p
    have HT := hid (fun W (hW : Below w.heap.size w W) => tell_yes (h.move hW) h2)
    have HG2 := hid (show b = true → againstM a t x = (decide (x.f1 < 0) && (decide (y.f0 = 1) && (p1 == y.f1 && p2 == y.f2))) by
      intro hb
      unfold againstM
      rw [HG1.out hb, h2]
      simp only [Prod.mk.injEq, Bool.decide_and]
      rfl)
    clear h h2 HG1
    go_enter Tryd.func30, Tryd.ntmps30
    go_wp2_with fail
    refine (HA.out _ ((Below.refl _ _).alloc (Nat.le_refl _) _)).mono ?_
    rintro e w1 ⟨rfl, hb⟩
    obtain ⟨hB, hs, hblk⟩ := one_new hb
    have HB := hid hB
    have HBLK := hid hblk
    have x1 : w1.cell? ⟨w.heap.size, 1, none⟩ = some (.int .i64 x.f1) := (blk_cell hblk 1).trans rfl
    have x4 : w1.cell? ⟨w.heap.size, 4, none⟩ = some (.int .i64 x.f4) := (blk_cell hblk 4).trans rfl
    clear hb hB hblk
    go_wp2_with fail
    refine (HT.out _ (HB.out.alloc HB.out.size _)).mono ?_
    rintro e w2 ⟨rfl, hb⟩
    obtain ⟨hB, hs2, hblk⟩ := one_new hb
    have HB2 := hid (HB.out.trans (hB.mono (Nat.le_of_lt hs)))
    have y1 : w2.cell? ⟨w.heap.size, 1, none⟩ = some (.int .i64 x.f1) := (hB.cell (p := ⟨w.heap.size, 1, none⟩) hs).trans x1
    have hs3 : w.heap.size < w2.heap.size := by omega
    have z0 : w2.cell? ⟨w1.heap.size, 0, none⟩ = some (.int .u8 y.f0) := (blk_cell hblk 0).trans rfl
    have z1 : w2.cell? ⟨w1.heap.size, 1, none⟩ = some (.int .i64 y.f1) := (blk_cell hblk 1).trans rfl
    have z2 : w2.cell? ⟨w1.heap.size, 2, none⟩ = some (.int .i64 y.f2) := (blk_cell hblk 2).trans rfl
    clear hb hB hblk x1 x4
    cases b
    · have HG := hid (HG0.out rfl)
      go_wp2
      go_ret
      rw [HG.out]
      exact ⟨rfl, HB2.out.alloc HB2.out.size _⟩
    · have HG := hid (HG2.out rfl)
      have hpe := pair_equal (w2.alloc (.cells #[.int .i64 p1, .int .i64 p2] 54)) p1 p2 y.f1 y.f2
      by_cases g1 : x.f1 < 0
      · by_cases g2 : y.f0 = 1
        · go_wp2
          go_ret
          rw [HG.out]
          exact ⟨by simp [g1, g2], HB2.out.alloc HB2.out.size _⟩
        · go_wp2
          go_ret
          rw [HG.out]
          exact ⟨by simp [g1, g2], HB2.out.alloc HB2.out.size _⟩
      · go_wp2
        go_ret
        rw [HG.out]
        exact ⟨by rw [decide_eq_false (by omega : ¬ x.f1 < 0)]; rfl, HB2.out.alloc HB2.out.size _⟩
end Go.Proofs.YtpopohkbffhckaaDoor.KL
