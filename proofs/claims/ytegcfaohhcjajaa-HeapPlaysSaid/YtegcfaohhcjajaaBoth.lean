/- A heap and the document's heap, side by side: each call of both answers alike. -/
import Derived.Test.YtegcfaohhcjajaaRefF
import Derived.Test.YtegcfaohhcjajaaRefR
import Derived.Test.YtegcfaohhcjajaaManSame
import Derived.Test.YtegcfaohhcjajaaOwnS
namespace Go.Proofs.Ytegcfaohhcjajaa.TWO
open Go.RowKit Go.Proofs.YtegcfaohhcjajaaW.PrintWords Go.Proofs.YtegcfaohhcjajaaW.PrintLast Go.Proofs.YtegcfaohhcjajaaW.PrintMore Go.Proofs.Ytegcfaohhcjajaa.MM Go.Proofs.Ytegcfaohhcjajaa.TW Go.Proofs.Ytegcfaohhcjajaa.HM Go.Proofs.Ytegcfaohhcjajaa.RH
attribute [local go_sem ↓] Go.wp_at_zero Go.wp_at_succ
set_option linter.unusedVariables false

def docS (u : Nat) (vw vi : Value) (W : List Int) (I : List Bool) (G : Nat → Prop) : Side := ⟨fun w => Rh w u vw vi W I G, G, fun hk hd h => Ob.keep h hk hd, fun w h j hj => Ob.old h j hj⟩
/-- Both, of the call's own; the second one's state is told by a heap's. -/
def Two2 (w0 : World) (t u : Nat) (s s2 : HS) (S : Side) (V : World) : Prop :=
  ∃ vw vi W I G, OwnS w0 t s ((docS u vw vi W I G).and S) V ∧ Rel s2 W I ∧ ∀ j, G j → w0.heap.size ≤ j ∧ ¬ S.D j
variable {w0 w w1 V V1 : World} {t u : Nat} {s s2 s' : HS} {S : Side}
theorem Two2.bel (h : Two2 w0 t u s s2 S V) : Below w0.heap.size w0 V := by
  obtain ⟨_, _, _, _, _, h, _⟩ := h
  exact h.bel
theorem Two2.side (h : Two2 w0 t u s s2 S V) : S.P V := by
  obtain ⟨_, _, _, _, _, h, _⟩ := h
  exact h.side.2
theorem Two2.below (h : Two2 w0 t u s s2 S V) (hb : Below V.heap.size V V1) : Two2 w0 t u s s2 S V1 := by
  obtain ⟨_, _, _, _, _, h, q⟩ := h
  exact ⟨_, _, _, _, _, h.below hb, q⟩
theorem Two2.drewN (h : Two2 w0 t u s s2 S V) (m : Nat) : Two2 w0 t u s s2 S (V.drewN m) := h.below (pw_below_drewN (Below.refl _ _) m)
theorem Two2.off (h : Two2 w0 t u s s2 S V) : Two2 w0 t u s s2 Side.nothing V := by
  obtain ⟨_, _, _, _, _, h, q, r⟩ := h
  exact ⟨_, _, _, _, _, HC.OwnS_sub h ⟨h.side.1, trivial⟩ (fun j hj => hj.elim .inl (fun q => q.elim)), q, fun j hj => ⟨(r j hj).1, fun q => q⟩⟩
theorem Two2.obj (h : Two2 w0 t u s s2 Side.nothing V) (hb : Below V.heap.size V V1) (b : Nat) (o : Obj) (ho : V1.heap[b]? = some o) (hbn : V.heap.size ≤ b) : Two2 w0 t u s s2 (Side.obj b o) V1 := by
  obtain ⟨vw, vi, W, I, G, h, q, r⟩ := h
  have hG := fun j (hj : G j) => Ob.old h.side.1 j hj
  have h2 := h.new hb (Side.obj b o) ho (fun j hj => by rw [show j = b from hj]; exact hbn)
  exact ⟨_, _, _, _, _, HC.OwnS_sub h2 ⟨h2.side.1.1, h2.side.2⟩ (fun j hj => hj.elim (fun a => .inl (.inl a)) .inr), q, fun j hj => ⟨(r j hj).1, fun e => by have := hG j hj; have : j = b := e; omega⟩⟩
/-- A call of the first one. -/
theorem Two2.heap (h : Two2 w0 t u s s2 S V) {f : FuncId} {args : Array Value} {Q : Ending → HS → Prop} (hc : ∀ S V, OwnS w0 t s S V → Calls Try.prog f args V fun e w' => ∃ s', Q e s' ∧ OwnS w0 t s' S w') :
    Calls Try.prog f args V fun e w' => ∃ s', Q e s' ∧ Two2 w0 t u s' s2 S w' := by
  obtain ⟨vw, vi, W, I, G, h, q⟩ := h
  exact (hc _ _ h).mono fun e w' ⟨s', he, ho⟩ => ⟨s', he, vw, vi, W, I, G, ho, q⟩
/-- A call of the second one that turns nothing. -/
theorem Two2.docq (h : Two2 w0 t u s s2 S V) {f : FuncId} {args : Array Value} {Q : Ending → Prop} (hc : ∀ vw vi W I G, Rh V u vw vi W I G → Rel s2 W I → Calls Try.prog f args V fun e w' => Q e ∧ Below V.heap.size V w') (s' : HS) (hs : s2 = s') :
    Calls Try.prog f args V fun e w' => Q e ∧ Two2 w0 t u s s' S w' := by
  subst hs
  obtain ⟨vw, vi, W, I, G, h, q, r⟩ := h
  exact (hc _ _ _ _ _ h.side.1 q).mono fun e w' ⟨he, hb⟩ => ⟨he, vw, vi, W, I, G, h.below hb, q, r⟩
/-- A call of the second one that turns it. -/
theorem Two2.doc (h : Two2 w0 t u s s2 S V) {f : FuncId} {args : Array Value} {Q : Ending → Prop} (hc : ∀ vw vi W I G, Rh V u vw vi W I G → Rel s2 W I → ∃ W' I', Rel s' W' I' ∧ Calls Try.prog f args V fun e w' => Q e ∧ Rh w' u vw vi W' I' G ∧ Keep G V w') :
    Calls Try.prog f args V fun e w' => Q e ∧ Two2 w0 t u s s' S w' := by
  obtain ⟨vw, vi, W, I, G, h, q, r⟩ := h
  obtain ⟨W', I', hr, hc⟩ := hc _ _ _ _ _ h.side.1 q
  refine hc.mono fun e w' ⟨he, hp, hk⟩ => ⟨he, vw, vi, W', I', G, ?_, hr, r⟩
  obtain ⟨F, h1, h2, h3, h4, h5⟩ := h
  exact ⟨F, hpKeep h1 hk (fun j hF hG => h5 j (.inl hG) hF), h2, below_off (fun j hj => (r j hj).1) h3 hk, ⟨hp, S.mv hk (fun j hj hG => (r j hG).2 hj) h4.2⟩, h5⟩

theorem knownD_rel {W : List Int} {I : List Bool} (h : Rel s W I) (i : Int) : knownD W i = knownM s i := by unfold knownD knownM; rw [h.w]
theorem big_rel {W : List Int} {I : List Bool} (h : Rel s W I) (hg : HM.Good s) : W.length ≤ 1048576 := by rw [← h.w]; exact hg.wf.big
/-- How a call of both goes. -/
abbrev Alike (w0 : World) (t u : Nat) (s : HS) (S : Side) (V : World) (f g : FuncId) (args : List Value) (T : Value → Prop) : Prop :=
  Calls Try.prog f (HM.ptr t :: args).toArray V fun e w' => ∃ s', (∃ v, T v ∧ e = .returned v ∧ HM.Good s' ∧ s'.w.length = s.w.length ∧ s'.r.length ≤ s.r.length + 1 ∧
    ∀ V', Two2 w0 t u s' s S V' → Calls Try.prog g (HM.ptr u :: args).toArray V' fun e w'' => e = .returned v ∧ Two2 w0 t u s' s' S w'') ∧ Two2 w0 t u s' s S w'
theorem both_push (h : Two2 w0 t u s s S V) (hg : HM.Good s) (hr : s.r.length < 1048576) (i : Int) : Alike w0 t u s S V 19 26 [.int .i64 i] (fun v => ∃ c, v = .int .i64 c) := by
  refine h.heap fun S V ho => (ho.push hg i hr).mono fun e w' ⟨s', c, he, ho', g', hw, hl, hcs⟩ => ⟨s', ⟨_, ⟨c, rfl⟩, he, g', by rw [hw], hl, fun V' h' => ?_⟩, ho'⟩
  rcases hcs with ⟨rfl, rfl, hk⟩ | ⟨rfl, rfl, x, rfl, hx, hp⟩ | ⟨rfl, x, rfl, hx, hn, _, hin⟩
  · exact h'.docq (fun vw vi W I G hh hr => Push_unknown V' u vw vi W I G i hh (by rw [knownD_rel hr]; exact hk)) _ rfl
  · exact h'.docq (fun vw vi W I G hh hr => Push_twice V' u vw vi W I G x hh hr.len (by rw [← hr.w]; exact hx) ((hr.ins x (by rw [← hr.w]; exact hx)).2 ⟨hx, hp⟩)) _ rfl
  · refine h'.doc fun vw vi W I G hh hr => ⟨W, I.set x true, hr.put x (by rw [← hr.w]; exact hx) hw hin, RH.Push_new V' u vw vi W I G x hh hr.len (by rw [← hr.w]; exact hx) ?_⟩
    cases hb : I.getD x false with
    | false => rfl
    | true => exact absurd ((hr.ins x (by rw [← hr.w]; exact hx)).1 hb) hn
theorem both_pop (h : Two2 w0 t u s s S V) (hg : HM.Good s) : Alike w0 t u s S V 21 27 [] (fun v => ∃ x b, v = .tuple #[.int .i64 x, .bool b]) := by
  by_cases h0 : 0 < s.r.length
  · refine h.heap fun S V ho => (ho.pop hg h0).mono fun e w' ⟨s', he, ho', g', hw, hl, hin⟩ => ⟨s', ⟨_, ⟨_, _, rfl⟩, he, g', by rw [hw], by omega, fun V' h' => ?_⟩, ho'⟩
    refine h'.doc fun vw vi W I G hh hr => ?_
    have hx : HM.R s 0 < W.length := by rw [← hr.w]; exact (hg.row_in h0).1
    exact ⟨W, I.set (HM.R s 0) false, hr.out _ hx hw hin, (RH.Pop_calls V' u vw vi W I G (HM.R s 0) hh hr.len (big_rel hr hg) (hr.first hg h0)).mono fun e w' ⟨a, b, c⟩ => ⟨a, b, c.mono fun j hj => (hh.fr 1 _ rfl j hj).1⟩⟩
  · refine h.heap fun S V ho => (ho.popNone (by omega)).mono fun e w' ⟨he, ho'⟩ => ⟨s, ⟨_, ⟨_, _, rfl⟩, he, hg, rfl, by omega, fun V' h' => ?_⟩, ho'⟩
    exact h'.docq (fun vw vi W I G hh hr => RH.Pop_none V' u vw vi W I G hh hr.len (big_rel hr hg) (hr.none hg (by omega))) _ rfl
theorem both_first (h : Two2 w0 t u s s S V) (hg : HM.Good s) : Alike w0 t u s S V 31 32 [] (fun v => ∃ x b, v = .tuple #[.int .i64 x, .bool b]) := by
  by_cases h0 : 0 < s.r.length
  · refine h.heap fun S V ho => (ho.first).mono fun e w' ⟨he, ho'⟩ => ⟨s, ⟨_, ⟨_, _, rfl⟩, by rw [if_pos h0] at he; exact he, hg, rfl, by omega, fun V' h' => ?_⟩, ho'⟩
    exact h'.docq (fun vw vi W I G hh hr => by have := RH.First_calls V' u vw vi W I G hh hr.len (big_rel hr hg); rw [hr.first hg h0, if_pos (by omega)] at this; exact this) _ rfl
  · refine h.heap fun S V ho => (ho.first).mono fun e w' ⟨he, ho'⟩ => ⟨s, ⟨_, ⟨_, _, rfl⟩, by rw [if_neg h0] at he; exact he, hg, rfl, by omega, fun V' h' => ?_⟩, ho'⟩
    exact h'.docq (fun vw vi W I G hh hr => by have := RH.First_calls V' u vw vi W I G hh hr.len (big_rel hr hg); rw [hr.none hg (by omega), if_neg (by decide)] at this; exact this) _ rfl
theorem both_weight (h : Two2 w0 t u s s S V) (hg : HM.Good s) (i : Int) : Alike w0 t u s S V 22 33 [.int .i64 i] (fun v => ∃ c, v = .int .i64 c) := by
  refine h.heap fun S V ho => (ho.weight i).mono fun e w' ⟨he, ho'⟩ => ⟨s, ⟨_, ⟨_, rfl⟩, he, hg, rfl, by omega, fun V' h' => ?_⟩, ho'⟩
  exact h'.docq (fun vw vi W I G hh hr => by have := RH.Weight_calls V' u vw vi W I G i hh; rw [show weightD W i = weightM s i from by unfold weightD weightM; rw [knownD_rel hr, hr.w]] at this; exact this) _ rfl
theorem hasD_rel {W : List Int} {I : List Bool} (h : Rel s W I) (i : Int) : hasD W I i = hasM s i := by
  unfold hasD hasM
  rw [knownD_rel h]
  cases hk : knownM s i with
  | false => simp
  | true =>
    obtain ⟨h0, h1⟩ := (known_iff s i).1 hk
    have hx : i.toNat < W.length := by rw [← h.w]; omega
    have := h.ins _ hx
    rw [Bool.true_and, Bool.true_and]
    by_cases hp : 0 ≤ s.p.getD i.toNat 0
    · rw [decide_eq_true hp]
      exact this.2 ⟨by rw [h.w]; exact hx, hp⟩
    · rw [decide_eq_false hp]
      cases hb : I.getD i.toNat false with
      | false => rfl
      | true => exact absurd (this.1 hb).2 hp
theorem both_has (h : Two2 w0 t u s s S V) (hg : HM.Good s) (i : Int) : Alike w0 t u s S V 34 35 [.int .i64 i] (fun v => ∃ c, v = .bool c) := by
  refine h.heap fun S V ho => (ho.has hg i).mono fun e w' ⟨he, ho'⟩ => ⟨s, ⟨_, ⟨_, rfl⟩, he, hg, rfl, by omega, fun V' h' => ?_⟩, ho'⟩
  exact h'.docq (fun vw vi W I G hh hr => by have := RH.Has_calls V' u vw vi W I G i hh hr.len; rw [hasD_rel hr] at this; exact this) _ rfl
theorem both_raise (h : Two2 w0 t u s s S V) (hg : HM.Good s) (i d : Int) : Alike w0 t u s S V 20 28 [.int .i64 i, .int .i64 d] (fun v => ∃ c, v = .int .i64 c) := by
  refine h.heap fun S V ho => (ho.raise hg i d).mono fun e w' ⟨s', he, ho', g', hw, hl, hin⟩ => ⟨s', ⟨_, ⟨_, rfl⟩, he, g', by rw [hw]; split <;> simp, by omega, fun V' h' => ?_⟩, ho'⟩
  have hsame : raiseE s i d ≠ 0 → ∀ W I, Rel s W I → Rel s' W I := fun hne W I hr => hr.weights (by rw [hw, if_neg hne, hr.w]) rfl hin
  by_cases c1 : knownM s i = false ∨ d < 0
  · have e : raiseE s i d = 2 := by unfold raiseE; rw [if_pos c1]
    rw [e]
    refine h'.doc fun vw vi W I G hh hr => ⟨W, I, hsame (by rw [e]; decide) W I hr, (RH.Raise_arg V' u vw vi W I G i d hh (by rw [knownD_rel hr]; exact c1)).mono fun e w' ⟨a, b⟩ => ⟨a, hh.below b, Keep.ofBelow b⟩⟩
  · have hk : knownM s i = true := by
      cases hk : knownM s i with
      | true => rfl
      | false => exact absurd (.inl hk) c1
    obtain ⟨h0, h1⟩ := (known_iff s i).1 hk
    obtain ⟨x, rfl⟩ : ∃ x : Nat, i = (x : Int) := ⟨i.toNat, by omega⟩
    have hx : x < s.w.length := by omega
    have hd : 0 ≤ d := by omega
    obtain ⟨b0, b1⟩ := hg.wat hx
    by_cases c2 : d > 4611686018427387904 - s.w.getD x 0
    · have e : raiseE s (x : Int) d = 6 := by unfold raiseE; rw [if_neg c1, Int.toNat_natCast, if_pos c2]
      rw [e]
      refine h'.doc fun vw vi W I G hh hr => ⟨W, I, hsame (by rw [e]; decide) W I hr, ?_⟩
      have hw := hr.w
      subst hw
      exact (RH.Raise_over V' u vw vi _ I G x d hh hx hd b0 b1 c2).mono fun e w' ⟨a, b⟩ => ⟨a, hh.below b, Keep.ofBelow b⟩
    · have e : raiseE s (x : Int) d = 0 := by unfold raiseE; rw [if_neg c1, Int.toNat_natCast, if_neg c2]
      rw [e]
      rw [e, if_pos rfl, Int.toNat_natCast] at hw
      refine h'.doc fun vw vi W I G hh hr => ?_
      have hw0 := hr.w
      subst hw0
      exact ⟨_, I, hr.weights hw (by simp) hin, RH.Raise_calls V' u vw vi _ I G x d hh hx hd b0 b1 c2⟩
theorem both_halve (h : Two2 w0 t u s s S V) (hg : HM.Good s) : Alike w0 t u s S V 29 30 [] (fun v => v = .tuple #[]) := by
  obtain ⟨g1, g2, g3, g4⟩ := halve_good hg
  refine h.heap fun S V ho => (ho.halve hg).mono fun e w' ⟨he, ho'⟩ => ⟨halveM s, ⟨_, rfl, he, g1, by rw [g2]; simp, by omega, fun V' h' => ?_⟩, ho'⟩
  refine h'.doc fun vw vi W I G hh hr => ?_
  have hw0 := hr.w
  subst hw0
  exact ⟨_, I, hr.weights g2 (by simp) g4, RH.Halve_calls V' u vw vi _ I G hh hg.wf.big hg.wt⟩
theorem both_same (h : Two2 w0 t u s s S V) (hg : HM.Good s) : Calls Try.prog 36 #[HM.ptr t, HM.ptr u] V fun e w' => e = .returned (.bool true) ∧ Two2 w0 t u s s S w' := by
  obtain ⟨vw, vi, W, I, G, h, q, r⟩ := h
  obtain ⟨F, h1, _⟩ := id h
  exact (HS2.same_calls V t u s F G vw vi W I h1 hg h.side.1 q).mono fun e w' ⟨he, hb⟩ => ⟨he, vw, vi, W, I, G, h.below hb, q, r⟩
theorem Size_same (w : World) (t : Nat) (s : HS) (F : Nat → Prop) (h : Hp w t s F) :
    Calls Try.prog 25 #[HM.ptr t] w fun e w' => e = .returned (.int .i64 s.w.length) ∧ w' = w := by
  obtain ⟨vw, vp, vr, h, HV⟩ := h
  have hc := h.cell 0 vw rfl
  obtain ⟨A, c, hv, _, _⟩ := (h.row 0 _ _ vw rfl rfl).shape
  rw [List.length_map] at hv
  subst hv
  clear h
  go_enter Try.func25, Try.ntmps25
  go_wp2
  go_ret
  exact ⟨rfl, rfl⟩
theorem Two2.size (h : Two2 w0 t u s s2 S V) : Calls Try.prog 25 #[HM.ptr t] V fun e w' => e = .returned (.int .i64 s.w.length) ∧ w' = V := by
  obtain ⟨_, _, _, _, _, ⟨F, h1, _⟩, _⟩ := h
  exact Size_same V t s F h1
theorem Two2.wcell (h : Two2 w0 t u s s2 S V) : ∃ A c, V.cell? ⟨u, 0, none⟩ = some (.slice A s2.w.length c) := by
  obtain ⟨_, _, _, _, _, h, q, _⟩ := h
  obtain ⟨A, c, _, hc⟩ := RH.wcell h.side.1
  exact ⟨A, c, by rw [q.w]; exact hc⟩
/-- Both made. -/
theorem two2_new {w W1 W2 : World} {t u n : Nat} {v vw vi : Value} {G : Nat → Prop} (h1 : HM.Own w t (newM n v) W1) (h2 : Rh W2 u vw vi (List.replicate n 0) (List.replicate n false) G) (hG : ∀ j, G j → W1.heap.size ≤ j) (hb : Below W1.heap.size W1 W2) : Two2 w t u (newM n v) (newM n v) Side.nothing W2 := by
  have h3 := (OwnS.of h1).new hb (docS u vw vi (List.replicate n 0) (List.replicate n false) G) h2 hG
  refine ⟨vw, vi, _, _, G, HC.OwnS_sub h3 ⟨h3.side.2, trivial⟩ (fun j hj => hj.elim .inr (fun q => q.elim)), ⟨rfl, by simp, fun x hx => ?_⟩, fun j hj => ⟨Nat.le_trans h1.bel.size (hG j hj), fun q => q⟩⟩
  refine ⟨fun q => ?_, fun q => absurd q (not_in_new n v x)⟩
  simp [List.getD_eq_getElem?_getD, List.getElem?_replicate] at q
  split at q <;> simp at q
end Go.Proofs.Ytegcfaohhcjajaa.TWO
