/- What the law RupMore answers, where its calls answer as they should (printed by wip/tools/rupmore.py). -/
import Derived.Test.YtjlkjgoncfdaeaaManJoin
import Derived.Test.YtjlkjgoncfdaeaaHkx0
import Derived.Test.YtjlkjgoncfdaeaaHkx1
import Derived.Test.YtjlkjgoncfdaeaaHkx71
import Derived.IntWalk
import Derived.BigQuiet
import Derived.Deep.LoopGhost
namespace Go.Proofs.Ytjlkjgoncfdaeaa.Hk
open Go.RowKit Go.Proofs.YtjlkjgoncfdaeaaW.PrintWords Go.Proofs.YtjlkjgoncfdaeaaW.PrintLast Go.Proofs.YtjlkjgoncfdaeaaW.PrintMore Go.Sort Go.Shelf Go.Maps Go.Proofs.Ytjlkjgoncfdaeaa.MC Go.Proofs.Ytjlkjgoncfdaeaa.RM Go.Proofs.Ytjlkjgoncfdaeaa.MM
attribute [local go_sem ↓] Go.wp_at_zero Go.wp_at_succ
set_option linter.unusedSimpArgs false
set_option linter.unusedVariables false

/-- What the calls answer, where all is looked at. -/
def MoreRest (k : Nat) (db more : List (List Int)) (given also : List Int) : Prop :=
  ∃ f c e f2 c2 e2, rup_Units.f db given = some (f, c, e) ∧ rup_Units.f (db ++ more) (given ++ also) = some (f2, c2, e2) ∧
    ((e = 2 ∧ (e2 = 2 ∨ e2 = 0)) ∨ (e = 0 ∧ (e2 = 2 ∨ (e2 = 0 ∧ (c2 = true ∨ (c = false ∧ c2 = false ∧ juristref14_Within.f k f f2 = some true))))))
def MoreOk (k : Nat) (db more : List (List Int)) (given also : List Int) : Prop :=
  juristlaw16_known.f = some true ∧ (juristlaw16_large.f k db = some true ∨ (juristlaw16_large.f k db = some false ∧ (juristlaw16_large.f k more = some true ∨ (juristlaw16_large.f k more = some false ∧ (30 < given.length ∨ (given.length ≤ 30 ∧
    (30 < also.length ∨ (also.length ≤ 30 ∧ db.length ≤ 60 ∧ more.length ≤ 60 ∧ juristlaw16_copied.f k db = some db ∧ juristref14_Copied.f given = some given ∧ MoreRest k db more given also))))))))

set_option maxRecDepth 100000 in
set_option maxHeartbeats 6400000 in
theorem more_walk (k : Nat) (A0 : Option Addr) (c0 : Nat) (db : List (List Int)) (A1 : Option Addr) (c1 : Nat) (more : List (List Int)) (A2 : Option Addr) (c2 : Nat) (given : List Int) (A3 : Option Addr) (c3 : Nat) (also : List Int) (w : World) (hr0 : CC w A0 db) (hc0 : db.length ≤ c0) (hr1 : CC w A1 more) (hc1 : more.length ≤ c1) (hr2 : Kd.C (Kd.int .i64) w A2 given.length given) (hc2 : given.length ≤ c2) (hr3 : Kd.C (Kd.int .i64) w A3 also.length also) (hc3 : also.length ≤ c3) (h : MoreOk k db more given also) :
    Calls Try.prog 8 #[.slice A0 db.length c0, .slice A1 more.length c1, .slice A2 given.length c2, .slice A3 also.length c3] w fun e w' => e = .returned (.bool true) ∧ Below w.heap.size w w' := by
  obtain ⟨hk, h⟩ := h
  have HKN := hid (fun W => juristlaw16_known.calls true W hk)
  have HC0 := hid hr0
  have HC1 := hid hr1
  have HC2 := hid hr2
  have HC3 := hid hr3
  have HL := hid (fun (b : Bool) (hb : juristlaw16_large.f k db = some b) => juristlaw16_large.calls k A0 c0 db b w hr0 hc0 hb)
  have HM := hid (fun (W : World) (hW : Below w.heap.size w W) (b : Bool) (hb : juristlaw16_large.f k more = some b) => juristlaw16_large.calls k A1 c1 more b W (Kd.C_below hr1 hW) hc1 hb)
  have HCP := hid (fun (W : World) (hW : Below w.heap.size w W) (hb : juristlaw16_copied.f k db = some db) => juristlaw16_copied.calls k A0 c0 db db W (Kd.C_below hr0 hW) hc0 hb)
  have HCG := hid (fun (W : World) (hW : Below w.heap.size w W) (hb : juristref14_Copied.f given = some given) => juristref14_Copied.calls A2 c2 given given W (Kd.C_below hr2 hW) hc2 hb)
  obtain ⟨nd, hnd⟩ : ∃ n, n = db.length := ⟨_, rfl⟩
  obtain ⟨nm, hnm⟩ : ∃ n, n = more.length := ⟨_, rfl⟩
  obtain ⟨ng, hng⟩ : ∃ n, n = given.length := ⟨_, rfl⟩
  obtain ⟨na, hna⟩ : ∃ n, n = also.length := ⟨_, rfl⟩
  rw [← hnd] at HL HCP ⊢
  rw [← hnm] at HM ⊢
  rw [← hng] at h HCG ⊢
  rw [← hna] at h ⊢
  have HND := hid hnd
  have HNM := hid hnm
  have HNG := hid hng
  have HNA := hid hna
  clear hr0 hr1 hr2 hr3 hk hc0 hc1 hc2 hc3 hnd hnm hng hna
  rcases h with hl | ⟨hl, h⟩
  · have HL1 := hid (HL.out true hl)
    clear hl HL
    go_enter Try.func8, Try.ntmps8
    go_wp2_with fail
    refine HL1.out.mono ?_
    rintro e w1 ⟨rfl, hb1⟩
    have HB1 := hid (hb1.below)
    clear hb1
    go_wp2_with fail
    refine (HKN.out _).mono ?_
    rintro e wk ⟨rfl, hbk⟩
    have HBK := hid hbk
    clear hbk
    go_wp2_with fail
    go_ret
    exact ⟨rfl, HB1.out.trans (HBK.out.mono HB1.out.size)⟩
  · have HL1 := hid (HL.out false hl)
    clear hl HL
    rcases h with hm | ⟨hm, h⟩
    · have HM1 := hid (fun W hW => HM.out W hW true hm)
      clear hm HM
      go_enter Try.func8, Try.ntmps8
      go_wp2_with fail
      refine HL1.out.mono ?_
      rintro e w1 ⟨rfl, hb1⟩
      have HB1 := hid (hb1.below)
      clear hb1
      go_wp2_with fail
      refine (HM1.out w1 HB1.out).mono ?_
      rintro e w2 ⟨rfl, hb2⟩
      have HB2 := hid (HB1.out.trans (hb2.below.mono HB1.out.size))
      clear hb2
      go_wp2_with fail
      refine (HKN.out _).mono ?_
      rintro e wk ⟨rfl, hbk⟩
      have HBK := hid hbk
      clear hbk
      go_wp2_with fail
      go_ret
      exact ⟨rfl, HB2.out.trans (HBK.out.mono HB2.out.size)⟩
    · have HM1 := hid (fun W hW => HM.out W hW false hm)
      clear hm HM
      rcases h with hn | ⟨hn, h⟩
      · have e1 : decide ((ng : Int) > 30) = true := by simp; omega
        clear hn
        go_enter Try.func8, Try.ntmps8
        go_wp2_with fail
        refine HL1.out.mono ?_
        rintro e w1 ⟨rfl, hb1⟩
        have HB1 := hid (hb1.below)
        clear hb1
        go_wp2_with fail
        refine (HM1.out w1 HB1.out).mono ?_
        rintro e w2 ⟨rfl, hb2⟩
        have HB2 := hid (HB1.out.trans (hb2.below.mono HB1.out.size))
        clear hb2
        go_wp2_with fail
        refine (HKN.out _).mono ?_
        rintro e wk ⟨rfl, hbk⟩
        have HBK := hid hbk
        clear hbk
        go_wp2_with fail
        go_ret
        exact ⟨rfl, HB2.out.trans (HBK.out.mono HB2.out.size)⟩
      · have e1 : decide ((ng : Int) > 30) = false := by simp; omega
        have hng30 : ng ≤ 30 := hn
        rcases h with hn2 | ⟨hn2, hd60, hm60, hcp, hcg, h⟩
        · have e2 : decide ((na : Int) > 30) = true := by simp; omega
          clear hn2 hn
          go_enter Try.func8, Try.ntmps8
          go_wp2_with fail
          refine HL1.out.mono ?_
          rintro e w1 ⟨rfl, hb1⟩
          have HB1 := hid (hb1.below)
          clear hb1
          go_wp2_with fail
          refine (HM1.out w1 HB1.out).mono ?_
          rintro e w2 ⟨rfl, hb2⟩
          have HB2 := hid (HB1.out.trans (hb2.below.mono HB1.out.size))
          clear hb2
          go_wp2_with fail
          refine (HKN.out _).mono ?_
          rintro e wk ⟨rfl, hbk⟩
          have HBK := hid hbk
          clear hbk
          go_wp2_with fail
          go_ret
          exact ⟨rfl, HB2.out.trans (HBK.out.mono HB2.out.size)⟩
        · have e2 : decide ((na : Int) > 30) = false := by simp; omega
          have hna30 : na ≤ 30 := hn2
          have HD60 := hid hd60
          have HM60 := hid hm60
          have HCP1 := hid (fun W hW => HCP.out W hW hcp)
          have HCG1 := hid (fun W hW => HCG.out W hW hcg)
          obtain ⟨f, c, e, f2, c', e', hu, hu2, hcase⟩ := h
          have HU := hid (fun (W : World) (hW : Below w.heap.size w W) => Units_calls A0 c0 db A2 c2 given f c e W (Kd.C_below HC0.out hW) (Kd.C_below HC2.out hW) hu)
          have HU2 := hid (fun (W : World) (A : Option Addr) (m : Nat) (A' : Option Addr) (m' : Nat) (n : Nat) (hn : n = (db ++ more).length) (n' : Nat) (hn' : n' = (given ++ also).length) (h1 : CC W A (db ++ more)) (h2 : Kd.C (Kd.int .i64) W A' (given ++ also).length (given ++ also)) => show Calls Try.prog 18 #[.slice A n m, .slice A' n' m'] W (fun e_ w' => ∃ v0_ : Value, e_ = .returned (.tuple #[v0_, .bool c', .int .i64 e']) ∧ Kd.R (Kd.int .i64) 46 w' W.heap.size (fun _ => True) v0_ f2 ∧ Below W.heap.size W w') from by subst hn hn'; exact Units_calls A m (db ++ more) A' m' (given ++ also) f2 c' e' W h1 h2 hu2)
          rw [← HND.out, ← HNG.out] at HU
          have HCASE := hid hcase
          clear hn2 hn hcp hcg hu hu2 hd60 hm60 HCP HCG hcase
          go_enter Try.func8, Try.ntmps8
          go_wp2_with fail
          refine HL1.out.mono ?_
          rintro e w1 ⟨rfl, hb1⟩
          have HB1 := hid (hb1.below)
          clear hb1
          go_wp2_with fail
          refine (HM1.out w1 HB1.out).mono ?_
          rintro e w2 ⟨rfl, hb2⟩
          have HB2 := hid (HB1.out.trans (hb2.below.mono HB1.out.size))
          clear hb2
          go_wp2_with fail
          refine (HU.out w2 HB2.out).mono ?_
          rintro e_ w3 ⟨v0, rfl, hR, hb3⟩
          obtain ⟨A5, c5, rfl, hc5, hC5⟩ := Kd.R_reads hR
          have HB3 := hid (HB2.out.trans (hb3.mono HB2.out.size))
          have HC5 := hid hC5
          have HCP5 := hid hc5
          clear hR hb3 hC5 hc5
          go_wp2_with fail
          refine (HCP1.out w3 HB3.out).mono ?_
          rintro e_ w4 ⟨v1, rfl, hS, hb4⟩
          obtain ⟨inner, hrow, hlen, hbase, hm⟩ := inner_of_R rfl (Kd.S_R hS)
          obtain ⟨ys, hyl, hsrc, hz, hone⟩ := cells_src (d := KC) rfl c1 (Kd.C_below HC1.out HB3.out)
          have HROW := hid hrow
          have HSRC := hid (hsrc w4 hb4)
          rw [← HNM.out] at HSRC
          have HONE := hid hone
          have HLEN := hid hlen
          have HYL := hid hyl
          have HJ := hid (fun (v' : Value) (w5 : World) (hr : Row w5 31 v' (inner ++ ys)) (hk : Keep (fun k => v1.ownBlock = some k) w4 w5) => joined_C (d := KC) (v' := v') (w2 := w5) rfl hb4 hbase hm hz hr hk)
          have HB4 := hid (HB3.out.trans (hb4.mono HB3.out.size))
          clear hS hrow hlen hbase hm hyl hsrc hz hone hb4
          go_wp2_with (at_builtin; refine wp_app_rows _ rfl _ _ rfl _ _ inner ys (by rfl) (by rfl) HROW.out HSRC.out HONE.out (by have := HLEN.out; have := HYL.out; have := HD60.out; have := HM60.out; omega) ?_; intro v2 w5 hr hk hat; have HJ5 := hid (HJ.out v2 w5 hr hk); clear hr hk hat)
          obtain ⟨⟨A6, n6, c6, rfl, hc6, hn6, hC6⟩, hb5⟩ := HJ5.out
          have HB5 := hid (HB3.out.trans (hb5.mono HB3.out.size))
          have HB35 := hid hb5
          have HC6 := hid hC6
          have HN6 := hid hn6
          clear HJ5 HJ HROW HSRC HONE HLEN HYL hb5 hC6 hc6 hn6
          refine (HCG1.out w5 HB5.out).mono ?_
          rintro e_ w6 ⟨v3, rfl, hR6, hb6⟩
          obtain ⟨inn6, hrow, hlen, hbase, hm⟩ := inner_of_R rfl hR6
          obtain ⟨ys6, hyl, hsrc, hz, hone⟩ := cells_src (d := Kd.int .i64) rfl c3 (Kd.C_below HC3.out HB5.out)
          have HROW := hid hrow
          have HSRC := hid (hsrc w6 hb6)
          rw [← HNA.out] at HSRC
          have HONE := hid hone
          have HLEN := hid hlen
          have HYL := hid hyl
          have HJ := hid (fun (v' : Value) (w7 : World) (hr : Row w7 46 v' (inn6 ++ ys6)) (hk : Keep (fun k => v3.ownBlock = some k) w6 w7) => joined_C (d := Kd.int .i64) (v' := v') (w2 := w7) rfl hb6 hbase hm hz hr hk)
          clear hR6 hrow hlen hbase hm hyl hsrc hz hone hb6
          go_wp2_with (at_builtin; refine wp_app_src _ rfl _ _ rfl _ _ inn6 ys6 (by rfl) (by rfl) HROW.out HSRC.out HONE.out (by have := HLEN.out; have := HYL.out; have := HNG.out; have := HNA.out; omega) ?_; intro v7 w7 hr hk hat; have HJ7 := hid (HJ.out v7 w7 hr hk); clear hr hk hat)
          obtain ⟨⟨A7, n7, c7, rfl, hc7, hn7, hC7⟩, hb7⟩ := HJ7.out
          have HB7 := hid (HB5.out.trans (hb7.mono HB5.out.size))
          have HB37 := hid (HB35.out.trans (hb7.mono HB35.out.size))
          have HU3 := hid (HU2.out w7 A6 c6 A7 c7 n6 HN6.out n7 hn7 (Kd.C_below HC6.out hb7) hC7)
          clear HJ7 HJ HROW HSRC HONE HLEN HYL hb7 hC7 hc7 hn7 HU2
          refine HU3.out.mono ?_
          rintro e_ w8 ⟨v8, rfl, hR, hb8⟩
          obtain ⟨A8, c8, rfl, hc8, hC8⟩ := Kd.R_reads hR
          have HB8 := hid (HB7.out.trans (hb8.mono HB7.out.size))
          have HC8 := hid hC8
          have HCP8 := hid hc8
          have HB83 := hid (HB37.out.trans (hb8.mono HB37.out.size))
          clear hR hb8 hC8 hc8 HU3
          rcases HCASE.out with ⟨rfl, rfl | rfl⟩ | ⟨rfl, rfl | ⟨rfl, hc | ⟨rfl, rfl, hw⟩⟩⟩
          · clear HCASE
            go_wp2_with fail
            refine (HKN.out _).mono ?_
            rintro e wk ⟨rfl, hbk⟩
            have HBK := hid hbk
            clear hbk
            go_wp2_with fail
            go_ret
            exact ⟨rfl, HB8.out.trans (HBK.out.mono HB8.out.size)⟩
          · clear HCASE
            go_wp2_with fail
            refine (HKN.out _).mono ?_
            rintro e wk ⟨rfl, hbk⟩
            have HBK := hid hbk
            clear hbk
            go_wp2_with fail
            go_ret
            exact ⟨rfl, HB8.out.trans (HBK.out.mono HB8.out.size)⟩
          · clear HCASE
            go_wp2_with fail
            refine (HKN.out _).mono ?_
            rintro e wk ⟨rfl, hbk⟩
            have HBK := hid hbk
            clear hbk
            go_wp2_with fail
            go_ret
            exact ⟨rfl, HB8.out.trans (HBK.out.mono HB8.out.size)⟩
          · clear HCASE
            subst hc
            cases c
            · skip
              go_wp2_with fail
              refine (HKN.out _).mono ?_
              rintro e wk ⟨rfl, hbk⟩
              have HBK := hid hbk
              clear hbk
              go_wp2_with fail
              go_ret
              exact ⟨rfl, HB8.out.trans (HBK.out.mono HB8.out.size)⟩
            · skip
              go_wp2_with fail
              refine (HKN.out _).mono ?_
              rintro e wk ⟨rfl, hbk⟩
              have HBK := hid hbk
              clear hbk
              go_wp2_with fail
              go_ret
              exact ⟨rfl, HB8.out.trans (HBK.out.mono HB8.out.size)⟩
          · clear HCASE
            have HWI := hid (juristref14_Within.calls k A5 c5 f A8 c8 f2 true w8 (Kd.C_below HC5.out HB83.out) HCP5.out HC8.out HCP8.out hw)
            clear hw
            obtain ⟨nf, hnf⟩ : ∃ n, n = f.length := ⟨_, rfl⟩
            obtain ⟨nf2, hnf2⟩ : ∃ n, n = f2.length := ⟨_, rfl⟩
            rw [← hnf, ← hnf2] at HWI
            rw [← hnf, ← hnf2]
            clear hnf hnf2
            go_wp2_with fail
            refine HWI.out.mono ?_
            rintro e w9 ⟨rfl, hb9⟩
            have HB9 := hid (HB8.out.trans (hb9.below.mono HB8.out.size))
            clear hb9
            go_wp2_with fail
            refine (HKN.out _).mono ?_
            rintro e wk ⟨rfl, hbk⟩
            have HBK := hid hbk
            clear hbk
            go_wp2_with fail
            go_ret
            exact ⟨rfl, HB9.out.trans (HBK.out.mono HB9.out.size)⟩

open Classical in
noncomputable def juristlaw16_RupMore.f (k : Nat) (l0 l1 : List (List Int)) (l2 l3 : List Int) : Option Bool := if MoreOk k l0 l1 l2 l3 then some true else none
theorem juristlaw16_RupMore.calls (k : Nat) (A0 : Option Addr) (c0 : Nat) (l0 : List (List Int)) (A1 : Option Addr) (c1 : Nat) (l1 : List (List Int)) (A2 : Option Addr) (c2 : Nat) (l2 : List Int) (A3 : Option Addr) (c3 : Nat) (l3 : List Int) (r : Bool) (w : World) (hr0 : CC w A0 l0) (hc0 : l0.length ≤ c0) (hr1 : CC w A1 l1) (hc1 : l1.length ≤ c1) (hr2 : Kd.C (Kd.int .i64) w A2 l2.length l2) (hc2 : l2.length ≤ c2) (hr3 : Kd.C (Kd.int .i64) w A3 l3.length l3) (hc3 : l3.length ≤ c3) (h : juristlaw16_RupMore.f k l0 l1 l2 l3 = some r) :
    Calls Try.prog 8 #[.slice A0 l0.length c0, .slice A1 l1.length c1, .slice A2 l2.length c2, .slice A3 l3.length c3] w fun e w' => e = .returned (.bool r) ∧ Below w.heap.size w w' := by
  unfold juristlaw16_RupMore.f at h
  split at h
  · cases h
    exact more_walk k A0 c0 l0 A1 c1 l1 A2 c2 l2 A3 c3 l3 w hr0 hc0 hr1 hc1 hr2 hc2 hr3 hc3 (by assumption)
  · cases h
end Go.Proofs.Ytjlkjgoncfdaeaa.Hk
