/-
  THE LAW NumberSpreads: a product with a sum is the sum of both products, and what comes first does not matter, where nothing is out of range: for any three int64. The card is tied: the five listed variables of Go's library hold what the program's text lays.
-/
import Derived.Test.YtjapgngbphnapaaDoorNumJ
import Derived.Test.YtjapgngbphnapaaDoorNumK
namespace Go.Proofs.YtjapgngbphnapaaDoor.Num
open Go.Proofs.YtjapgngbphnapaaDoor.NumP Go.Proofs.YtjapgngbphnapaaDoorW.PrintWords Go.RowKit Go.Proofs.YtjapgngbphnapaaDoorW.PrintMore

theorem addC (a b : Int) (ha : -9223372036854775808 ≤ a ∧ a ≤ 9223372036854775807) (hb : -9223372036854775808 ≤ b ∧ b ≤ 9223372036854775807) (w : World) :
    Calls Tryd.prog 12 #[.int .i64 a, .int .i64 b] w fun e w' => e = .returned (.tuple #[.int .i64 (addF a b).1, .int .i64 (addF a b).2]) ∧ Below w.heap.size w w' :=
  (number_Add.calls a b _ _ w (add_f a b ha hb)).mono fun e w' ⟨h, hd⟩ => ⟨h, by obtain ⟨n, rfl⟩ := hd; exact below_mk0 w n⟩
theorem mulC (a b : Int) (w : World) :
    Calls Tryd.prog 13 #[.int .i64 a, .int .i64 b] w fun e w' => e = .returned (.tuple #[.int .i64 (mulF a b).1, .int .i64 (mulF a b).2]) ∧ Below w.heap.size w w' :=
  number_Mul.calls 1 a b _ _ w (mul_f a b)

theorem addF_bd (a b : Int) : -9223372036854775808 ≤ (addF a b).1 ∧ (addF a b).1 ≤ 9223372036854775807 := by
  unfold addF
  rcases told3_cases (safeB a && safeB b && safeB (a + b)) (a + b) with ⟨h, e⟩ | ⟨h, e⟩
  · rw [e]
    have := safe_iff.1 (Bool.and_eq_true_iff.1 h).2
    show _ ≤ a + b ∧ a + b ≤ _
    omega
  · rw [e]; show _ ≤ (0 : Int) ∧ (0 : Int) ≤ _; omega

set_option maxHeartbeats 4000000 in
set_option maxRecDepth 100000 in
theorem spreads_walk (a b c : Int) (hb : -9223372036854775808 ≤ b ∧ b ≤ 9223372036854775807) (hc : -9223372036854775808 ≤ c ∧ c ≤ 9223372036854775807) (w : World) (hv : Vars w) :
    Calls Tryd.prog 4 #[.int .i64 a, .int .i64 b, .int .i64 c] w fun e w' => e = .returned (.bool true) ∧ Below w.heap.size w w' := by
  have A1 : ∀ W : World, Calls Tryd.prog 12 #[.int .i64 b, .int .i64 c] W fun e w' => e = .returned (.tuple #[.int .i64 (addF b c).1, .int .i64 (addF b c).2]) ∧ Below W.heap.size W w' := fun W => addC b c hb hc W
  have A2 : ∀ W : World, Calls Tryd.prog 12 #[.int .i64 c, .int .i64 b] W fun e w' => e = .returned (.tuple #[.int .i64 (addF b c).1, .int .i64 (addF b c).2]) ∧ Below W.heap.size W w' := fun W => by rw [add_comm']; exact addC c b hc hb W
  have M1 : ∀ s (W : World), Calls Tryd.prog 13 #[.int .i64 a, .int .i64 s] W fun e w' => e = .returned (.tuple #[.int .i64 (mulF a s).1, .int .i64 (mulF a s).2]) ∧ Below W.heap.size W w' := fun s W => mulC a s W
  have M2 : ∀ s (W : World), Calls Tryd.prog 13 #[.int .i64 s, .int .i64 a] W fun e w' => e = .returned (.tuple #[.int .i64 (mulF a s).1, .int .i64 (mulF a s).2]) ∧ Below W.heap.size W w' := fun s W => by rw [mul_comm']; exact mulC s a W
  have L := Lib.hid (live_calls w hv)
  have HM2 := Lib.hid M2
  rcases told3_cases (safeB b && safeB c && safeB (b + c)) (b + c) with ⟨h, e⟩ | ⟨h, e⟩
  · have ea : addF b c = (b + c, 0) := e
    rw [ea] at A1 A2
    have hs := (Bool.and_eq_true_iff.1 h).2
    have HS := Lib.hid hs
    have hsb := safe_iff.1 hs
    clear h e ea hs
    have HBC : Hid (∀ x : Int, a * (b + x) = a * b + a * x) := Lib.hid (fun x => Int.mul_add a b x)
    have HDIST : Hid (a * (b + c) = a * b + a * c) := Lib.hid (Int.mul_add a b c)
    generalize hbc : b + c = s at *
    have H1 := Lib.hid A1
    have H2 := Lib.hid A2
    have M3 := M1 s
    have M4 := M2 s
    rcases told3_cases (safeB a && safeB s && safeB (a * s)) (a * s) with ⟨h, e⟩ | ⟨h, e⟩
    · have em : mulF a s = (a * s, 0) := e
      rw [em] at M3 M4
      have hxs := Lib.hid (Bool.and_eq_true_iff.1 h).2
      clear h e em
      have M5 := M1 b
      have M6 := M1 c
      rcases told3_cases (safeB a && safeB b && safeB (a * b)) (a * b) with ⟨h, e⟩ | ⟨h, e⟩
      · have em : mulF a b = (a * b, 0) := e
        rw [em] at M5
        have hp := (Bool.and_eq_true_iff.1 h).2
        have hpb := safe_iff.1 hp
        have HP := Lib.hid hp
        clear h e em hp
        rcases told3_cases (safeB a && safeB c && safeB (a * c)) (a * c) with ⟨h, e⟩ | ⟨h, e⟩
        · have em : mulF a c = (a * c, 0) := e
          rw [em] at M6
          have hq := (Bool.and_eq_true_iff.1 h).2
          have hqb := safe_iff.1 hq
          have A3 : ∀ W : World, Calls Tryd.prog 12 #[.int .i64 (a * b), .int .i64 (a * c)] W fun e w' => e = .returned (.tuple #[.int .i64 (a * s), .int .i64 0]) ∧ Below W.heap.size W w' := fun W => by
            have := addC (a * b) (a * c) (by omega) (by omega) W
            have e1 : addF (a * b) (a * c) = (a * s, 0) := by
              have hd := HDIST.out
              have hx := hxs.out
              unfold addF
              rw [HP.out, hq, ← hd, hx]
              rfl
            rw [e1] at this
            exact this
          clear h e em hq hqb hpb hsb HDIST HBC hxs HS HP hbc hb hc A1 A2 M1 M2 HM2 hv
          have H3 := Lib.hid M3
          have H4 := Lib.hid M4
          have H5 := Lib.hid M5
          have H6 := Lib.hid M6
          have H7 := Lib.hid A3
          clear M3 M4 M5 M6 A3
          generalize a * s = x at *
          generalize a * b = p at *
          generalize a * c = q at *
          go_enter Tryd.func4, Tryd.ntmps4
          go_wp2_with (first
            | (go_at_call 8; refine L.out.mono ?_; rintro e w1 ⟨rfl, hb1⟩; have B1 := Lib.hid hb1; clear hb1)
            | (go_at_call 12; (with_reducible refine (H1.out _).mono ?_); rintro e w2 ⟨rfl, hb2⟩; have B2 := Lib.hid (B1.out.trans (hb2.mono B1.out.size)); clear hb2)
            | (go_at_call 12; (with_reducible refine (H2.out _).mono ?_); rintro e w3 ⟨rfl, hb3⟩; have B3 := Lib.hid (B2.out.trans (hb3.mono B2.out.size)); clear hb3)
            | (go_at_call 13; (with_reducible refine (H3.out _).mono ?_); rintro e w4 ⟨rfl, hb4⟩; have B4 := Lib.hid (B3.out.trans (hb4.mono B3.out.size)); clear hb4)
            | (go_at_call 13; (with_reducible refine (H4.out _).mono ?_); rintro e w5 ⟨rfl, hb5⟩; have B5 := Lib.hid (B4.out.trans (hb5.mono B4.out.size)); clear hb5)
            | (go_at_call 13; (with_reducible refine (H5.out _).mono ?_); rintro e w6 ⟨rfl, hb6⟩; have B6 := Lib.hid (B5.out.trans (hb6.mono B5.out.size)); clear hb6)
            | (go_at_call 13; (with_reducible refine (H6.out _).mono ?_); rintro e w7 ⟨rfl, hb7⟩; have B7 := Lib.hid (B6.out.trans (hb7.mono B6.out.size)); clear hb7)
            | (go_at_call 12; (with_reducible refine (H7.out _).mono ?_); rintro e w8 ⟨rfl, hb8⟩; have B8 := Lib.hid (B7.out.trans (hb8.mono B7.out.size)); clear hb8))
          go_ret
          exact ⟨rfl, B8.out⟩
        · have em : mulF a c = (0, 100) := e
          rw [em] at M6
          clear h e em hpb hsb HDIST HBC hxs HS HP hbc hb hc A1 A2 M1 M2 HM2 hv
          have H3 := Lib.hid M3
          have H4 := Lib.hid M4
          have H5 := Lib.hid M5
          have H6 := Lib.hid M6
          clear M3 M4 M5 M6
          generalize a * s = x at *
          generalize a * b = p at *
          go_enter Tryd.func4, Tryd.ntmps4
          go_wp2_with (first
            | (go_at_call 8; refine L.out.mono ?_; rintro e w1 ⟨rfl, hb1⟩; have B1 := Lib.hid hb1; clear hb1)
            | (go_at_call 12; (with_reducible refine (H1.out _).mono ?_); rintro e w2 ⟨rfl, hb2⟩; have B2 := Lib.hid (B1.out.trans (hb2.mono B1.out.size)); clear hb2)
            | (go_at_call 12; (with_reducible refine (H2.out _).mono ?_); rintro e w3 ⟨rfl, hb3⟩; have B3 := Lib.hid (B2.out.trans (hb3.mono B2.out.size)); clear hb3)
            | (go_at_call 13; (with_reducible refine (H3.out _).mono ?_); rintro e w4 ⟨rfl, hb4⟩; have B4 := Lib.hid (B3.out.trans (hb4.mono B3.out.size)); clear hb4)
            | (go_at_call 13; (with_reducible refine (H4.out _).mono ?_); rintro e w5 ⟨rfl, hb5⟩; have B5 := Lib.hid (B4.out.trans (hb5.mono B4.out.size)); clear hb5)
            | (go_at_call 13; (with_reducible refine (H5.out _).mono ?_); rintro e w6 ⟨rfl, hb6⟩; have B6 := Lib.hid (B5.out.trans (hb6.mono B5.out.size)); clear hb6)
            | (go_at_call 13; (with_reducible refine (H6.out _).mono ?_); rintro e w7 ⟨rfl, hb7⟩; have B7 := Lib.hid (B6.out.trans (hb7.mono B6.out.size)); clear hb7))
          go_ret
          exact ⟨rfl, B7.out⟩
      · have em : mulF a b = (0, 100) := e
        rw [em] at M5
        clear h e em hsb HDIST HBC hxs HS hbc hb hc A1 A2 M1 M2 HM2 hv
        have H3 := Lib.hid M3
        have H4 := Lib.hid M4
        have H5 := Lib.hid M5
        have H6 := Lib.hid M6
        clear M3 M4 M5 M6
        generalize a * s = x at *
        generalize mulF a c = r at *
        go_enter Tryd.func4, Tryd.ntmps4
        go_wp2_with (first
          | (go_at_call 8; refine L.out.mono ?_; rintro e w1 ⟨rfl, hb1⟩; have B1 := Lib.hid hb1; clear hb1)
          | (go_at_call 12; (with_reducible refine (H1.out _).mono ?_); rintro e w2 ⟨rfl, hb2⟩; have B2 := Lib.hid (B1.out.trans (hb2.mono B1.out.size)); clear hb2)
          | (go_at_call 12; (with_reducible refine (H2.out _).mono ?_); rintro e w3 ⟨rfl, hb3⟩; have B3 := Lib.hid (B2.out.trans (hb3.mono B2.out.size)); clear hb3)
          | (go_at_call 13; (with_reducible refine (H3.out _).mono ?_); rintro e w4 ⟨rfl, hb4⟩; have B4 := Lib.hid (B3.out.trans (hb4.mono B3.out.size)); clear hb4)
          | (go_at_call 13; (with_reducible refine (H4.out _).mono ?_); rintro e w5 ⟨rfl, hb5⟩; have B5 := Lib.hid (B4.out.trans (hb5.mono B4.out.size)); clear hb5)
          | (go_at_call 13; (with_reducible refine (H5.out _).mono ?_); rintro e w6 ⟨rfl, hb6⟩; have B6 := Lib.hid (B5.out.trans (hb6.mono B5.out.size)); clear hb6)
          | (go_at_call 13; (with_reducible refine (H6.out _).mono ?_); rintro e w7 ⟨rfl, hb7⟩; have B7 := Lib.hid (B6.out.trans (hb7.mono B6.out.size)); clear hb7))
        go_ret
        exact ⟨rfl, B7.out⟩
    · have em : mulF a s = (0, 100) := e
      rw [em] at M3 M4
      clear h e em hsb HDIST HBC HS hbc hb hc A1 A2 M1 M2 HM2 hv
      have H3 := Lib.hid M3
      have H4 := Lib.hid M4
      clear M3 M4
      go_enter Tryd.func4, Tryd.ntmps4
      go_wp2_with (first
        | (go_at_call 8; refine L.out.mono ?_; rintro e w1 ⟨rfl, hb1⟩; have B1 := Lib.hid hb1; clear hb1)
        | (go_at_call 12; (with_reducible refine (H1.out _).mono ?_); rintro e w2 ⟨rfl, hb2⟩; have B2 := Lib.hid (B1.out.trans (hb2.mono B1.out.size)); clear hb2)
        | (go_at_call 12; (with_reducible refine (H2.out _).mono ?_); rintro e w3 ⟨rfl, hb3⟩; have B3 := Lib.hid (B2.out.trans (hb3.mono B2.out.size)); clear hb3)
        | (go_at_call 13; (with_reducible refine (H3.out _).mono ?_); rintro e w4 ⟨rfl, hb4⟩; have B4 := Lib.hid (B3.out.trans (hb4.mono B3.out.size)); clear hb4)
        | (go_at_call 13; (with_reducible refine (H4.out _).mono ?_); rintro e w5 ⟨rfl, hb5⟩; have B5 := Lib.hid (B4.out.trans (hb5.mono B4.out.size)); clear hb5))
      go_ret
      exact ⟨rfl, B5.out⟩
  · have ea : addF b c = (0, 100) := e
    rw [ea] at A1 A2
    have H1 := Lib.hid A1
    have H2 := Lib.hid A2
    have H3 := Lib.hid (M1 0)
    have H4 := Lib.hid (M2 0)
    clear A1 A2 M1 M2 h e ea hb hc hv
    generalize mulF a 0 = r at H3 H4
    go_enter Tryd.func4, Tryd.ntmps4
    go_wp2_with (first
      | (go_at_call 8; refine L.out.mono ?_; rintro e w1 ⟨rfl, hb1⟩; have B1 := Lib.hid hb1; clear hb1)
      | (go_at_call 12; (with_reducible refine (H1.out _).mono ?_); rintro e w2 ⟨rfl, hb2⟩; have B2 := Lib.hid (B1.out.trans (hb2.mono B1.out.size)); clear hb2)
      | (go_at_call 12; (with_reducible refine (H2.out _).mono ?_); rintro e w3 ⟨rfl, hb3⟩; have B3 := Lib.hid (B2.out.trans (hb3.mono B2.out.size)); clear hb3)
      | (go_at_call 13; (with_reducible refine (H3.out _).mono ?_); rintro e w4 ⟨rfl, hb4⟩; have B4 := Lib.hid (B3.out.trans (hb4.mono B3.out.size)); clear hb4)
      | (go_at_call 13; (with_reducible refine (H4.out _).mono ?_); rintro e w5 ⟨rfl, hb5⟩; have B5 := Lib.hid (B4.out.trans (hb5.mono B4.out.size)); clear hb5))
    go_ret
    exact ⟨rfl, B5.out⟩
end Go.Proofs.YtjapgngbphnapaaDoor.Num

namespace Go.Proofs.YtjapgngbphnapaaDoor.lawSpreads
open Go.ChangeShapes Go.WideShapes Go.ChangeAt Go.RowKit Go.Proofs.YtjapgngbphnapaaDoor.Num

/-- WHAT THE WALK GIVES, FOR EVERY ARGUMENT AND EVERY WORLD THAT HOLDS THE LISTED VARIABLES. -/
theorem contract (H : Type) (enc : TypeId × Value → H) (W : World) (base : Nat) (args : Array Value) (ds gs : List (DataW H)) (before : List MemPlace)
    (hval : ∀ (j : Nat) t v, Tryd.f4.params[j]? = some t → args[j]? = some v → Value.okWide Tryd.prog W .any base t v)
    (hW : DataW.Whole enc Tryd.prog Tryd.f4.params.toList Rows.numberSpreadsSpec.vars false W args.toList ds gs before) (hL : laidMetH Tryd.prog laidAll W) :
    Calls Tryd.prog 4 args W fun e W' => ∃ v, e = .returned v ∧ Rows.numberSpreadsSpec.post enc Tryd.prog Tryd.f4 false true false false W args v W' := by
  have hW' := hW
  obtain ⟨p, q, hA0, hV, rfl, hfz, hnd⟩ := hW
  have hA : DataW.TrodAll enc Tryd.prog W 0 (fun _ => true) true Tryd.f4.params.toList args.toList ds p := hA0
  rw [Tryd.params4] at hA hval
  obtain ⟨v0, vs0, d0, ds0, p0, q0, hargs, rfl, rfl, h0, r0⟩ := trodAll_cons hA
  obtain ⟨v1, vs1, d1, ds1, p1, q1, rfl, rfl, rfl, h1, r1⟩ := trodAll_cons r0
  obtain ⟨v2, vs2, d2, ds2, p2, q2, rfl, rfl, rfl, h2, r2⟩ := trodAll_cons r1
  obtain ⟨rfl, rfl, rfl⟩ := trodAll_nil r2
  obtain rfl : args = #[v0, v1, v2] := by cases args; simp_all
  obtain ⟨rfl, rfl⟩ := trodVars_none hV
  obtain ⟨a0, rfl, rfl, rfl, w0⟩ := open_int Tryd.underlying2 (hval 0 2 v0 rfl rfl) h0
  obtain ⟨a1, rfl, rfl, rfl, w1⟩ := open_int Tryd.underlying2 (hval 1 2 v1 rfl rfl) h1
  obtain ⟨a2, rfl, rfl, rfl, w2⟩ := open_int Tryd.underlying2 (hval 2 2 v2 rfl rfl) h2
  clear hA0
  simp only [List.append_nil] at hW'
  have b1 := bounds_i64 w1
  have b2 := bounds_i64 w2
  refine (spreads_walk a0 a1 a2 (by omega) (by omega) W (vars_of hL)).mono fun e W' ⟨he, hb⟩ => ?_
  subst he
  refine ⟨_, rfl, _, _, _, [], [], [], hW', ?_, ?_, rfl, hb.frame _, fun h => by cases h⟩
  · exact trodAll_cons_mk (shut_bool Tryd.underlying4 _) trodAll_mk0
  · exact trodAll_cons_mk (shut_int Tryd.underlying2 w0) (trodAll_cons_mk (shut_int Tryd.underlying2 w1) (trodAll_cons_mk (shut_int Tryd.underlying2 w2) trodAll_mk0))

theorem reads (os : Os) {H : Type} (enc : TypeId × Value → H) : ∃ places, DataW.whole enc Tryd.prog ((World.doorLaid Tryd.prog 62 os).forCall (fun _ _ => 0) ⟨#[], #[.int .i64 0, .int .i64 0, .int .i64 0], []⟩).memory Tryd.f4.params.toList Rows.numberSpreadsSpec.vars false #[Value.int .i64 0, .int .i64 0, .int .i64 0].toList 8 = some ([.lit (.int .i64 0), .lit (.int .i64 0), .lit (.int .i64 0)], [], places) :=
  ⟨[], by kernel_rfl⟩

set_option maxRecDepth 100000 in
theorem lifted (os : Os) (started : os.Started) (H : Type) (enc : TypeId × Value → H) (F : Stop.Interp) :
    ReturnsInHanded {} Tryd.checked os 4 .any ((OpenSpec.ofChange Rows.numberSpreadsSpec).preRow enc Tryd.prog Tryd.f4 Rows.numberSpreadsRow.domain false Rows.numberSpreadsRow.laid) (((OpenSpec.ofChange Rows.numberSpreadsSpec).at F).post enc Tryd.prog Tryd.f4 false true false false) := by
  obtain ⟨places, hx⟩ := reads os enc
  refine returnsInHanded_of_row (C := Tryd.checked) (s := OpenSpec.ofChange Rows.numberSpreadsSpec) own started (by kernel_rfl) Tryd.func4
    (witness_row_atRef (enc := enc) (C := Tryd.checked) false (World.doorLaid Tryd.prog 62 os) #[.int .i64 0, .int .i64 0, .int .i64 0] rfl (by kernel_rfl) (by kernel_rfl) (by kernel_rfl)
      (OpenSpec.preRow_of_cond 8 hx (by kernel_rfl) (fun k hk => by cases hk) (by kernel_rfl) (door_met os _))) ?_
  intro W base args ds gs before hval hW _ _ _ hL _ _
  exact contract H enc W base args ds gs before hval hW hL

theorem said : Rows.NumberSpreadsSaid :=
  OpenClaim.holds_of_cond 4 Tryd.f4 rfl rfl rfl rfl rfl rfl rfl ⟨rfl, rfl, rfl, rfl, rfl⟩ rfl rfl rfl rfl rfl (by kernel_rfl) Tryd.func4 (by kernel_rfl)
    (of_decide_eq_true (by kernel_rfl)) (by unfold Func.isWrapper; first | (rw [if_pos (by decide +kernel)]; kernel_rfl) | (rw [if_neg (by decide +kernel)]; exact ⟨rfl, rfl⟩))
    (fun os started H enc _ F => by rw [OpenClaim.pre_eq_preRow]; exact lifted os started H enc F)

theorem plain (f : FuncId) (fn : Func) (hf : Tryd.pinned.checked.prog.funcNamed "credenza/credenzalaw10.NumberSpreads" = some f) (hfn : Tryd.pinned.checked.prog.funcs[f]? = some fn) :
    true = Tryd.pinned.checked.prog.looks [] ∧ ∀ (j : Nat) t, fn.params[j]? = some t → Tryd.pinned.checked.prog.wantsStandIn t = false := by
  obtain rfl : f = 4 := Option.some.inj ((show Tryd.prog.funcNamed "credenza/credenzalaw10.NumberSpreads" = some 4 by kernel_rfl).symm.trans hf) |>.symm
  obtain rfl : fn = Tryd.f4 := (Option.some.inj (Tryd.func4.symm.trans hfn)).symm
  refine ⟨by kernel_rfl, fun j t ht => ?_⟩
  rw [Tryd.params4] at ht
  have hm : t ∈ [2, 2, 2] := by simpa using Array.mem_of_getElem? ht
  have hall : ([2, 2, 2].all fun u => !Tryd.prog.wantsStandIn u) = true := by kernel_rfl
  exact (show Tryd.prog.wantsStandIn t = false by simpa using List.all_eq_true.1 hall t hm)

/-- THE CARD: the law holds of any three int64. -/
theorem card : Rows.NumberSpreadsCardSaid :=
  Claim7.holds_tied_plain_at .later [] _ _ _ _ said (fun _ h => by cases h) (by kernel_rfl) (fun _ h => by cases h) numberSpreads_row_tie rfl ⟨rfl, rfl⟩ (by kernel_rfl) rfl plain (by kernel_rfl)
#print axioms card
end Go.Proofs.YtjapgngbphnapaaDoor.lawSpreads
