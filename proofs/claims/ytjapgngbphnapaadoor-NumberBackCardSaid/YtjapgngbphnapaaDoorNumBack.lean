/-
  THE LAW NumberBack: Read of Text is the number, blanks around it count nothing: for any int64 and any two ints.
-/
import Derived.Test.YtjapgngbphnapaaDoorNumJ
import Derived.Test.YtjapgngbphnapaaDoorNumM
import Derived.Test.YtjapgngbphnapaaDoorNumK
import Derived.Deep.RegionHeld3
namespace Go.Proofs.YtjapgngbphnapaaDoor.Num
open Go.Proofs.YtjapgngbphnapaaDoor.NumP Go.Proofs.YtjapgngbphnapaaDoorW.PrintWords Go.RowKit Go.Proofs.YtjapgngbphnapaaDoorW.PrintMore

theorem check_calls (n : Int) (w : World) : Calls Tryd.prog 14 #[.int .i64 n] w fun e w' => e = .returned (.int .i64 (if safeB n then 0 else 100)) ∧ ∃ k, w' = w.drewN k := by
  cases h : safeB n with
  | true =>
    have HT : Hid (number_told.f n true = some (n, 0)) := Lib.hid (by rw [told_f]; simp [toldO, h])
    go_enter Tryd.func14, Tryd.ntmps14
    go_wp2_with (go_at_call 22; refine (number_told.calls _ _ _ _ _ HT.out).mono ?_; rintro e w1 ⟨rfl, ⟨n1, rfl⟩⟩)
    go_ret
    exact ⟨rfl, _, rfl⟩
  | false =>
    have HT : Hid (number_told.f n true = some (0, 100)) := Lib.hid (by rw [told_f]; simp [toldO, h])
    go_enter Tryd.func14, Tryd.ntmps14
    go_wp2_with (go_at_call 22; refine (number_told.calls _ _ _ _ _ HT.out).mono ?_; rintro e w1 ⟨rfl, ⟨n1, rfl⟩⟩)
    go_ret
    exact ⟨rfl, _, rfl⟩

theorem tmod5 (a : Int) : ∃ i : Nat, i < 5 ∧ (wrap64 (a.tmod 5 + 5)).tmod 5 = (i : Int) := by
  have h0 : -5 < a.tmod 5 := by have := Int.tmod_lt_of_pos a (show (0:Int) < 5 by omega); have := Int.lt_tmod_of_pos a (show (0:Int) < 5 by omega); omega
  have h1 : a.tmod 5 < 5 := Int.tmod_lt_of_pos a (by omega)
  rw [w64 (by omega) (by omega), Int.tmod_eq_emod_of_nonneg (by omega)]
  exact ⟨((a.tmod 5 + 5) % 5).toNat, by omega, by omega⟩

theorem cells5 (w : World) (i : Nat) (hi : i < 5) : (w.alloc (.cells #[.string ⟨#[]⟩, .string ⟨#[0, 32]⟩, .string ⟨#[0, 9]⟩, .string ⟨#[0, 160]⟩, .string ⟨#[254, 255, 0, 10]⟩] 31)).cell? ⟨w.heap.size, i, none⟩ = some (.string (blankAt i)) := by
  match i, hi with
  | 0, _ => simp [blankAt, blanks]
  | 1, _ => simp [blankAt, blanks]
  | 2, _ => simp [blankAt, blanks]
  | 3, _ => simp [blankAt, blanks]
  | 4, _ => simp [blankAt, blanks]

theorem blank_size (i : Nat) (hi : i < 5) : (blankAt i).size ≤ 4 := by
  match i, hi with
  | 0, _ => decide
  | 1, _ => decide
  | 2, _ => decide
  | 3, _ => decide
  | 4, _ => decide
theorem txt_size (n : Int) (h0 : -9223372036854775808 ≤ n) (h1 : n ≤ 9223372036854775807) : (txt n).size ≤ 42 := by
  have := Lib.itoa_length_le n h0 h1
  unfold txt
  rw [size_mk, unitsL_len]
  omega

set_option maxHeartbeats 1000000 in
theorem back_walk (n a b : Int) (h0 : -9223372036854775808 ≤ n) (h1 : n ≤ 9223372036854775807)
    (hread : ∀ i k : Nat, i < 5 → k < 5 → readU (around i n k) = if safeB n then (n, 0) else (0, 100)) (w : World) (hv : Vars w) :
    Calls Tryd.prog 5 #[.int .i64 n, .int .i64 a, .int .i64 b] w fun e w' => e = .returned (.bool true) ∧ Below w.heap.size w w' := by
  have L := Lib.hid (live_calls w hv)
  obtain ⟨i, hi, ei⟩ := tmod5 a
  obtain ⟨k, hk, ek⟩ := tmod5 b
  have EI := Lib.hid ei
  have EK := Lib.hid ek
  have HRD := Lib.hid (hread i k hi hk)
  clear ei ek hread
  go_enter Tryd.func5, Tryd.ntmps5
  go_wp2_with (first
      | (go_at_call 8; refine L.out.mono ?_; rintro e w1 ⟨rfl, hb1⟩; have B1 := Lib.hid hb1; clear hb1))
  rw [EI.out, EK.out]
  have hci := cells5 w1 i hi
  have hck := cells5 w1 k hk
  have B2 : Hid (Below w.heap.size w (w1.alloc (.cells #[.string ⟨#[]⟩, .string ⟨#[0, 32]⟩, .string ⟨#[0, 9]⟩, .string ⟨#[0, 160]⟩, .string ⟨#[254, 255, 0, 10]⟩] 31))) := Lib.hid (B1.out.alloc B1.out.size _)
  have hg : w1.heap.size < (w1.alloc (.cells #[.string ⟨#[]⟩, .string ⟨#[0, 32]⟩, .string ⟨#[0, 9]⟩, .string ⟨#[0, 160]⟩, .string ⟨#[254, 255, 0, 10]⟩] 31)).heap.size := by simp
  have HV2 := Lib.hid (hv.below B2.out)
  have HG := Lib.hid hg
  clear hg hv
  generalize w1.alloc (.cells #[.string ⟨#[]⟩, .string ⟨#[0, 32]⟩, .string ⟨#[0, 9]⟩, .string ⟨#[0, 160]⟩, .string ⟨#[254, 255, 0, 10]⟩] 31) = w2 at *
  generalize w1.heap.size = g at *
  have hi' : (i : Int) < 5 := by omega
  have hk' : (k : Int) < 5 := by omega
  have HT := Lib.hid (fun W hW => text_calls n h0 h1 W hW)
  have hn5 : (blankAt i).size ≤ 4 ∧ (blankAt k).size ≤ 4 ∧ (txt n).size ≤ 42 := ⟨blank_size i hi, blank_size k hk, txt_size n h0 h1⟩
  generalize hbi : blankAt i = bi at *
  generalize hbk : blankAt k = bk at *
  generalize htn : txt n = tn at *
  have hs1 : ¬ (9223372036854775807 < bi.size + tn.size) := by omega
  have hs2 : ¬ (9223372036854775807 < (bi ++ tn).size + bk.size) := by rw [ByteArray.size_append]; omega
  have hs3 : ¬ (9223372036854775807 < bi.size + tn.size + bk.size) := by omega
  have hrd : readU (bi ++ tn ++ bk) = if safeB n then (n, 0) else (0, 100) := by
    have := HRD.out
    unfold around at this
    rw [hbi, hbk, htn] at this
    exact this
  have hrA : ∀ W : World, Vars W → Calls Tryd.prog 6 #[.string (bi ++ tn ++ bk)] W fun e w' => e = .returned (.tuple #[.int .i64 (readU (bi ++ tn ++ bk)).1, .int .i64 (readU (bi ++ tn ++ bk)).2]) ∧ Below W.heap.size W w' := fun W hW => read_any _ (by
    rw [ByteArray.size_append, ByteArray.size_append]; omega) W hW
  rw [hrd] at hrA
  clear hrd HRD hbi hbk htn hn5
  cases hsf : safeB n with
  | true =>
    rw [hsf] at hrA
    have HR : Hid (∀ W : World, Vars W → Calls Tryd.prog 6 #[.string (bi ++ tn ++ bk)] W fun e w' => e = .returned (.tuple #[.int .i64 n, .int .i64 0]) ∧ Below W.heap.size W w') := Lib.hid hrA
    have HC : Hid (∀ W : World, Calls Tryd.prog 14 #[.int .i64 n] W fun e w' => e = .returned (.int .i64 0) ∧ ∃ k, w' = W.drewN k) := Lib.hid (fun W => by have := check_calls n W; rw [hsf] at this; exact this)
    clear hrA hsf
    go_region_held3 (fun w' => w'.cell? ⟨g, i, none⟩ = some (.string bi) ∧ w'.cell? ⟨g, k, none⟩ = some (.string bk)) (first | exact ⟨(hb4.cell (p := ⟨g, i, none⟩) (Nat.lt_of_lt_of_le HG.out hb3.size)).trans ((hb3.cell (p := ⟨g, i, none⟩) HG.out).trans hci), (hb4.cell (p := ⟨g, k, none⟩) (Nat.lt_of_lt_of_le HG.out hb3.size)).trans ((hb3.cell (p := ⟨g, k, none⟩) HG.out).trans hck)⟩ | exact ⟨(hb3.cell (p := ⟨g, i, none⟩) HG.out).trans hci, (hb3.cell (p := ⟨g, k, none⟩) HG.out).trans hck⟩ | go_keep)
      (first
        | (go_at_call 9; refine (HT.out _ (HV2.out.below (by first | exact Below.refl _ _ | exact ⟨rfl, rfl, rfl, Nat.le_refl _, fun _ _ => rfl⟩))).mono ?_; rintro e w3 ⟨rfl, hb3⟩)
        | (go_at_call 6; refine (HR.out _ (HV2.out.below (Below.trans (b := w2.drew) ⟨rfl, rfl, rfl, Nat.le_refl _, fun _ _ => rfl⟩ hb3))).mono ?_; rintro e w4 ⟨rfl, hb4⟩))
    have B4 := Lib.hid ((B2.out.trans (b := w2) (c := w2.drew) ⟨rfl, rfl, rfl, Nat.le_refl _, fun _ _ => rfl⟩).trans ((hb3.trans (hb4.mono hb3.size)).mono B2.out.size))
    clear hb3 hb4
    go_wp2_with (go_at_call 14; refine (HC.out _).mono ?_; rintro e w5 ⟨rfl, n5, rfl⟩)
    go_ret
    exact ⟨rfl, below_dr B4.out _⟩
  | false =>
    rw [hsf] at hrA
    have HR : Hid (∀ W : World, Vars W → Calls Tryd.prog 6 #[.string (bi ++ tn ++ bk)] W fun e w' => e = .returned (.tuple #[.int .i64 0, .int .i64 100]) ∧ Below W.heap.size W w') := Lib.hid hrA
    have HC : Hid (∀ W : World, Calls Tryd.prog 14 #[.int .i64 n] W fun e w' => e = .returned (.int .i64 100) ∧ ∃ k, w' = W.drewN k) := Lib.hid (fun W => by have := check_calls n W; rw [hsf] at this; exact this)
    clear hrA hsf
    go_region_held3 (fun w' => w'.cell? ⟨g, i, none⟩ = some (.string bi) ∧ w'.cell? ⟨g, k, none⟩ = some (.string bk)) (first | exact ⟨(hb4.cell (p := ⟨g, i, none⟩) (Nat.lt_of_lt_of_le HG.out hb3.size)).trans ((hb3.cell (p := ⟨g, i, none⟩) HG.out).trans hci), (hb4.cell (p := ⟨g, k, none⟩) (Nat.lt_of_lt_of_le HG.out hb3.size)).trans ((hb3.cell (p := ⟨g, k, none⟩) HG.out).trans hck)⟩ | exact ⟨(hb3.cell (p := ⟨g, i, none⟩) HG.out).trans hci, (hb3.cell (p := ⟨g, k, none⟩) HG.out).trans hck⟩ | go_keep)
      (first
        | (go_at_call 9; refine (HT.out _ (HV2.out.below (by first | exact Below.refl _ _ | exact ⟨rfl, rfl, rfl, Nat.le_refl _, fun _ _ => rfl⟩))).mono ?_; rintro e w3 ⟨rfl, hb3⟩)
        | (go_at_call 6; refine (HR.out _ (HV2.out.below (Below.trans (b := w2.drew) ⟨rfl, rfl, rfl, Nat.le_refl _, fun _ _ => rfl⟩ hb3))).mono ?_; rintro e w4 ⟨rfl, hb4⟩))
    have B4 := Lib.hid ((B2.out.trans (b := w2) (c := w2.drew) ⟨rfl, rfl, rfl, Nat.le_refl _, fun _ _ => rfl⟩).trans ((hb3.trans (hb4.mono hb3.size)).mono B2.out.size))
    clear hb3 hb4
    go_wp2_with (go_at_call 14; refine (HC.out _).mono ?_; rintro e w5 ⟨rfl, n5, rfl⟩)
    go_ret
    exact ⟨rfl, below_dr B4.out _⟩
end Go.Proofs.YtjapgngbphnapaaDoor.Num

namespace Go.Proofs.YtjapgngbphnapaaDoor.lawBack
open Go.ChangeShapes Go.WideShapes Go.ChangeAt Go.RowKit Go.Proofs.YtjapgngbphnapaaDoor.Num

/-- WHAT THE WALK GIVES, FOR EVERY ARGUMENT AND EVERY WORLD THAT HOLDS THE LISTED VARIABLES. -/
theorem contract (H : Type) (enc : TypeId × Value → H) (W : World) (base : Nat) (args : Array Value) (ds gs : List (DataW H)) (before : List MemPlace)
    (hval : ∀ (j : Nat) t v, Tryd.f5.params[j]? = some t → args[j]? = some v → Value.okWide Tryd.prog W .any base t v)
    (hW : DataW.Whole enc Tryd.prog Tryd.f5.params.toList Rows.numberBackSpec.vars false W args.toList ds gs before) (hL : laidMetH Tryd.prog laidAll W) :
    Calls Tryd.prog 5 args W fun e W' => ∃ v, e = .returned v ∧ Rows.numberBackSpec.post enc Tryd.prog Tryd.f5 false true false false W args v W' := by
  have hW' := hW
  obtain ⟨p, q, hA0, hV, rfl, hfz, hnd⟩ := hW
  have hA : DataW.TrodAll enc Tryd.prog W 0 (fun _ => true) true Tryd.f5.params.toList args.toList ds p := hA0
  rw [Tryd.params5] at hA hval
  obtain ⟨v0, vs0, d0, ds0, p0, q0, hargs, rfl, rfl, h0, r0⟩ := trodAll_cons hA
  obtain ⟨v1, vs1, d1, ds1, p1, q1, rfl, rfl, rfl, h1, r1⟩ := trodAll_cons r0
  obtain ⟨v2, vs2, d2, ds2, p2, q2, rfl, rfl, rfl, h2, r2⟩ := trodAll_cons r1
  obtain ⟨rfl, rfl, rfl⟩ := trodAll_nil r2
  obtain rfl : args = #[v0, v1, v2] := by cases args; simp_all
  obtain ⟨rfl, rfl⟩ := trodVars_none hV
  obtain ⟨a0, rfl, rfl, rfl, w0⟩ := open_int Tryd.underlying2 (hval 0 2 v0 rfl rfl) h0
  obtain ⟨a1, rfl, rfl, rfl, w1⟩ := open_int Tryd.underlying3 (hval 1 3 v1 rfl rfl) h1
  obtain ⟨a2, rfl, rfl, rfl, w2⟩ := open_int Tryd.underlying3 (hval 2 3 v2 rfl rfl) h2
  clear hA0
  simp only [List.append_nil] at hW'
  have b0 := bounds_i64 w0
  refine (back_walk a0 a1 a2 b0.1 b0.2 (read_around a0 b0.1 b0.2) W (vars_of hL)).mono fun e W' ⟨he, hb⟩ => ?_
  subst he
  refine ⟨_, rfl, _, _, _, [], [], [], hW', ?_, ?_, rfl, hb.frame _, fun h => by cases h⟩
  · exact trodAll_cons_mk (shut_bool Tryd.underlying4 _) trodAll_mk0
  · exact trodAll_cons_mk (shut_int Tryd.underlying2 w0) (trodAll_cons_mk (shut_int Tryd.underlying3 w1) (trodAll_cons_mk (shut_int Tryd.underlying3 w2) trodAll_mk0))

theorem reads (os : Os) {H : Type} (enc : TypeId × Value → H) : ∃ places, DataW.whole enc Tryd.prog ((World.doorLaid Tryd.prog 62 os).forCall (fun _ _ => 0) ⟨#[], #[.int .i64 0, .int .i64 0, .int .i64 0], []⟩).memory Tryd.f5.params.toList Rows.numberBackSpec.vars false #[Value.int .i64 0, .int .i64 0, .int .i64 0].toList 8 = some ([.lit (.int .i64 0), .lit (.int .i64 0), .lit (.int .i64 0)], [], places) :=
  ⟨[], by kernel_rfl⟩

set_option maxRecDepth 100000 in
theorem lifted (os : Os) (started : os.Started) (H : Type) (enc : TypeId × Value → H) (F : Stop.Interp) :
    ReturnsInHanded {} Tryd.checked os 5 .any ((OpenSpec.ofChange Rows.numberBackSpec).preRow enc Tryd.prog Tryd.f5 Rows.numberBackRow.domain false Rows.numberBackRow.laid) (((OpenSpec.ofChange Rows.numberBackSpec).at F).post enc Tryd.prog Tryd.f5 false true false false) := by
  obtain ⟨places, hx⟩ := reads os enc
  refine returnsInHanded_of_row (C := Tryd.checked) (s := OpenSpec.ofChange Rows.numberBackSpec) own started (by kernel_rfl) Tryd.func5
    (witness_row_atRef (enc := enc) (C := Tryd.checked) false (World.doorLaid Tryd.prog 62 os) #[.int .i64 0, .int .i64 0, .int .i64 0] rfl (by kernel_rfl) (by kernel_rfl) (by kernel_rfl)
      (OpenSpec.preRow_of_cond 8 hx (by kernel_rfl) (fun k hk => by cases hk) (by kernel_rfl) (door_met os _))) ?_
  intro W base args ds gs before hval hW _ _ _ hL _ _
  exact contract H enc W base args ds gs before hval hW hL

theorem said : Rows.NumberBackSaid :=
  OpenClaim.holds_of_cond 5 Tryd.f5 rfl rfl rfl rfl rfl rfl rfl ⟨rfl, rfl, rfl, rfl, rfl⟩ rfl rfl rfl rfl rfl (by kernel_rfl) Tryd.func5 (by kernel_rfl)
    (of_decide_eq_true (by kernel_rfl)) (by unfold Func.isWrapper; first | (rw [if_pos (by decide +kernel)]; kernel_rfl) | (rw [if_neg (by decide +kernel)]; exact ⟨rfl, rfl⟩))
    (fun os started H enc _ F => by rw [OpenClaim.pre_eq_preRow]; exact lifted os started H enc F)

theorem plain (f : FuncId) (fn : Func) (hf : Tryd.pinned.checked.prog.funcNamed "credenza/credenzalaw10.NumberBack" = some f) (hfn : Tryd.pinned.checked.prog.funcs[f]? = some fn) :
    true = Tryd.pinned.checked.prog.looks [] ∧ ∀ (j : Nat) t, fn.params[j]? = some t → Tryd.pinned.checked.prog.wantsStandIn t = false := by
  obtain rfl : f = 5 := Option.some.inj ((show Tryd.prog.funcNamed "credenza/credenzalaw10.NumberBack" = some 5 by kernel_rfl).symm.trans hf) |>.symm
  obtain rfl : fn = Tryd.f5 := (Option.some.inj (Tryd.func5.symm.trans hfn)).symm
  refine ⟨by kernel_rfl, fun j t ht => ?_⟩
  rw [Tryd.params5] at ht
  have hm : t ∈ [2, 3, 3] := by simpa using Array.mem_of_getElem? ht
  have hall : ([2, 3, 3].all fun u => !Tryd.prog.wantsStandIn u) = true := by kernel_rfl
  exact (show Tryd.prog.wantsStandIn t = false by simpa using List.all_eq_true.1 hall t hm)

/-- THE CARD: the law holds of any int64 and any two ints. -/
theorem card : Rows.NumberBackCardSaid :=
  Claim7.holds_tied_plain_at .later [] _ _ _ _ said (fun _ h => by cases h) (by kernel_rfl) (fun _ h => by cases h) numberBack_row_tie rfl ⟨rfl, rfl⟩ (by kernel_rfl) rfl plain (by kernel_rfl)
#print axioms card
end Go.Proofs.YtjapgngbphnapaaDoor.lawBack
