/-
  THE LAW NumberTexts: numbers' texts, and texts as numbers: number.Text and number.Read answer what the reference's Text and Read answer: for any int64 and any text, where what is read is of bulk at most 1048576 (the second form). The card is tied.
-/
import Derived.Test.YtjapgngbphnapaaDoorNumT
import Derived.Test.YtjapgngbphnapaaDoorNumK
namespace Go.Proofs.YtjapgngbphnapaaDoor.Num
open Go.Proofs.YtjapgngbphnapaaDoor.NumP Go.Proofs.YtjapgngbphnapaaDoorW.PrintWords Go.RowKit Go.Proofs.YtjapgngbphnapaaDoorW.PrintMore

set_option maxHeartbeats 400000 in
theorem rread_odd (u : ByteArray) (hc : credenzaref01_Check.f u = some false) (w : World) :
    Calls Tryd.prog 7 #[.string u] w fun e w' => e = .returned (.tuple #[.int .i64 0, .int .i64 100]) ∧ Below w.heap.size w w' := by
  have HC := Lib.hid hc
  clear hc
  go_enter Tryd.func7, Tryd.ntmps7
  go_wp2_with (go_at_call 23; refine (credenzaref01_Check.calls u _ _ HC.out).mono ?_; rintro e w1 ⟨rfl, ⟨n1, rfl⟩⟩)
  go_ret2
  exact ⟨rfl, below_mk0 _ _⟩

theorem rcheck_f (u : ByteArray) : credenzaref01_Check.f u = some (decide (u.size % 2 = 0)) := by
  unfold credenzaref01_Check.f
  congr 1
  rw [Bool.eq_iff_iff]
  simp
  omega

theorem rread_any (u : ByteArray) (hs : u.size ≤ 1099511627776) (w : World) :
    Calls Tryd.prog 7 #[.string u] w fun e w' => e = .returned (.tuple #[.int .i64 (readU u).1, .int .i64 (readU u).2]) ∧ Below w.heap.size w w' := by
  have hl : (pairs u.data.toList).length = u.size / 2 := pairs_len _
  by_cases h : u.size % 2 = 0
  · have e : readU u = readL (pairs u.data.toList) := by simp [readU, h]
    rw [e, ← refL_readL _ (pairs_range _)]
    exact rread_walk u (by rw [rcheck_f, decide_eq_true h]) (u.size + 1) (pairs u.data.toList) (list_f u hs h) (by omega) (pairs_range _) w
  · have e : readU u = (0, 100) := by simp [readU, h]
    rw [e]
    exact rread_odd u (by rw [rcheck_f, decide_eq_false h]) w

theorem same_f (a b : Int) : credenzalaw10_same.f a b a b = some true := by simp [credenzalaw10_same.f]

set_option maxHeartbeats 1000000 in
theorem texts_walk (n : Int) (u : ByteArray) (h0 : -9223372036854775808 ≤ n) (h1 : n ≤ 9223372036854775807) (hs : u.size ≤ 1099511627776) (w : World) (hv : Vars w) :
    Calls Tryd.prog 3 #[.int .i64 n, .string u] w fun e w' => e = .returned (.bool true) ∧ Below w.heap.size w w' := by
  obtain ⟨k, hk⟩ := rtext_ok n h0 h1
  have H6 := Lib.hid (read_any u hs w hv)
  have H7 := Lib.hid (fun W => rread_any u hs W)
  have HT := Lib.hid (fun W hW => text_calls n h0 h1 W hW)
  have HL := Lib.hid (fun W hW => live_calls W hW)
  have HK := Lib.hid hk
  have HV := Lib.hid hv
  clear hk hv
  generalize readU u = r at *
  generalize txt n = t at *
  have HS := Lib.hid (same_f r.1 r.2)
  go_enter Tryd.func3, Tryd.ntmps3
  go_wp2_with (first
    | (go_at_call 6; refine H6.out.mono ?_; rintro e w1 ⟨rfl, hb1⟩; have B1 := Lib.hid hb1; clear hb1)
    | (go_at_call 7; refine (H7.out _).mono ?_; rintro e w2 ⟨rfl, hb2⟩; have B2 := Lib.hid (B1.out.trans (hb2.mono B1.out.size)); clear hb2)
    | (go_at_call 8; refine (HL.out _ (HV.out.below B2.out)).mono ?_; rintro e w3 ⟨rfl, hb3⟩; have B3 := Lib.hid (B2.out.trans (hb3.mono B2.out.size)); clear hb3)
    | (go_at_call 9; refine (HT.out _ (HV.out.below B3.out)).mono ?_; rintro e w4 ⟨rfl, hb4⟩; have B4 := Lib.hid (B3.out.trans (hb4.mono B3.out.size)); clear hb4)
    | (go_at_call 10; refine (credenzaref10_Text.calls k n t _ HK.out).mono ?_; rintro e w5 ⟨rfl, hb5⟩; have B5 := Lib.hid (B4.out.trans (hb5.mono B4.out.size)); clear hb5)
    | (go_at_call 11; refine (credenzalaw10_same.calls _ _ _ _ _ _ HS.out).mono ?_; rintro e w6 ⟨rfl, ⟨n6, rfl⟩⟩))
  go_ret
  exact ⟨rfl, below_dr B5.out _⟩
end Go.Proofs.YtjapgngbphnapaaDoor.Num

namespace Go.Proofs.YtjapgngbphnapaaDoor.lawTexts
open Go.ChangeMaps (open_string shut_string)
open Go.ChangeShapes Go.WideShapes Go.ChangeAt Go.RowKit Go.Proofs.YtjapgngbphnapaaDoor.Num

/-- WHAT THE WALK GIVES, FOR EVERY ARGUMENT AND EVERY WORLD THAT HOLDS THE LISTED VARIABLES. -/
theorem contract (H : Type) (enc : TypeId × Value → H) (W : World) (base : Nat) (args : Array Value) (ds gs : List (DataW H)) (before : List MemPlace)
    (hval : ∀ (j : Nat) t v, Tryd.f3.params[j]? = some t → args[j]? = some v → Value.okWide Tryd.prog W .any base t v)
    (hW : DataW.Whole enc Tryd.prog Tryd.f3.params.toList Rows.numberTextsSpec.vars false W args.toList ds gs before) (hL : laidMetH Tryd.prog laidAll W) (hk : Rows.uptoSmall H (ds ++ gs) = true) :
    Calls Tryd.prog 3 args W fun e W' => ∃ v, e = .returned v ∧ Rows.numberTextsSpec.post enc Tryd.prog Tryd.f3 false true false false W args v W' := by
  have hW' := hW
  obtain ⟨p, q, hA0, hV, rfl, hfz, hnd⟩ := hW
  have hA : DataW.TrodAll enc Tryd.prog W 0 (fun _ => true) true Tryd.f3.params.toList args.toList ds p := hA0
  rw [Tryd.params3] at hA hval
  obtain ⟨v0, vs0, d0, ds0, p0, q0, hargs, rfl, rfl, h0, r0⟩ := trodAll_cons hA
  obtain ⟨v1, vs1, d1, ds1, p1, q1, rfl, rfl, rfl, h1, r1⟩ := trodAll_cons r0
  obtain ⟨rfl, rfl, rfl⟩ := trodAll_nil r1
  obtain rfl : args = #[v0, v1] := by cases args; simp_all
  obtain ⟨rfl, rfl⟩ := trodVars_none hV
  obtain ⟨a0, rfl, rfl, rfl, w0⟩ := open_int Tryd.underlying2 (hval 0 2 v0 rfl rfl) h0
  obtain ⟨u, rfl, rfl, rfl, w1⟩ := open_string Tryd.underlying9 (hval 1 9 v1 rfl rfl) h1
  clear hA0
  simp only [List.append_nil] at hW'
  have b0 := bounds_i64 w0
  have hb2 : u.size ≤ 1099511627776 := by
    have h := of_decide_eq_true hk
    simp only [List.append_nil, Rows.uptoBulkAll, Rows.uptoBulk] at h
    have e : u.size = u.data.toList.length := rfl
    omega
  refine (texts_walk a0 u b0.1 b0.2 hb2 W (vars_of hL)).mono fun e W' ⟨he, hb⟩ => ?_
  subst he
  refine ⟨_, rfl, _, _, _, [], [], [], hW', ?_, ?_, rfl, hb.frame _, fun h => by cases h⟩
  · exact trodAll_cons_mk (shut_bool Tryd.underlying4 _) trodAll_mk0
  · exact trodAll_cons_mk (shut_int Tryd.underlying2 w0) (trodAll_cons_mk (shut_string Tryd.underlying9 w1) trodAll_mk0)

theorem reads (os : Os) {H : Type} (enc : TypeId × Value → H) : ∃ places, DataW.whole enc Tryd.prog ((World.doorLaid Tryd.prog 62 os).forCall (fun _ _ => 0) ⟨#[], #[.int .i64 0, .string ⟨#[]⟩], []⟩).memory Tryd.f3.params.toList Rows.numberTextsSpec.vars false #[Value.int .i64 0, .string ⟨#[]⟩].toList 8 = some ([.lit (.int .i64 0), .lit (.string [])], [], places) :=
  ⟨[], by kernel_rfl⟩

set_option maxRecDepth 100000 in
theorem lifted (os : Os) (started : os.Started) (H : Type) (enc : TypeId × Value → H) (F : Stop.Interp) :
    ReturnsInHanded {} Tryd.checked os 3 .any ((Rows.OpenSpec.upto Rows.numberTextsSpec).preRow enc Tryd.prog Tryd.f3 Rows.numberTextsUptoRow.domain false Rows.numberTextsUptoRow.laid) (((Rows.OpenSpec.upto Rows.numberTextsSpec).at F).post enc Tryd.prog Tryd.f3 false true false false) := by
  obtain ⟨places, hx⟩ := reads os enc
  refine returnsInHanded_of_row (C := Tryd.checked) (s := Rows.OpenSpec.upto Rows.numberTextsSpec) own started (by kernel_rfl) Tryd.func3
    (witness_row_atRef (enc := enc) (C := Tryd.checked) false (World.doorLaid Tryd.prog 62 os) #[.int .i64 0, .string ⟨#[]⟩] rfl (by kernel_rfl) (by kernel_rfl) (by kernel_rfl)
      (OpenSpec.preRow_of_cond 8 hx (by kernel_rfl) (fun k hk => by cases hk; kernel_rfl) (by kernel_rfl) (door_met os _))) ?_
  intro W base args ds gs before hval hW _ hcond _ hL _ _
  exact contract H enc W base args ds gs before hval hW hL (hcond _ rfl)

theorem said : Rows.NumberTextsUptoSaid :=
  OpenClaim.holds_of_cond 3 Tryd.f3 rfl rfl rfl rfl rfl rfl rfl ⟨rfl, rfl, rfl, rfl, rfl⟩ rfl rfl rfl rfl rfl (by kernel_rfl) Tryd.func3 (by kernel_rfl)
    (of_decide_eq_true (by kernel_rfl)) (by unfold Func.isWrapper; first | (rw [if_pos (by decide +kernel)]; kernel_rfl) | (rw [if_neg (by decide +kernel)]; exact ⟨rfl, rfl⟩))
    (fun os started H enc _ F => by rw [OpenClaim.pre_eq_preRow]; exact lifted os started H enc F)

theorem plain (f : FuncId) (fn : Func) (hf : Tryd.pinned.checked.prog.funcNamed "credenza/credenzalaw10.NumberTexts" = some f) (hfn : Tryd.pinned.checked.prog.funcs[f]? = some fn) :
    true = Tryd.pinned.checked.prog.looks [] ∧ ∀ (j : Nat) t, fn.params[j]? = some t → Tryd.pinned.checked.prog.wantsStandIn t = false := by
  obtain rfl : f = 3 := Option.some.inj ((show Tryd.prog.funcNamed "credenza/credenzalaw10.NumberTexts" = some 3 by kernel_rfl).symm.trans hf) |>.symm
  obtain rfl : fn = Tryd.f3 := (Option.some.inj (Tryd.func3.symm.trans hfn)).symm
  refine ⟨by kernel_rfl, fun j t ht => ?_⟩
  rw [Tryd.params3] at ht
  have hm : t ∈ [2, 9] := by simpa using Array.mem_of_getElem? ht
  have hall : ([2, 9].all fun u => !Tryd.prog.wantsStandIn u) = true := by kernel_rfl
  exact (show Tryd.prog.wantsStandIn t = false by simpa using List.all_eq_true.1 hall t hm)

/-- THE CARD OF THE SECOND FORM: the law holds of any int64 and any text, where what is read is of bulk at most 1048576. -/
theorem card : Rows.NumberTextsUptoCardSaid :=
  Claim7.holds_tied_plain_at .later [] _ _ _ _ said (fun _ h => by cases h) (by kernel_rfl) (fun _ h => by cases h) numberTextsUpto_row_tie rfl ⟨rfl, rfl⟩ (by kernel_rfl) rfl plain (by kernel_rfl)
#print axioms card
end Go.Proofs.YtjapgngbphnapaaDoor.lawTexts
