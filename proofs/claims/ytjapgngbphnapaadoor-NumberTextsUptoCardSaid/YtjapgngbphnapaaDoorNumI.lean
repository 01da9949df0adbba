/-
  WALKS: number.Read at every text, and the laws' own examples ('live').
-/
import Derived.Test.YtjapgngbphnapaaDoorNumG
namespace Go.Proofs.YtjapgngbphnapaaDoor.Num
open Go.Proofs.YtjapgngbphnapaaDoor.NumP Go.Proofs.YtjapgngbphnapaaDoorW.PrintWords Go.RowKit Go.Proofs.YtjapgngbphnapaaDoorW.PrintLast Go.Proofs.YtjapgngbphnapaaDoorW.PrintMore

/-- What number.Read makes of a text. -/
def readU (u : ByteArray) : Int × Int := if u.size % 2 = 0 then readL (pairs u.data.toList) else (0, 100)

set_option maxHeartbeats 400000 in
theorem read_odd (u : ByteArray) (hc : units_Check.f u = some false) (w : World) :
    Calls Tryd.prog 6 #[.string u] w fun e w' => e = .returned (.tuple #[.int .i64 0, .int .i64 100]) ∧ Below w.heap.size w w' := by
  have HC := Lib.hid hc
  clear hc
  go_enter Tryd.func6, Tryd.ntmps6
  go_wp2_with (go_at_call 15; refine (units_Check.calls u _ _ HC.out).mono ?_; rintro e w1 ⟨rfl, ⟨n1, rfl⟩⟩)
  go_ret2
  exact ⟨rfl, below_mk0 _ _⟩

theorem read_any (u : ByteArray) (hs : u.size ≤ 1099511627776) (w : World) (hv : Vars w) :
    Calls Tryd.prog 6 #[.string u] w fun e w' => e = .returned (.tuple #[.int .i64 (readU u).1, .int .i64 (readU u).2]) ∧ Below w.heap.size w w' := by
  have hc := check_f u hs
  have hl : (pairs u.data.toList).length = u.size / 2 := pairs_len _
  by_cases h : u.size % 2 = 0
  · have e : readU u = readL (pairs u.data.toList) := by simp [readU, h]
    rw [e]
    exact read_walk u (by rw [hc, decide_eq_true h]) (pairs u.data.toList) (by rw [len_f u hs, hl]) (by omega) (fun j hj => at_f u hs j (by omega)) (pairs_range _) w hv
  · have e : readU u = (0, 100) := by simp [readU, h]
    rw [e]
    exact read_odd u (by rw [hc, decide_eq_false h]) w

theorem mul1 : number_Mul.f 1 134217728 67108864 = some (0, 100) := by decide +kernel
theorem div1 : number_Div.f 7 2 = some (0, 100) := by decide +kernel
theorem mod1 : number_Mod.f (-7) 2 = some (-1, 0) := by decide +kernel
theorem add1 : number_Add.f 2 3 = some (5, 0) := by decide +kernel
theorem u1 : credenzaref01_U.f 20 ⟨#[32, 45, 48, 49, 50, 32]⟩ = some ⟨(unitsL [32, 45, 48, 49, 50, 32]).toArray⟩ := rU_ok [32, 45, 48, 49, 50, 32] (by decide) (by decide) 20 (by decide)
theorem u2' : credenzaref01_U.f 20 ⟨#[45, 49, 50]⟩ = some (txt (-12)) := by
  have := rU_ok [45, 49, 50] (by decide) (by decide) 20 (by decide)
  rw [this]
  have e : Lib.itoa (-12) = [45, 49, 50] := by decide +kernel
  rw [txt, e]
theorem r1 : readU ⟨(unitsL [32, 45, 48, 49, 50, 32]).toArray⟩ = (-12, 0) := by decide +kernel

set_option maxHeartbeats 1000000 in
theorem live_calls (w : World) (hv : Vars w) : Calls Tryd.prog 8 #[] w fun e w' => e = .returned (.bool true) ∧ Below w.heap.size w w' := by
  obtain ⟨s, hs⟩ : ∃ s, s = txt (-12) := ⟨_, rfl⟩
  obtain ⟨t, ht⟩ : ∃ t : ByteArray, t = ⟨(unitsL [32, 45, 48, 49, 50, 32]).toArray⟩ := ⟨_, rfl⟩
  have H1 : Hid (credenzaref01_U.f 20 ⟨#[32, 45, 48, 49, 50, 32]⟩ = some t) := Lib.hid (by rw [ht]; exact u1)
  have H2 : Hid (credenzaref01_U.f 20 ⟨#[45, 49, 50]⟩ = some s) := Lib.hid (by rw [hs]; exact u2')
  have HT : Hid (∀ W : World, Vars W → Calls Tryd.prog 9 #[.int .i64 (-12)] W fun e w' => e = .returned (.string s) ∧ Below W.heap.size W w') := Lib.hid (fun W hW => by rw [hs]; exact text_calls _ (by omega) (by omega) W hW)
  have HR : Hid (∀ W : World, Vars W → Calls Tryd.prog 6 #[.string t] W fun e w' => e = .returned (.tuple #[.int .i64 (-12), .int .i64 0]) ∧ Below W.heap.size W w') := Lib.hid (fun W hW => by
    have := read_any t (by rw [ht]; decide) W hW
    rw [ht] at this
    rw [r1] at this
    rw [ht]
    exact this)
  clear hs ht
  have HB := Lib.hid (Below.refl w.heap.size w)
  have HV := Lib.hid hv
  clear hv
  go_enter Tryd.func8, Tryd.ntmps8
  go_wp2_with (first
    | (go_at_call 13; refine (number_Mul.calls 1 _ _ _ _ _ mul1).mono ?_; rintro e w1 ⟨rfl, hb1⟩; have HB1 := Lib.hid hb1; clear hb1)
    | (go_at_call 28; refine (number_Div.calls _ _ _ _ _ div1).mono ?_; rintro e w2 ⟨rfl, ⟨n1, rfl⟩⟩)
    | (go_at_call 29; refine (number_Mod.calls _ _ _ _ _ mod1).mono ?_; rintro e w2 ⟨rfl, ⟨n2, rfl⟩⟩; have HB2 := Lib.hid (below_dr HB1.out (n1 + n2)))
    | (go_at_call 30; (with_reducible refine (credenzaref01_U.calls 20 _ _ _ H1.out).mono ?_); rintro e w3 ⟨rfl, hb3⟩; have HB3 := Lib.hid (HB2.out.trans (hb3.mono HB2.out.size)); clear hb3)
    | (go_at_call 6; refine (HR.out _ (HV.out.below HB3.out)).mono ?_; rintro e w4 ⟨rfl, hb4⟩; have HB4 := Lib.hid (HB3.out.trans (hb4.mono HB3.out.size)); clear hb4)
    | (go_at_call 12; refine (number_Add.calls _ _ _ _ _ add1).mono ?_; rintro e w5 ⟨rfl, ⟨n5, rfl⟩⟩; have HB5 := Lib.hid (below_dr HB4.out n5))
    | (go_at_call 9; refine (HT.out _ (HV.out.below HB5.out)).mono ?_; rintro e w6 ⟨rfl, hb6⟩; have HB6 := Lib.hid (HB5.out.trans (hb6.mono HB5.out.size)); clear hb6)
    | (go_at_call 30; (with_reducible refine (credenzaref01_U.calls 20 _ _ _ H2.out).mono ?_); rintro e w7 ⟨rfl, hb7⟩; have HB7 := Lib.hid (HB6.out.trans (hb7.mono HB6.out.size)); clear hb7))
  go_ret
  exact ⟨rfl, HB7.out⟩
end Go.Proofs.YtjapgngbphnapaaDoor.Num
