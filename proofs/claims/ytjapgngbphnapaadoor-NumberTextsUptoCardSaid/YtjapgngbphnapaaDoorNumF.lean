/-
  WALKS: the closure of number.Read, and slices.IndexFunc at it.
-/
import Derived.Test.YtjapgngbphnapaaDoorNumE
namespace Go.Proofs.YtjapgngbphnapaaDoor.Num
open Go.Proofs.YtjapgngbphnapaaDoor.NumP Go.Proofs.YtjapgngbphnapaaDoorW.PrintWords Go.RowKit Go.Proofs.YtjapgngbphnapaaDoorW.PrintLast Go.Proofs.YtjapgngbphnapaaDoorW.PrintMore

theorem solid_calls (x : Int) (w : World) : Calls Tryd.prog 18 #[.int .i64 x] w fun e w' => e = .returned (.bool (!blankB x)) ∧ ∃ n, w' = w.drewN n := by
  have h := Lib.hid (blank_f x)
  go_enter Tryd.func18, Tryd.ntmps18
  go_wp2_with (go_at_call 19; refine (number_blank.calls x _ _ h.out).mono ?_; rintro e w1 ⟨rfl, ⟨n, rfl⟩⟩)
  go_ret
  exact ⟨rfl, _, rfl⟩

/-- The cells of a row of numbers. -/
def CellsAt (w : World) (g off : Nat) (xs : List Int) : Prop := ∀ j, j < xs.length → w.cell? ⟨g, off + j, none⟩ = some (.int .i64 (xs.getD j 0))

/-- The place of the first unit that is no white space, from place i on. -/
def firstFrom (i : Nat) : List Int → Int
  | [] => -1
  | x :: r => if blankB x then firstFrom (i + 1) r else (i : Int)

set_option maxHeartbeats 400000 in
theorem index_calls (g c : Nat) (xs : List Int) (hn : xs.length ≤ 1099511627776) (w : World) (hc : CellsAt w g 0 xs) :
    Calls Tryd.prog 20 #[.slice (some ⟨g, 0, none⟩) xs.length c, .func (.func 18) #[] #[]] w fun e w' => e = .returned (.int .i64 (firstFrom 0 xs)) ∧ ∃ n, w' = w.drewN n := by
  have HC := Lib.hid hc
  clear hc
  go_enter Tryd.func20, Tryd.ntmps20
  go_wp2
  go_loopw [5, 8] (fun _ v8 wr => ∃ j q : Nat, j ≤ xs.length ∧ v8 = .int .i64 j ∧ wr = w.drewN q ∧ Hid (firstFrom 0 xs = firstFrom j (xs.drop j))) (fun _ v8 _ => xs.length - (intOf v8).toNat)
  case atStart => exact ⟨0, 0, Nat.zero_le _, rfl, rfl, Lib.hid rfl⟩
  case round =>
    obtain ⟨j, q, hj, rfl, rfl, HF⟩ := hrel
    by_cases hlt : j < xs.length
    · have hcell := HC.out j hlt
      rw [Nat.zero_add] at hcell
      have hd : xs.drop j = xs.getD j 0 :: xs.drop (j + 1) := by
        rw [List.drop_eq_getElem_cons hlt]; simp [List.getD, hlt]
      have HD := Lib.hid hd
      clear hd
      generalize xs.getD j 0 = x at hcell HD
      cases hb : blankB x with
      | true =>
        have HB := Lib.hid hb
        clear hb
        go_wp2_with (go_at_call 18; refine (solid_calls x _).mono ?_; rintro e w1 ⟨rfl, n, rfl⟩; rw [HB.out])
        go_roundw
        case rel =>
          refine ⟨j + 1, _, by omega, by go_num, rfl, Lib.hid ?_⟩
          rw [HF.out, HD.out]
          simp [firstFrom, HB.out]
        case measure => simp [intOf]; omega
      | false =>
        have HB := Lib.hid hb
        clear hb
        go_wp2_with (go_at_call 18; refine (solid_calls x _).mono ?_; rintro e w1 ⟨rfl, n, rfl⟩; rw [HB.out])
        go_ret
        refine ⟨?_, _, rfl⟩
        rw [HF.out, HD.out]
        simp [firstFrom, HB.out]
    · have e : xs.drop j = [] := List.drop_eq_nil_of_le (by omega)
      have HE := Lib.hid e
      clear e
      go_wp2
      go_ret
      refine ⟨?_, _, rfl⟩
      rw [HF.out, HE.out]
      rfl
end Go.Proofs.YtjapgngbphnapaaDoor.Num
