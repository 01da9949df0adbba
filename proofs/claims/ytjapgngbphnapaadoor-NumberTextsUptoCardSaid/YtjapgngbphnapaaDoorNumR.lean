/-
  WALKS: the reference's told and Read (layer 10).
-/
import Derived.Test.YtjapgngbphnapaaDoorNumJ
import Derived.Test.YtjapgngbphnapaaDoorNumM
namespace Go.Proofs.YtjapgngbphnapaaDoor.Num
open Go.Proofs.YtjapgngbphnapaaDoor.NumP Go.Proofs.YtjapgngbphnapaaDoorW.PrintWords Go.RowKit Go.Proofs.YtjapgngbphnapaaDoorW.PrintLast Go.Proofs.YtjapgngbphnapaaDoorW.PrintMore

theorem rsafe_f (n : Int) : credenzaref10_safe.f n = some (safeB n) := by
  unfold credenzaref10_safe.f safeB
  by_cases h : -9007199254740991 ≤ n
  · rw [if_pos h]; simp [h]
  · rw [if_neg h]; simp [h]

/-- A slice of as many cells as a list, each at its place; nothing is asked at the empty one. -/
def Lies (w : World) (A : Option Addr) (xs : List Int) : Prop := xs = [] ∨ ∃ g off, A = some ⟨g, off, none⟩ ∧ CellsAt w g off xs

set_option maxHeartbeats 1000000 in
theorem rtold_calls (n : Int) (w : World) : Calls Tryd.prog 27 #[.int .i64 n, .slice none 0 0] w fun e w' => e = .returned (.tuple #[.int .i64 (toldO (some n)).1, .int .i64 (toldO (some n)).2]) ∧ Below w.heap.size w w' := by
  have HB := Aside0.mk (Below.refl w.heap.size w)
  have HO : Aside0 (Kd.R (Kd.int .i64) 2 w w.heap.size (fun _ => True) (.slice none 0 0) []) := ⟨Kd.R_nil _ _ _ _ _⟩
  have hs := Lib.hid (rsafe_f n)
  go_enter Tryd.func27, Tryd.ntmps27
  go_wp2_with ((with_reducible refine gate_builtin (b := .append) (xs := #[.tmp 8, .tmp 10]) rfl ?_); at_builtin; refine Kd.R_append (Kd.int .i64) (w0 := w) w.heap.size rfl (.tmp 8) (.tmp 10) 60 2 (.int .i64 0) 8 rfl Tryd.underlying60 info2 rfl (by decide) (by omega) _ [] n [.int .i64 n] (fun _ => True) (fun _ => False) rfl rfl ?aP (fun _ hk => hk.elim) ?aF ?aO ?aB ?aS ?aL ?_; (case aP => exact rfl); (case aB => exact (by repeat (first | (with_reducible first | exact HB.out | apply below_alloc | apply pw_below_drewN | apply below_drew1) | exact HB.out))); (case aF => exact (fun _ _ => trivial)); (case aO => exact (by (with_reducible repeat (first | apply Kd.R_alloc | apply Kd.R_drewN | apply Kd.R_drew)); exact HO.out)); (case aS => exact (below_size (by repeat (first | (with_reducible first | exact HB.out | apply below_alloc | apply pw_below_drewN | apply below_drew1) | exact HB.out)))); (case aL => simp); intro v213 w8 ho hb hg hat; have HB2 := Lib.hid hb; have HO2 := Lib.hid ho; clear ho hb hg hat; refine Hid.out ?_)
  obtain ⟨g, c, hv, _, _, _⟩ := Kd.R_form HO2.out (by simp)
  have hl1 : (([] : List Int) ++ [n]).length = 1 := rfl
  rw [hl1] at hv
  subst hv
  have hcell := (Kd.R_celln 0 HO2.out 0 (by omega) (by simp)).1
  have hcell : w8.cell? ⟨g, 0, none⟩ = some (.int .i64 n) := by simpa [rdOf] using hcell
  clear HO HO2 HB
  refine Lib.hid ?_
  go_wp2_with fail
  go_loopw [13] (fun v13 wr => ∃ j q : Nat, j ≤ 1 ∧ v13 = .int .i64 j ∧ wr = w8.drewN q ∧ Hid (j = 1 → safeB n = true)) (fun v13 _ => 1 - (intOf v13).toNat)
  case atStart => exact ⟨0, 0, by omega, rfl, rfl, Lib.hid (fun h => by cases h)⟩
  case round =>
    obtain ⟨j, q, hj, rfl, rfl, hjs⟩ := hrel
    by_cases hlt : j < 1
    · obtain rfl : j = 0 := by omega
      clear hjs
      cases hsf : safeB n with
      | true =>
        rw [hsf] at hs
        have HS : Hid (safeB n = true) := Lib.hid hsf
        clear hsf
        go_wp2_with (go_at_call 38; refine (credenzaref10_safe.calls n _ _ hs.out).mono ?_; rintro e w1 ⟨rfl, ⟨n3, rfl⟩⟩)
        go_roundw
        case rel => exact ⟨1, _, by omega, by go_num, rfl, Lib.hid (fun _ => by first | exact HS.out | trivial)⟩
        case measure => simp [intOf]
      | false =>
        rw [hsf] at hs
        have HS : Hid (toldO (some n) = (0, 100)) := Lib.hid (by simp [toldO, hsf])
        clear hsf
        go_wp2_with (go_at_call 38; refine (credenzaref10_safe.calls n _ _ hs.out).mono ?_; rintro e w1 ⟨rfl, ⟨n3, rfl⟩⟩)
        go_ret2
        exact ⟨by rw [HS.out]; rfl, below_dr HB2.out _⟩
    · obtain rfl : j = 1 := by omega
      have HS : Hid (toldO (some n) = (n, 0)) := Lib.hid (by simp [toldO, hjs.out rfl])
      clear hjs
      go_wp2
      go_ret2
      exact ⟨by rw [HS.out]; rfl, below_dr HB2.out _⟩

/-- A digit's value, 99: none. -/
def valB (x : Int) : Int :=
  if 48 ≤ x ∧ x ≤ 57 then x - 48 else if 97 ≤ x ∧ x ≤ 102 then x - 87 else if 65 ≤ x ∧ x ≤ 70 then x - 55 else 99

theorem value_f (x : Int) (hx : 0 ≤ x ∧ x < 65536) : credenzaref10_value.f 3 x = some (valB x) := by
  have w1 : wrap64 (x - 48) = x - 48 := w64 (by omega) (by omega)
  have w2 : wrap64 (wrap64 (x - 97) + 10) = x - 87 := by rw [w64 (x := x - 97) (by omega) (by omega), w64 (x := x - 97 + 10) (by omega) (by omega)]; omega
  have w3 : wrap64 (wrap64 (x - 65) + 10) = x - 55 := by rw [w64 (x := x - 65) (by omega) (by omega), w64 (x := x - 65 + 10) (by omega) (by omega)]; omega
  unfold credenzaref10_value.f valB
  by_cases h1 : 48 ≤ x <;> by_cases h2 : x ≤ 57 <;> by_cases h3 : 97 ≤ x <;> by_cases h4 : x ≤ 102 <;> by_cases h5 : 65 ≤ x <;> by_cases h6 : x ≤ 70 <;>
    first
    | (exfalso; omega)
    | simp [credenzaref10_value.j0, credenzaref10_value.j1, h1, h2, h3, h4, h5, h6, w1, w2, w3]

/-- The digits' number: none: no number. -/
def digitsR (base : Int) (n : Int) : List Int → Option Int
  | [] => some n
  | d :: r => if base ≤ valB d ∨ 9007199254740991 < n then none else digitsR base (base * n + valB d) r
/-- A numeral's base, sign and digits. -/
def partsR : List Int → Int × Int × List Int
  | [] => (10, 1, [])
  | x :: r => if x = 43 then (10, 1, r) else if x = 45 then (10, -1, r) else
      match r with
      | y :: q => if x = 48 ∧ (y = 120 ∨ y = 88) then (16, 1, q) else (10, 1, x :: r)
      | [] => (10, 1, x :: r)
/-- What the reference's Read makes of units. -/
def refL (xs : List Int) : Int × Int :=
  if trimR (trimL xs) = [] then (0, 0)
  else if (partsR (trimR (trimL xs))).2.2 = [] then (0, 100)
  else match digitsR (partsR (trimR (trimL xs))).1 0 (partsR (trimR (trimL xs))).2.2 with
    | none => (0, 100)
    | some n => toldO (some ((partsR (trimR (trimL xs))).2.1 * n))
end Go.Proofs.YtjapgngbphnapaaDoor.Num
