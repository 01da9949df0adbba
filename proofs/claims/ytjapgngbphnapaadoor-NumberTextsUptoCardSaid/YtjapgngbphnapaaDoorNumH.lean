/-
  PLAIN LAWS: the head of a numeral.
-/
import Derived.Test.YtjapgngbphnapaaDoorNumF
namespace Go.Proofs.YtjapgngbphnapaaDoor.Num
open Go.Proofs.YtjapgngbphnapaaDoor.NumP Go.Proofs.YtjapgngbphnapaaDoorW.PrintWords Go.RowKit

theorem three (l : List UInt8) (h : 2 < l.length) : ∃ b0 b1 b2 rest, l = b0 :: b1 :: b2 :: rest := by
  match l, h with
  | b0 :: b1 :: b2 :: rest, _ => exact ⟨b0, b1, b2, rest, rfl⟩

theorem extract2 {t : ByteArray} {b0 b1 b2 : UInt8} {rest : List UInt8} (hL : t.data.toList = b0 :: b1 :: b2 :: rest) : (t.extract 0 2).toList = [b0, b1] := by
  rw [Lib.extract_toList, hL]; rfl
theorem drop2 {t : ByteArray} {b0 b1 b2 : UInt8} {rest : List UInt8} (hL : t.data.toList = b0 :: b1 :: b2 :: rest) : (t.extract 2 t.size).data.toList = b2 :: rest := by
  have hl : t.data.toList.length = t.size := rfl
  rw [Lib.extract_data]
  rw [hL] at hl ⊢
  simp only [List.drop_succ_cons, List.drop_zero]
  exact List.take_of_length_le (by simp only [List.length_cons] at hl ⊢; omega)

theorem head_yes {b0 b1 b2 : UInt8} {rest : List UInt8} (hh : b0 = 48 ∧ (b1 = 120 ∨ b1 = 88)) : plainRead (b0 :: b1 :: b2 :: rest) = if signB b2 then (0, 100) else toldO (hexInt (b2 :: rest)) := by
  have : hexHead (b0 :: b1 :: b2 :: rest) = true := by
    simp only [hexHead, List.getD_cons_zero, List.getD_cons_succ, hh.1]
    rcases hh.2 with h | h <;> simp [h]
  simp only [plainRead, this, if_true, List.getD_cons_succ, List.getD_cons_zero, List.drop_succ_cons, List.drop_zero]
theorem head_no {b0 b1 b2 : UInt8} {rest : List UInt8} (hh : ¬ (b0 = 48 ∧ (b1 = 120 ∨ b1 = 88))) : plainRead (b0 :: b1 :: b2 :: rest) = toldO (decInt (b0 :: b1 :: b2 :: rest)) := by
  have : hexHead (b0 :: b1 :: b2 :: rest) = false := by
    simp only [hexHead, List.getD_cons_zero, List.getD_cons_succ]
    by_cases h0 : b0 = 48
    · have h1 : b1 ≠ 120 := fun e => hh ⟨h0, .inl e⟩
      have h2 : b1 ≠ 88 := fun e => hh ⟨h0, .inr e⟩
      simp [h1, h2]
    · simp [h0]
  simp [plainRead, this]
theorem head_short {l : List UInt8} (h : ¬ 2 < l.length) : plainRead l = toldO (decInt l) := by simp [plainRead, hexHead, h]
end Go.Proofs.YtjapgngbphnapaaDoor.Num
