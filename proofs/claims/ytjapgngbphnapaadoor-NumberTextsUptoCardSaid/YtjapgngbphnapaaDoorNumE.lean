/-
  PLAIN LAWS: what a text of units is as a number (number.Read), over lists. No walk in this text.
-/
import Derived.Test.YtjapgngbphnapaaDoorNumD
import Derived.Laws.BitsLemmas
namespace Go.Proofs.YtjapgngbphnapaaDoor.Num
open Go.Proofs.YtjapgngbphnapaaDoor.NumP Go.Proofs.YtjapgngbphnapaaDoorW.PrintWords Go.RowKit

/-- The units of a string of units. -/
def pairs : List UInt8 → List Int
  | a :: b :: r => ((a.toNat : Int) * 256 + (b.toNat : Int)) :: pairs r
  | _ => []

theorem pairs_len : ∀ l : List UInt8, (pairs l).length = l.length / 2
  | [] => rfl
  | [_] => by simp [pairs]
  | a :: b :: r => by simp only [pairs, List.length_cons, pairs_len r]; omega

theorem pairs_range : ∀ l : List UInt8, ∀ x ∈ pairs l, 0 ≤ x ∧ x < 65536
  | [], x, h => by cases h
  | [_], x, h => by cases h
  | a :: b :: r, x, h => by
    rcases List.mem_cons.1 h with rfl | h
    · have := a.toNat_lt; have := b.toNat_lt; omega
    · exact pairs_range r x h

theorem pairs_get : ∀ (j : Nat) (l : List UInt8) (h : 2 * j + 1 < l.length), (pairs l).getD j 0 = (l[2 * j].toNat : Int) * 256 + (l[2 * j + 1].toNat : Int)
  | 0, a :: b :: r, h => by simp [pairs]
  | j + 1, a :: b :: r, h => by
    have := pairs_get j r (by simp at h; omega)
    simp only [pairs, List.getD_cons_succ, this]
    have e1 : (a :: b :: r)[2 * (j + 1)]'(by omega) = r[2 * j]'(by simp at h; omega) := by
      simp only [show 2 * (j + 1) = 2 * j + 1 + 1 by omega, List.getElem_cons_succ]
    have e2 : (a :: b :: r)[2 * (j + 1) + 1]'(by omega) = r[2 * j + 1]'(by simp at h; omega) := by
      simp only [show 2 * (j + 1) + 1 = 2 * j + 1 + 1 + 1 by omega, List.getElem_cons_succ]
    rw [e1, e2]
  | 0, [], h => by simp at h
  | 0, [_], h => by simp at h
  | j + 1, [], h => by simp at h
  | j + 1, [_], h => by simp at h

theorem check_f (u : ByteArray) (hs : u.size ≤ 1099511627776) : units_Check.f u = some (decide (u.size % 2 = 0)) := by
  unfold units_Check.f
  have h := bits_mask .i64 62 (by decide) (fun n h0 h1 => by rw [IntKind.wrap_i64]; have : (2 : Int) ^ 62 = 4611686018427387904 := by decide
                                                             omega) 1 (by decide) (u.size : Int) (by omega) (by have : (2 : Int) ^ 62 = 4611686018427387904 := by decide
                                                                                                                omega)
  have e : (2 : Int) ^ 1 - 1 = 1 := by decide
  have e2 : (2 : Int) ^ 1 = 2 := by decide
  rw [e, e2] at h
  rw [h]
  congr 1
  rw [Bool.eq_iff_iff]
  simp
  omega

theorem len_f (u : ByteArray) (hs : u.size ≤ 1099511627776) : units_Len.f u = some ((u.size / 2 : Nat) : Int) := by
  unfold units_Len.f
  rw [w64 (by omega) (by omega)]
  simp

theorem at_f (u : ByteArray) (hs : u.size ≤ 1099511627776) (j : Nat) (h : j < u.size / 2) : units_At.f u (j : Int) = some ((pairs u.data.toList).getD j 0) := by
  have hz : u.data.toList.length = u.size := rfl
  unfold units_At.f
  rw [if_neg (by omega), len_f u hs]
  simp only [Option.bind_some]
  rw [if_neg (by omega)]
  have e1 : wrap64 (2 * (j : Int)) = ((2 * j : Nat) : Int) := by rw [w64 (by omega) (by omega)]; omega
  have e2 : wrap64 (((2 * j : Nat) : Int) + 1) = ((2 * j + 1 : Nat) : Int) := by rw [w64 (by omega) (by omega)]; omega
  rw [e1, e2, if_pos (by omega), if_pos (by omega), if_pos (by omega), if_pos (by omega)]
  have b1 := bt_at u.data.toList (2 * j) (by omega)
  have b2 := bt_at u.data.toList (2 * j + 1) (by omega)
  have eu : (⟨u.data.toList.toArray⟩ : ByteArray) = u := by cases u; simp
  rw [eu] at b1 b2
  rw [b1, b2, pairs_get j u.data.toList (by omega)]
  have l1 := (u.data.toList[2 * j]'(by omega)).toNat_lt
  have l2 := (u.data.toList[2 * j + 1]'(by omega)).toNat_lt
  generalize (u.data.toList[2 * j]'(by omega)).toNat = x at l1 ⊢
  generalize (u.data.toList[2 * j + 1]'(by omega)).toNat = y at l2 ⊢
  rw [w64 (x := (x : Int)) (by omega) (by omega), w64 (x := (y : Int)) (by omega) (by omega), w64 (by omega) (by omega)]
  congr 1
  have p62 : (2 : Int) ^ 62 = 4611686018427387904 := by decide
  have p8 : (2 : Int) ^ 8 = 256 := by decide
  exact bits_join .i64 62 (by decide) (fun n h0 h1 => by rw [IntKind.wrap_i64]; omega) 8 _ _ (by omega) (by rw [p8]; omega) (by omega) (by omega) (by omega) (by omega)

/-- Is a unit white space? -/
def blankB (x : Int) : Bool := x == 32 || x == 160 || x == 8232 || x == 8233 || x == 65279 || (decide (9 ≤ x) && decide (x ≤ 13))

theorem blank_f (x : Int) : number_blank.f x = some (blankB x) := by
  unfold number_blank.f blankB
  by_cases h1 : x = 32
  · simp [h1]
  by_cases h2 : x = 160
  · simp [h2]
  by_cases h3 : x = 8232
  · simp [h3]
  by_cases h4 : x = 8233
  · simp [h4]
  by_cases h5 : x = 65279
  · simp [h5]
  by_cases h6 : 9 ≤ x <;> simp [h1, h2, h3, h4, h5, h6]

theorem rblank_f (x : Int) : credenzaref10_blank.f x = some (blankB x) := by
  unfold credenzaref10_blank.f blankB
  by_cases h1 : x = 32
  · simp [h1]
  by_cases h2 : x = 160
  · simp [h2]
  by_cases h3 : x = 8232
  · simp [h3]
  by_cases h4 : x = 8233
  · simp [h4]
  by_cases h5 : x = 65279
  · simp [h5]
  by_cases h6 : 9 ≤ x <;> by_cases h7 : x ≤ 13 <;> simp [h1, h2, h3, h4, h5, h6, h7]

/-- A unit that stands in no number's text. -/
def badB (x : Int) : Bool := decide (127 < x) || x == 95
def trimL (xs : List Int) : List Int := xs.dropWhile blankB
def trimR (xs : List Int) : List Int := (xs.reverse.dropWhile blankB).reverse
def bytes (xs : List Int) : List UInt8 := xs.map fun n => UInt8.ofNat n.toNat
/-- A number that is told: itself, if it is safe. -/
def safeB (n : Int) : Bool := decide (-9007199254740991 ≤ n) && decide (n ≤ 9007199254740991)
def toldO : Option Int → Int × Int
  | some v => if safeB v then (v, 0) else (0, 100)
  | none => (0, 100)
def decInt (l : List UInt8) : Option Int :=
  match Lib.parseIntB 64 l with
  | .ok v => some v
  | _ => none
def hexHead (l : List UInt8) : Bool := decide (2 < l.length) && (l.getD 0 0 == 48) && ((l.getD 1 0 == 120) || (l.getD 1 0 == 88))
def signB (c : UInt8) : Bool := c == 45 || c == 43
def plainRead (l : List UInt8) : Int × Int :=
  if hexHead l then (if signB (l.getD 2 0) then (0, 100) else toldO (hexInt (l.drop 2))) else toldO (decInt l)
/-- What number.Read makes of units. -/
def readL (xs : List Int) : Int × Int :=
  if trimL xs = [] then (0, 0)
  else if (trimR (trimL xs)).any badB then (0, 100)
  else plainRead (bytes (trimR (trimL xs)))

theorem safe_f (n : Int) : number_safe.f n = some (safeB n) := by
  unfold number_safe.f safeB
  by_cases h : -9007199254740991 ≤ n
  · rw [if_pos h]; simp [h]
  · rw [if_neg h]; simp [h]

theorem told_f (n : Int) (b : Bool) : number_told.f n b = some (if b then toldO (some n) else (0, 100)) := by
  unfold number_told.f
  cases b
  · simp
  · rw [safe_f]
    cases h : safeB n <;> simp [toldO, h]
end Go.Proofs.YtjapgngbphnapaaDoor.Num
