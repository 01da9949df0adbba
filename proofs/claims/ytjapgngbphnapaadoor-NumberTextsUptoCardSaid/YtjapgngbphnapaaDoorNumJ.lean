/-
  PLAIN LAWS: sums and products of safe numbers.
-/
import Derived.Test.YtjapgngbphnapaaDoorNumI
import Derived.Lib.Mul64
namespace Go.Proofs.YtjapgngbphnapaaDoor.Num
open Go.Proofs.YtjapgngbphnapaaDoor.NumP Go.Proofs.YtjapgngbphnapaaDoorW.PrintWords Go.RowKit Go.Proofs.YtjapgngbphnapaaDoorW.PrintMore

def told3 (c : Bool) (v : Int) : Int × Int := if c then (v, 0) else (0, 100)
def addF (a b : Int) : Int × Int := told3 (safeB a && safeB b && safeB (a + b)) (a + b)
def mulF (a b : Int) : Int × Int := told3 (safeB a && safeB b && safeB (a * b)) (a * b)

theorem safe_iff {n : Int} : safeB n = true ↔ -9007199254740991 ≤ n ∧ n ≤ 9007199254740991 := by simp [safeB]

theorem add_f (a b : Int) (ha : -9223372036854775808 ≤ a ∧ a ≤ 9223372036854775807) (hb : -9223372036854775808 ≤ b ∧ b ≤ 9223372036854775807) : number_Add.f a b = some ((addF a b).1, (addF a b).2) := by
  unfold number_Add.f addF
  rw [safe_f, safe_f]
  simp only [Option.bind_some]
  cases h1 : safeB a with
  | false => simp [told_f, told3]
  | true =>
    rw [if_pos rfl, told_f]
    cases h2 : safeB b with
    | false => simp [told3]
    | true =>
      have e1 := safe_iff.1 h1
      have e2 := safe_iff.1 h2
      rw [w64 (by omega) (by omega)]
      cases h3 : safeB (a + b) <;> simp [told3, toldO, h3]

theorem mask32 (x : Nat) (hx : x < 18446744073709551616) : Go.bits .and .u64 (x : Int) 4294967295 = ((x % 4294967296 : Nat) : Int) := by
  have p32 : (2 : Int) ^ 32 = 4294967296 := by decide
  have p64 : (2 : Int) ^ 64 = 18446744073709551616 := by decide
  have h := bits_mask .u64 64 (by decide) (fun n h0 h1 => u64w n h0 (by rw [p64] at h1; exact h1)) 32 (by decide) (x : Int) (by omega) (by rw [p64]; omega)
  rw [p32] at h
  have e : (4294967296 : Int) - 1 = 4294967295 := by decide
  rw [e] at h
  rw [h]
  omega

theorem mul64_f (x y : Nat) (hx : x < 18446744073709551616) (hy : y < 18446744073709551616) : bits_Mul64.f (x : Int) (y : Int) = some (((x * y / 18446744073709551616 : Nat) : Int), ((x * y % 18446744073709551616 : Nat) : Int)) := by
  obtain ⟨b1, b2, b3, hhi⟩ := Lib.mul64_hi x y hx hy
  have ba := Lib.half_mul_le (a := x / 4294967296) (b := y / 4294967296) (by omega) (by omega)
  have bb := Lib.half_mul_le (a := x / 4294967296) (b := y % 4294967296) (by omega) (by omega)
  have bc := Lib.half_mul_le (a := x % 4294967296) (b := y / 4294967296) (by omega) (by omega)
  have hlt : x * y / 18446744073709551616 < 18446744073709551616 := by
    rw [Nat.div_lt_iff_lt_mul (by decide)]
    exact Nat.lt_of_le_of_lt (Nat.mul_le_mul (Nat.le_of_lt_succ hx) (Nat.le_of_lt_succ hy)) (by decide)
  unfold bits_Mul64.f
  have d1 : ∀ n : Nat, ((n : Nat) : Int) / 4294967296 = ((n / 4294967296 : Nat) : Int) := fun n => by omega
  have wn : ∀ n : Nat, n < 18446744073709551616 → IntKind.u64.wrap (n : Int) = (n : Int) := fun n h => u64w _ (by omega) (by omega)
  rw [mask32 x hx, mask32 y hy, d1 x, d1 y, ← Int.natCast_mul, ← Int.natCast_mul, ← Int.natCast_mul, ← Int.natCast_mul, ← Int.natCast_mul]
  rw [wn _ (by omega), wn _ (by omega), wn _ (by omega), wn _ (by omega), d1 (x % 4294967296 * (y % 4294967296)), ← Int.natCast_add, wn _ b2, d1 (_ + _), ← Int.natCast_add, wn _ (by omega), mask32 _ b2, ← Int.natCast_add, wn _ b3, d1 (_ + _), ← Int.natCast_add, hhi, wn _ hlt]
  congr 2

theorem abs_mx (a : Int) (h : -9007199254740991 ≤ a ∧ a ≤ 9007199254740991) : IntKind.u64.wrap (mx a (wrap64 (-a))) = (a.natAbs : Int) := by
  rw [w64 (by omega) (by omega)]
  unfold mx
  split
  · rw [u64w _ (by omega) (by omega)]; omega
  · rw [u64w _ (by omega) (by omega)]; omega

theorem mul_f (a b : Int) : number_Mul.f 1 a b = some ((mulF a b).1, (mulF a b).2) := by
  unfold number_Mul.f mulF
  rw [safe_f, safe_f]
  simp only [Option.bind_some]
  cases h1 : safeB a with
  | false => simp [number_Mul.j0, told3]
  | true =>
    rw [if_pos rfl]
    cases h2 : safeB b with
    | false => simp [number_Mul.j0, told3]
    | true =>
      have e1 := safe_iff.1 h1
      have e2 := safe_iff.1 h2
      simp only [number_Mul.j0, Bool.not_true]
      rw [if_neg (by decide), abs_mx a e1, abs_mx b e2, mul64_f _ _ (by omega) (by omega)]
      simp only [Option.bind_some]
      have hab : (a * b).natAbs = a.natAbs * b.natAbs := Int.natAbs_mul a b
      have hle : a.natAbs * b.natAbs ≤ 9007199254740991 * 9007199254740991 := Nat.mul_le_mul (by omega) (by omega)
      rw [← hab]
      rw [← hab] at hle
      generalize a * b = p at hle ⊢
      by_cases hp : p.natAbs ≤ 9007199254740991
      · have hs : safeB p = true := safe_iff.2 (by omega)
        rw [if_pos (by omega), told_f, decide_eq_true (by omega), w64 (by omega) (by omega)]
        simp [told3, toldO, hs]
      · have hs : safeB p = false := by
          cases h : safeB p with
          | false => rfl
          | true => have := safe_iff.1 h; omega
        have hr : told3 (true && true && safeB p) p = (0, 100) := by simp [told3, hs]
        rw [hr]
        split
        · rw [told_f, decide_eq_false (by omega)]; rfl
        · rw [told_f]; rfl

theorem add_comm' (a b : Int) : addF a b = addF b a := by
  unfold addF
  rw [Int.add_comm b a, Bool.and_comm (safeB b)]
theorem mul_comm' (a b : Int) : mulF a b = mulF b a := by
  unfold mulF
  rw [Int.mul_comm b a, Bool.and_comm (safeB b)]
theorem told3_cases (c : Bool) (v : Int) : (c = true ∧ told3 c v = (v, 0)) ∨ (c = false ∧ told3 c v = (0, 100)) := by cases c <;> simp [told3]
end Go.Proofs.YtjapgngbphnapaaDoor.Num
