/-
  PLAIN LAWS OF THE PRINTED FUNCTIONS: what units.Of, the reference's U and the like come to at bytes below 128. No walk in this text.
-/
import Derived.Test.YtjapgngbphnapaaDoorNumP
import Derived.Lib.ItoaLen
namespace Go.Proofs.YtjapgngbphnapaaDoor.Num
open Go.Proofs.YtjapgngbphnapaaDoor.NumP Go.Proofs.YtjapgngbphnapaaDoorW.PrintWords Go.RowKit

/-- A plain text as units: each byte behind a zero byte. -/
def unitsL (l : List UInt8) : List UInt8 := l.flatMap fun b => [0, b]
def u2 (l : List UInt8) : List Int := l.flatMap fun b => [0, (b.toNat : Int)]

theorem u2_len (l : List UInt8) : (u2 l).length = 2 * l.length := by
  induction l with
  | nil => rfl
  | cons b r ih => simp only [u2, List.flatMap_cons, List.length_append, List.length_cons, List.length_nil] at ih ⊢; omega

theorem unitsL_len (l : List UInt8) : (unitsL l).length = 2 * l.length := by
  induction l with
  | nil => rfl
  | cons b r ih => simp only [unitsL, List.flatMap_cons, List.length_append, List.length_cons, List.length_nil] at ih ⊢; omega

theorem u2_bytes (l : List UInt8) : (u2 l).map (fun n => UInt8.ofNat n.toNat) = unitsL l := by
  induction l with
  | nil => rfl
  | cons b r ih =>
    simp only [u2, unitsL, List.flatMap_cons, List.map_append, List.map_cons, List.map_nil] at ih ⊢
    rw [ih]; simp

theorem str_u2 (l : List UInt8) : strOfNums (u2 l) = ⟨(unitsL l).toArray⟩ := by
  simp only [strOfNums, u2_bytes]

theorem bt_at (l : List UInt8) (i : Nat) (h : i < l.length) : bt ⟨l.toArray⟩ (i : Int) = (l[i].toNat : Int) := by
  unfold bt
  have h2 : (i : Int).toNat < (ByteArray.mk l.toArray).size := by simpa [ByteArray.size] using h
  rw [dif_pos h2]
  simp [ByteArray.getElem_eq_getElem_data]

theorem w64 {x : Int} (h0 : -9223372036854775808 ≤ x) (h1 : x ≤ 9223372036854775807) : wrap64 x = x := by unfold wrap64; omega

theorem size_mk (l : List UInt8) : (ByteArray.mk l.toArray).size = l.length := by simp [ByteArray.size]

theorem set_two (A R : List Int) (i : Nat) (hA : A.length = 2 * i) (a b x : Int) : (A ++ a :: b :: R).set (2 * i + 1) x = A ++ a :: x :: R := by
  rw [List.set_append_right _ _ (by omega)]
  have : 2 * i + 1 - A.length = 1 := by omega
  rw [this]; rfl

theorem of_l0 (s : List UInt8) (hs : ∀ b ∈ s, b.toNat < 128) (hn : s.length ≤ 1099511627776) (d : Nat) : ∀ (k i : Nat), i + d = s.length → d < k →
    units_Of.l0 k ⟨s.toArray⟩ (u2 (s.take i) ++ List.replicate (2 * d) 0) (s.length : Int) (i : Int) = some (⟨(unitsL s).toArray⟩, 0) := by
  induction d with
  | zero =>
    intro k i hi hk
    obtain ⟨k, rfl⟩ : ∃ m, k = m + 1 := ⟨k - 1, by omega⟩
    simp only [units_Of.l0]
    rw [if_neg (by omega)]
    have : s.take i = s := List.take_of_length_le (by omega)
    rw [this]
    simp [str_u2]
  | succ d ih =>
    intro k i hi hk
    obtain ⟨k, rfl⟩ : ∃ m, k = m + 1 := ⟨k - 1, by omega⟩
    have hlt : i < s.length := by omega
    have hb := hs s[i] (List.getElem_mem hlt)
    simp only [units_Of.l0]
    rw [if_pos (by omega), if_pos (by omega), size_mk, if_pos (by omega), bt_at s i hlt, if_neg (by omega)]
    have hw1 : wrap64 (2 * (i : Int)) = 2 * (i : Int) := w64 (by omega) (by omega)
    have hw2 : wrap64 (2 * (i : Int) + 1) = 2 * (i : Int) + 1 := w64 (by omega) (by omega)
    have hw3 : wrap64 ((i : Int) + 1) = ((i + 1 : Nat) : Int) := by rw [w64 (by omega) (by omega)]; omega
    rw [hw1, hw2, hw3, if_pos (by omega)]
    have hl2 := u2_len (s.take i)
    have hl3 : (s.take i).length = i := by rw [List.length_take]; omega
    rw [if_pos (by simp only [List.length_append, List.length_replicate, hl2, hl3]; omega)]
    have e1 : (2 * (i : Int) + 1).toNat = 2 * i + 1 := by omega
    have e2 : List.replicate (2 * (d + 1)) (0 : Int) = 0 :: 0 :: List.replicate (2 * d) 0 := by
      rw [show 2 * (d + 1) = 2 * d + 1 + 1 by omega]; rfl
    have e3 : s.take (i + 1) = s.take i ++ [s[i]] := by rw [List.take_succ_eq_append_getElem hlt]
    have e4 : u2 (s.take (i + 1)) = u2 (s.take i) ++ [0, (s[i].toNat : Int)] := by rw [e3]; simp only [u2, List.flatMap_append, List.flatMap_cons, List.flatMap_nil, List.append_nil]
    rw [e1, e2, set_two _ _ _ (by rw [hl2, hl3])]
    have := ih k (i + 1) (by omega) (by omega)
    rw [e4] at this
    simpa using this

theorem of_ok (s : List UInt8) (hs : ∀ b ∈ s, b.toNat < 128) (hn : s.length ≤ 1099511627776) : units_Of.f (s.length + 1) ⟨s.toArray⟩ = some (⟨(unitsL s).toArray⟩, 0) := by
  unfold units_Of.f
  rw [size_mk, w64 (by omega) (by omega), if_pos (by omega), if_pos (by omega)]
  have := of_l0 s hs hn s.length (s.length + 1) 0 (by omega) (by omega)
  have e : (2 * (s.length : Int)).toNat = 2 * s.length := by omega
  rw [e]
  simpa [u2] using this

theorem make_l0 (l : List Int) (hl : ∀ n ∈ l, 0 ≤ n ∧ n < 256) (hn : l.length ≤ 1099511627776) (d : Nat) : ∀ (k i : Nat), i + d = l.length → d < k →
    credenzaref01_Make.l0 k ((l.take i).flatMap fun n => [0, n]) l (l.length : Int) (i : Int) = some (strOfNums (l.flatMap fun n => [0, n])) := by
  induction d with
  | zero =>
    intro k i hi hk
    obtain ⟨k, rfl⟩ : ∃ m, k = m + 1 := ⟨k - 1, by omega⟩
    simp only [credenzaref01_Make.l0]
    rw [if_neg (by omega), List.take_of_length_le (by omega)]
  | succ d ih =>
    intro k i hi hk
    obtain ⟨k, rfl⟩ : ∃ m, k = m + 1 := ⟨k - 1, by omega⟩
    have hlt : i < l.length := by omega
    have hb := hl l[i] (List.getElem_mem hlt)
    simp only [credenzaref01_Make.l0]
    rw [if_pos (by omega), if_pos (by omega), if_pos (by omega)]
    have hr : rd l (i : Int) = l[i] := by unfold rd; simp [List.getD, hlt]
    have hw3 : wrap64 ((i : Int) + 1) = ((i + 1 : Nat) : Int) := by rw [w64 (by omega) (by omega)]; omega
    rw [hr, hw3]
    have ed : Int.tdiv l[i] 256 = 0 := Int.tdiv_eq_zero_of_lt hb.1 hb.2
    have em : Int.tmod l[i] 256 = l[i] := Int.tmod_eq_of_lt hb.1 hb.2
    rw [ed, em, Int.emod_eq_of_lt hb.1 hb.2]
    have e0 : wrap64 0 % 256 = 0 := by unfold wrap64; omega
    rw [e0]
    simp only [Option.bind_some]
    have hlen : ((l.take i).flatMap fun n => [0, n]).length = 2 * i := by
      have : ∀ q : List Int, (q.flatMap fun n => [0, n]).length = 2 * q.length := by
        intro q; induction q with
        | nil => rfl
        | cons b r ih => simp only [List.flatMap_cons, List.length_append, List.length_cons, List.length_nil] at ih ⊢; omega
      rw [this, List.length_take]; omega
    rw [if_pos (by rw [hlen]; simp; omega)]
    have e3 : (l.take (i + 1)).flatMap (fun n => [0, n]) = ((l.take i).flatMap fun n => [0, n]) ++ [0, l[i]] := by
      rw [List.take_succ_eq_append_getElem hlt]; simp only [List.flatMap_append, List.flatMap_cons, List.flatMap_nil, List.append_nil]
    rw [← e3]
    exact ih k (i + 1) (by omega) (by omega)

theorem make_ok (l : List Int) (hl : ∀ n ∈ l, 0 ≤ n ∧ n < 256) (hn : l.length ≤ 1099511627776) (k : Nat) (hk : l.length < k) :
    credenzaref01_Make.f k l = some (strOfNums (l.flatMap fun n => [0, n])) := by
  have := make_l0 l hl hn l.length k 0 (by omega) hk
  simpa [credenzaref01_Make.f] using this

theorem rof_l0 (s : List UInt8) (hs : ∀ b ∈ s, b.toNat < 128) (hn : s.length ≤ 1099511627776) (d : Nat) : ∀ (k i : Nat), i + d = s.length → d + s.length + 1 < k →
    credenzaref01_Of.l0 k ⟨s.toArray⟩ ((s.take i).map fun b => (b.toNat : Int)) (i : Int) = some (⟨(unitsL s).toArray⟩, 0) := by
  induction d with
  | zero =>
    intro k i hi hk
    obtain ⟨k, rfl⟩ : ∃ m, k = m + 1 := ⟨k - 1, by omega⟩
    simp only [credenzaref01_Of.l0]
    rw [size_mk, if_neg (by omega), List.take_of_length_le (by omega), make_ok _ _ (by simpa using hn) k (by simp; omega)]
    · simp only [Option.bind_some]
      have : (s.map fun b => (b.toNat : Int)).flatMap (fun n => [0, n]) = u2 s := by
        simp [u2, List.flatMap_map]
      rw [this, str_u2]
    · intro n hn
      obtain ⟨b, hb, rfl⟩ := List.mem_map.1 hn
      have := hs b hb
      omega
  | succ d ih =>
    intro k i hi hk
    obtain ⟨k, rfl⟩ : ∃ m, k = m + 1 := ⟨k - 1, by omega⟩
    have hlt : i < s.length := by omega
    have hb := hs s[i] (List.getElem_mem hlt)
    simp only [credenzaref01_Of.l0]
    have hw3 : wrap64 ((i : Int) + 1) = ((i + 1 : Nat) : Int) := by rw [w64 (by omega) (by omega)]; omega
    have hw4 : wrap64 (s[i].toNat : Int) = (s[i].toNat : Int) := w64 (by omega) (by omega)
    rw [size_mk, if_pos (by omega), if_pos (by omega), bt_at s i hlt, if_neg (by omega), if_pos (by rw [List.length_map, List.length_take]; omega), hw3, hw4]
    have := ih k (i + 1) (by omega) (by omega)
    rw [List.take_succ_eq_append_getElem hlt, List.map_append] at this
    exact this

theorem rU_ok (s : List UInt8) (hs : ∀ b ∈ s, b.toNat < 128) (hn : s.length ≤ 1099511627776) (k : Nat) (hk : 2 * s.length + 1 < k) :
    credenzaref01_U.f k ⟨s.toArray⟩ = some ⟨(unitsL s).toArray⟩ := by
  unfold credenzaref01_U.f credenzaref01_Of.f
  have := rof_l0 s hs hn s.length k 0 (by omega) (by omega)
  have h0 : credenzaref01_Of.l0 k ⟨s.toArray⟩ [] 0 = some (⟨(unitsL s).toArray⟩, 0) := by simpa using this
  rw [h0]; rfl

theorem decDigits_lt : ∀ (u : Nat), ∀ b ∈ Lib.decDigits u, b.toNat < 128
  | u => by
    intro b hb
    rw [Lib.decDigits] at hb
    split at hb
    · simp at hb; subst hb; simp; omega
    · rw [List.mem_append] at hb
      rcases hb with hb | hb
      · exact decDigits_lt (u / 10) b hb
      · simp at hb; subst hb; simp; omega
termination_by u => u

theorem itoa_lt (n : Int) : ∀ b ∈ Lib.itoa n, b.toNat < 128 := by
  intro b hb
  unfold Lib.itoa at hb
  split at hb
  · rcases List.mem_cons.1 hb with rfl | hb
    · decide
    · exact decDigits_lt _ b hb
  · exact decDigits_lt _ b hb

/-- What Text answers. -/
def txt (n : Int) : ByteArray := ⟨(unitsL (Lib.itoa n)).toArray⟩

theorem itoa_of (n : Int) (h0 : -9223372036854775808 ≤ n) (h1 : n ≤ 9223372036854775807) : units_Of.f 22 ⟨(Lib.itoa n).toArray⟩ = some (txt n, 0) := by
  have hl := Lib.itoa_length_le n h0 h1
  have := of_ok (Lib.itoa n) (itoa_lt n) (by omega)
  exact at_rounds (units_Of.mono _) (by omega) this

/-! The reference's Text. -/
theorem decDigits_len (u : Nat) (h : u < 18446744073709551616) : (Lib.decDigits u).length ≤ 20 := by
  have e : ∀ u, (Lib.decDigits u).length = Lib.nDigits u := by
    intro u
    induction u using Nat.strongRecOn with
    | ind u ih =>
      rw [Lib.decDigits, Lib.nDigits]
      split
      · rfl
      · rw [List.length_append, ih (u / 10) (by omega)]; rfl
  rw [e]
  exact Lib.nDigits_le20 u h
theorem digits_ok : ∀ (u k : Nat), u < 18446744073709551616 → u < k → credenzaref10_digits.f k (u : Int) = some ⟨(Lib.decDigits u).toArray⟩
  | u, k, hu, hk => by
    obtain ⟨k, rfl⟩ : ∃ m, k = m + 1 := ⟨k - 1, by omega⟩
    have ew : ∀ x : Int, 0 ≤ x → x < 18446744073709551616 → IntKind.u64.wrap x = x := fun x h0 h1 => by
      show x % 18446744073709551616 = x
      omega
    have em : Int.tmod (u : Int) 10 = ((u % 10 : Nat) : Int) := by
      rw [Int.tmod_eq_emod_of_nonneg (by omega)]; omega
    have ed : Int.tdiv (u : Int) 10 = ((u / 10 : Nat) : Int) := by
      rw [Int.tdiv_eq_ediv_of_nonneg (by omega)]; omega
    simp only [credenzaref10_digits.f, Option.bind_some]
    rw [em, ed, ew _ (by omega) (by omega), ew _ (by omega) (by omega)]
    have e1 : (48 + ((u % 10 : Nat) : Int)) % 256 = ((48 + u % 10 : Nat) : Int) := by omega
    have e2 : strOfNums [((48 + u % 10 : Nat) : Int)] = ⟨([UInt8.ofNat (48 + u % 10)] : List UInt8).toArray⟩ := rfl
    rw [e1, e2, Lib.decDigits]
    by_cases h : u < 10
    · rw [if_pos (by omega), dif_pos h, Nat.mod_eq_of_lt h]
    · rw [if_neg (by omega), dif_neg h, digits_ok (u / 10) k (by omega) (by omega)]
      simp only [Option.bind_some]
      have hl := decDigits_len (u / 10) (by omega)
      rw [size_mk, size_mk, if_pos (by simp; omega)]
      congr 1
termination_by u => u

theorem u64w (x : Int) (h0 : 0 ≤ x) (h1 : x < 18446744073709551616) : IntKind.u64.wrap x = x := by
  show x % 18446744073709551616 = x
  omega

theorem rtext_ok (n : Int) (h0 : -9223372036854775808 ≤ n) (h1 : n ≤ 9223372036854775807) : ∃ k, credenzaref10_Text.f k n = some (txt n) := by
  have hl := Lib.itoa_length_le n h0 h1
  have hU := fun k hk => rU_ok (Lib.itoa n) (itoa_lt n) (by omega) k hk
  unfold credenzaref10_Text.f
  unfold Lib.itoa at hU hl
  unfold txt
  unfold Lib.itoa
  by_cases h : n < 0
  · refine ⟨n.natAbs + 100, ?_⟩
    rw [if_pos h]
    rw [if_pos h] at hU hl ⊢
    have e0 : wrap64 (n + 1) = n + 1 := w64 (by omega) (by omega)
    have e1 : wrap64 (-(n + 1)) = -(n + 1) := w64 (by omega) (by omega)
    rw [e0, e1, u64w (-(n + 1)) (by omega) (by omega), show -(n + 1) + 1 = (n.natAbs : Int) by omega, u64w (n.natAbs : Int) (by omega) (by omega), digits_ok n.natAbs _ (by omega) (by omega)]
    simp only [Option.bind_some]
    simp only [List.length_cons] at hl
    rw [size_mk, if_pos (by omega)]
    have e2 : (⟨#[45]⟩ : ByteArray) ++ ⟨(Lib.decDigits n.natAbs).toArray⟩ = ⟨((45 : UInt8) :: Lib.decDigits n.natAbs).toArray⟩ := by
      apply ByteArray.ext
      apply Array.ext'
      simp
    rw [e2, hU _ (by simp only [List.length_cons]; omega)]
    rfl
  · refine ⟨n.toNat + 100, ?_⟩
    rw [if_neg h]
    rw [if_neg h] at hU hl ⊢
    rw [u64w n (by omega) (by omega)]
    obtain ⟨m, rfl⟩ := Int.eq_ofNat_of_zero_le (by omega : 0 ≤ n)
    rw [Int.toNat_natCast] at hU hl ⊢
    rw [digits_ok m _ (by omega) (by omega)]
    simp only [Option.bind_some]
    rw [hU _ (by omega)]
    rfl
end Go.Proofs.YtjapgngbphnapaaDoor.Num
