/-
  PLAIN LAWS: reading a number's text back, between blanks. No walk in this text.
-/
import Derived.Test.YtjapgngbphnapaaDoorNumI
namespace Go.Proofs.YtjapgngbphnapaaDoor.Num
open Go.Proofs.YtjapgngbphnapaaDoor.NumP Go.Proofs.YtjapgngbphnapaaDoorW.PrintWords Go.RowKit

/-- The five blanks. -/
def blanks : List (List UInt8) := [[], [0, 32], [0, 9], [0, 160], [254, 255, 0, 10]]
/-- What a blank's place holds. -/
def blankAt (i : Nat) : ByteArray := ⟨((blanks.getD i []) : List UInt8).toArray⟩
/-- What Read makes of a number's text between blanks. -/
def around (i : Nat) (n : Int) (k : Nat) : ByteArray := blankAt i ++ txt n ++ blankAt k

theorem pairs_units : ∀ (l : List UInt8) (r : List UInt8), pairs (unitsL l ++ r) = l.map (fun b => (b.toNat : Int)) ++ pairs r
  | [], r => rfl
  | b :: l, r => by
    show pairs (0 :: b :: (unitsL l ++ r)) = _
    simp only [pairs, pairs_units l r]
    simp

theorem pairs_app : ∀ (l r : List UInt8), l.length % 2 = 0 → pairs (l ++ r) = pairs l ++ pairs r
  | [], r, _ => rfl
  | [_], _, h => by simp at h
  | a :: b :: l, r, h => by
    simp only [List.cons_append, pairs]
    rw [pairs_app l r (by simp only [List.length_cons] at h; omega)]

/-- Digits. -/
def digitB (b : UInt8) : Bool := decide (48 ≤ b.toNat) && decide (b.toNat ≤ 57)
theorem decDigits_digit : ∀ (u : Nat), ∀ b ∈ Lib.decDigits u, digitB b = true
  | u => by
    intro b hb
    rw [Lib.decDigits] at hb
    split at hb
    · simp at hb; subst hb; simp [digitB]; omega
    · rw [List.mem_append] at hb
      rcases hb with hb | hb
      · exact decDigits_digit (u / 10) b hb
      · simp at hb; subst hb; simp [digitB]; omega
termination_by u => u
theorem decDigits_ne (u : Nat) : Lib.decDigits u ≠ [] := by
  rw [Lib.decDigits]; split <;> simp

theorem itoa_ne (n : Int) : Lib.itoa n ≠ [] := by
  unfold Lib.itoa; split
  · simp
  · exact decDigits_ne _
theorem itoa_char (n : Int) : ∀ b ∈ Lib.itoa n, b = 45 ∨ digitB b = true := by
  intro b hb
  unfold Lib.itoa at hb
  split at hb
  · rcases List.mem_cons.1 hb with rfl | hb
    · exact .inl rfl
    · exact .inr (decDigits_digit _ b hb)
  · exact .inr (decDigits_digit _ b hb)

theorem char_fin : ∀ c : Fin 256, (c.val = 45 ∨ (48 ≤ c.val ∧ c.val ≤ 57)) → blankB (c.val : Int) = false ∧ badB (c.val : Int) = false := by decide +kernel
theorem char_ok {b : UInt8} (h : b = 45 ∨ digitB b = true) : blankB (b.toNat : Int) = false ∧ badB (b.toNat : Int) = false := by
  refine char_fin ⟨b.toNat, b.toNat_lt⟩ ?_
  rcases h with rfl | h
  · exact .inl rfl
  · right; simpa [digitB] using h

theorem dropWhile_app {p : Int → Bool} : ∀ (a b : List Int), (∀ x ∈ a, p x = true) → (a ++ b).dropWhile p = b.dropWhile p
  | [], _, _ => rfl
  | x :: a, b, h => by
    rw [List.cons_append, List.dropWhile_cons, if_pos (h x (by simp))]
    exact dropWhile_app a b (fun y hy => h y (by simp [hy]))
theorem dropWhile_no {p : Int → Bool} {l : List Int} (h : ∀ x ∈ l, p x = false) : l.dropWhile p = l := by
  cases l with
  | nil => rfl
  | cons x r => rw [List.dropWhile_cons, if_neg (by rw [h x (by simp)]; decide)]
theorem dropWhile_no2 {p : Int → Bool} {l r : List Int} (hne : l ≠ []) (h : ∀ x ∈ l, p x = false) : (l ++ r).dropWhile p = l ++ r := by
  cases l with
  | nil => exact absurd rfl hne
  | cons x l => rw [List.cons_append, List.dropWhile_cons, if_neg (by rw [h x (by simp)]; decide)]

theorem trim_around (p m q : List Int) (hp : ∀ x ∈ p, blankB x = true) (hq : ∀ x ∈ q, blankB x = true) (hne : m ≠ []) (hm : ∀ x ∈ m, blankB x = false) :
    trimL (p ++ m ++ q) = m ++ q ∧ trimR (m ++ q) = m := by
  constructor
  · unfold trimL
    rw [List.append_assoc, dropWhile_app p (m ++ q) hp]
    exact dropWhile_no2 hne hm
  · unfold trimR
    rw [List.reverse_append, dropWhile_app q.reverse m.reverse (fun x hx => hq x (List.mem_reverse.1 hx)), dropWhile_no (fun x hx => hm x (List.mem_reverse.1 hx)), List.reverse_reverse]

theorem bytes_map (l : List UInt8) : bytes (l.map fun b => (b.toNat : Int)) = l := by
  unfold bytes
  rw [List.map_map]
  conv => rhs; rw [← List.map_id l]
  apply List.map_congr_left
  intro b _
  simp

theorem head_itoa (n : Int) : hexHead (Lib.itoa n) = false := by
  have h := itoa_char n
  generalize Lib.itoa n = l at h
  match l, h with
  | [], _ => rfl
  | [_], _ => rfl
  | a :: b :: r, h =>
    have h2 := h b (by simp)
    have h3 : b ≠ 120 ∧ b ≠ 88 := by
      rcases h2 with rfl | h2
      · exact ⟨by decide, by decide⟩
      · constructor <;> (rintro rfl; simp [digitB] at h2)
    simp [hexHead, h3.1, h3.2]

theorem plain_itoa (n : Int) : plainRead (Lib.itoa n) = toldO (decInt (Lib.itoa n)) := by simp [plainRead, head_itoa]

/-! What parsing makes of a numeral. -/
theorem parseUintM_app (M : Nat) : ∀ (l : List UInt8) (acc : Nat) (r : List UInt8), (∀ b ∈ l, digitB b = true) → ∀ u, Lib.parseUintM M acc l = .ok u → Lib.parseUintM M acc (l ++ r) = Lib.parseUintM M u r
  | [], acc, r, _, u, h => by simp [Lib.parseUintM] at h; subst h; rfl
  | c :: l, acc, r, hd, u, h => by
    simp only [List.cons_append, Lib.parseUintM] at h ⊢
    have hc := hd c (by simp)
    simp only [digitB, Bool.and_eq_true, decide_eq_true_eq] at hc
    rw [if_pos hc] at h ⊢
    split at h
    · cases h
    · rename_i h1
      split at h
      · cases h
      · rename_i h2
        rw [if_neg h1, if_neg h2]
        exact parseUintM_app M l _ r (fun b hb => hd b (by simp [hb])) u h

theorem parse_digits : ∀ (u : Nat), u < 18446744073709551616 → Lib.parseUintM 18446744073709551615 0 (Lib.decDigits u) = .ok u
  | u, hu => by
    rw [Lib.decDigits]
    split
    · rename_i h
      have e : (UInt8.ofNat (48 + u)).toNat = 48 + u := by simp; omega
      simp only [Lib.parseUintM, e]
      rw [if_pos (by omega), if_neg (by omega), if_neg (by omega)]
      congr 1; omega
    · rename_i h
      rw [parseUintM_app _ _ 0 _ (decDigits_digit _) (u / 10) (parse_digits (u / 10) (by omega))]
      have e : (UInt8.ofNat (48 + u % 10)).toNat = 48 + u % 10 := by simp; omega
      simp only [Lib.parseUintM, e]
      rw [if_pos (by omega), if_neg (by omega), if_neg (by omega)]
      congr 1; omega
termination_by u => u

theorem parseUint_digits (u : Nat) (hu : u < 18446744073709551616) : Lib.parseUintB 64 (Lib.decDigits u) = .ok u := by
  unfold Lib.parseUintB
  rw [if_neg (decDigits_ne u)]
  exact parse_digits u hu

theorem decInt_itoa (n : Int) (h0 : -9223372036854775808 ≤ n) (h1 : n ≤ 9223372036854775807) : decInt (Lib.itoa n) = some n := by
  unfold decInt
  have : Lib.parseIntB 64 (Lib.itoa n) = .ok n := by
    unfold Lib.itoa
    split
    · rename_i h
      rw [Lib.parseIntB_minus, parseUint_digits _ (by omega)]
      have e : (2 : Nat) ^ (64 - 1) = 9223372036854775808 := by decide
      rw [e]
      simp only [Lib.signedC]
      rw [if_neg (by omega)]
      congr 1; omega
    · rename_i h
      have hne := decDigits_ne n.toNat
      have hd := decDigits_digit n.toNat
      have hp := parseUint_digits n.toNat (by omega)
      cases hm : Lib.decDigits n.toNat with
      | nil => exact absurd hm hne
      | cons c r =>
        rw [hm] at hd hp
        have hc := hd c (by simp)
        simp only [digitB, Bool.and_eq_true, decide_eq_true_eq] at hc
        rw [Lib.parseIntB_plain 64 c r (by omega) (by omega), hp]
        have e : (2 : Nat) ^ (64 - 1) = 9223372036854775808 := by decide
        rw [e]
        simp only [Lib.signlessC]
        rw [if_neg (by omega)]
        congr 1; omega
  rw [this]

theorem blank_even (i : Nat) (hi : i < 5) : (blanks.getD i []).length % 2 = 0 ∧ ∀ x ∈ pairs (blanks.getD i []), blankB x = true := by
  match i, hi with
  | 0, _ => decide
  | 1, _ => decide
  | 2, _ => decide
  | 3, _ => decide
  | 4, _ => decide

theorem read_around (n : Int) (h0 : -9223372036854775808 ≤ n) (h1 : n ≤ 9223372036854775807) (i k : Nat) (hi : i < 5) (hk : k < 5) :
    readU (around i n k) = if safeB n then (n, 0) else (0, 100) := by
  obtain ⟨ei, bi⟩ := blank_even i hi
  obtain ⟨ek, bk⟩ := blank_even k hk
  have hd : (around i n k).data.toList = blanks.getD i [] ++ unitsL (Lib.itoa n) ++ blanks.getD k [] := by
    simp [around, blankAt, txt]
  have hs : (around i n k).size = (around i n k).data.toList.length := rfl
  have hul := unitsL_len (Lib.itoa n)
  have hpu := pairs_units (Lib.itoa n) (blanks.getD k [])
  unfold readU
  rw [hs, hd]
  generalize blanks.getD i [] = p at *
  generalize blanks.getD k [] = q at *
  rw [if_pos (by simp only [List.length_append, hul]; omega)]
  have hp : pairs (p ++ unitsL (Lib.itoa n) ++ q) = pairs p ++ (Lib.itoa n).map (fun b => (b.toNat : Int)) ++ pairs q := by
    rw [List.append_assoc, pairs_app p _ ei, hpu, List.append_assoc]
  rw [hp]
  have hm : ∀ x ∈ (Lib.itoa n).map (fun b => (b.toNat : Int)), blankB x = false ∧ badB x = false := by
    intro x hx
    obtain ⟨b, hb, rfl⟩ := List.mem_map.1 hx
    exact char_ok (itoa_char n b hb)
  have hne : (Lib.itoa n).map (fun b => (b.toNat : Int)) ≠ [] := by simpa using itoa_ne n
  obtain ⟨t1, t2⟩ := trim_around (pairs p) _ (pairs q) bi bk hne (fun x hx => (hm x hx).1)
  unfold readL
  rw [t1, t2, if_neg (by simp [hne]), bytes_map, plain_itoa, decInt_itoa n h0 h1]
  rw [if_neg]
  · simp only [toldO]
  · intro h
    obtain ⟨x, hx, hb⟩ := List.any_eq_true.1 h
    rw [(hm x hx).2] at hb
    cases hb
end Go.Proofs.YtjapgngbphnapaaDoor.Num
