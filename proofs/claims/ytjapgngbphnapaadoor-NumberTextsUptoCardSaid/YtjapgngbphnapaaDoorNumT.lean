/-
  PLAIN LAWS: number.Read and the reference's Read come to the same at every text. No walk in this text.
-/
import Derived.Test.YtjapgngbphnapaaDoorNumQ
namespace Go.Proofs.YtjapgngbphnapaaDoor.Num
open Go.Proofs.YtjapgngbphnapaaDoor.NumP Go.Proofs.YtjapgngbphnapaaDoorW.PrintWords Go.RowKit

def ints (l : List UInt8) : List Int := l.map fun b => (b.toNat : Int)

/-! A numeral in base 10. -/
theorem dec_some : ∀ (r : List UInt8) (acc : Nat) (n : Int), (acc : Int) ≤ 100000000000000000 → digitsR 10 acc (ints r) = some n → 0 ≤ n ∧ n ≤ 100000000000000000 ∧ Lib.parseUintM 18446744073709551615 acc r = .ok n.toNat
  | [], acc, n, ha, h => by
    simp only [ints, List.map_nil, digitsR, Option.some.injEq] at h
    subst h
    exact ⟨by omega, by omega, rfl⟩
  | c :: r, acc, n, ha, h => by
    simp only [ints, List.map_cons, digitsR] at h
    split at h
    · cases h
    · rename_i hc
      have hc1 : valB (c.toNat : Int) < 10 := by omega
      have hc2 : (acc : Int) ≤ 9007199254740991 := by omega
      have hd : 48 ≤ c.toNat ∧ c.toNat ≤ 57 ∧ valB (c.toNat : Int) = ((c.toNat - 48 : Nat) : Int) := by
        unfold valB at hc1 ⊢
        split at hc1
        · rename_i h1
          rw [if_pos h1]
          omega
        · split at hc1
          · omega
          · split at hc1 <;> omega
      obtain ⟨d0, d1, dv⟩ := hd
      have e : (10 : Int) * acc + valB (c.toNat : Int) = ((acc * 10 + (c.toNat - 48) : Nat) : Int) := by rw [dv]; omega
      rw [e] at h
      obtain ⟨k1, k2, k3⟩ := dec_some r (acc * 10 + (c.toNat - 48)) n (by omega) h
      refine ⟨k1, k2, ?_⟩
      simp only [Lib.parseUintM]
      rw [if_pos ⟨d0, d1⟩, if_neg (by omega), if_neg (by omega)]
      exact k3

theorem dec_ge : ∀ (r : List UInt8) (acc u : Nat), Lib.parseUintM 18446744073709551615 acc r = .ok u → acc ≤ u
  | [], acc, u, h => by simp only [Lib.parseUintM] at h; cases h; exact Nat.le_refl _
  | c :: r, acc, u, h => by
    simp only [Lib.parseUintM] at h
    split at h
    · split at h
      · cases h
      · split at h
        · cases h
        · have := dec_ge r _ u h
          omega
    · cases h

theorem dec_none : ∀ (r : List UInt8) (acc u : Nat), digitsR 10 acc (ints r) = none → Lib.parseUintM 18446744073709551615 acc r = .ok u → 9007199254740991 < u
  | [], acc, u, h, _ => by simp [ints, digitsR] at h
  | c :: r, acc, u, h, hp => by
    simp only [ints, List.map_cons, digitsR] at h
    simp only [Lib.parseUintM] at hp
    split at hp
    · rename_i hd
      split at hp
      · cases hp
      · split at hp
        · cases hp
        · have dv : valB (c.toNat : Int) = ((c.toNat - 48 : Nat) : Int) := by
            unfold valB
            rw [if_pos (by omega)]; omega
          split at h
          · rename_i hc
            have := dec_ge r _ u hp
            rcases hc with hc | hc
            · rw [dv] at hc; omega
            · omega
          · have e : (10 : Int) * acc + valB (c.toNat : Int) = ((acc * 10 + (c.toNat - 48) : Nat) : Int) := by rw [dv]; omega
            rw [e] at h
            exact dec_none r _ u h hp
    · cases hp

/-! A numeral in base 16. -/
theorem hex_fin : ∀ c : Fin 256, hexVal (UInt8.ofNat c.val) = if valB (c.val : Int) < 16 then some (valB (c.val : Int)).toNat else none := by decide +kernel
theorem hex_val (c : UInt8) : hexVal c = if valB (c.toNat : Int) < 16 then some (valB (c.toNat : Int)).toNat else none := by
  have := hex_fin ⟨c.toNat, c.toNat_lt⟩
  simpa using this

theorem hex_some : ∀ (r : List UInt8) (acc : Nat) (n : Int), (acc : Int) ≤ 1000000000000000000 → digitsR 16 acc (ints r) = some n → 0 ≤ n ∧ n ≤ 1000000000000000000 ∧ hexFrom acc r = .ok n.toNat
  | [], acc, n, ha, h => by
    simp only [ints, List.map_nil, digitsR, Option.some.injEq] at h
    subst h
    exact ⟨by omega, by omega, rfl⟩
  | c :: r, acc, n, ha, h => by
    simp only [ints, List.map_cons, digitsR] at h
    split at h
    · cases h
    · rename_i hc
      have hc1 : valB (c.toNat : Int) < 16 := by omega
      have hc0 := (valB_range (c.toNat : Int)).1
      have e : (16 : Int) * acc + valB (c.toNat : Int) = ((acc * 16 + (valB (c.toNat : Int)).toNat : Nat) : Int) := by omega
      rw [e] at h
      obtain ⟨k1, k2, k3⟩ := hex_some r _ n (by omega) h
      refine ⟨k1, k2, ?_⟩
      simp only [hexFrom, hex_val, if_pos hc1]
      rw [if_neg (by omega)]
      exact k3

theorem hex_ge : ∀ (r : List UInt8) (acc u : Nat), hexFrom acc r = .ok u → acc ≤ u
  | [], acc, u, h => by simp only [hexFrom] at h; cases h; exact Nat.le_refl _
  | c :: r, acc, u, h => by
    simp only [hexFrom] at h
    split at h
    · cases h
    · split at h
      · cases h
      · have := hex_ge r _ u h
        omega

theorem hex_none : ∀ (r : List UInt8) (acc u : Nat), digitsR 16 acc (ints r) = none → hexFrom acc r = .ok u → 9007199254740991 < u
  | [], acc, u, h, _ => by simp [ints, digitsR] at h
  | c :: r, acc, u, h, hp => by
    have hc0 := (valB_range (c.toNat : Int)).1
    simp only [ints, List.map_cons, digitsR] at h
    simp only [hexFrom, hex_val] at hp
    by_cases hv : valB (c.toNat : Int) < 16
    · rw [if_pos hv] at hp
      simp only at hp
      split at hp
      · cases hp
      · split at h
        · rename_i hc
          have := hex_ge r _ u hp
          omega
        · have e : (16 : Int) * acc + valB (c.toNat : Int) = ((acc * 16 + (valB (c.toNat : Int)).toNat : Nat) : Int) := by omega
          rw [e] at h
          exact hex_none r _ u h hp
    · rw [if_neg hv] at hp
      cases hp

def okO : Lib.NumEnd Int → Option Int
  | .ok v => some v
  | _ => none
theorem decInt_eq (l : List UInt8) : decInt l = okO (Lib.parseIntB 64 l) := by
  unfold decInt
  cases Lib.parseIntB 64 l <;> rfl

theorem told_no {n : Int} (h : 9007199254740991 < n ∨ n < -9007199254740991) : toldO (some n) = (0, 100) := by
  have hs : safeB n = false := by
    cases e : safeB n with
    | false => rfl
    | true => have := safe_iff.1 e; omega
  simp [toldO, hs]

/-- What the digits come to, and what parsing makes of them: at base 10, with a sign. -/
theorem dec_plus (r : List UInt8) (hr : r ≠ []) : (match digitsR 10 0 (ints r) with
    | none => (0, 100)
    | some n => toldO (some (1 * n))) = toldO (okO (Lib.signlessC (2 ^ (64 - 1)) (Lib.parseUintB 64 r))) := by
  have e : (2 : Nat) ^ (64 - 1) = 9223372036854775808 := by decide
  have eM : (2 : Nat) ^ 64 - 1 = 18446744073709551615 := by decide
  unfold Lib.parseUintB
  rw [if_neg hr, e, eM]
  cases h : digitsR 10 0 (ints r) with
  | some n =>
    obtain ⟨h0, h1, h2⟩ := dec_some r 0 n (by omega) h
    rw [h2]
    simp only [Lib.signlessC]
    rw [if_neg (by omega)]
    simp only [okO]
    rw [Int.one_mul, show ((n.toNat : Nat) : Int) = n by omega]
  | none =>
    cases hp : Lib.parseUintM 18446744073709551615 0 r with
    | ok u =>
      have := dec_none r 0 u h hp
      simp only [Lib.signlessC]
      by_cases hb : 9223372036854775808 ≤ u
      · rw [if_pos hb]; rfl
      · rw [if_neg hb]
        simp only [okO]
        rw [told_no (.inl (by omega))]
    | _ => rfl
theorem dec_minus (r : List UInt8) (hr : r ≠ []) : (match digitsR 10 0 (ints r) with
    | none => (0, 100)
    | some n => toldO (some (-1 * n))) = toldO (okO (Lib.signedC (2 ^ (64 - 1)) (Lib.parseUintB 64 r))) := by
  have e : (2 : Nat) ^ (64 - 1) = 9223372036854775808 := by decide
  have eM : (2 : Nat) ^ 64 - 1 = 18446744073709551615 := by decide
  unfold Lib.parseUintB
  rw [if_neg hr, e, eM]
  cases h : digitsR 10 0 (ints r) with
  | some n =>
    obtain ⟨h0, h1, h2⟩ := dec_some r 0 n (by omega) h
    rw [h2]
    simp only [Lib.signedC]
    rw [if_neg (by omega)]
    simp only [okO]
    rw [show -((n.toNat : Nat) : Int) = -1 * n by omega]
  | none =>
    cases hp : Lib.parseUintM 18446744073709551615 0 r with
    | ok u =>
      have := dec_none r 0 u h hp
      simp only [Lib.signedC]
      by_cases hb : 9223372036854775808 < u
      · rw [if_pos hb]; rfl
      · rw [if_neg hb]
        simp only [okO]
        rw [told_no (.inr (by omega))]
    | _ => rfl
theorem hex_plus (r : List UInt8) : (match digitsR 16 0 (ints r) with
    | none => (0, 100)
    | some n => toldO (some (1 * n))) = toldO (hexInt r) := by
  unfold hexInt
  cases h : digitsR 16 0 (ints r) with
  | some n =>
    obtain ⟨h0, h1, h2⟩ := hex_some r 0 n (by omega) h
    rw [h2]
    simp only
    rw [if_pos (by omega), Int.one_mul, show ((n.toNat : Nat) : Int) = n by omega]
  | none =>
    cases hp : hexFrom 0 r with
    | ok u =>
      have := hex_none r 0 u h hp
      simp only
      split
      · rw [told_no (.inl (by omega))]
      · rfl
    | error b => rfl

/-! The two Reads. -/
theorem ints_bytes : ∀ (zs : List Int), (∀ x ∈ zs, 0 ≤ x ∧ x < 256) → ints (bytes zs) = zs
  | [], _ => rfl
  | x :: r, h => by
    have hx := h x (by simp)
    have e : ((UInt8.ofNat x.toNat).toNat : Int) = x := by simp; omega
    show ((UInt8.ofNat x.toNat).toNat : Int) :: ints (bytes r) = x :: r
    rw [e, ints_bytes r (fun y hy => h y (by simp [hy]))]

theorem digitsR_bad (B : Int) (hB : B ≤ 16) : ∀ (ds : List Int) (n : Int), (∃ x ∈ ds, 16 ≤ valB x) → digitsR B n ds = none
  | [], _, h => by obtain ⟨x, hx, _⟩ := h; cases hx
  | d :: r, n, h => by
    simp only [digitsR]
    by_cases hd : 16 ≤ valB d
    · rw [if_pos (.inl (by omega))]
    · split
      · rfl
      · apply digitsR_bad B hB r
        obtain ⟨x, hx, hv⟩ := h
        rcases List.mem_cons.1 hx with rfl | hx
        · exact absurd hv hd
        · exact ⟨x, hx, hv⟩

theorem bad_val {x : Int} (h : badB x = true) : valB x = 99 ∧ x ≠ 43 ∧ x ≠ 45 ∧ x ≠ 48 ∧ x ≠ 120 ∧ x ≠ 88 := by
  have h' : 127 < x ∨ x = 95 := by simpa [badB] using h
  refine ⟨?_, by omega, by omega, by omega, by omega, by omega⟩
  unfold valB
  rw [if_neg (by omega), if_neg (by omega), if_neg (by omega)]

theorem parts_mem {zs : List Int} {x : Int} (hx : x ∈ zs) (h : badB x = true) : x ∈ (partsR zs).2.2 ∧ (partsR zs).1 ≤ 16 := by
  obtain ⟨_, h43, h45, h48, h120, h88⟩ := bad_val h
  match zs, hx with
  | z :: r, hx =>
    simp only [partsR]
    by_cases a43 : z = 43
    · rw [if_pos a43]
      rcases List.mem_cons.1 hx with e | hx
      · exact absurd (e.trans a43) h43
      · exact ⟨hx, show (10 : Int) ≤ 16 by decide⟩
    · rw [if_neg a43]
      by_cases a45 : z = 45
      · rw [if_pos a45]
        rcases List.mem_cons.1 hx with e | hx
        · exact absurd (e.trans a45) h45
        · exact ⟨hx, show (10 : Int) ≤ 16 by decide⟩
      · rw [if_neg a45]
        cases r with
        | nil => exact ⟨hx, show (10 : Int) ≤ 16 by decide⟩
        | cons y q =>
          simp only
          by_cases a48 : z = 48 ∧ (y = 120 ∨ y = 88)
          · rw [if_pos a48]
            refine ⟨?_, show (16 : Int) ≤ 16 by decide⟩
            rcases List.mem_cons.1 hx with e | hx
            · exact absurd (e.trans a48.1) h48
            · rcases List.mem_cons.1 hx with e | hx
              · rcases a48.2 with a | a
                · exact absurd (e.trans a) h120
                · exact absurd (e.trans a) h88
              · exact hx
          · rw [if_neg a48]
            exact ⟨hx, show (10 : Int) ≤ 16 by decide⟩

theorem refT_bad {zs : List Int} (h : zs.any badB = true) : refT zs = (0, 100) := by
  obtain ⟨x, hx, hb⟩ := List.any_eq_true.1 h
  obtain ⟨hm, hB⟩ := parts_mem hx hb
  unfold refT
  rw [if_neg (List.ne_nil_of_mem hx), if_neg (List.ne_nil_of_mem hm), digitsR_bad _ hB _ 0 ⟨x, hm, by rw [(bad_val hb).1]; decide⟩]

theorem toNat_43 {c : UInt8} : (c.toNat : Int) = 43 ↔ c = 43 := ⟨fun h => UInt8.toNat.inj (Int.ofNat.inj h), fun h => by rw [h]; rfl⟩
theorem toNat_45 {c : UInt8} : (c.toNat : Int) = 45 ↔ c = 45 := ⟨fun h => UInt8.toNat.inj (Int.ofNat.inj h), fun h => by rw [h]; rfl⟩
theorem toNat_48 {c : UInt8} : (c.toNat : Int) = 48 ↔ c = 48 := ⟨fun h => UInt8.toNat.inj (Int.ofNat.inj h), fun h => by rw [h]; rfl⟩
theorem toNat_88 {c : UInt8} : (c.toNat : Int) = 88 ↔ c = 88 := ⟨fun h => UInt8.toNat.inj (Int.ofNat.inj h), fun h => by rw [h]; rfl⟩
theorem toNat_120 {c : UInt8} : (c.toNat : Int) = 120 ↔ c = 120 := ⟨fun h => UInt8.toNat.inj (Int.ofNat.inj h), fun h => by rw [h]; rfl⟩

theorem decInt_plus (r : List UInt8) : decInt (43 :: r) = okO (Lib.signlessC (2 ^ (64 - 1)) (Lib.parseUintB 64 r)) := by
  rw [decInt_eq, Lib.parseIntB_plus]
theorem decInt_minus (r : List UInt8) : decInt (45 :: r) = okO (Lib.signedC (2 ^ (64 - 1)) (Lib.parseUintB 64 r)) := by
  rw [decInt_eq, Lib.parseIntB_minus]
theorem decInt_plain {c : UInt8} (r : List UInt8) (h43 : c ≠ 43) (h45 : c ≠ 45) : decInt (c :: r) = okO (Lib.signlessC (2 ^ (64 - 1)) (Lib.parseUintB 64 (c :: r))) := by
  rw [decInt_eq, Lib.parseIntB_plain 64 c r (fun h => h43 (UInt8.toNat.inj h)) (fun h => h45 (UInt8.toNat.inj h))]

theorem ints_ne {l : List UInt8} (h : l ≠ []) : ints l ≠ [] := by
  cases l with
  | nil => exact absurd rfl h
  | cons c r => simp [ints]

theorem refT_plain (l : List UInt8) (hl : l ≠ []) : refT (ints l) = plainRead l := by
  cases l with
  | nil => exact absurd rfl hl
  | cons c r =>
    by_cases h43 : c = 43
    · subst h43
      have hp : partsR (ints (43 :: r)) = (10, 1, ints r) := by simp [ints, partsR]
      rw [refT_parts (ints_ne (by simp)) hp]
      have hh : plainRead (43 :: r) = toldO (decInt (43 :: r)) := by simp [plainRead, hexHead]
      rw [hh, decInt_plus]
      by_cases hr : r = []
      · subst hr
        rfl
      · rw [if_neg (ints_ne hr)]
        exact dec_plus r hr
    · by_cases h45 : c = 45
      · subst h45
        have hp : partsR (ints (45 :: r)) = (10, -1, ints r) := by simp [ints, partsR]
        rw [refT_parts (ints_ne (by simp)) hp]
        have hh : plainRead (45 :: r) = toldO (decInt (45 :: r)) := by simp [plainRead, hexHead]
        rw [hh, decInt_minus]
        by_cases hr : r = []
        · subst hr
          rfl
        · rw [if_neg (ints_ne hr)]
          exact dec_minus r hr
      · have i43 : ¬ (c.toNat : Int) = 43 := fun h => h43 (toNat_43.1 h)
        have i45 : ¬ (c.toNat : Int) = 45 := fun h => h45 (toNat_45.1 h)
        have plain : partsR (ints (c :: r)) = (10, 1, ints (c :: r)) → hexHead (c :: r) = false → refT (ints (c :: r)) = plainRead (c :: r) := fun hp hh => by
          rw [refT_parts (ints_ne (by simp)) hp, if_neg (ints_ne (by simp))]
          have : plainRead (c :: r) = toldO (decInt (c :: r)) := by simp [plainRead, hh]
          rw [this, decInt_plain r h43 h45]
          exact dec_plus (c :: r) (by simp)
        cases r with
        | nil =>
          exact plain (by simp [ints, partsR, i43, i45]) (by simp [hexHead])
        | cons y q =>
          by_cases hx : c = 48 ∧ (y = 120 ∨ y = 88)
          · obtain ⟨rfl, hy⟩ := hx
            have hp : partsR (ints (48 :: y :: q)) = (16, 1, ints q) := by
              rcases hy with rfl | rfl <;> simp [ints, partsR]
            rw [refT_parts (ints_ne (by simp)) hp]
            cases q with
            | nil =>
              rw [if_pos (show ints [] = [] from rfl)]
              rcases hy with rfl | rfl <;> decide +kernel
            | cons z t =>
              rw [if_neg (ints_ne (by simp)), head_yes ⟨rfl, hy⟩]
              by_cases hs : signB z = true
              · rw [if_pos hs]
                have : 16 ≤ valB (z.toNat : Int) := by
                  have : z = 45 ∨ z = 43 := by simpa [signB] using hs
                  rcases this with rfl | rfl <;> decide
                rw [digitsR_bad 16 (by decide) (ints (z :: t)) 0 ⟨_, by simp [ints], this⟩]
              · rw [if_neg hs]
                exact hex_plus (z :: t)
          · refine plain ?_ ?_
            · have : ¬ ((c.toNat : Int) = 48 ∧ ((y.toNat : Int) = 120 ∨ (y.toNat : Int) = 88)) := by
                rw [toNat_48, toNat_120, toNat_88]; exact hx
              simp only [ints, List.map_cons, partsR]
              rw [if_neg i43, if_neg i45, if_neg this]
            · by_cases h48 : c = 48
              · have h1 : y ≠ 120 := fun e => hx ⟨h48, .inl e⟩
                have h2 : y ≠ 88 := fun e => hx ⟨h48, .inr e⟩
                simp [hexHead, h1, h2]
              · simp [hexHead, h48]

theorem dropWhile_all {p : Int → Bool} : ∀ (l : List Int), l.dropWhile p = [] → ∀ x ∈ l, p x = true
  | [], _, x, h => by cases h
  | y :: l, h, x, hx => by
    rw [List.dropWhile_cons] at h
    split at h
    · rename_i hp
      rcases List.mem_cons.1 hx with rfl | hx
      · exact hp
      · exact dropWhile_all l h x hx
    · cases h

/-- THE TWO READS AGREE. -/
theorem refL_readL (xs : List Int) (hr : ∀ x ∈ xs, 0 ≤ x ∧ x < 65536) : refL xs = readL xs := by
  rw [refL_eq]
  unfold readL
  by_cases ht : trimL xs = []
  · rw [if_pos ht, ht]
    rfl
  · rw [if_neg ht]
    by_cases hb : (trimR (trimL xs)).any badB = true
    · rw [if_pos hb]
      exact refT_bad hb
    · rw [if_neg hb]
      have hne : trimR (trimL xs) ≠ [] := by
        cases h : trimL xs with
        | nil => exact absurd h ht
        | cons z t =>
          have hz : blankB z = false := by
            have := (firstFrom_some xs 0 ht).2.2
            rw [h] at this
            simpa using this
          intro e
          have e2 : (z :: t).reverse.dropWhile blankB = [] := by
            have := congrArg List.reverse e
            simpa [trimR] using this
          have : ∀ x ∈ (z :: t).reverse, blankB x = true := by
            exact dropWhile_all _ e2
          have := this z (by simp)
          rw [hz] at this
          cases this
      have hrg : ∀ x ∈ trimR (trimL xs), 0 ≤ x ∧ x < 256 := fun x hx => by
        have h1 : x ∈ trimL xs := by
          have : x ∈ (trimL xs).reverse := (List.dropWhile_sublist _).subset (List.mem_reverse.1 hx)
          exact List.mem_reverse.1 this
        have h2 := hr x ((List.dropWhile_sublist _).subset h1)
        have h3 : badB x = false := by
          cases e : badB x with
          | false => rfl
          | true => exact absurd (List.any_eq_true.2 ⟨x, hx, e⟩) hb
        have h4 : ¬ 127 < x := fun h => by simp [badB, h] at h3
        omega
      have hbn : bytes (trimR (trimL xs)) ≠ [] := by
        intro e
        exact hne (by simpa [bytes] using e)
      have := refT_plain (bytes (trimR (trimL xs))) hbn
      rw [ints_bytes _ hrg] at this
      exact this
end Go.Proofs.YtjapgngbphnapaaDoor.Num
