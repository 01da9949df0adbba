/-
  WALKS: the reference's Read (layer 10).
-/
import Derived.Test.YtjapgngbphnapaaDoorNumR
set_option linter.unusedSimpArgs false
namespace Go.Proofs.YtjapgngbphnapaaDoor.Num
open Go.Proofs.YtjapgngbphnapaaDoor.NumP Go.Proofs.YtjapgngbphnapaaDoorW.PrintWords Go.RowKit Go.Proofs.YtjapgngbphnapaaDoorW.PrintLast Go.Proofs.YtjapgngbphnapaaDoorW.PrintMore

theorem list_l0 (u : ByteArray) (hs : u.size ≤ 1099511627776) (he : u.size % 2 = 0) (d : Nat) : ∀ (k i : Nat), i + d = u.size / 2 → d < k →
    credenzaref01_List.l0 k u ((pairs u.data.toList).take i) ((2 * i : Nat) : Int) = some (pairs u.data.toList) := by
  have hl : (pairs u.data.toList).length = u.size / 2 := pairs_len _
  have hz : u.data.toList.length = u.size := rfl
  have eu : (⟨u.data.toList.toArray⟩ : ByteArray) = u := by cases u; simp
  induction d with
  | zero =>
    intro k i hi hk
    obtain ⟨k, rfl⟩ : ∃ m, k = m + 1 := ⟨k - 1, by omega⟩
    simp only [credenzaref01_List.l0]
    rw [w64 (by omega) (by omega), if_neg (by omega), List.take_of_length_le (by omega)]
  | succ d ih =>
    intro k i hi hk
    obtain ⟨k, rfl⟩ : ∃ m, k = m + 1 := ⟨k - 1, by omega⟩
    have b1 := bt_at u.data.toList (2 * i) (by omega)
    have b2 := bt_at u.data.toList (2 * i + 1) (by omega)
    rw [eu] at b1 b2
    have e1 : wrap64 (((2 * i : Nat) : Int) + 1) = ((2 * i + 1 : Nat) : Int) := by rw [w64 (by omega) (by omega)]; omega
    have e2 : wrap64 (((2 * i : Nat) : Int) + 2) = ((2 * (i + 1) : Nat) : Int) := by rw [w64 (by omega) (by omega)]; omega
    have l1 := (u.data.toList[2 * i]'(by omega)).toNat_lt
    have l2 := (u.data.toList[2 * i + 1]'(by omega)).toNat_lt
    have hg := pairs_get i u.data.toList (by omega)
    simp only [credenzaref01_List.l0]
    rw [e1, e2, if_pos (by omega), if_pos (by omega), if_pos (by omega), if_pos (by omega), if_pos (by rw [List.length_take]; omega), b1, b2,
      w64 (x := ((u.data.toList[2 * i]'(by omega)).toNat : Int)) (by omega) (by omega), w64 (x := ((u.data.toList[2 * i]'(by omega)).toNat : Int) * 256) (by omega) (by omega),
      w64 (x := ((u.data.toList[2 * i + 1]'(by omega)).toNat : Int)) (by omega) (by omega), w64 (by omega) (by omega), ← hg]
    have := ih k (i + 1) (by omega) (by omega)
    rw [List.take_succ_eq_append_getElem (by omega)] at this
    have hgd : (pairs u.data.toList).getD i 0 = (pairs u.data.toList)[i]'(by omega) := by simp [List.getD, show i < (pairs u.data.toList).length by omega]
    rw [hgd]
    exact this

theorem list_f (u : ByteArray) (hs : u.size ≤ 1099511627776) (he : u.size % 2 = 0) : credenzaref01_List.f (u.size + 1) u = some (pairs u.data.toList) := by
  have := list_l0 u hs he (u.size / 2) (u.size + 1) 0 (by omega) (by omega)
  simpa [credenzaref01_List.f] using this

theorem trimL_drop {xs : List Int} {f : Nat} (h : f < xs.length) : trimL (xs.drop f) = if blankB (xs.getD f 0) then trimL (xs.drop (f + 1)) else xs.drop f := by
  have e : xs.drop f = xs.getD f 0 :: xs.drop (f + 1) := by rw [List.drop_eq_getElem_cons h]; simp [List.getD, h]
  rw [e]
  unfold trimL
  rw [List.dropWhile_cons]

theorem valB_range (x : Int) : 0 ≤ valB x ∧ valB x ≤ 99 := by
  unfold valB
  split
  · omega
  · split
    · omega
    · split <;> omega

/-- What the reference's Read makes of trimmed units. -/
def refT (zs : List Int) : Int × Int :=
  if zs = [] then (0, 0)
  else if (partsR zs).2.2 = [] then (0, 100)
  else match digitsR (partsR zs).1 0 (partsR zs).2.2 with
    | none => (0, 100)
    | some n => toldO (some ((partsR zs).2.1 * n))
theorem refL_eq (xs : List Int) : refL xs = refT (trimR (trimL xs)) := rfl
theorem refT_parts {zs ds : List Int} {B S : Int} (hne : zs ≠ []) (h : partsR zs = (B, S, ds)) : refT zs = if ds = [] then (0, 100) else match digitsR B 0 ds with
    | none => (0, 100)
    | some n => toldO (some (S * n)) := by
  unfold refT
  rw [if_neg hne, h]

set_option maxHeartbeats 16000000 in
set_option maxRecDepth 100000 in
theorem rread_walk (u : ByteArray) (hc : credenzaref01_Check.f u = some true) (kk : Nat) (xs : List Int) (hf : credenzaref01_List.f kk u = some xs) (hN : xs.length ≤ 1099511627776) (hr : ∀ x ∈ xs, 0 ≤ x ∧ x < 65536) (w : World) :
    Calls Tryd.prog 7 #[.string u] w fun e w' => e = .returned (.tuple #[.int .i64 (refL xs).1, .int .i64 (refL xs).2]) ∧ Below w.heap.size w w' := by
  have HC := Lib.hid hc
  have HF := Lib.hid hf
  have HR := Lib.hid hr
  clear hc hf hr
  go_enter Tryd.func7, Tryd.ntmps7
  go_wp2_with (first
    | (go_at_call 23; refine (credenzaref01_Check.calls u _ _ HC.out).mono ?_; rintro e w1 ⟨rfl, ⟨n1, rfl⟩⟩)
    | (go_at_call 24; refine (credenzaref01_List.calls kk u _ _ HF.out).mono ?_; rintro e w2 ⟨v, rfl, hO, hb⟩; have HB := Lib.hid ((below_mk0 w n1).trans hb); have HO := Lib.hid hO; clear hO hb; refine Hid.out ?_))
  obtain ⟨A, c, rfl⟩ := Kd.R_slice HO.out
  obtain ⟨_, hcap, _⟩ := Kd.R_reads' HO.out
  have hcell : ∃ g, (0 < xs.length → A = some ⟨g, 0, none⟩) ∧ CellsAt w2 g 0 xs := by
    by_cases hz : 0 < xs.length
    · obtain ⟨g, cap, hf, _⟩ := Kd.R_form HO.out hz
      cases hf
      refine ⟨g, fun _ => rfl, fun j hj => ?_⟩
      have := (Kd.R_celln 0 HO.out (j : Int) (by omega) (by omega)).1
      simpa [rdOf, rd] using this
    · exact ⟨0, fun h => absurd h hz, fun j hj => by omega⟩
  obtain ⟨g, hA, hcell⟩ := hcell
  have HCELL := Lib.hid hcell
  have HA := Lib.hid hA
  clear hcell HO hA
  refine Lib.hid ?_
  go_wp2_with fail
  go_loopw [4] (fun v4 w3 => ∃ (f q : Nat) (A : Option Addr), f ≤ xs.length ∧ v4 = .slice A (xs.length - f) (c - f) ∧ w3 = w2.drewN q ∧ Hid (f < xs.length → A = some ⟨g, f, none⟩) ∧ Hid (trimL (xs.drop f) = trimL xs)) (fun v4 _ => match v4 with | .slice _ m _ => m | _ => 0)
  case atStart => exact ⟨0, 0, A, Nat.zero_le _, rfl, rfl, HA, Lib.hid rfl⟩
  case round =>
    clear HA
    obtain ⟨f, q, A, hf, rfl, rfl, HA, HT⟩ := hrel
    by_cases hlt : f < xs.length
    · have hA := HA.out hlt
      subst hA
      clear HA
      have hcell := HCELL.out f hlt
      rw [Nat.zero_add] at hcell
      have htd := trimL_drop hlt
      generalize hx : xs.getD f 0 = x at hcell htd
      have HX := Lib.hid hx
      have HTD := Lib.hid htd
      have hb := Lib.hid (rblank_f x)
      clear hx htd
      have g1 : (0 : Int) < ((xs.length - f : Nat) : Int) := by omega
      have g2 : 0 < xs.length - f := by omega
      cases hbl : blankB x with
      | true =>
        have HBL := Lib.hid hbl
        clear hbl
        have hs2 : c - f - 1 = c - (f + 1) := by omega
        have hs3 : xs.length - f - 1 = xs.length - (f + 1) := by omega
        have HTN : Hid (trimL (xs.drop (f + 1)) = trimL xs) := Lib.hid (by rw [← HT.out, HTD.out, HBL.out]; rfl)
        have HS2 := Lib.hid hs2
        have HS3 := Lib.hid hs3
        clear hs2 hs3
        by_cases hc1 : c - f = 1
        · have hend : ¬ f + 1 < xs.length := by omega
          go_wp2_with (go_at_call 25; refine (credenzaref10_blank.calls x _ _ hb.out).mono ?_; rintro e w4 ⟨rfl, ⟨n4, rfl⟩⟩; rw [HBL.out])
          refine ⟨⟨f + 1, _, some ⟨g, f, none⟩, by omega, ?_, rfl, Lib.hid (fun h => absurd h hend), HTN⟩, ?_⟩
          · rw [← HS3.out, show c - (f + 1) = 0 by omega]
          · simp; omega
        · go_wp2_with (go_at_call 25; refine (credenzaref10_blank.calls x _ _ hb.out).mono ?_; rintro e w4 ⟨rfl, ⟨n4, rfl⟩⟩; rw [HBL.out])
          refine ⟨⟨f + 1, _, _, by omega, ?_, rfl, Lib.hid (fun h => rfl), HTN⟩, ?_⟩
          · rw [← HS3.out, ← HS2.out]
          · simp; omega
      | false =>
        have HBL := Lib.hid hbl
        have hty : trimL xs = xs.drop f := by rw [← HT.out, HTD.out, HBL.out]; rfl
        have HTY := Lib.hid hty
        clear hbl hty HT HTD
        go_wp2_with (go_at_call 25; refine (credenzaref10_blank.calls x _ _ hb.out).mono ?_; rintro e w4 ⟨rfl, ⟨n4, rfl⟩⟩; rw [HBL.out]; refine Hid.out ?_)
        have hcy : CellsAt (w2.drewN (q + n4)) g f (trimL xs) := fun k hk => by
          have e := HTY.out
          rw [e, List.length_drop] at hk
          have := HCELL.out (f + k) (by omega)
          rw [Nat.zero_add] at this
          rw [e]
          simpa [List.getD] using this
        have hly : (trimL xs).length = xs.length - f := by rw [HTY.out, List.length_drop]
        have hry : ∀ x ∈ trimL xs, 0 ≤ x ∧ x < 65536 := fun x hx => HR.out x ((List.dropWhile_sublist _).subset hx)
        have hy0 : (trimL xs).getD 0 0 = x := by rw [HTY.out, ← HX.out]; simp [List.getD]
        have HB1 := Lib.hid (below_dr HB.out (q + n4))
        have HRES : Hid (refL xs = refT (trimR (trimL xs))) := Lib.hid (refL_eq xs)
        clear HB HR HCELL HTY HX hcell
        generalize w2.drewN (q + n4) = W1 at *
        generalize trimL xs = ys at *
        have HCY := Lib.hid hcy
        have HLY := Lib.hid hly
        have HRY := Lib.hid hry
        have HY0 := Lib.hid hy0
        clear hcy hly hry hy0
        refine Lib.hid ?_
        go_wp2_with fail
        go_loopw [4] (fun v4 w3 => ∃ m q : Nat, 1 ≤ m ∧ m ≤ xs.length - f ∧ v4 = .slice (some ⟨g, f, none⟩) m (c - f) ∧ w3 = W1.drewN q ∧ Hid (trimR (ys.take m) = trimR ys)) (fun v4 _ => match v4 with | .slice _ m _ => m | _ => 0)
        case atStart => exact ⟨xs.length - f, 0, by omega, Nat.le_refl _, rfl, rfl, Lib.hid (by rw [List.take_of_length_le (by have := HLY.out; omega)])⟩
        case round =>
          obtain ⟨m, q, hm1, hm2, rfl, rfl, HT⟩ := hrel
          obtain ⟨m, rfl⟩ : ∃ k, m = k + 1 := ⟨m - 1, by omega⟩
          have hlm : m < ys.length := by have := HLY.out; omega
          have hcell := HCY.out m hlm
          have HLT := Lib.hid hlm
          have htk : ys.take (m + 1) = ys.take m ++ [ys.getD m 0] := by
            rw [List.take_succ_eq_append_getElem hlm]; simp [List.getD, hlm]
          have HTK := Lib.hid htk
          have hz : m = 0 → blankB (ys.getD m 0) = false := fun e => by rw [e, HY0.out]; exact HBL.out
          have HZ := Lib.hid hz
          clear hz htk hlm
          generalize hyv : ys.getD m 0 = y at hcell HTK HZ
          have HYV := Lib.hid hyv
          clear hyv
          have hbf := Lib.hid (rblank_f y)
          cases hb : blankB y with
          | true =>
            have HBL2 := Lib.hid hb
            have hm0 : 0 < m := by
              rcases Nat.eq_zero_or_pos m with e | e
              · have := HZ.out e; rw [hb] at this; cases this
              · exact e
            clear hb
            go_wp2_with (go_at_call 25; refine (credenzaref10_blank.calls y _ _ hbf.out).mono ?_; rintro e w1 ⟨rfl, ⟨n4, rfl⟩⟩; rw [HBL2.out])
            go_roundw
            case rel =>
              refine ⟨m, _, by omega, by omega, ?_, rfl, Lib.hid ?_⟩
              · rfl
              · rw [← HT.out, HTK.out, trimR_snoc, HBL2.out]; rfl
            case measure => simp
          | false =>
            rcases m with _ | _ | k
            · simp only [Nat.zero_add, Nat.add_zero, Nat.reduceAdd] at *
              have HBL2 := Lib.hid hb
              clear hb HZ
              go_wp2_with (go_at_call 25; refine (credenzaref10_blank.calls y _ _ hbf.out).mono ?_; rintro e w1 ⟨rfl, ⟨n4, rfl⟩⟩; rw [HBL2.out]; refine Hid.out ?_)
              have hzs : trimR ys = ys.take (1) := by rw [← HT.out, HTK.out, trimR_snoc, HBL2.out]; rfl
              have HZS : Hid (refL xs = refT (ys.take (1))) := Lib.hid (by rw [HRES.out, hzs])
              clear hzs HTK HT HBL2 hbf HYV hcell
              have HB2 := Lib.hid (below_dr HB1.out (q + n4))
              have hcz : CellsAt (W1.drewN (q + n4)) g f (ys.take (1)) := fun i hi => by
                rw [List.length_take] at hi
                have := HCY.out i (by omega)
                rw [show (ys.take (1)).getD i 0 = ys.getD i 0 by simp only [List.getD, List.getElem?_take, show i < 1 by omega, if_true]]
                exact this
              have hlz : (ys.take (1)).length = 1 := by rw [List.length_take]; have := HLT.out; omega
              have hrz : ∀ x ∈ ys.take (1), 0 ≤ x ∧ x < 65536 := fun x hx => HRY.out x (List.mem_of_mem_take hx)
              generalize W1.drewN (q + n4) = W2 at *
              clear HLT HRY HLY HCY HY0 HRES HB1 HBL n4 q
              generalize ys.take (1) = zs at *
              obtain ⟨z0, rfl⟩ : ∃ z0, zs = [z0] := by
                match zs, hlz with
                | [z0], _ => exact ⟨z0, rfl⟩
              have hc0_ : W2.cell? ⟨g, f, none⟩ = some (.int .i64 z0) := hcz 0 (by simp)
              by_cases h43 : z0 = 43
              · subst h43
                have hp : partsR ([43]) = (10, 1, []) := by rfl
                have hrt := refT_parts (by simp) hp
                have hres : refL xs = (0, 100) := by rw [HZS.out, hrt]; simp
                have HRS := Lib.hid hres
                clear hres hrt HZS hcz hrz hlz
                by_cases hc1 : c - f = 1
                · refine Lib.hid ?_
                  go_wp2
                  go_ret2
                  exact ⟨by rw [HRS.out]; rfl, HB2.out⟩
                · refine Lib.hid ?_
                  go_wp2
                  go_ret2
                  exact ⟨by rw [HRS.out]; rfl, HB2.out⟩
              · by_cases h45 : z0 = 45
                · subst h45
                  have hp : partsR ([45]) = (10, -1, []) := by rfl
                  have hrt := refT_parts (by simp) hp
                  have hres : refL xs = (0, 100) := by rw [HZS.out, hrt]; simp
                  have HRS := Lib.hid hres
                  clear hres hrt HZS hcz hrz hlz
                  by_cases hc1 : c - f = 1
                  · refine Lib.hid ?_
                    go_wp2
                    go_ret2
                    exact ⟨by rw [HRS.out]; rfl, HB2.out⟩
                  · refine Lib.hid ?_
                    go_wp2
                    go_ret2
                    exact ⟨by rw [HRS.out]; rfl, HB2.out⟩
                · have b43 : (z0 == 43) = false := beq_eq_false_iff_ne.2 h43
                  have b45 : (z0 == 45) = false := beq_eq_false_iff_ne.2 h45
                  have hp : partsR ([z0]) = (10, 1, [z0]) := by simp [partsR, h43, h45]
                  have hdc : CellsAt W2 g (f + 0) ([z0]) := fun i hi => by
                    have := hcz (i + 0) (by simp only [List.length_cons, List.length_nil] at *; omega)
                    rw [show f + 0 + i = f + (i + 0) by omega]
                    simpa using this
                  have hdr : ∀ x ∈ ([z0]), 0 ≤ x ∧ x < 65536 := fun x hx => hrz x (by simp only [List.mem_cons, List.not_mem_nil, or_false] at hx ⊢; first | exact hx | exact .inr hx | exact .inr (.inr hx))
                  have hrt := refT_parts (by simp) hp
                  rw [if_neg (by simp)] at hrt
                  have hres2 := HZS.out.trans hrt
                  have HRS2 := Lib.hid hres2
                  have HDL : Hid (([z0]).length = 1) := Lib.hid (by first | rfl | (simp only [List.length_cons] at hlz ⊢; omega))
                  have HDC : Hid (CellsAt W2 g (f) ([z0])) := Lib.hid hdc
                  have HDR : Hid (∀ x ∈ ([z0]), 0 ≤ x ∧ x < 65536) := Lib.hid hdr
                  clear hrt hres2 HZS hdc hdr hcz hrz hlz
                  refine Lib.hid ?_
                  go_wp2_with fail
                  go_loopw [7, 92] (fun v7 v92 w5 => ∃ (j q : Nat) (n : Int), j ≤ 1 ∧ v7 = .int .i64 n ∧ v92 = .int .i64 j ∧ w5 = W2.drewN q ∧ 0 ≤ n ∧ n ≤ 1000000000000000000 ∧ Hid (digitsR 10 0 ([z0]) = digitsR 10 n (([z0]).drop j))) (fun _ v92 _ => 1 - (intOf v92).toNat)
                  case atStart => exact ⟨0, 0, 0, Nat.zero_le _, rfl, rfl, rfl, by omega, by omega, Lib.hid rfl⟩
                  case round =>
                    obtain ⟨j, q, n, hj, rfl, rfl, rfl, n0, n1, HG⟩ := hrel
                    by_cases hlt : j < 1
                    · have hlt2 : j < ([z0]).length := by have := HDL.out; omega
                      have hcell := HDC.out j hlt2
                      have hx := HDR.out ([z0])[j] (List.getElem_mem hlt2)
                      have hgd : ([z0]).getD j 0 = ([z0])[j] := by simp only [List.getD, List.getElem?_eq_getElem hlt2, Option.getD_some]
                      rw [hgd] at hcell
                      have hdd : ([z0]).drop j = ([z0])[j] :: ([z0]).drop (j + 1) := List.drop_eq_getElem_cons hlt2
                      generalize ([z0])[j] = d at hcell hx hdd
                      have hv := Lib.hid (value_f d hx)
                      have hvb := valB_range d
                      have HDD := Lib.hid hdd
                      clear hdd hgd hx hlt2
                      generalize hvv : valB d = v at hv hvb
                      have HVV := Lib.hid hvv
                      clear hvv
                      have hlt' : (j : Int) < ((1 : Nat) : Int) := by omega
                      by_cases hb1 : 10 ≤ v
                      · have hres : refL xs = (0, 100) := by
                          rw [HRS2.out, HG.out, HDD.out]
                          simp [digitsR, HVV.out, hb1]
                        have HRS3 := Lib.hid hres
                        clear hres HG
                        go_wp2_with (go_at_call 26; refine (credenzaref10_value.calls 3 d _ _ hv.out).mono ?_; rintro e w6 ⟨rfl, ⟨n6, rfl⟩⟩)
                        go_ret2
                        exact ⟨by rw [HRS3.out]; rfl, below_dr HB2.out _⟩
                      · by_cases hb2 : 9007199254740991 < n
                        · have hres : refL xs = (0, 100) := by
                            rw [HRS2.out, HG.out, HDD.out]
                            simp [digitsR, hb2]
                          have HRS3 := Lib.hid hres
                          clear hres HG
                          go_wp2_with (go_at_call 26; refine (credenzaref10_value.calls 3 d _ _ hv.out).mono ?_; rintro e w6 ⟨rfl, ⟨n6, rfl⟩⟩)
                          go_ret2
                          exact ⟨by rw [HRS3.out]; rfl, below_dr HB2.out _⟩
                        · have hb1' : v < 10 := by omega
                          have hb2' : n ≤ 9007199254740991 := by omega
                          have HG2 : Hid (digitsR 10 0 ([z0]) = digitsR 10 (10 * n + v) (([z0]).drop (j + 1))) := Lib.hid (by
                            rw [HG.out, HDD.out]
                            simp only [digitsR, HVV.out]
                            rw [if_neg (by omega)])
                          clear HG hb1 hb2
                          go_wp2_with (go_at_call 26; refine (credenzaref10_value.calls 3 d _ _ hv.out).mono ?_; rintro e w6 ⟨rfl, ⟨n6, rfl⟩⟩)
                          go_roundw
                          case rel => exact ⟨j + 1, _, 10 * n + v, by omega, by first | rfl | go_num, by go_num, rfl, by omega, by omega, HG2⟩
                          case measure => simp [intOf]; omega
                    · have hje : ([z0]).drop j = [] := List.drop_eq_nil_of_le (by have := HDL.out; omega)
                      have hres : refL xs = toldO (some ((1) * n)) := by
                        rw [HRS2.out, HG.out, hje]
                        rfl
                      have HRS3 := Lib.hid hres
                      clear hres HG hje
                      have hjn : ¬ ((j : Int) < ((1 : Nat) : Int)) := by omega
                      have HTW : Hid (∀ W : World, Calls Tryd.prog 27 #[.int .i64 (n), .slice none 0 0] W fun e w' => e = .returned (.tuple #[.int .i64 (refL xs).1, .int .i64 (refL xs).2]) ∧ Below W.heap.size W w') := Lib.hid (fun W => by
                        rw [HRS3.out]
                        have := rtold_calls (n) W
                        rw [show (1) * n = n by omega]
                        exact this)
                      go_wp2_with (go_at_call 27; refine (HTW.out _).mono ?_; rintro e w7 ⟨rfl, hb7⟩; have HB7 := Lib.hid ((below_dr HB2.out q).trans (hb7.mono (below_dr HB2.out q).size)); clear hb7)
                      go_ret2
                      exact ⟨rfl, HB7.out⟩
            · simp only [Nat.zero_add, Nat.add_zero, Nat.reduceAdd] at *
              have HBL2 := Lib.hid hb
              clear hb HZ
              go_wp2_with (go_at_call 25; refine (credenzaref10_blank.calls y _ _ hbf.out).mono ?_; rintro e w1 ⟨rfl, ⟨n4, rfl⟩⟩; rw [HBL2.out]; refine Hid.out ?_)
              have hzs : trimR ys = ys.take (2) := by rw [← HT.out, HTK.out, trimR_snoc, HBL2.out]; rfl
              have HZS : Hid (refL xs = refT (ys.take (2))) := Lib.hid (by rw [HRES.out, hzs])
              clear hzs HTK HT HBL2 hbf HYV hcell
              have HB2 := Lib.hid (below_dr HB1.out (q + n4))
              have hcz : CellsAt (W1.drewN (q + n4)) g f (ys.take (2)) := fun i hi => by
                rw [List.length_take] at hi
                have := HCY.out i (by omega)
                rw [show (ys.take (2)).getD i 0 = ys.getD i 0 by simp only [List.getD, List.getElem?_take, show i < 2 by omega, if_true]]
                exact this
              have hlz : (ys.take (2)).length = 2 := by rw [List.length_take]; have := HLT.out; omega
              have hrz : ∀ x ∈ ys.take (2), 0 ≤ x ∧ x < 65536 := fun x hx => HRY.out x (List.mem_of_mem_take hx)
              generalize W1.drewN (q + n4) = W2 at *
              clear HLT HRY HLY HCY HY0 HRES HB1 HBL n4 q
              generalize ys.take (2) = zs at *
              obtain ⟨z0, z1, rfl⟩ : ∃ z0 z1, zs = [z0, z1] := by
                match zs, hlz with
                | [z0, z1], _ => exact ⟨z0, z1, rfl⟩
              have hc0_ : W2.cell? ⟨g, f, none⟩ = some (.int .i64 z0) := hcz 0 (by simp)
              have hc1_ : W2.cell? ⟨g, f + 1, none⟩ = some (.int .i64 z1) := hcz 1 (by simp)
              by_cases h43 : z0 = 43
              · subst h43
                have hp : partsR ([43, z1]) = (10, 1, [z1]) := by rfl
                have hdc : CellsAt W2 g (f + 1) ([z1]) := fun i hi => by
                  have := hcz (i + 1) (by simp only [List.length_cons, List.length_nil] at *; omega)
                  rw [show f + 1 + i = f + (i + 1) by omega]
                  simpa using this
                have hdr : ∀ x ∈ ([z1]), 0 ≤ x ∧ x < 65536 := fun x hx => hrz x (by simp only [List.mem_cons, List.not_mem_nil, or_false] at hx ⊢; first | exact hx | exact .inr hx | exact .inr (.inr hx))
                have hc1 : ¬ c - f = 1 := by omega
                have hrt := refT_parts (by simp) hp
                rw [if_neg (by simp)] at hrt
                have hres2 := HZS.out.trans hrt
                have HRS2 := Lib.hid hres2
                have HDL : Hid (([z1]).length = 1) := Lib.hid (by first | rfl | (simp only [List.length_cons] at hlz ⊢; omega))
                have HDC : Hid (CellsAt W2 g (f + 1) ([z1])) := Lib.hid hdc
                have HDR : Hid (∀ x ∈ ([z1]), 0 ≤ x ∧ x < 65536) := Lib.hid hdr
                clear hrt hres2 HZS hdc hdr hcz hrz hlz
                refine Lib.hid ?_
                go_wp2_with fail
                go_loopw [7, 92] (fun v7 v92 w5 => ∃ (j q : Nat) (n : Int), j ≤ 1 ∧ v7 = .int .i64 n ∧ v92 = .int .i64 j ∧ w5 = W2.drewN q ∧ 0 ≤ n ∧ n ≤ 1000000000000000000 ∧ Hid (digitsR 10 0 ([z1]) = digitsR 10 n (([z1]).drop j))) (fun _ v92 _ => 1 - (intOf v92).toNat)
                case atStart => exact ⟨0, 0, 0, Nat.zero_le _, rfl, rfl, rfl, by omega, by omega, Lib.hid rfl⟩
                case round =>
                  obtain ⟨j, q, n, hj, rfl, rfl, rfl, n0, n1, HG⟩ := hrel
                  by_cases hlt : j < 1
                  · have hlt2 : j < ([z1]).length := by have := HDL.out; omega
                    have hcell := HDC.out j hlt2
                    have hx := HDR.out ([z1])[j] (List.getElem_mem hlt2)
                    have hgd : ([z1]).getD j 0 = ([z1])[j] := by simp only [List.getD, List.getElem?_eq_getElem hlt2, Option.getD_some]
                    rw [hgd] at hcell
                    have hdd : ([z1]).drop j = ([z1])[j] :: ([z1]).drop (j + 1) := List.drop_eq_getElem_cons hlt2
                    generalize ([z1])[j] = d at hcell hx hdd
                    have hv := Lib.hid (value_f d hx)
                    have hvb := valB_range d
                    have HDD := Lib.hid hdd
                    clear hdd hgd hx hlt2
                    generalize hvv : valB d = v at hv hvb
                    have HVV := Lib.hid hvv
                    clear hvv
                    have hlt' : (j : Int) < ((1 : Nat) : Int) := by omega
                    by_cases hb1 : 10 ≤ v
                    · have hres : refL xs = (0, 100) := by
                        rw [HRS2.out, HG.out, HDD.out]
                        simp [digitsR, HVV.out, hb1]
                      have HRS3 := Lib.hid hres
                      clear hres HG
                      go_wp2_with (go_at_call 26; refine (credenzaref10_value.calls 3 d _ _ hv.out).mono ?_; rintro e w6 ⟨rfl, ⟨n6, rfl⟩⟩)
                      go_ret2
                      exact ⟨by rw [HRS3.out]; rfl, below_dr HB2.out _⟩
                    · by_cases hb2 : 9007199254740991 < n
                      · have hres : refL xs = (0, 100) := by
                          rw [HRS2.out, HG.out, HDD.out]
                          simp [digitsR, hb2]
                        have HRS3 := Lib.hid hres
                        clear hres HG
                        go_wp2_with (go_at_call 26; refine (credenzaref10_value.calls 3 d _ _ hv.out).mono ?_; rintro e w6 ⟨rfl, ⟨n6, rfl⟩⟩)
                        go_ret2
                        exact ⟨by rw [HRS3.out]; rfl, below_dr HB2.out _⟩
                      · have hb1' : v < 10 := by omega
                        have hb2' : n ≤ 9007199254740991 := by omega
                        have HG2 : Hid (digitsR 10 0 ([z1]) = digitsR 10 (10 * n + v) (([z1]).drop (j + 1))) := Lib.hid (by
                          rw [HG.out, HDD.out]
                          simp only [digitsR, HVV.out]
                          rw [if_neg (by omega)])
                        clear HG hb1 hb2
                        go_wp2_with (go_at_call 26; refine (credenzaref10_value.calls 3 d _ _ hv.out).mono ?_; rintro e w6 ⟨rfl, ⟨n6, rfl⟩⟩)
                        go_roundw
                        case rel => exact ⟨j + 1, _, 10 * n + v, by omega, by first | rfl | go_num, by go_num, rfl, by omega, by omega, HG2⟩
                        case measure => simp [intOf]; omega
                  · have hje : ([z1]).drop j = [] := List.drop_eq_nil_of_le (by have := HDL.out; omega)
                    have hres : refL xs = toldO (some ((1) * n)) := by
                      rw [HRS2.out, HG.out, hje]
                      rfl
                    have HRS3 := Lib.hid hres
                    clear hres HG hje
                    have hjn : ¬ ((j : Int) < ((1 : Nat) : Int)) := by omega
                    have HTW : Hid (∀ W : World, Calls Tryd.prog 27 #[.int .i64 (n), .slice none 0 0] W fun e w' => e = .returned (.tuple #[.int .i64 (refL xs).1, .int .i64 (refL xs).2]) ∧ Below W.heap.size W w') := Lib.hid (fun W => by
                      rw [HRS3.out]
                      have := rtold_calls (n) W
                      rw [show (1) * n = n by omega]
                      exact this)
                    go_wp2_with (go_at_call 27; refine (HTW.out _).mono ?_; rintro e w7 ⟨rfl, hb7⟩; have HB7 := Lib.hid ((below_dr HB2.out q).trans (hb7.mono (below_dr HB2.out q).size)); clear hb7)
                    go_ret2
                    exact ⟨rfl, HB7.out⟩
              · by_cases h45 : z0 = 45
                · subst h45
                  have hp : partsR ([45, z1]) = (10, -1, [z1]) := by rfl
                  have hdc : CellsAt W2 g (f + 1) ([z1]) := fun i hi => by
                    have := hcz (i + 1) (by simp only [List.length_cons, List.length_nil] at *; omega)
                    rw [show f + 1 + i = f + (i + 1) by omega]
                    simpa using this
                  have hdr : ∀ x ∈ ([z1]), 0 ≤ x ∧ x < 65536 := fun x hx => hrz x (by simp only [List.mem_cons, List.not_mem_nil, or_false] at hx ⊢; first | exact hx | exact .inr hx | exact .inr (.inr hx))
                  have hc1 : ¬ c - f = 1 := by omega
                  have hrt := refT_parts (by simp) hp
                  rw [if_neg (by simp)] at hrt
                  have hres2 := HZS.out.trans hrt
                  have HRS2 := Lib.hid hres2
                  have HDL : Hid (([z1]).length = 1) := Lib.hid (by first | rfl | (simp only [List.length_cons] at hlz ⊢; omega))
                  have HDC : Hid (CellsAt W2 g (f + 1) ([z1])) := Lib.hid hdc
                  have HDR : Hid (∀ x ∈ ([z1]), 0 ≤ x ∧ x < 65536) := Lib.hid hdr
                  clear hrt hres2 HZS hdc hdr hcz hrz hlz
                  refine Lib.hid ?_
                  go_wp2_with fail
                  go_loopw [7, 92] (fun v7 v92 w5 => ∃ (j q : Nat) (n : Int), j ≤ 1 ∧ v7 = .int .i64 n ∧ v92 = .int .i64 j ∧ w5 = W2.drewN q ∧ 0 ≤ n ∧ n ≤ 1000000000000000000 ∧ Hid (digitsR 10 0 ([z1]) = digitsR 10 n (([z1]).drop j))) (fun _ v92 _ => 1 - (intOf v92).toNat)
                  case atStart => exact ⟨0, 0, 0, Nat.zero_le _, rfl, rfl, rfl, by omega, by omega, Lib.hid rfl⟩
                  case round =>
                    obtain ⟨j, q, n, hj, rfl, rfl, rfl, n0, n1, HG⟩ := hrel
                    by_cases hlt : j < 1
                    · have hlt2 : j < ([z1]).length := by have := HDL.out; omega
                      have hcell := HDC.out j hlt2
                      have hx := HDR.out ([z1])[j] (List.getElem_mem hlt2)
                      have hgd : ([z1]).getD j 0 = ([z1])[j] := by simp only [List.getD, List.getElem?_eq_getElem hlt2, Option.getD_some]
                      rw [hgd] at hcell
                      have hdd : ([z1]).drop j = ([z1])[j] :: ([z1]).drop (j + 1) := List.drop_eq_getElem_cons hlt2
                      generalize ([z1])[j] = d at hcell hx hdd
                      have hv := Lib.hid (value_f d hx)
                      have hvb := valB_range d
                      have HDD := Lib.hid hdd
                      clear hdd hgd hx hlt2
                      generalize hvv : valB d = v at hv hvb
                      have HVV := Lib.hid hvv
                      clear hvv
                      have hlt' : (j : Int) < ((1 : Nat) : Int) := by omega
                      by_cases hb1 : 10 ≤ v
                      · have hres : refL xs = (0, 100) := by
                          rw [HRS2.out, HG.out, HDD.out]
                          simp [digitsR, HVV.out, hb1]
                        have HRS3 := Lib.hid hres
                        clear hres HG
                        go_wp2_with (go_at_call 26; refine (credenzaref10_value.calls 3 d _ _ hv.out).mono ?_; rintro e w6 ⟨rfl, ⟨n6, rfl⟩⟩)
                        go_ret2
                        exact ⟨by rw [HRS3.out]; rfl, below_dr HB2.out _⟩
                      · by_cases hb2 : 9007199254740991 < n
                        · have hres : refL xs = (0, 100) := by
                            rw [HRS2.out, HG.out, HDD.out]
                            simp [digitsR, hb2]
                          have HRS3 := Lib.hid hres
                          clear hres HG
                          go_wp2_with (go_at_call 26; refine (credenzaref10_value.calls 3 d _ _ hv.out).mono ?_; rintro e w6 ⟨rfl, ⟨n6, rfl⟩⟩)
                          go_ret2
                          exact ⟨by rw [HRS3.out]; rfl, below_dr HB2.out _⟩
                        · have hb1' : v < 10 := by omega
                          have hb2' : n ≤ 9007199254740991 := by omega
                          have HG2 : Hid (digitsR 10 0 ([z1]) = digitsR 10 (10 * n + v) (([z1]).drop (j + 1))) := Lib.hid (by
                            rw [HG.out, HDD.out]
                            simp only [digitsR, HVV.out]
                            rw [if_neg (by omega)])
                          clear HG hb1 hb2
                          go_wp2_with (go_at_call 26; refine (credenzaref10_value.calls 3 d _ _ hv.out).mono ?_; rintro e w6 ⟨rfl, ⟨n6, rfl⟩⟩)
                          go_roundw
                          case rel => exact ⟨j + 1, _, 10 * n + v, by omega, by first | rfl | go_num, by go_num, rfl, by omega, by omega, HG2⟩
                          case measure => simp [intOf]; omega
                    · have hje : ([z1]).drop j = [] := List.drop_eq_nil_of_le (by have := HDL.out; omega)
                      have hres : refL xs = toldO (some ((-1) * n)) := by
                        rw [HRS2.out, HG.out, hje]
                        rfl
                      have HRS3 := Lib.hid hres
                      clear hres HG hje
                      have hjn : ¬ ((j : Int) < ((1 : Nat) : Int)) := by omega
                      have HTW : Hid (∀ W : World, Calls Tryd.prog 27 #[.int .i64 (-n), .slice none 0 0] W fun e w' => e = .returned (.tuple #[.int .i64 (refL xs).1, .int .i64 (refL xs).2]) ∧ Below W.heap.size W w') := Lib.hid (fun W => by
                        rw [HRS3.out]
                        have := rtold_calls (-n) W
                        rw [show (-1) * n = -n by omega]
                        exact this)
                      go_wp2_with (go_at_call 27; refine (HTW.out _).mono ?_; rintro e w7 ⟨rfl, hb7⟩; have HB7 := Lib.hid ((below_dr HB2.out q).trans (hb7.mono (below_dr HB2.out q).size)); clear hb7)
                      go_ret2
                      exact ⟨rfl, HB7.out⟩
                · have b43 : (z0 == 43) = false := beq_eq_false_iff_ne.2 h43
                  have b45 : (z0 == 45) = false := beq_eq_false_iff_ne.2 h45
                  by_cases h48 : z0 = 48
                  · subst h48
                    clear b43 b45
                    by_cases h120 : z1 = 120
                    · subst h120
                      have hp : partsR ([48, 120]) = (16, 1, []) := by rfl
                      have hrt := refT_parts (by simp) hp
                      have hres : refL xs = (0, 100) := by rw [HZS.out, hrt]; simp
                      have HRS := Lib.hid hres
                      clear hres hrt HZS hcz hrz hlz
                      by_cases hc1 : c - f = 2
                      · refine Lib.hid ?_
                        go_wp2
                        go_ret2
                        exact ⟨by rw [HRS.out]; rfl, HB2.out⟩
                      · refine Lib.hid ?_
                        go_wp2
                        go_ret2
                        exact ⟨by rw [HRS.out]; rfl, HB2.out⟩
                    · by_cases h88 : z1 = 88
                      · subst h88
                        have hp : partsR ([48, 88]) = (16, 1, []) := by rfl
                        have hrt := refT_parts (by simp) hp
                        have hres : refL xs = (0, 100) := by rw [HZS.out, hrt]; simp
                        have HRS := Lib.hid hres
                        clear hres hrt HZS hcz hrz hlz
                        by_cases hc1 : c - f = 2
                        · refine Lib.hid ?_
                          go_wp2
                          go_ret2
                          exact ⟨by rw [HRS.out]; rfl, HB2.out⟩
                        · refine Lib.hid ?_
                          go_wp2
                          go_ret2
                          exact ⟨by rw [HRS.out]; rfl, HB2.out⟩
                      · have b120 : (z1 == 120) = false := beq_eq_false_iff_ne.2 h120
                        have b88 : (z1 == 88) = false := beq_eq_false_iff_ne.2 h88
                        have hp : partsR ([48, z1]) = (10, 1, [48, z1]) := by simp [partsR, h120, h88]
                        have hdc : CellsAt W2 g (f + 0) ([48, z1]) := fun i hi => by
                          have := hcz (i + 0) (by simp only [List.length_cons, List.length_nil] at *; omega)
                          rw [show f + 0 + i = f + (i + 0) by omega]
                          simpa using this
                        have hdr : ∀ x ∈ ([48, z1]), 0 ≤ x ∧ x < 65536 := fun x hx => hrz x (by simp only [List.mem_cons, List.not_mem_nil, or_false] at hx ⊢; first | exact hx | exact .inr hx | exact .inr (.inr hx))
                        have hrt := refT_parts (by simp) hp
                        rw [if_neg (by simp)] at hrt
                        have hres2 := HZS.out.trans hrt
                        have HRS2 := Lib.hid hres2
                        have HDL : Hid (([48, z1]).length = 2) := Lib.hid (by first | rfl | (simp only [List.length_cons] at hlz ⊢; omega))
                        have HDC : Hid (CellsAt W2 g (f) ([48, z1])) := Lib.hid hdc
                        have HDR : Hid (∀ x ∈ ([48, z1]), 0 ≤ x ∧ x < 65536) := Lib.hid hdr
                        clear hrt hres2 HZS hdc hdr hcz hrz hlz
                        refine Lib.hid ?_
                        go_wp2_with fail
                        go_loopw [7, 92] (fun v7 v92 w5 => ∃ (j q : Nat) (n : Int), j ≤ 2 ∧ v7 = .int .i64 n ∧ v92 = .int .i64 j ∧ w5 = W2.drewN q ∧ 0 ≤ n ∧ n ≤ 1000000000000000000 ∧ Hid (digitsR 10 0 ([48, z1]) = digitsR 10 n (([48, z1]).drop j))) (fun _ v92 _ => 2 - (intOf v92).toNat)
                        case atStart => exact ⟨0, 0, 0, Nat.zero_le _, rfl, rfl, rfl, by omega, by omega, Lib.hid rfl⟩
                        case round =>
                          obtain ⟨j, q, n, hj, rfl, rfl, rfl, n0, n1, HG⟩ := hrel
                          by_cases hlt : j < 2
                          · have hlt2 : j < ([48, z1]).length := by have := HDL.out; omega
                            have hcell := HDC.out j hlt2
                            have hx := HDR.out ([48, z1])[j] (List.getElem_mem hlt2)
                            have hgd : ([48, z1]).getD j 0 = ([48, z1])[j] := by simp only [List.getD, List.getElem?_eq_getElem hlt2, Option.getD_some]
                            rw [hgd] at hcell
                            have hdd : ([48, z1]).drop j = ([48, z1])[j] :: ([48, z1]).drop (j + 1) := List.drop_eq_getElem_cons hlt2
                            generalize ([48, z1])[j] = d at hcell hx hdd
                            have hv := Lib.hid (value_f d hx)
                            have hvb := valB_range d
                            have HDD := Lib.hid hdd
                            clear hdd hgd hx hlt2
                            generalize hvv : valB d = v at hv hvb
                            have HVV := Lib.hid hvv
                            clear hvv
                            have hlt' : (j : Int) < ((2 : Nat) : Int) := by omega
                            by_cases hb1 : 10 ≤ v
                            · have hres : refL xs = (0, 100) := by
                                rw [HRS2.out, HG.out, HDD.out]
                                simp [digitsR, HVV.out, hb1]
                              have HRS3 := Lib.hid hres
                              clear hres HG
                              go_wp2_with (go_at_call 26; refine (credenzaref10_value.calls 3 d _ _ hv.out).mono ?_; rintro e w6 ⟨rfl, ⟨n6, rfl⟩⟩)
                              go_ret2
                              exact ⟨by rw [HRS3.out]; rfl, below_dr HB2.out _⟩
                            · by_cases hb2 : 9007199254740991 < n
                              · have hres : refL xs = (0, 100) := by
                                  rw [HRS2.out, HG.out, HDD.out]
                                  simp [digitsR, hb2]
                                have HRS3 := Lib.hid hres
                                clear hres HG
                                go_wp2_with (go_at_call 26; refine (credenzaref10_value.calls 3 d _ _ hv.out).mono ?_; rintro e w6 ⟨rfl, ⟨n6, rfl⟩⟩)
                                go_ret2
                                exact ⟨by rw [HRS3.out]; rfl, below_dr HB2.out _⟩
                              · have hb1' : v < 10 := by omega
                                have hb2' : n ≤ 9007199254740991 := by omega
                                have HG2 : Hid (digitsR 10 0 ([48, z1]) = digitsR 10 (10 * n + v) (([48, z1]).drop (j + 1))) := Lib.hid (by
                                  rw [HG.out, HDD.out]
                                  simp only [digitsR, HVV.out]
                                  rw [if_neg (by omega)])
                                clear HG hb1 hb2
                                go_wp2_with (go_at_call 26; refine (credenzaref10_value.calls 3 d _ _ hv.out).mono ?_; rintro e w6 ⟨rfl, ⟨n6, rfl⟩⟩)
                                go_roundw
                                case rel => exact ⟨j + 1, _, 10 * n + v, by omega, by first | rfl | go_num, by go_num, rfl, by omega, by omega, HG2⟩
                                case measure => simp [intOf]; omega
                          · have hje : ([48, z1]).drop j = [] := List.drop_eq_nil_of_le (by have := HDL.out; omega)
                            have hres : refL xs = toldO (some ((1) * n)) := by
                              rw [HRS2.out, HG.out, hje]
                              rfl
                            have HRS3 := Lib.hid hres
                            clear hres HG hje
                            have hjn : ¬ ((j : Int) < ((2 : Nat) : Int)) := by omega
                            have HTW : Hid (∀ W : World, Calls Tryd.prog 27 #[.int .i64 (n), .slice none 0 0] W fun e w' => e = .returned (.tuple #[.int .i64 (refL xs).1, .int .i64 (refL xs).2]) ∧ Below W.heap.size W w') := Lib.hid (fun W => by
                              rw [HRS3.out]
                              have := rtold_calls (n) W
                              rw [show (1) * n = n by omega]
                              exact this)
                            go_wp2_with (go_at_call 27; refine (HTW.out _).mono ?_; rintro e w7 ⟨rfl, hb7⟩; have HB7 := Lib.hid ((below_dr HB2.out q).trans (hb7.mono (below_dr HB2.out q).size)); clear hb7)
                            go_ret2
                            exact ⟨rfl, HB7.out⟩
                  · have b48 : (z0 == 48) = false := beq_eq_false_iff_ne.2 h48
                    have hp : partsR ([z0, z1]) = (10, 1, [z0, z1]) := by simp [partsR, h43, h45, h48]
                    have hdc : CellsAt W2 g (f + 0) ([z0, z1]) := fun i hi => by
                      have := hcz (i + 0) (by simp only [List.length_cons, List.length_nil] at *; omega)
                      rw [show f + 0 + i = f + (i + 0) by omega]
                      simpa using this
                    have hdr : ∀ x ∈ ([z0, z1]), 0 ≤ x ∧ x < 65536 := fun x hx => hrz x (by simp only [List.mem_cons, List.not_mem_nil, or_false] at hx ⊢; first | exact hx | exact .inr hx | exact .inr (.inr hx))
                    have hrt := refT_parts (by simp) hp
                    rw [if_neg (by simp)] at hrt
                    have hres2 := HZS.out.trans hrt
                    have HRS2 := Lib.hid hres2
                    have HDL : Hid (([z0, z1]).length = 2) := Lib.hid (by first | rfl | (simp only [List.length_cons] at hlz ⊢; omega))
                    have HDC : Hid (CellsAt W2 g (f) ([z0, z1])) := Lib.hid hdc
                    have HDR : Hid (∀ x ∈ ([z0, z1]), 0 ≤ x ∧ x < 65536) := Lib.hid hdr
                    clear hrt hres2 HZS hdc hdr hcz hrz hlz
                    refine Lib.hid ?_
                    go_wp2_with fail
                    go_loopw [7, 92] (fun v7 v92 w5 => ∃ (j q : Nat) (n : Int), j ≤ 2 ∧ v7 = .int .i64 n ∧ v92 = .int .i64 j ∧ w5 = W2.drewN q ∧ 0 ≤ n ∧ n ≤ 1000000000000000000 ∧ Hid (digitsR 10 0 ([z0, z1]) = digitsR 10 n (([z0, z1]).drop j))) (fun _ v92 _ => 2 - (intOf v92).toNat)
                    case atStart => exact ⟨0, 0, 0, Nat.zero_le _, rfl, rfl, rfl, by omega, by omega, Lib.hid rfl⟩
                    case round =>
                      obtain ⟨j, q, n, hj, rfl, rfl, rfl, n0, n1, HG⟩ := hrel
                      by_cases hlt : j < 2
                      · have hlt2 : j < ([z0, z1]).length := by have := HDL.out; omega
                        have hcell := HDC.out j hlt2
                        have hx := HDR.out ([z0, z1])[j] (List.getElem_mem hlt2)
                        have hgd : ([z0, z1]).getD j 0 = ([z0, z1])[j] := by simp only [List.getD, List.getElem?_eq_getElem hlt2, Option.getD_some]
                        rw [hgd] at hcell
                        have hdd : ([z0, z1]).drop j = ([z0, z1])[j] :: ([z0, z1]).drop (j + 1) := List.drop_eq_getElem_cons hlt2
                        generalize ([z0, z1])[j] = d at hcell hx hdd
                        have hv := Lib.hid (value_f d hx)
                        have hvb := valB_range d
                        have HDD := Lib.hid hdd
                        clear hdd hgd hx hlt2
                        generalize hvv : valB d = v at hv hvb
                        have HVV := Lib.hid hvv
                        clear hvv
                        have hlt' : (j : Int) < ((2 : Nat) : Int) := by omega
                        by_cases hb1 : 10 ≤ v
                        · have hres : refL xs = (0, 100) := by
                            rw [HRS2.out, HG.out, HDD.out]
                            simp [digitsR, HVV.out, hb1]
                          have HRS3 := Lib.hid hres
                          clear hres HG
                          go_wp2_with (go_at_call 26; refine (credenzaref10_value.calls 3 d _ _ hv.out).mono ?_; rintro e w6 ⟨rfl, ⟨n6, rfl⟩⟩)
                          go_ret2
                          exact ⟨by rw [HRS3.out]; rfl, below_dr HB2.out _⟩
                        · by_cases hb2 : 9007199254740991 < n
                          · have hres : refL xs = (0, 100) := by
                              rw [HRS2.out, HG.out, HDD.out]
                              simp [digitsR, hb2]
                            have HRS3 := Lib.hid hres
                            clear hres HG
                            go_wp2_with (go_at_call 26; refine (credenzaref10_value.calls 3 d _ _ hv.out).mono ?_; rintro e w6 ⟨rfl, ⟨n6, rfl⟩⟩)
                            go_ret2
                            exact ⟨by rw [HRS3.out]; rfl, below_dr HB2.out _⟩
                          · have hb1' : v < 10 := by omega
                            have hb2' : n ≤ 9007199254740991 := by omega
                            have HG2 : Hid (digitsR 10 0 ([z0, z1]) = digitsR 10 (10 * n + v) (([z0, z1]).drop (j + 1))) := Lib.hid (by
                              rw [HG.out, HDD.out]
                              simp only [digitsR, HVV.out]
                              rw [if_neg (by omega)])
                            clear HG hb1 hb2
                            go_wp2_with (go_at_call 26; refine (credenzaref10_value.calls 3 d _ _ hv.out).mono ?_; rintro e w6 ⟨rfl, ⟨n6, rfl⟩⟩)
                            go_roundw
                            case rel => exact ⟨j + 1, _, 10 * n + v, by omega, by first | rfl | go_num, by go_num, rfl, by omega, by omega, HG2⟩
                            case measure => simp [intOf]; omega
                      · have hje : ([z0, z1]).drop j = [] := List.drop_eq_nil_of_le (by have := HDL.out; omega)
                        have hres : refL xs = toldO (some ((1) * n)) := by
                          rw [HRS2.out, HG.out, hje]
                          rfl
                        have HRS3 := Lib.hid hres
                        clear hres HG hje
                        have hjn : ¬ ((j : Int) < ((2 : Nat) : Int)) := by omega
                        have HTW : Hid (∀ W : World, Calls Tryd.prog 27 #[.int .i64 (n), .slice none 0 0] W fun e w' => e = .returned (.tuple #[.int .i64 (refL xs).1, .int .i64 (refL xs).2]) ∧ Below W.heap.size W w') := Lib.hid (fun W => by
                          rw [HRS3.out]
                          have := rtold_calls (n) W
                          rw [show (1) * n = n by omega]
                          exact this)
                        go_wp2_with (go_at_call 27; refine (HTW.out _).mono ?_; rintro e w7 ⟨rfl, hb7⟩; have HB7 := Lib.hid ((below_dr HB2.out q).trans (hb7.mono (below_dr HB2.out q).size)); clear hb7)
                        go_ret2
                        exact ⟨rfl, HB7.out⟩
            · have HBL2 := Lib.hid hb
              clear hb HZ
              have hz0 : (((k : Nat) : Int) + 1 + 1 + 1 == 0) = false := beq_eq_false_iff_ne.2 (by omega)
              have hz1 : (1 : Int) < ((k : Nat) : Int) + 1 + 1 + 1 := by omega
              have hz2 : (((k : Nat) : Int) + 1 + 1 == 0) = false := beq_eq_false_iff_ne.2 (by omega)
              have hz3 : (((k : Nat) : Int) + 1 == 0) = false := beq_eq_false_iff_ne.2 (by omega)
              have hz4 : (((k : Nat) : Int) + 2 == 0) = false := beq_eq_false_iff_ne.2 (by omega)
              have hz5 : (((k : Nat) : Int) + 3 == 0) = false := beq_eq_false_iff_ne.2 (by omega)
              go_wp2_with (go_at_call 25; refine (credenzaref10_blank.calls y _ _ hbf.out).mono ?_; rintro e w1 ⟨rfl, ⟨n4, rfl⟩⟩; rw [HBL2.out]; refine Hid.out ?_)
              have hzs : trimR ys = ys.take ((k + 1 + 1 + 1)) := by rw [← HT.out, HTK.out, trimR_snoc, HBL2.out]; rfl
              have HZS : Hid (refL xs = refT (ys.take ((k + 1 + 1 + 1)))) := Lib.hid (by rw [HRES.out, hzs])
              clear hzs HTK HT HBL2 hbf HYV hcell
              have HB2 := Lib.hid (below_dr HB1.out (q + n4))
              have hcz : CellsAt (W1.drewN (q + n4)) g f (ys.take ((k + 1 + 1 + 1))) := fun i hi => by
                rw [List.length_take] at hi
                have := HCY.out i (by omega)
                rw [show (ys.take ((k + 1 + 1 + 1))).getD i 0 = ys.getD i 0 by simp only [List.getD, List.getElem?_take, show i < (k + 1 + 1 + 1) by omega, if_true]]
                exact this
              have hlz : (ys.take ((k + 1 + 1 + 1))).length = (k + 1 + 1 + 1) := by rw [List.length_take]; have := HLT.out; omega
              have hrz : ∀ x ∈ ys.take ((k + 1 + 1 + 1)), 0 ≤ x ∧ x < 65536 := fun x hx => HRY.out x (List.mem_of_mem_take hx)
              generalize W1.drewN (q + n4) = W2 at *
              clear HLT HRY HLY HCY HY0 HRES HB1 HBL n4 q
              generalize ys.take ((k + 1 + 1 + 1)) = zs at *
              obtain ⟨z0, z1, z2, t, rfl⟩ : ∃ z0 z1 z2 t, zs = z0 :: z1 :: z2 :: t := by
                match zs, hlz with
                | z0 :: z1 :: z2 :: t, _ => exact ⟨z0, z1, z2, t, rfl⟩
              have hc0_ : W2.cell? ⟨g, f, none⟩ = some (.int .i64 z0) := hcz 0 (by simp)
              have hc1_ : W2.cell? ⟨g, f + 1, none⟩ = some (.int .i64 z1) := hcz 1 (by simp)
              by_cases h43 : z0 = 43
              · subst h43
                have hp : partsR (43 :: z1 :: z2 :: t) = (10, 1, z1 :: z2 :: t) := by simp [partsR]
                have hdc : CellsAt W2 g (f + 1) (z1 :: z2 :: t) := fun i hi => by
                  have := hcz (i + 1) (by simp only [List.length_cons, List.length_nil] at *; omega)
                  rw [show f + 1 + i = f + (i + 1) by omega]
                  simpa using this
                have hdr : ∀ x ∈ (z1 :: z2 :: t), 0 ≤ x ∧ x < 65536 := fun x hx => hrz x (by simp only [List.mem_cons, List.not_mem_nil, or_false] at hx ⊢; first | exact hx | exact .inr hx | exact .inr (.inr hx))
                have hc1 : ¬ c - f = 1 := by omega
                have hrt := refT_parts (by simp) hp
                rw [if_neg (by simp)] at hrt
                have hres2 := HZS.out.trans hrt
                have HRS2 := Lib.hid hres2
                have HDL : Hid ((z1 :: z2 :: t).length = (k + 1 + 1)) := Lib.hid (by first | rfl | (simp only [List.length_cons] at hlz ⊢; omega))
                have HDC : Hid (CellsAt W2 g (f + 1) (z1 :: z2 :: t)) := Lib.hid hdc
                have HDR : Hid (∀ x ∈ (z1 :: z2 :: t), 0 ≤ x ∧ x < 65536) := Lib.hid hdr
                clear hrt hres2 HZS hdc hdr hcz hrz hlz
                refine Lib.hid ?_
                go_wp2_with fail
                go_loopw [7, 92] (fun v7 v92 w5 => ∃ (j q : Nat) (n : Int), j ≤ (k + 1 + 1) ∧ v7 = .int .i64 n ∧ v92 = .int .i64 j ∧ w5 = W2.drewN q ∧ 0 ≤ n ∧ n ≤ 1000000000000000000 ∧ Hid (digitsR 10 0 (z1 :: z2 :: t) = digitsR 10 n ((z1 :: z2 :: t).drop j))) (fun _ v92 _ => (k + 1 + 1) - (intOf v92).toNat)
                case atStart => exact ⟨0, 0, 0, Nat.zero_le _, rfl, rfl, rfl, by omega, by omega, Lib.hid rfl⟩
                case round =>
                  obtain ⟨j, q, n, hj, rfl, rfl, rfl, n0, n1, HG⟩ := hrel
                  by_cases hlt : j < (k + 1 + 1)
                  · have hlt2 : j < (z1 :: z2 :: t).length := by have := HDL.out; omega
                    have hcell := HDC.out j hlt2
                    have hx := HDR.out (z1 :: z2 :: t)[j] (List.getElem_mem hlt2)
                    have hgd : (z1 :: z2 :: t).getD j 0 = (z1 :: z2 :: t)[j] := by simp only [List.getD, List.getElem?_eq_getElem hlt2, Option.getD_some]
                    rw [hgd] at hcell
                    have hdd : (z1 :: z2 :: t).drop j = (z1 :: z2 :: t)[j] :: (z1 :: z2 :: t).drop (j + 1) := List.drop_eq_getElem_cons hlt2
                    generalize (z1 :: z2 :: t)[j] = d at hcell hx hdd
                    have hv := Lib.hid (value_f d hx)
                    have hvb := valB_range d
                    have HDD := Lib.hid hdd
                    clear hdd hgd hx hlt2
                    generalize hvv : valB d = v at hv hvb
                    have HVV := Lib.hid hvv
                    clear hvv
                    have hlt' : (j : Int) < (((k + 1 + 1) : Nat) : Int) := by omega
                    by_cases hb1 : 10 ≤ v
                    · have hres : refL xs = (0, 100) := by
                        rw [HRS2.out, HG.out, HDD.out]
                        simp [digitsR, HVV.out, hb1]
                      have HRS3 := Lib.hid hres
                      clear hres HG
                      go_wp2_with (go_at_call 26; refine (credenzaref10_value.calls 3 d _ _ hv.out).mono ?_; rintro e w6 ⟨rfl, ⟨n6, rfl⟩⟩)
                      go_ret2
                      exact ⟨by rw [HRS3.out]; rfl, below_dr HB2.out _⟩
                    · by_cases hb2 : 9007199254740991 < n
                      · have hres : refL xs = (0, 100) := by
                          rw [HRS2.out, HG.out, HDD.out]
                          simp [digitsR, hb2]
                        have HRS3 := Lib.hid hres
                        clear hres HG
                        go_wp2_with (go_at_call 26; refine (credenzaref10_value.calls 3 d _ _ hv.out).mono ?_; rintro e w6 ⟨rfl, ⟨n6, rfl⟩⟩)
                        go_ret2
                        exact ⟨by rw [HRS3.out]; rfl, below_dr HB2.out _⟩
                      · have hb1' : v < 10 := by omega
                        have hb2' : n ≤ 9007199254740991 := by omega
                        have HG2 : Hid (digitsR 10 0 (z1 :: z2 :: t) = digitsR 10 (10 * n + v) ((z1 :: z2 :: t).drop (j + 1))) := Lib.hid (by
                          rw [HG.out, HDD.out]
                          simp only [digitsR, HVV.out]
                          rw [if_neg (by omega)])
                        clear HG hb1 hb2
                        go_wp2_with (go_at_call 26; refine (credenzaref10_value.calls 3 d _ _ hv.out).mono ?_; rintro e w6 ⟨rfl, ⟨n6, rfl⟩⟩)
                        go_roundw
                        case rel => exact ⟨j + 1, _, 10 * n + v, by omega, by first | rfl | go_num, by go_num, rfl, by omega, by omega, HG2⟩
                        case measure => simp [intOf]; omega
                  · have hje : (z1 :: z2 :: t).drop j = [] := List.drop_eq_nil_of_le (by have := HDL.out; omega)
                    have hres : refL xs = toldO (some ((1) * n)) := by
                      rw [HRS2.out, HG.out, hje]
                      rfl
                    have HRS3 := Lib.hid hres
                    clear hres HG hje
                    have hjn : ¬ ((j : Int) < (((k + 1 + 1) : Nat) : Int)) := by omega
                    have HTW : Hid (∀ W : World, Calls Tryd.prog 27 #[.int .i64 (n), .slice none 0 0] W fun e w' => e = .returned (.tuple #[.int .i64 (refL xs).1, .int .i64 (refL xs).2]) ∧ Below W.heap.size W w') := Lib.hid (fun W => by
                      rw [HRS3.out]
                      have := rtold_calls (n) W
                      rw [show (1) * n = n by omega]
                      exact this)
                    go_wp2_with (go_at_call 27; refine (HTW.out _).mono ?_; rintro e w7 ⟨rfl, hb7⟩; have HB7 := Lib.hid ((below_dr HB2.out q).trans (hb7.mono (below_dr HB2.out q).size)); clear hb7)
                    go_ret2
                    exact ⟨rfl, HB7.out⟩
              · by_cases h45 : z0 = 45
                · subst h45
                  have hp : partsR (45 :: z1 :: z2 :: t) = (10, -1, z1 :: z2 :: t) := by simp [partsR]
                  have hdc : CellsAt W2 g (f + 1) (z1 :: z2 :: t) := fun i hi => by
                    have := hcz (i + 1) (by simp only [List.length_cons, List.length_nil] at *; omega)
                    rw [show f + 1 + i = f + (i + 1) by omega]
                    simpa using this
                  have hdr : ∀ x ∈ (z1 :: z2 :: t), 0 ≤ x ∧ x < 65536 := fun x hx => hrz x (by simp only [List.mem_cons, List.not_mem_nil, or_false] at hx ⊢; first | exact hx | exact .inr hx | exact .inr (.inr hx))
                  have hc1 : ¬ c - f = 1 := by omega
                  have hrt := refT_parts (by simp) hp
                  rw [if_neg (by simp)] at hrt
                  have hres2 := HZS.out.trans hrt
                  have HRS2 := Lib.hid hres2
                  have HDL : Hid ((z1 :: z2 :: t).length = (k + 1 + 1)) := Lib.hid (by first | rfl | (simp only [List.length_cons] at hlz ⊢; omega))
                  have HDC : Hid (CellsAt W2 g (f + 1) (z1 :: z2 :: t)) := Lib.hid hdc
                  have HDR : Hid (∀ x ∈ (z1 :: z2 :: t), 0 ≤ x ∧ x < 65536) := Lib.hid hdr
                  clear hrt hres2 HZS hdc hdr hcz hrz hlz
                  refine Lib.hid ?_
                  go_wp2_with fail
                  go_loopw [7, 92] (fun v7 v92 w5 => ∃ (j q : Nat) (n : Int), j ≤ (k + 1 + 1) ∧ v7 = .int .i64 n ∧ v92 = .int .i64 j ∧ w5 = W2.drewN q ∧ 0 ≤ n ∧ n ≤ 1000000000000000000 ∧ Hid (digitsR 10 0 (z1 :: z2 :: t) = digitsR 10 n ((z1 :: z2 :: t).drop j))) (fun _ v92 _ => (k + 1 + 1) - (intOf v92).toNat)
                  case atStart => exact ⟨0, 0, 0, Nat.zero_le _, rfl, rfl, rfl, by omega, by omega, Lib.hid rfl⟩
                  case round =>
                    obtain ⟨j, q, n, hj, rfl, rfl, rfl, n0, n1, HG⟩ := hrel
                    by_cases hlt : j < (k + 1 + 1)
                    · have hlt2 : j < (z1 :: z2 :: t).length := by have := HDL.out; omega
                      have hcell := HDC.out j hlt2
                      have hx := HDR.out (z1 :: z2 :: t)[j] (List.getElem_mem hlt2)
                      have hgd : (z1 :: z2 :: t).getD j 0 = (z1 :: z2 :: t)[j] := by simp only [List.getD, List.getElem?_eq_getElem hlt2, Option.getD_some]
                      rw [hgd] at hcell
                      have hdd : (z1 :: z2 :: t).drop j = (z1 :: z2 :: t)[j] :: (z1 :: z2 :: t).drop (j + 1) := List.drop_eq_getElem_cons hlt2
                      generalize (z1 :: z2 :: t)[j] = d at hcell hx hdd
                      have hv := Lib.hid (value_f d hx)
                      have hvb := valB_range d
                      have HDD := Lib.hid hdd
                      clear hdd hgd hx hlt2
                      generalize hvv : valB d = v at hv hvb
                      have HVV := Lib.hid hvv
                      clear hvv
                      have hlt' : (j : Int) < (((k + 1 + 1) : Nat) : Int) := by omega
                      by_cases hb1 : 10 ≤ v
                      · have hres : refL xs = (0, 100) := by
                          rw [HRS2.out, HG.out, HDD.out]
                          simp [digitsR, HVV.out, hb1]
                        have HRS3 := Lib.hid hres
                        clear hres HG
                        go_wp2_with (go_at_call 26; refine (credenzaref10_value.calls 3 d _ _ hv.out).mono ?_; rintro e w6 ⟨rfl, ⟨n6, rfl⟩⟩)
                        go_ret2
                        exact ⟨by rw [HRS3.out]; rfl, below_dr HB2.out _⟩
                      · by_cases hb2 : 9007199254740991 < n
                        · have hres : refL xs = (0, 100) := by
                            rw [HRS2.out, HG.out, HDD.out]
                            simp [digitsR, hb2]
                          have HRS3 := Lib.hid hres
                          clear hres HG
                          go_wp2_with (go_at_call 26; refine (credenzaref10_value.calls 3 d _ _ hv.out).mono ?_; rintro e w6 ⟨rfl, ⟨n6, rfl⟩⟩)
                          go_ret2
                          exact ⟨by rw [HRS3.out]; rfl, below_dr HB2.out _⟩
                        · have hb1' : v < 10 := by omega
                          have hb2' : n ≤ 9007199254740991 := by omega
                          have HG2 : Hid (digitsR 10 0 (z1 :: z2 :: t) = digitsR 10 (10 * n + v) ((z1 :: z2 :: t).drop (j + 1))) := Lib.hid (by
                            rw [HG.out, HDD.out]
                            simp only [digitsR, HVV.out]
                            rw [if_neg (by omega)])
                          clear HG hb1 hb2
                          go_wp2_with (go_at_call 26; refine (credenzaref10_value.calls 3 d _ _ hv.out).mono ?_; rintro e w6 ⟨rfl, ⟨n6, rfl⟩⟩)
                          go_roundw
                          case rel => exact ⟨j + 1, _, 10 * n + v, by omega, by first | rfl | go_num, by go_num, rfl, by omega, by omega, HG2⟩
                          case measure => simp [intOf]; omega
                    · have hje : (z1 :: z2 :: t).drop j = [] := List.drop_eq_nil_of_le (by have := HDL.out; omega)
                      have hres : refL xs = toldO (some ((-1) * n)) := by
                        rw [HRS2.out, HG.out, hje]
                        rfl
                      have HRS3 := Lib.hid hres
                      clear hres HG hje
                      have hjn : ¬ ((j : Int) < (((k + 1 + 1) : Nat) : Int)) := by omega
                      have HTW : Hid (∀ W : World, Calls Tryd.prog 27 #[.int .i64 (-n), .slice none 0 0] W fun e w' => e = .returned (.tuple #[.int .i64 (refL xs).1, .int .i64 (refL xs).2]) ∧ Below W.heap.size W w') := Lib.hid (fun W => by
                        rw [HRS3.out]
                        have := rtold_calls (-n) W
                        rw [show (-1) * n = -n by omega]
                        exact this)
                      go_wp2_with (go_at_call 27; refine (HTW.out _).mono ?_; rintro e w7 ⟨rfl, hb7⟩; have HB7 := Lib.hid ((below_dr HB2.out q).trans (hb7.mono (below_dr HB2.out q).size)); clear hb7)
                      go_ret2
                      exact ⟨rfl, HB7.out⟩
                · have b43 : (z0 == 43) = false := beq_eq_false_iff_ne.2 h43
                  have b45 : (z0 == 45) = false := beq_eq_false_iff_ne.2 h45
                  by_cases h48 : z0 = 48
                  · subst h48
                    clear b43 b45
                    by_cases h120 : z1 = 120
                    · subst h120
                      have hp : partsR (48 :: 120 :: z2 :: t) = (16, 1, z2 :: t) := by simp [partsR]
                      have hdc : CellsAt W2 g (f + 2) (z2 :: t) := fun i hi => by
                        have := hcz (i + 2) (by simp only [List.length_cons, List.length_nil] at *; omega)
                        rw [show f + 2 + i = f + (i + 2) by omega]
                        simpa using this
                      have hdr : ∀ x ∈ (z2 :: t), 0 ≤ x ∧ x < 65536 := fun x hx => hrz x (by simp only [List.mem_cons, List.not_mem_nil, or_false] at hx ⊢; first | exact hx | exact .inr hx | exact .inr (.inr hx))
                      have hc1 : ¬ c - f = 2 := by omega
                      have hrt := refT_parts (by simp) hp
                      rw [if_neg (by simp)] at hrt
                      have hres2 := HZS.out.trans hrt
                      have HRS2 := Lib.hid hres2
                      have HDL : Hid ((z2 :: t).length = (k + 1)) := Lib.hid (by first | rfl | (simp only [List.length_cons] at hlz ⊢; omega))
                      have HDC : Hid (CellsAt W2 g (f + 2) (z2 :: t)) := Lib.hid hdc
                      have HDR : Hid (∀ x ∈ (z2 :: t), 0 ≤ x ∧ x < 65536) := Lib.hid hdr
                      clear hrt hres2 HZS hdc hdr hcz hrz hlz
                      refine Lib.hid ?_
                      go_wp2_with fail
                      go_loopw [7, 92] (fun v7 v92 w5 => ∃ (j q : Nat) (n : Int), j ≤ (k + 1) ∧ v7 = .int .i64 n ∧ v92 = .int .i64 j ∧ w5 = W2.drewN q ∧ 0 ≤ n ∧ n ≤ 1000000000000000000 ∧ Hid (digitsR 16 0 (z2 :: t) = digitsR 16 n ((z2 :: t).drop j))) (fun _ v92 _ => (k + 1) - (intOf v92).toNat)
                      case atStart => exact ⟨0, 0, 0, Nat.zero_le _, rfl, rfl, rfl, by omega, by omega, Lib.hid rfl⟩
                      case round =>
                        obtain ⟨j, q, n, hj, rfl, rfl, rfl, n0, n1, HG⟩ := hrel
                        by_cases hlt : j < (k + 1)
                        · have hlt2 : j < (z2 :: t).length := by have := HDL.out; omega
                          have hcell := HDC.out j hlt2
                          have hx := HDR.out (z2 :: t)[j] (List.getElem_mem hlt2)
                          have hgd : (z2 :: t).getD j 0 = (z2 :: t)[j] := by simp only [List.getD, List.getElem?_eq_getElem hlt2, Option.getD_some]
                          rw [hgd] at hcell
                          have hdd : (z2 :: t).drop j = (z2 :: t)[j] :: (z2 :: t).drop (j + 1) := List.drop_eq_getElem_cons hlt2
                          generalize (z2 :: t)[j] = d at hcell hx hdd
                          have hv := Lib.hid (value_f d hx)
                          have hvb := valB_range d
                          have HDD := Lib.hid hdd
                          clear hdd hgd hx hlt2
                          generalize hvv : valB d = v at hv hvb
                          have HVV := Lib.hid hvv
                          clear hvv
                          have hlt' : (j : Int) < (((k + 1) : Nat) : Int) := by omega
                          by_cases hb1 : 16 ≤ v
                          · have hres : refL xs = (0, 100) := by
                              rw [HRS2.out, HG.out, HDD.out]
                              simp [digitsR, HVV.out, hb1]
                            have HRS3 := Lib.hid hres
                            clear hres HG
                            go_wp2_with (go_at_call 26; refine (credenzaref10_value.calls 3 d _ _ hv.out).mono ?_; rintro e w6 ⟨rfl, ⟨n6, rfl⟩⟩)
                            go_ret2
                            exact ⟨by rw [HRS3.out]; rfl, below_dr HB2.out _⟩
                          · by_cases hb2 : 9007199254740991 < n
                            · have hres : refL xs = (0, 100) := by
                                rw [HRS2.out, HG.out, HDD.out]
                                simp [digitsR, hb2]
                              have HRS3 := Lib.hid hres
                              clear hres HG
                              go_wp2_with (go_at_call 26; refine (credenzaref10_value.calls 3 d _ _ hv.out).mono ?_; rintro e w6 ⟨rfl, ⟨n6, rfl⟩⟩)
                              go_ret2
                              exact ⟨by rw [HRS3.out]; rfl, below_dr HB2.out _⟩
                            · have hb1' : v < 16 := by omega
                              have hb2' : n ≤ 9007199254740991 := by omega
                              have HG2 : Hid (digitsR 16 0 (z2 :: t) = digitsR 16 (16 * n + v) ((z2 :: t).drop (j + 1))) := Lib.hid (by
                                rw [HG.out, HDD.out]
                                simp only [digitsR, HVV.out]
                                rw [if_neg (by omega)])
                              clear HG hb1 hb2
                              go_wp2_with (go_at_call 26; refine (credenzaref10_value.calls 3 d _ _ hv.out).mono ?_; rintro e w6 ⟨rfl, ⟨n6, rfl⟩⟩)
                              go_roundw
                              case rel => exact ⟨j + 1, _, 16 * n + v, by omega, by first | rfl | go_num, by go_num, rfl, by omega, by omega, HG2⟩
                              case measure => simp [intOf]; omega
                        · have hje : (z2 :: t).drop j = [] := List.drop_eq_nil_of_le (by have := HDL.out; omega)
                          have hres : refL xs = toldO (some ((1) * n)) := by
                            rw [HRS2.out, HG.out, hje]
                            rfl
                          have HRS3 := Lib.hid hres
                          clear hres HG hje
                          have hjn : ¬ ((j : Int) < (((k + 1) : Nat) : Int)) := by omega
                          have HTW : Hid (∀ W : World, Calls Tryd.prog 27 #[.int .i64 (n), .slice none 0 0] W fun e w' => e = .returned (.tuple #[.int .i64 (refL xs).1, .int .i64 (refL xs).2]) ∧ Below W.heap.size W w') := Lib.hid (fun W => by
                            rw [HRS3.out]
                            have := rtold_calls (n) W
                            rw [show (1) * n = n by omega]
                            exact this)
                          go_wp2_with (go_at_call 27; refine (HTW.out _).mono ?_; rintro e w7 ⟨rfl, hb7⟩; have HB7 := Lib.hid ((below_dr HB2.out q).trans (hb7.mono (below_dr HB2.out q).size)); clear hb7)
                          go_ret2
                          exact ⟨rfl, HB7.out⟩
                    · by_cases h88 : z1 = 88
                      · subst h88
                        have hp : partsR (48 :: 88 :: z2 :: t) = (16, 1, z2 :: t) := by simp [partsR]
                        have hdc : CellsAt W2 g (f + 2) (z2 :: t) := fun i hi => by
                          have := hcz (i + 2) (by simp only [List.length_cons, List.length_nil] at *; omega)
                          rw [show f + 2 + i = f + (i + 2) by omega]
                          simpa using this
                        have hdr : ∀ x ∈ (z2 :: t), 0 ≤ x ∧ x < 65536 := fun x hx => hrz x (by simp only [List.mem_cons, List.not_mem_nil, or_false] at hx ⊢; first | exact hx | exact .inr hx | exact .inr (.inr hx))
                        have hc1 : ¬ c - f = 2 := by omega
                        have hrt := refT_parts (by simp) hp
                        rw [if_neg (by simp)] at hrt
                        have hres2 := HZS.out.trans hrt
                        have HRS2 := Lib.hid hres2
                        have HDL : Hid ((z2 :: t).length = (k + 1)) := Lib.hid (by first | rfl | (simp only [List.length_cons] at hlz ⊢; omega))
                        have HDC : Hid (CellsAt W2 g (f + 2) (z2 :: t)) := Lib.hid hdc
                        have HDR : Hid (∀ x ∈ (z2 :: t), 0 ≤ x ∧ x < 65536) := Lib.hid hdr
                        clear hrt hres2 HZS hdc hdr hcz hrz hlz
                        refine Lib.hid ?_
                        go_wp2_with fail
                        go_loopw [7, 92] (fun v7 v92 w5 => ∃ (j q : Nat) (n : Int), j ≤ (k + 1) ∧ v7 = .int .i64 n ∧ v92 = .int .i64 j ∧ w5 = W2.drewN q ∧ 0 ≤ n ∧ n ≤ 1000000000000000000 ∧ Hid (digitsR 16 0 (z2 :: t) = digitsR 16 n ((z2 :: t).drop j))) (fun _ v92 _ => (k + 1) - (intOf v92).toNat)
                        case atStart => exact ⟨0, 0, 0, Nat.zero_le _, rfl, rfl, rfl, by omega, by omega, Lib.hid rfl⟩
                        case round =>
                          obtain ⟨j, q, n, hj, rfl, rfl, rfl, n0, n1, HG⟩ := hrel
                          by_cases hlt : j < (k + 1)
                          · have hlt2 : j < (z2 :: t).length := by have := HDL.out; omega
                            have hcell := HDC.out j hlt2
                            have hx := HDR.out (z2 :: t)[j] (List.getElem_mem hlt2)
                            have hgd : (z2 :: t).getD j 0 = (z2 :: t)[j] := by simp only [List.getD, List.getElem?_eq_getElem hlt2, Option.getD_some]
                            rw [hgd] at hcell
                            have hdd : (z2 :: t).drop j = (z2 :: t)[j] :: (z2 :: t).drop (j + 1) := List.drop_eq_getElem_cons hlt2
                            generalize (z2 :: t)[j] = d at hcell hx hdd
                            have hv := Lib.hid (value_f d hx)
                            have hvb := valB_range d
                            have HDD := Lib.hid hdd
                            clear hdd hgd hx hlt2
                            generalize hvv : valB d = v at hv hvb
                            have HVV := Lib.hid hvv
                            clear hvv
                            have hlt' : (j : Int) < (((k + 1) : Nat) : Int) := by omega
                            by_cases hb1 : 16 ≤ v
                            · have hres : refL xs = (0, 100) := by
                                rw [HRS2.out, HG.out, HDD.out]
                                simp [digitsR, HVV.out, hb1]
                              have HRS3 := Lib.hid hres
                              clear hres HG
                              go_wp2_with (go_at_call 26; refine (credenzaref10_value.calls 3 d _ _ hv.out).mono ?_; rintro e w6 ⟨rfl, ⟨n6, rfl⟩⟩)
                              go_ret2
                              exact ⟨by rw [HRS3.out]; rfl, below_dr HB2.out _⟩
                            · by_cases hb2 : 9007199254740991 < n
                              · have hres : refL xs = (0, 100) := by
                                  rw [HRS2.out, HG.out, HDD.out]
                                  simp [digitsR, hb2]
                                have HRS3 := Lib.hid hres
                                clear hres HG
                                go_wp2_with (go_at_call 26; refine (credenzaref10_value.calls 3 d _ _ hv.out).mono ?_; rintro e w6 ⟨rfl, ⟨n6, rfl⟩⟩)
                                go_ret2
                                exact ⟨by rw [HRS3.out]; rfl, below_dr HB2.out _⟩
                              · have hb1' : v < 16 := by omega
                                have hb2' : n ≤ 9007199254740991 := by omega
                                have HG2 : Hid (digitsR 16 0 (z2 :: t) = digitsR 16 (16 * n + v) ((z2 :: t).drop (j + 1))) := Lib.hid (by
                                  rw [HG.out, HDD.out]
                                  simp only [digitsR, HVV.out]
                                  rw [if_neg (by omega)])
                                clear HG hb1 hb2
                                go_wp2_with (go_at_call 26; refine (credenzaref10_value.calls 3 d _ _ hv.out).mono ?_; rintro e w6 ⟨rfl, ⟨n6, rfl⟩⟩)
                                go_roundw
                                case rel => exact ⟨j + 1, _, 16 * n + v, by omega, by first | rfl | go_num, by go_num, rfl, by omega, by omega, HG2⟩
                                case measure => simp [intOf]; omega
                          · have hje : (z2 :: t).drop j = [] := List.drop_eq_nil_of_le (by have := HDL.out; omega)
                            have hres : refL xs = toldO (some ((1) * n)) := by
                              rw [HRS2.out, HG.out, hje]
                              rfl
                            have HRS3 := Lib.hid hres
                            clear hres HG hje
                            have hjn : ¬ ((j : Int) < (((k + 1) : Nat) : Int)) := by omega
                            have HTW : Hid (∀ W : World, Calls Tryd.prog 27 #[.int .i64 (n), .slice none 0 0] W fun e w' => e = .returned (.tuple #[.int .i64 (refL xs).1, .int .i64 (refL xs).2]) ∧ Below W.heap.size W w') := Lib.hid (fun W => by
                              rw [HRS3.out]
                              have := rtold_calls (n) W
                              rw [show (1) * n = n by omega]
                              exact this)
                            go_wp2_with (go_at_call 27; refine (HTW.out _).mono ?_; rintro e w7 ⟨rfl, hb7⟩; have HB7 := Lib.hid ((below_dr HB2.out q).trans (hb7.mono (below_dr HB2.out q).size)); clear hb7)
                            go_ret2
                            exact ⟨rfl, HB7.out⟩
                      · have b120 : (z1 == 120) = false := beq_eq_false_iff_ne.2 h120
                        have b88 : (z1 == 88) = false := beq_eq_false_iff_ne.2 h88
                        have hp : partsR (48 :: z1 :: z2 :: t) = (10, 1, 48 :: z1 :: z2 :: t) := by simp [partsR, h120, h88]
                        have hdc : CellsAt W2 g (f + 0) (48 :: z1 :: z2 :: t) := fun i hi => by
                          have := hcz (i + 0) (by simp only [List.length_cons, List.length_nil] at *; omega)
                          rw [show f + 0 + i = f + (i + 0) by omega]
                          simpa using this
                        have hdr : ∀ x ∈ (48 :: z1 :: z2 :: t), 0 ≤ x ∧ x < 65536 := fun x hx => hrz x (by simp only [List.mem_cons, List.not_mem_nil, or_false] at hx ⊢; first | exact hx | exact .inr hx | exact .inr (.inr hx))
                        have hrt := refT_parts (by simp) hp
                        rw [if_neg (by simp)] at hrt
                        have hres2 := HZS.out.trans hrt
                        have HRS2 := Lib.hid hres2
                        have HDL : Hid ((48 :: z1 :: z2 :: t).length = (k + 1 + 1 + 1)) := Lib.hid (by first | rfl | (simp only [List.length_cons] at hlz ⊢; omega))
                        have HDC : Hid (CellsAt W2 g (f) (48 :: z1 :: z2 :: t)) := Lib.hid hdc
                        have HDR : Hid (∀ x ∈ (48 :: z1 :: z2 :: t), 0 ≤ x ∧ x < 65536) := Lib.hid hdr
                        clear hrt hres2 HZS hdc hdr hcz hrz hlz
                        refine Lib.hid ?_
                        go_wp2_with fail
                        go_loopw [7, 92] (fun v7 v92 w5 => ∃ (j q : Nat) (n : Int), j ≤ (k + 1 + 1 + 1) ∧ v7 = .int .i64 n ∧ v92 = .int .i64 j ∧ w5 = W2.drewN q ∧ 0 ≤ n ∧ n ≤ 1000000000000000000 ∧ Hid (digitsR 10 0 (48 :: z1 :: z2 :: t) = digitsR 10 n ((48 :: z1 :: z2 :: t).drop j))) (fun _ v92 _ => (k + 1 + 1 + 1) - (intOf v92).toNat)
                        case atStart => exact ⟨0, 0, 0, Nat.zero_le _, rfl, rfl, rfl, by omega, by omega, Lib.hid rfl⟩
                        case round =>
                          obtain ⟨j, q, n, hj, rfl, rfl, rfl, n0, n1, HG⟩ := hrel
                          by_cases hlt : j < (k + 1 + 1 + 1)
                          · have hlt2 : j < (48 :: z1 :: z2 :: t).length := by have := HDL.out; omega
                            have hcell := HDC.out j hlt2
                            have hx := HDR.out (48 :: z1 :: z2 :: t)[j] (List.getElem_mem hlt2)
                            have hgd : (48 :: z1 :: z2 :: t).getD j 0 = (48 :: z1 :: z2 :: t)[j] := by simp only [List.getD, List.getElem?_eq_getElem hlt2, Option.getD_some]
                            rw [hgd] at hcell
                            have hdd : (48 :: z1 :: z2 :: t).drop j = (48 :: z1 :: z2 :: t)[j] :: (48 :: z1 :: z2 :: t).drop (j + 1) := List.drop_eq_getElem_cons hlt2
                            generalize (48 :: z1 :: z2 :: t)[j] = d at hcell hx hdd
                            have hv := Lib.hid (value_f d hx)
                            have hvb := valB_range d
                            have HDD := Lib.hid hdd
                            clear hdd hgd hx hlt2
                            generalize hvv : valB d = v at hv hvb
                            have HVV := Lib.hid hvv
                            clear hvv
                            have hlt' : (j : Int) < (((k + 1 + 1 + 1) : Nat) : Int) := by omega
                            by_cases hb1 : 10 ≤ v
                            · have hres : refL xs = (0, 100) := by
                                rw [HRS2.out, HG.out, HDD.out]
                                simp [digitsR, HVV.out, hb1]
                              have HRS3 := Lib.hid hres
                              clear hres HG
                              go_wp2_with (go_at_call 26; refine (credenzaref10_value.calls 3 d _ _ hv.out).mono ?_; rintro e w6 ⟨rfl, ⟨n6, rfl⟩⟩)
                              go_ret2
                              exact ⟨by rw [HRS3.out]; rfl, below_dr HB2.out _⟩
                            · by_cases hb2 : 9007199254740991 < n
                              · have hres : refL xs = (0, 100) := by
                                  rw [HRS2.out, HG.out, HDD.out]
                                  simp [digitsR, hb2]
                                have HRS3 := Lib.hid hres
                                clear hres HG
                                go_wp2_with (go_at_call 26; refine (credenzaref10_value.calls 3 d _ _ hv.out).mono ?_; rintro e w6 ⟨rfl, ⟨n6, rfl⟩⟩)
                                go_ret2
                                exact ⟨by rw [HRS3.out]; rfl, below_dr HB2.out _⟩
                              · have hb1' : v < 10 := by omega
                                have hb2' : n ≤ 9007199254740991 := by omega
                                have HG2 : Hid (digitsR 10 0 (48 :: z1 :: z2 :: t) = digitsR 10 (10 * n + v) ((48 :: z1 :: z2 :: t).drop (j + 1))) := Lib.hid (by
                                  rw [HG.out, HDD.out]
                                  simp only [digitsR, HVV.out]
                                  rw [if_neg (by omega)])
                                clear HG hb1 hb2
                                go_wp2_with (go_at_call 26; refine (credenzaref10_value.calls 3 d _ _ hv.out).mono ?_; rintro e w6 ⟨rfl, ⟨n6, rfl⟩⟩)
                                go_roundw
                                case rel => exact ⟨j + 1, _, 10 * n + v, by omega, by first | rfl | go_num, by go_num, rfl, by omega, by omega, HG2⟩
                                case measure => simp [intOf]; omega
                          · have hje : (48 :: z1 :: z2 :: t).drop j = [] := List.drop_eq_nil_of_le (by have := HDL.out; omega)
                            have hres : refL xs = toldO (some ((1) * n)) := by
                              rw [HRS2.out, HG.out, hje]
                              rfl
                            have HRS3 := Lib.hid hres
                            clear hres HG hje
                            have hjn : ¬ ((j : Int) < (((k + 1 + 1 + 1) : Nat) : Int)) := by omega
                            have HTW : Hid (∀ W : World, Calls Tryd.prog 27 #[.int .i64 (n), .slice none 0 0] W fun e w' => e = .returned (.tuple #[.int .i64 (refL xs).1, .int .i64 (refL xs).2]) ∧ Below W.heap.size W w') := Lib.hid (fun W => by
                              rw [HRS3.out]
                              have := rtold_calls (n) W
                              rw [show (1) * n = n by omega]
                              exact this)
                            go_wp2_with (go_at_call 27; refine (HTW.out _).mono ?_; rintro e w7 ⟨rfl, hb7⟩; have HB7 := Lib.hid ((below_dr HB2.out q).trans (hb7.mono (below_dr HB2.out q).size)); clear hb7)
                            go_ret2
                            exact ⟨rfl, HB7.out⟩
                  · have b48 : (z0 == 48) = false := beq_eq_false_iff_ne.2 h48
                    have hp : partsR (z0 :: z1 :: z2 :: t) = (10, 1, z0 :: z1 :: z2 :: t) := by simp [partsR, h43, h45, h48]
                    have hdc : CellsAt W2 g (f + 0) (z0 :: z1 :: z2 :: t) := fun i hi => by
                      have := hcz (i + 0) (by simp only [List.length_cons, List.length_nil] at *; omega)
                      rw [show f + 0 + i = f + (i + 0) by omega]
                      simpa using this
                    have hdr : ∀ x ∈ (z0 :: z1 :: z2 :: t), 0 ≤ x ∧ x < 65536 := fun x hx => hrz x (by simp only [List.mem_cons, List.not_mem_nil, or_false] at hx ⊢; first | exact hx | exact .inr hx | exact .inr (.inr hx))
                    have hrt := refT_parts (by simp) hp
                    rw [if_neg (by simp)] at hrt
                    have hres2 := HZS.out.trans hrt
                    have HRS2 := Lib.hid hres2
                    have HDL : Hid ((z0 :: z1 :: z2 :: t).length = (k + 1 + 1 + 1)) := Lib.hid (by first | rfl | (simp only [List.length_cons] at hlz ⊢; omega))
                    have HDC : Hid (CellsAt W2 g (f) (z0 :: z1 :: z2 :: t)) := Lib.hid hdc
                    have HDR : Hid (∀ x ∈ (z0 :: z1 :: z2 :: t), 0 ≤ x ∧ x < 65536) := Lib.hid hdr
                    clear hrt hres2 HZS hdc hdr hcz hrz hlz
                    refine Lib.hid ?_
                    go_wp2_with fail
                    go_loopw [7, 92] (fun v7 v92 w5 => ∃ (j q : Nat) (n : Int), j ≤ (k + 1 + 1 + 1) ∧ v7 = .int .i64 n ∧ v92 = .int .i64 j ∧ w5 = W2.drewN q ∧ 0 ≤ n ∧ n ≤ 1000000000000000000 ∧ Hid (digitsR 10 0 (z0 :: z1 :: z2 :: t) = digitsR 10 n ((z0 :: z1 :: z2 :: t).drop j))) (fun _ v92 _ => (k + 1 + 1 + 1) - (intOf v92).toNat)
                    case atStart => exact ⟨0, 0, 0, Nat.zero_le _, rfl, rfl, rfl, by omega, by omega, Lib.hid rfl⟩
                    case round =>
                      obtain ⟨j, q, n, hj, rfl, rfl, rfl, n0, n1, HG⟩ := hrel
                      by_cases hlt : j < (k + 1 + 1 + 1)
                      · have hlt2 : j < (z0 :: z1 :: z2 :: t).length := by have := HDL.out; omega
                        have hcell := HDC.out j hlt2
                        have hx := HDR.out (z0 :: z1 :: z2 :: t)[j] (List.getElem_mem hlt2)
                        have hgd : (z0 :: z1 :: z2 :: t).getD j 0 = (z0 :: z1 :: z2 :: t)[j] := by simp only [List.getD, List.getElem?_eq_getElem hlt2, Option.getD_some]
                        rw [hgd] at hcell
                        have hdd : (z0 :: z1 :: z2 :: t).drop j = (z0 :: z1 :: z2 :: t)[j] :: (z0 :: z1 :: z2 :: t).drop (j + 1) := List.drop_eq_getElem_cons hlt2
                        generalize (z0 :: z1 :: z2 :: t)[j] = d at hcell hx hdd
                        have hv := Lib.hid (value_f d hx)
                        have hvb := valB_range d
                        have HDD := Lib.hid hdd
                        clear hdd hgd hx hlt2
                        generalize hvv : valB d = v at hv hvb
                        have HVV := Lib.hid hvv
                        clear hvv
                        have hlt' : (j : Int) < (((k + 1 + 1 + 1) : Nat) : Int) := by omega
                        by_cases hb1 : 10 ≤ v
                        · have hres : refL xs = (0, 100) := by
                            rw [HRS2.out, HG.out, HDD.out]
                            simp [digitsR, HVV.out, hb1]
                          have HRS3 := Lib.hid hres
                          clear hres HG
                          go_wp2_with (go_at_call 26; refine (credenzaref10_value.calls 3 d _ _ hv.out).mono ?_; rintro e w6 ⟨rfl, ⟨n6, rfl⟩⟩)
                          go_ret2
                          exact ⟨by rw [HRS3.out]; rfl, below_dr HB2.out _⟩
                        · by_cases hb2 : 9007199254740991 < n
                          · have hres : refL xs = (0, 100) := by
                              rw [HRS2.out, HG.out, HDD.out]
                              simp [digitsR, hb2]
                            have HRS3 := Lib.hid hres
                            clear hres HG
                            go_wp2_with (go_at_call 26; refine (credenzaref10_value.calls 3 d _ _ hv.out).mono ?_; rintro e w6 ⟨rfl, ⟨n6, rfl⟩⟩)
                            go_ret2
                            exact ⟨by rw [HRS3.out]; rfl, below_dr HB2.out _⟩
                          · have hb1' : v < 10 := by omega
                            have hb2' : n ≤ 9007199254740991 := by omega
                            have HG2 : Hid (digitsR 10 0 (z0 :: z1 :: z2 :: t) = digitsR 10 (10 * n + v) ((z0 :: z1 :: z2 :: t).drop (j + 1))) := Lib.hid (by
                              rw [HG.out, HDD.out]
                              simp only [digitsR, HVV.out]
                              rw [if_neg (by omega)])
                            clear HG hb1 hb2
                            go_wp2_with (go_at_call 26; refine (credenzaref10_value.calls 3 d _ _ hv.out).mono ?_; rintro e w6 ⟨rfl, ⟨n6, rfl⟩⟩)
                            go_roundw
                            case rel => exact ⟨j + 1, _, 10 * n + v, by omega, by first | rfl | go_num, by go_num, rfl, by omega, by omega, HG2⟩
                            case measure => simp [intOf]; omega
                      · have hje : (z0 :: z1 :: z2 :: t).drop j = [] := List.drop_eq_nil_of_le (by have := HDL.out; omega)
                        have hres : refL xs = toldO (some ((1) * n)) := by
                          rw [HRS2.out, HG.out, hje]
                          rfl
                        have HRS3 := Lib.hid hres
                        clear hres HG hje
                        have hjn : ¬ ((j : Int) < (((k + 1 + 1 + 1) : Nat) : Int)) := by omega
                        have HTW : Hid (∀ W : World, Calls Tryd.prog 27 #[.int .i64 (n), .slice none 0 0] W fun e w' => e = .returned (.tuple #[.int .i64 (refL xs).1, .int .i64 (refL xs).2]) ∧ Below W.heap.size W w') := Lib.hid (fun W => by
                          rw [HRS3.out]
                          have := rtold_calls (n) W
                          rw [show (1) * n = n by omega]
                          exact this)
                        go_wp2_with (go_at_call 27; refine (HTW.out _).mono ?_; rintro e w7 ⟨rfl, hb7⟩; have HB7 := Lib.hid ((below_dr HB2.out q).trans (hb7.mono (below_dr HB2.out q).size)); clear hb7)
                        go_ret2
                        exact ⟨rfl, HB7.out⟩
    · -- nothing is left
      have hfx : f = xs.length := by omega
      subst hfx
      have hres : refL xs = (0, 0) := by
        have : trimL xs = [] := by rw [← HT.out, List.drop_length]; rfl
        simp [refL, this, trimR]
      have HRES := Lib.hid hres
      clear hres HT HA hlt
      go_wp2_with fail
      go_loopw [4] (fun v4 w3 => v4 = .slice A 0 (c - xs.length) ∧ w3 = w2.drewN q) (fun _ _ => 0)
      case atStart => exact ⟨by simp, rfl⟩
      case round =>
        obtain ⟨rfl, rfl⟩ := hrel
        go_wp2
        go_ret2
        exact ⟨by rw [HRES.out]; rfl, below_dr HB.out _⟩
end Go.Proofs.YtjapgngbphnapaaDoor.Num
