/-
  WALKS: strconv.ParseInt at base 16 and 64 bits, at a string that begins with no sign. After the kit's own walk of the same text at base 10.
-/
import Derived.Test.YtjapgngbphnapaaDoorNumB
import Derived.Lib.Strings
import Derived.Lib.Walk
import Derived.Lib.ConvBytes
import Derived.Lib.AtoiAllMem
import Derived.Laws.Strings3
import Derived.Laws.Closers25
import Derived.Laws.Closers25b
import Derived.BigCall
import Derived.BigGuard
import Derived.Lib.IfaceNeq
import Derived.Lib.ItoaWalk
import Derived.Lib.AtoiErrMem
namespace Go.Proofs.YtjapgngbphnapaaDoor.Num
open Go.Proofs.YtjapgngbphnapaaDoor.NumP Go.Proofs.YtjapgngbphnapaaDoorW.PrintWords Go.RowKit

/-- A byte's hexadecimal value. -/
def hexVal (c : UInt8) : Option Nat :=
  if 48 ≤ c.toNat ∧ c.toNat ≤ 57 then some (c.toNat - 48)
  else if 97 ≤ c.toNat ∧ c.toNat ≤ 102 then some (c.toNat - 87)
  else if 65 ≤ c.toNat ∧ c.toNat ≤ 70 then some (c.toNat - 55)
  else none

/-- ParseUint(s, 16, 64) behind its test for the empty string; an error: false: no numeral; true: out of range. -/
def hexFrom (acc : Nat) : List UInt8 → Except Bool Nat
  | [] => .ok acc
  | c :: r => match hexVal c with
    | none => .error false
    | some d => if 1152921504606846976 ≤ acc then .error true else hexFrom (acc * 16 + d) r

def hexTuple : Except Bool Nat → Value
  | .ok u => .tuple #[.int .u64 u, .nilIface]
  | .error false => .tuple #[.int .u64 0, .iface 61 (.int .i64 2)]
  | .error true => .tuple #[.int .u64 18446744073709551615, .iface 61 (.int .i64 1)]

/-- the lower letter -/
def low (c : UInt8) : Int := Go.bits .or .u8 (c.toNat : Int) 32
theorem low_fin : ∀ c : Fin 256, (Go.bits .or .u8 (c.val : Int) 32) = (c.val ||| 32 : Nat) := by decide +kernel

theorem low_lt : ∀ c : Fin 256, (c.val ||| 32 : Nat) < 256 := by decide +kernel
theorem letter_fin : ∀ c : Fin 256, ¬ (48 ≤ c.val ∧ c.val ≤ 57) → ∀ d : Fin 16, hexVal (UInt8.ofNat c.val) = some d.val → 97 ≤ (c.val ||| 32) ∧ (c.val ||| 32) ≤ 102 ∧ d.val = (c.val ||| 32) - 87 := by decide +kernel
theorem none_fin : ∀ c : Fin 256, hexVal (UInt8.ofNat c.val) = none → (c.val ||| 32) < 97 ∨ 102 < (c.val ||| 32) := by decide +kernel
theorem hexVal_lt {c : UInt8} {d : Nat} (h : hexVal c = some d) : d < 16 := by
  unfold hexVal at h
  split at h
  · cases h; omega
  · split at h
    · cases h; omega
    · split at h
      · cases h; omega
      · cases h
theorem hexVal_letter {c : UInt8} {d : Nat} (hn : ¬ (48 ≤ c.toNat ∧ c.toNat ≤ 57)) (h : hexVal c = some d) : 97 ≤ (c.toNat ||| 32) ∧ (c.toNat ||| 32) ≤ 102 ∧ d = (c.toNat ||| 32) - 87 :=
  letter_fin ⟨c.toNat, c.toNat_lt⟩ hn ⟨d, hexVal_lt h⟩ (by simpa using h)
theorem hexVal_none {c : UInt8} (h : hexVal c = none) : (c.toNat ||| 32) < 97 ∨ 102 < (c.toNat ||| 32) :=
  none_fin ⟨c.toNat, c.toNat_lt⟩ (by simpa using h)

theorem hex_digit {c : UInt8} (h : 48 ≤ c.toNat ∧ c.toNat ≤ 57) : hexVal c = some (c.toNat - 48) := by simp [hexVal, h]

set_option maxHeartbeats 32000000 in
set_option maxRecDepth 100000 in
theorem parseUint16 (t : ByteArray) (hne : t.size ≠ 0) (hmax : t.size ≤ 9223372036854775806) (w : World) :
    Calls Tryd.prog 41 #[.string t, .int .i64 16, .int .i64 64] w fun e w' => e = .returned (hexTuple (hexFrom 0 t.data.toList)) ∧ w' = Lib.bytesWorld w 5 t := by
  have hemp : t.toList.isEmpty = false := by
    rw [← decide_eq_emptyBytes]
    exact decide_eq_false (fun h => hne (by rw [h]; rfl))
  have hcv := Lib.run_convert_string_bytes (P := Tryd.prog) w 9 40 5 t (u := .string) Tryd.underlying9 Tryd.underlying40 Tryd.underlying5
  have hB : ∀ j, j < t.size → (Lib.bytesWorld w 5 t).cell? ⟨w.heap.size, j, none⟩ = some (.int .u8 (t.data.toList.getD j 0).toNat) := fun j hj => Lib.bytesWorld_cell w 5 t j hj
  obtain ⟨W1, hW1⟩ : ∃ W1, W1 = Lib.bytesWorld w 5 t := ⟨_, rfl⟩
  rw [← hW1] at hcv hB ⊢
  clear hW1
  obtain ⟨bs, hL⟩ : ∃ bs, bs = t.data.toList := ⟨_, rfl⟩
  have hLn : bs.length = t.size := by rw [hL, Lib.size_eq]
  rw [← hL] at hB ⊢
  clear hL
  have hmv : IntKind.u64.wrap (IntKind.u64.wrap 18446744073709551616 - 1) = 18446744073709551615 := by
    rw [IntKind.wrap_u64, IntKind.wrap_u64]
    decide
  go_enter Tryd.func41, Tryd.ntmps41
  go_wp2
  go_loop [12, 13, 101] (fun vu vn vi => ∃ (k acc : Nat) (a : Int), vu = .bool false ∧ vn = .int .u64 a ∧ vi = .int .i64 k ∧ k ≤ t.size ∧ Hid (a = (acc : Int) ∧ acc < 18446744073709551616 ∧ hexFrom 0 bs = hexFrom acc (bs.drop k)))
    (fun _ _ vi => t.size - (intOf vi).toNat)
  case atStart => exact ⟨0, 0, 0, rfl, rfl, rfl, by omega, rfl, by omega, rfl⟩
  case round =>
    obtain ⟨k, acc, a, rfl, rfl, rfl, hk, hh⟩ := hrel
    obtain ⟨ha, hacc, hdec⟩ := hh.out
    clear hh
    have a0 : 0 ≤ a := by omega
    have a1 : a < 18446744073709551616 := by omega
    by_cases hkn : k < t.size
    · have hc := hB k hkn
      have hdrop : bs.drop k = bs[k]'(by omega) :: bs.drop (k + 1) := List.drop_eq_getElem_cons (by omega)
      have hget : bs.getD k 0 = bs[k]'(by omega) := by simp [List.getD, List.getElem?_eq_getElem (show k < bs.length by omega)]
      rw [hdrop] at hdec
      rw [hget] at hc
      generalize bs[k]'(by omega) = c at hc hdec
      have hc256 : c.toNat < 256 := c.toNat_lt
      clear hB hdrop hget
      by_cases hdig : 48 ≤ c.toNat ∧ c.toNat ≤ 57
      · obtain ⟨hd0, hd1⟩ := hdig
        have hx := hex_digit ⟨hd0, hd1⟩
        by_cases hcut : 1152921504606846976 ≤ acc
        · have hF : hexFrom acc (c :: bs.drop (k + 1)) = .error true := by simp [hexFrom, hx, hcut]
          rw [hF] at hdec
          have icut : 1152921504606846976 ≤ a := by omega
          clear hcut hacc hF ha hx
          go_wp2
          go_ret2
          first | exact ⟨rfl, rfl⟩ | exact ⟨by rw [hdec]; rfl, rfl⟩
        · have hF : hexFrom acc (c :: bs.drop (k + 1)) = hexFrom (acc * 16 + (c.toNat - 48)) (bs.drop (k + 1)) := by simp [hexFrom, hx, hcut]
          have HN : Hid (a * 16 + ((c.toNat : Int) - 48) = ((acc * 16 + (c.toNat - 48) : Nat) : Int) ∧ acc * 16 + (c.toNat - 48) < 18446744073709551616 ∧ hexFrom 0 bs = hexFrom (acc * 16 + (c.toNat - 48)) (bs.drop (k + 1))) := Lib.hid ⟨by omega, by omega, hdec.trans hF⟩
          have icut : a < 1152921504606846976 := by omega
          have iov : a * 16 + ((c.toNat : Int) - 48) < 18446744073709551616 := by omega
          clear hcut hacc hF hdec ha hx
          go_wp2
          refine ⟨⟨k + 1, acc * 16 + (c.toNat - 48), a * 16 + ((c.toNat : Int) - 48), rfl, (by first | rfl | (congr 1; omega)), (by first | rfl | (congr 1; omega)), by omega, HN⟩, by simp [intOf]; omega⟩
      · have hb0 : Go.bits .or .u8 (c.toNat : Int) 32 = (((c.toNat ||| 32 : Nat)) : Int) := low_fin ⟨c.toNat, hc256⟩
        have hb1 : Go.bits .or .u8 95 32 = 127 := by decide +kernel
        have hb2 : (c.toNat ||| 32) < 256 := by
          have := low_lt ⟨c.toNat, hc256⟩
          exact this
        have hlow : ∀ w, Calls Tryd.prog 51 #[.int .u8 (c.toNat : Int)] w fun e w' => e = .returned (.int .u8 ((c.toNat ||| 32 : Nat) : Int)) ∧ w' = w := fun w => by
          rw [← hb0]; exact Tryd.internal_strconv_lower _ _
        have HL := Lib.hid hlow
        clear hlow hb0 hb1
        have h95 : ∃ b, (((c.toNat : Nat) : Int) == 95) = b := ⟨_, rfl⟩
        obtain ⟨b95, h95⟩ := h95
        have hnd : ¬ ((48 : Int) ≤ (c.toNat : Int) ∧ (c.toNat : Int) ≤ 57) := by omega
        cases hx : hexVal c with
        | none =>
          have hF : hexFrom acc (c :: bs.drop (k + 1)) = .error false := by simp [hexFrom, hx]
          rw [hF] at hdec
          have hq := hexVal_none hx
          clear hacc hF ha hx
          generalize (c.toNat ||| 32) = q at HL hq hb2
          have hwr : 102 < q → IntKind.u8.wrap (IntKind.u8.wrap ((q : Int) - 97) + 10) = (q : Int) - 87 := fun h => by
            rw [IntKind.wrap_u8, IntKind.wrap_u8]; omega
          rcases hq with hq | hq
          · have g1 : (q : Int) < 97 := by omega
            by_cases hlo : (48 : Int) ≤ (c.toNat : Int)
            · have hhi : (57 : Int) < (c.toNat : Int) := by omega
              cases b95 <;>
              · go_wp2_with (go_at_call 51; refine (HL.out _).mono ?_; rintro e w' ⟨rfl, rfl⟩)
                go_ret2
                first | exact ⟨rfl, rfl⟩ | exact ⟨by rw [hdec]; rfl, rfl⟩
            · cases b95 <;>
              · go_wp2_with (go_at_call 51; refine (HL.out _).mono ?_; rintro e w' ⟨rfl, rfl⟩)
                go_ret2
                first | exact ⟨rfl, rfl⟩ | exact ⟨by rw [hdec]; rfl, rfl⟩
          · have g1 : (97 : Int) ≤ (q : Int) := by omega
            have g3 : (16 : Int) ≤ (q : Int) - 87 := by omega
            have g4 : (q : Int) - 97 + 10 = (q : Int) - 87 := by omega
            have HW := Lib.hid hwr
            clear hwr
            by_cases hz : q ≤ 122
            · have g2 : (q : Int) ≤ 122 := by omega
              by_cases hlo : (48 : Int) ≤ (c.toNat : Int)
              · have hhi : (57 : Int) < (c.toNat : Int) := by omega
                cases b95 <;>
                · go_wp2_with (go_at_call 51; refine (HL.out _).mono ?_; rintro e w' ⟨rfl, rfl⟩)
                  go_ret2
                  first | exact ⟨rfl, rfl⟩ | exact ⟨by rw [hdec]; rfl, rfl⟩
              · cases b95 <;>
                · go_wp2_with (go_at_call 51; refine (HL.out _).mono ?_; rintro e w' ⟨rfl, rfl⟩)
                  go_ret2
                  first | exact ⟨rfl, rfl⟩ | exact ⟨by rw [hdec]; rfl, rfl⟩
            · have g2 : (122 : Int) < (q : Int) := by omega
              by_cases hlo : (48 : Int) ≤ (c.toNat : Int)
              · have hhi : (57 : Int) < (c.toNat : Int) := by omega
                cases b95 <;>
                · go_wp2_with (go_at_call 51; refine (HL.out _).mono ?_; rintro e w' ⟨rfl, rfl⟩)
                  go_ret2
                  first | exact ⟨rfl, rfl⟩ | exact ⟨by rw [hdec]; rfl, rfl⟩
              · cases b95 <;>
                · go_wp2_with (go_at_call 51; refine (HL.out _).mono ?_; rintro e w' ⟨rfl, rfl⟩)
                  go_ret2
                  first | exact ⟨rfl, rfl⟩ | exact ⟨by rw [hdec]; rfl, rfl⟩
        | some d =>
          obtain ⟨hd0, hd1, hd2⟩ := hexVal_letter hdig hx
          generalize (c.toNat ||| 32) = q at HL hd0 hd1 hd2 hb2
          have g1 : (97 : Int) ≤ (q : Int) := by omega
          have g2 : (q : Int) ≤ 122 := by omega
          have g3 : (q : Int) - 87 < 16 := by omega
          have g4 : (q : Int) - 97 + 10 = (q : Int) - 87 := by omega
          by_cases hcut : 1152921504606846976 ≤ acc
          · have hF : hexFrom acc (c :: bs.drop (k + 1)) = .error true := by simp [hexFrom, hx, hcut]
            rw [hF] at hdec
            have icut : 1152921504606846976 ≤ a := by omega
            clear hcut hacc hF ha hx hd2
            by_cases hlo : (48 : Int) ≤ (c.toNat : Int)
            · have hhi : (57 : Int) < (c.toNat : Int) := by omega
              cases b95 <;>
              · go_wp2_with (go_at_call 51; refine (HL.out _).mono ?_; rintro e w' ⟨rfl, rfl⟩)
                go_ret2
                first | exact ⟨rfl, rfl⟩ | exact ⟨by rw [hdec]; rfl, rfl⟩
            · cases b95 <;>
              · go_wp2_with (go_at_call 51; refine (HL.out _).mono ?_; rintro e w' ⟨rfl, rfl⟩)
                go_ret2
                first | exact ⟨rfl, rfl⟩ | exact ⟨by rw [hdec]; rfl, rfl⟩
          · have hF : hexFrom acc (c :: bs.drop (k + 1)) = hexFrom (acc * 16 + d) (bs.drop (k + 1)) := by simp [hexFrom, hx, hcut]
            have HN : Hid (a * 16 + ((q : Int) - 87) = ((acc * 16 + d : Nat) : Int) ∧ acc * 16 + d < 18446744073709551616 ∧ hexFrom 0 bs = hexFrom (acc * 16 + d) (bs.drop (k + 1))) := Lib.hid ⟨by omega, by omega, hdec.trans hF⟩
            have icut : a < 1152921504606846976 := by omega
            have iov : a * 16 + ((q : Int) - 87) < 18446744073709551616 := by omega
            clear hcut hacc hF hdec ha hx hd2
            by_cases hlo : (48 : Int) ≤ (c.toNat : Int)
            · have hhi : (57 : Int) < (c.toNat : Int) := by omega
              cases b95 <;>
              · go_wp2_with (go_at_call 51; refine (HL.out _).mono ?_; rintro e w' ⟨rfl, rfl⟩)
                refine ⟨⟨k + 1, acc * 16 + d, a * 16 + ((q : Int) - 87), rfl, (by first | rfl | (congr 1; omega)), (by first | rfl | (congr 1; omega)), by omega, HN⟩, by simp [intOf]; omega⟩
            · cases b95 <;>
              · go_wp2_with (go_at_call 51; refine (HL.out _).mono ?_; rintro e w' ⟨rfl, rfl⟩)
                refine ⟨⟨k + 1, acc * 16 + d, a * 16 + ((q : Int) - 87), rfl, (by first | rfl | (congr 1; omega)), (by first | rfl | (congr 1; omega)), by omega, HN⟩, by simp [intOf]; omega⟩
    · -- THE BYTES ARE AT AN END
      have hkk : k = t.size := by omega
      subst hkk
      have hF : hexFrom acc (bs.drop t.size) = .ok acc := by rw [List.drop_eq_nil_of_le (by omega)]; rfl
      rw [hF] at hdec
      subst ha
      clear hacc hF a0 a1
      go_wp2
      go_ret2
      first | exact ⟨rfl, rfl⟩ | exact ⟨by rw [hdec]; rfl, rfl⟩

theorem hexFrom_lt : ∀ (l : List UInt8) (acc u : Nat), acc < 18446744073709551616 → hexFrom acc l = .ok u → u < 18446744073709551616
  | [], acc, u, h, e => by simp [hexFrom] at e; omega
  | c :: r, acc, u, h, e => by
    simp only [hexFrom] at e
    cases hx : hexVal c with
    | none => rw [hx] at e; cases e
    | some d =>
      rw [hx] at e
      have hd := hexVal_lt hx
      simp only at e
      split at e
      · cases e
      · exact hexFrom_lt r _ u (by omega) e

theorem bytesW_below (w : World) (t : ByteArray) : Below w.heap.size w (Lib.bytesWorld w 5 t) := Lib.bytesWorld_below _ _ _

set_option maxHeartbeats 8000000 in
set_option maxRecDepth 100000 in
/-- internal/strconv.ParseInt(s, 16, 64) at a string that begins with no sign: what its ParseUint comes to. -/
theorem parseInt16i (t : ByteArray) (hne : t.size ≠ 0) (hmax : t.size ≤ 9223372036854775806) (h43 : t.data.toList.getD 0 0 ≠ 43) (h45 : t.data.toList.getD 0 0 ≠ 45) (w : World) :
    Calls Tryd.prog 36 #[.string t, .int .i64 16, .int .i64 64] w fun e w' => (match hexFrom 0 t.data.toList with
      | .ok u => e = .returned (if u < 9223372036854775808 then .tuple #[.int .i64 u, .nilIface] else .tuple #[.int .i64 9223372036854775807, .iface 61 (.int .i64 1)])
      | .error false => e = .returned (.tuple #[.int .i64 0, .iface 61 (.int .i64 2)])
      | .error true => e = .returned (.tuple #[.int .i64 9223372036854775807, .iface 61 (.int .i64 1)])) ∧ w' = Lib.bytesWorld w 5 t := by
  have hemp : t.toList.isEmpty = false := by
    rw [← decide_eq_emptyBytes]
    exact decide_eq_false (fun h => hne (by rw [h]; rfl))
  have hpos : 0 < t.size := by omega
  have hs0 := Lib.getD_at t 0 hpos
  have c43 : (Tryd.prog.info? 61).map (·.comparable) = some true := by kernel_rfl
  have hq2 : ∀ W, (binOp .neq 42 (.iface 61 (.int .i64 2)) (.iface 61 (.int .i64 1))).run Tryd.prog W = .ok (.bool true) W := fun W => Lib.run_neq_iface_int W 2 1 Tryd.underlying42 c43 Tryd.underlying61
  have hq1 : ∀ W, (binOp .neq 42 (.iface 61 (.int .i64 1)) (.iface 61 (.int .i64 1))).run Tryd.prog W = .ok (.bool false) W := fun W => Lib.run_neq_iface_int W 1 1 Tryd.underlying42 c43 Tryd.underlying61
  have n43 : ((t[0]'hpos).toNat : Int) ≠ 43 := fun e => h43 (by rw [← hs0]; exact UInt8.toNat.inj (by have e2 : (t[0]).toNat = _ := Int.ofNat.inj e; exact e2))
  have n45 : ((t[0]'hpos).toNat : Int) ≠ 45 := fun e => h45 (by rw [← hs0]; exact UInt8.toNat.inj (by have e2 : (t[0]).toNat = _ := Int.ofNat.inj e; exact e2))
  have b43 : (((t[0]'hpos).toNat : Int) == 43) = false := beq_eq_false_iff_ne.2 n43
  have b45 : (((t[0]'hpos).toNat : Int) == 45) = false := beq_eq_false_iff_ne.2 n45
  have hU := parseUint16 t hne hmax w
  generalize hE : hexFrom 0 t.data.toList = E at hU ⊢
  clear n43 n45 h43 h45 hs0 c43

  cases E with
  | error b =>
    clear hE
    cases b with
    | false =>
      have hU : Calls Tryd.prog 41 #[.string t, .int .i64 16, .int .i64 64] w fun e w' => e = .returned (.tuple #[.int .u64 0, .iface 61 (.int .i64 2)]) ∧ w' = Lib.bytesWorld w 5 t := hU
      have HU := Lib.hid hU
      clear hU
      go_enter Tryd.func36, Tryd.ntmps36
      go_wp2_with (go_at_call 41; refine HU.out.mono ?_; rintro e w1 ⟨rfl, rfl⟩)
      go_ret2
      exact ⟨rfl, rfl⟩
    | true =>
      have hU : Calls Tryd.prog 41 #[.string t, .int .i64 16, .int .i64 64] w fun e w' => e = .returned (.tuple #[.int .u64 18446744073709551615, .iface 61 (.int .i64 1)]) ∧ w' = Lib.bytesWorld w 5 t := hU
      have HU := Lib.hid hU
      clear hU
      go_enter Tryd.func36, Tryd.ntmps36
      go_wp2_with (go_at_call 41; refine HU.out.mono ?_; rintro e w1 ⟨rfl, rfl⟩)
      go_ret2
      exact ⟨rfl, rfl⟩
  | ok u =>
    have hu64 := hexFrom_lt _ 0 u (by omega) hE
    obtain ⟨a, ha⟩ : ∃ a : Int, a = (u : Int) := ⟨_, rfl⟩
    have hU : Calls Tryd.prog 41 #[.string t, .int .i64 16, .int .i64 64] w fun e w' => e = .returned (.tuple #[.int .u64 a, .nilIface]) ∧ w' = Lib.bytesWorld w 5 t := by rw [ha]; exact hU
    have a0 : 0 ≤ a := by omega
    have a1 : a < 18446744073709551616 := by omega
    have HU := Lib.hid hU
    clear hU hE
    by_cases hlt : u < 9223372036854775808
    · have hres : (if u < 9223372036854775808 then Value.tuple #[.int .i64 u, .nilIface] else .tuple #[.int .i64 9223372036854775807, .iface 61 (.int .i64 1)]) = .tuple #[.int .i64 a, .nilIface] := by rw [if_pos hlt, ha]
      have iout : a < 9223372036854775808 := by omega
      simp only [hres]
      clear hres hlt hu64 ha
      go_enter Tryd.func36, Tryd.ntmps36
      go_wp2_with (go_at_call 41; refine HU.out.mono ?_; rintro e w1 ⟨rfl, rfl⟩)
      go_ret2
      exact ⟨rfl, rfl⟩
    · have hres : (if u < 9223372036854775808 then Value.tuple #[.int .i64 u, .nilIface] else .tuple #[.int .i64 9223372036854775807, .iface 61 (.int .i64 1)]) = .tuple #[.int .i64 9223372036854775807, .iface 61 (.int .i64 1)] := by rw [if_neg hlt]
      have iout : 9223372036854775808 ≤ a := by omega
      simp only [hres]
      clear hres hlt hu64 ha
      go_enter Tryd.func36, Tryd.ntmps36
      go_wp2_with (go_at_call 41; refine HU.out.mono ?_; rintro e w1 ⟨rfl, rfl⟩)
      go_ret2
      exact ⟨rfl, rfl⟩

/-- What a Read makes of ParseInt's answer: the number, where there is no error. -/
def hexInt (l : List UInt8) : Option Int :=
  match hexFrom 0 l with
  | .ok u => if u < 9223372036854775808 then some u else none
  | .error _ => none

theorem varCell {w : World} {n : String} {g : Nat} {v : Value} (hg : Tryd.prog.globalNamed n = some g) (h : w.var? Tryd.prog n = some #[v]) : w.cell? ⟨g, 0, none⟩ = some v := by
  have := World.var?_cell hg h 0
  simpa using this

set_option maxHeartbeats 4000000 in
set_option maxRecDepth 100000 in
/-- strconv.ParseInt(s, 16, 64) at a string that begins with no sign, where it succeeds. -/
theorem parse16_ok (t : ByteArray) (hne : t.size ≠ 0) (hmax : t.size ≤ 281474976710656) (h43 : t.data.toList.getD 0 0 ≠ 43) (h45 : t.data.toList.getD 0 0 ≠ 45) (v : Int) (h : hexInt t.data.toList = some v) (w : World) :
    Calls Tryd.prog 21 #[.string t, .int .i64 16, .int .i64 64] w fun e w' => e = .returned (.tuple #[.int .i64 v, .nilIface]) ∧ Below w.heap.size w w' := by
  have hI := parseInt16i t hne (by omega) h43 h45 w
  have hI : Calls Tryd.prog 36 #[.string t, .int .i64 16, .int .i64 64] w fun e w' => e = .returned (.tuple #[.int .i64 v, .nilIface]) ∧ w' = Lib.bytesWorld w 5 t := by
    unfold hexInt at h
    cases hE : hexFrom 0 t.data.toList with
    | error b => rw [hE] at h; cases h
    | ok u =>
      rw [hE] at h hI
      simp only at h
      split at h
      · rename_i hlt
        cases h
        simpa [hlt] using hI
      · cases h
  clear h h43 h45
  have HI := Lib.hid hI
  clear hI
  go_enter Tryd.func21, Tryd.ntmps21
  go_wp2_with (go_at_call 36; refine HI.out.mono ?_; rintro e W1 ⟨rfl, rfl⟩)
  go_ret2
  exact ⟨rfl, bytesW_below _ _⟩

set_option maxHeartbeats 4000000 in
set_option maxRecDepth 100000 in
/-- strconv.ParseInt(s, 16, 64) at a string that begins with no sign, where it fails: an error that is not nil. -/
theorem parse16_no (t : ByteArray) (hne : t.size ≠ 0) (hmax : t.size ≤ 281474976710656) (h43 : t.data.toList.getD 0 0 ≠ 43) (h45 : t.data.toList.getD 0 0 ≠ 45) (h : hexInt t.data.toList = none) (w : World) (hv : Vars w) :
    Calls Tryd.prog 21 #[.string t, .int .i64 16, .int .i64 64] w fun e w' => ∃ v N, e = .returned (.tuple #[.int .i64 v, .iface 64 (.pointer (some ⟨N, 0, none⟩))]) ∧ Below w.heap.size w w' := by
  have hI := parseInt16i t hne (by omega) h43 h45 w
  have hb1 := bytesW_below w t
  have hv1 := hv.below hb1
  obtain ⟨ts, ps, es⟩ := hv1.syn
  obtain ⟨tr, pr, er⟩ := hv1.rng
  have cs := Lib.hid (varCell gSyn es)
  have cr := Lib.hid (varCell gRng er)
  clear es er hv hv1
  have hI : (Calls Tryd.prog 36 #[.string t, .int .i64 16, .int .i64 64] w fun e w' => e = .returned (.tuple #[.int .i64 0, .iface 61 (.int .i64 2)]) ∧ w' = Lib.bytesWorld w 5 t) ∨
      (Calls Tryd.prog 36 #[.string t, .int .i64 16, .int .i64 64] w fun e w' => e = .returned (.tuple #[.int .i64 9223372036854775807, .iface 61 (.int .i64 1)]) ∧ w' = Lib.bytesWorld w 5 t) := by
    unfold hexInt at h
    cases hE : hexFrom 0 t.data.toList with
    | error b =>
      rw [hE] at hI
      cases b
      · exact .inl (by simpa using hI)
      · exact .inr (by simpa using hI)
    | ok u =>
      rw [hE] at h hI
      simp only at h
      split at h
      · cases h
      · rename_i hlt
        exact .inr (by simpa [hlt] using hI)
  clear h h43 h45
  have HB := Lib.hid hb1
  clear hb1
  rcases hI with hI | hI
  · have HI := Lib.hid hI
    clear hI
    generalize Lib.bytesWorld w 5 t = W1 at *
    go_enter Tryd.func21, Tryd.ntmps21
    go_wp2_with (first
      | (go_at_call 36; refine HI.out.mono ?_; rintro e W1 ⟨rfl, rfl⟩)
      | (go_at_call 37; refine (Tryd.strconv_toError_form _ t _ _ _ _ hmax cs.out (.inr ⟨_, _, rfl⟩)).mono ?_; rintro e W2 ⟨N, rfl, h1, h2, h3⟩; have H3 := Lib.hid h3; clear h1 h2 h3))
    go_ret2
    exact ⟨_, N, rfl, HB.out.trans (H3.out.mono HB.out.size)⟩
  · have HI := Lib.hid hI
    clear hI
    generalize Lib.bytesWorld w 5 t = W1 at *
    go_enter Tryd.func21, Tryd.ntmps21
    go_wp2_with (first
      | (go_at_call 36; refine HI.out.mono ?_; rintro e W1 ⟨rfl, rfl⟩)
      | (go_at_call 37; refine (Tryd.strconv_toError_range _ t _ _ _ _ hmax cr.out (.inr ⟨_, _, rfl⟩)).mono ?_; rintro e W2 ⟨N, rfl, h1, h2, h3⟩; have H3 := Lib.hid h3; clear h1 h2 h3))
    go_ret2
    exact ⟨_, N, rfl, HB.out.trans (H3.out.mono HB.out.size)⟩
end Go.Proofs.YtjapgngbphnapaaDoor.Num
