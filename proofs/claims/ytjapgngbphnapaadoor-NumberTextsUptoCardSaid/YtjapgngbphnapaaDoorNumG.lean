/-
  WALKS: number.Read.
-/
import Derived.Test.YtjapgngbphnapaaDoorNumH
namespace Go.Proofs.YtjapgngbphnapaaDoor.Num
open Go.Proofs.YtjapgngbphnapaaDoor.NumP Go.Proofs.YtjapgngbphnapaaDoorW.PrintWords Go.RowKit Go.Proofs.YtjapgngbphnapaaDoorW.PrintLast Go.Proofs.YtjapgngbphnapaaDoorW.PrintMore

theorem firstFrom_nil : ∀ (xs : List Int) (i : Nat), trimL xs = [] → firstFrom i xs = -1
  | [], _, _ => rfl
  | x :: r, i, h => by
    unfold trimL at h
    rw [List.dropWhile_cons] at h
    split at h
    · rename_i hb
      simp only [firstFrom, hb, if_true]
      exact firstFrom_nil r (i + 1) h
    · cases h

theorem firstFrom_some : ∀ (xs : List Int) (i : Nat), trimL xs ≠ [] → firstFrom i xs = ((i + (xs.length - (trimL xs).length) : Nat) : Int) ∧ trimL xs = xs.drop (xs.length - (trimL xs).length) ∧ blankB ((trimL xs).getD 0 0) = false
  | [], _, h => absurd rfl h
  | x :: r, i, h => by
    unfold trimL at h ⊢
    rw [List.dropWhile_cons] at h ⊢
    by_cases hb : blankB x = true
    · rw [if_pos hb] at h ⊢
      have hl : (r.dropWhile blankB).length ≤ r.length := (List.dropWhile_sublist _).length_le
      obtain ⟨h1, h2, h3⟩ := firstFrom_some r (i + 1) h
      unfold trimL at h1 h2 h3
      refine ⟨?_, ?_, h3⟩
      · simp only [firstFrom, hb, if_true, h1, List.length_cons]
        omega
      · have e : (x :: r).length - (r.dropWhile blankB).length = (r.length - (r.dropWhile blankB).length) + 1 := by simp only [List.length_cons]; omega
        rw [e, List.drop_succ_cons]; exact h2
    · rw [if_neg hb] at h ⊢
      refine ⟨?_, ?_, ?_⟩
      · simp [firstFrom, hb]
      · simp
      · simpa using hb

theorem trimL_len (xs : List Int) : (trimL xs).length ≤ xs.length := (List.dropWhile_sublist _).length_le

theorem trimR_snoc (ys : List Int) (y : Int) : trimR (ys ++ [y]) = if blankB y then trimR ys else ys ++ [y] := by
  unfold trimR
  rw [List.reverse_append]
  simp only [List.reverse_cons, List.reverse_nil, List.nil_append, List.singleton_append, List.dropWhile_cons]
  split <;> simp

set_option maxHeartbeats 400000 in
theorem index_empty (A : Option Addr) (c : Nat) (w : World) :
    Calls Tryd.prog 20 #[.slice A 0 c, .func (.func 18) #[] #[]] w fun e w' => e = .returned (.int .i64 (-1)) ∧ w' = w := by
  go_enter Tryd.func20, Tryd.ntmps20
  go_wp2
  go_loopw [5, 8] (fun _ v8 wr => v8 = .int .i64 0 ∧ wr = w) (fun _ _ _ => 0)
  case atStart => exact ⟨rfl, rfl⟩
  case round =>
    obtain ⟨rfl, rfl⟩ := hrel
    go_wp2
    go_ret
    exact ⟨rfl, rfl⟩

theorem below_mk0 (w : World) (n : Nat) : Below w.heap.size w (w.drewN n) := ⟨rfl, rfl, rfl, Nat.le_refl _, fun _ _ => rfl⟩
theorem below_dr {B : Nat} {w w1 : World} (h : Below B w w1) (n : Nat) : Below B w (w1.drewN n) := h.trans ⟨rfl, rfl, rfl, Nat.le_refl _, fun _ _ => rfl⟩

/-- What strconv.ParseInt comes to. -/
def Parsed (o : Option Int) (w : World) (e : Ending) (w' : World) : Prop :=
  ((∃ v, o = some v ∧ e = .returned (.tuple #[.int .i64 v, .nilIface])) ∨ (o = none ∧ ∃ v N, e = .returned (.tuple #[.int .i64 v, .iface 64 (.pointer (some ⟨N, 0, none⟩))]))) ∧ Below w.heap.size w w'

theorem parsed_some {f : FuncId} {args : Array Value} {v : Int} {w : World} (h : Calls Tryd.prog f args w (Parsed (some v) w)) :
    Calls Tryd.prog f args w fun e w' => e = .returned (.tuple #[.int .i64 v, .nilIface]) ∧ Below w.heap.size w w' :=
  h.mono fun e w' ⟨h, hb⟩ => by
    rcases h with ⟨v1, h1, rfl⟩ | ⟨h1, _⟩
    · cases h1; exact ⟨rfl, hb⟩
    · cases h1
theorem parsed_none {f : FuncId} {args : Array Value} {w : World} (h : Calls Tryd.prog f args w (Parsed none w)) :
    Calls Tryd.prog f args w fun e w' => (∃ v N, e = .returned (.tuple #[.int .i64 v, .iface 64 (.pointer (some ⟨N, 0, none⟩))])) ∧ Below w.heap.size w w' :=
  h.mono fun e w' ⟨h, hb⟩ => by
    rcases h with ⟨v1, h1, _⟩ | ⟨_, v, N, rfl⟩
    · cases h1
    · exact ⟨⟨v, N, rfl⟩, hb⟩

theorem parse10_any (t : ByteArray) (hmax : t.size ≤ 281474976710656) (w : World) (hv : Vars w) :
    Calls Tryd.prog 21 #[.string t, .int .i64 10, .int .i64 64] w (Parsed (decInt t.data.toList) w) := by
  cases h : Lib.parseIntB 64 t.data.toList with
  | ok v =>
    refine (Tryd.strconv_ParseInt_10_at64_ok t (by omega) v h w).mono ?_
    rintro e w' ⟨rfl, hw⟩
    refine ⟨.inl ⟨v, by simp [decInt, h], rfl⟩, ?_⟩
    rcases hw with rfl | ⟨t, rfl⟩
    · exact Below.refl _ _
    · exact bytesW_below _ _
  | range =>
    obtain ⟨tp, p, e⟩ := hv.rng
    refine (Tryd.strconv_ParseInt_10_at64_range_var t hmax h tp p w e).mono ?_
    rintro e w' ⟨N, rfl, _, _, hb⟩
    exact ⟨.inr ⟨by simp [decInt, h], _, N, rfl⟩, hb⟩
  | _ =>
    obtain ⟨tp, p, e⟩ := hv.syn
    refine (Tryd.strconv_ParseInt_10_at64_form_var t hmax (by rw [h]; intro v e; cases e) (by rw [h]; intro e; cases e) tp p w e).mono ?_
    rintro e w' ⟨N, rfl, _, _, hb⟩
    exact ⟨.inr ⟨by simp [decInt, h], _, N, rfl⟩, hb⟩

theorem parse16_any (t : ByteArray) (hne : t.size ≠ 0) (hmax : t.size ≤ 281474976710656) (h43 : t.data.toList.getD 0 0 ≠ 43) (h45 : t.data.toList.getD 0 0 ≠ 45) (w : World) (hv : Vars w) :
    Calls Tryd.prog 21 #[.string t, .int .i64 16, .int .i64 64] w (Parsed (hexInt t.data.toList) w) := by
  cases h : hexInt t.data.toList with
  | some v =>
    refine (parse16_ok t hne hmax h43 h45 v h w).mono ?_
    rintro e w' ⟨rfl, hb⟩
    exact ⟨.inl ⟨v, rfl, rfl⟩, hb⟩
  | none =>
    refine (parse16_no t hne hmax h43 h45 h w hv).mono ?_
    rintro e w' ⟨v, N, rfl, hb⟩
    exact ⟨.inr ⟨rfl, v, N, rfl⟩, hb⟩

/-- What the call comes to. -/
def Read (xs : List Int) (w : World) (e : Ending) (w' : World) : Prop := e = .returned (.tuple #[.int .i64 (readL xs).1, .int .i64 (readL xs).2]) ∧ Below w.heap.size w w'
theorem Read.mk {xs : List Int} {w w' : World} (a b : Int) (h : readL xs = (a, b)) (hb : Below w.heap.size w w') : Read xs w (.returned (.tuple #[.int .i64 a, .int .i64 b])) w' := ⟨by rw [h], hb⟩

set_option maxHeartbeats 16000000 in
set_option maxRecDepth 100000 in
theorem read_walk (u : ByteArray) (hc : units_Check.f u = some true) (xs : List Int) (hn : units_Len.f u = some (xs.length : Int)) (hN : xs.length ≤ 1099511627776)
    (hat : ∀ j : Nat, j < xs.length → units_At.f u (j : Int) = some (xs.getD j 0)) (hr : ∀ x ∈ xs, 0 ≤ x ∧ x < 65536) (w : World) (hv : Vars w) :
    Calls Tryd.prog 6 #[.string u] w (Read xs w) := by
  have HC := Lib.hid hc
  have HN := Lib.hid hn
  have HA := Lib.hid hat
  have HR := Lib.hid hr
  clear hc hn hat hr
  go_enter Tryd.func6, Tryd.ntmps6
  go_wp2_with (first
    | (go_at_call 15; refine (units_Check.calls u _ _ HC.out).mono ?_; rintro e w1 ⟨rfl, ⟨n1, rfl⟩⟩)
    | (go_at_call 16; refine (units_Len.calls u _ _ HN.out).mono ?_; rintro e w1 ⟨rfl, ⟨n2, rfl⟩⟩))
  have HV := Lib.hid hv
  clear hv
  have HB : Hid (Below w.heap.size w (w.drewN (n1 + n2))) := Lib.hid (below_mk0 _ _)
  generalize w.drewN (n1 + n2) = w0 at *
  go_loopw [4, 20] (fun v4 v20 wr => ∃ j : Nat, j ≤ xs.length ∧ v20 = .int .i64 j ∧ Aside0 (Kd.R (Kd.int .i64) 3 wr w.heap.size (fun _ => True) v4 (xs.take j)) ∧ Aside0 (Below w.heap.size w wr)) (fun _ v20 _ => xs.length - (intOf v20).toNat)
  case atStart => exact ⟨0, Nat.zero_le _, rfl, ⟨Kd.R_nil _ _ _ _ _⟩, ⟨HB.out⟩⟩
  case round =>
    clear HB
    obtain ⟨j, hj, rfl, HO, HB⟩ := hrel
    by_cases hlt : j < xs.length
    · have HAT := Lib.hid (HA.out j hlt)
      generalize hx : xs.getD j 0 = x at HAT
      have HX := Lib.hid hx
      clear hx
      have HL : Hid ((xs.take j).length < 17592186044416) := Lib.hid (by rw [List.length_take]; omega)
      generalize hq : xs.take j = q at HO HL
      have HQ := Lib.hid hq
      clear hq
      go_wp2_with (first
        | (go_at_call 17; refine (units_At.calls u _ _ _ HAT.out).mono ?_; rintro e w1 ⟨rfl, ⟨n3, rfl⟩⟩)
        | ((with_reducible refine gate_builtin (b := .append) (xs := #[.tmp 23, .tmp 27]) rfl ?_); at_builtin; refine Kd.R_append (Kd.int .i64) (w0 := w) w.heap.size rfl (.tmp 23) (.tmp 27) 35 3 (.int .i64 0) 8 rfl Tryd.underlying35 info3 rfl (by decide) (by omega) _ q x [.int .i64 x] (fun _ => True) (fun _ => False) rfl rfl ?aP (fun _ hk => hk.elim) ?aF ?aO ?aB ?aS ?aL ?_; (case aP => exact rfl); (case aB => exact (by repeat (first | (with_reducible first | exact HB.out | apply below_alloc | apply pw_below_drewN | apply below_drew1) | exact HB.out))); (case aF => exact (fun _ _ => trivial)); (case aO => exact (by (with_reducible repeat (first | apply Kd.R_alloc | apply Kd.R_drewN | apply Kd.R_drew)); exact HO.out)); (case aS => exact (below_size (by repeat (first | (with_reducible first | exact HB.out | apply below_alloc | apply pw_below_drewN | apply below_drew1) | exact HB.out)))); (case aL => have := HL.out; omega); intro v213 w8 ho hb hg hat; have HB2 := Lib.hid hb; have HO2 := Lib.hid ho; clear ho hb hg hat))
      go_roundw
      case rel =>
        refine ⟨j + 1, by omega, by go_num, ⟨?_⟩, ⟨HB2.out⟩⟩
        have h1 : xs.take (j + 1) = q ++ [x] := by
          rw [← HQ.out, ← HX.out]
          rw [List.take_succ_eq_append_getElem hlt]
          simp [List.getD, hlt]
        rw [h1]
        exact HO2.out
      case measure => simp [intOf]; omega
    · have hjn : j = xs.length := by omega
      have hO := HO.out
      rw [hjn, List.take_length] at hO
      clear HO HA HN HC
      obtain ⟨A, c, rfl⟩ := Kd.R_slice hO
      obtain ⟨_, hcap, _⟩ := Kd.R_reads' hO
      clear hjn
      by_cases ht : trimL xs = []
      · -- white space alone
        have hres : readL xs = (0, 0) := by simp [readL, ht]
        have HRES := Lib.hid hres
        clear hres
        by_cases hz : xs.length = 0
        · have HZ := Lib.hid hz
          clear hz hO hcap
          go_wp2_with (go_at_call 20; rw [HZ.out]; refine (index_empty A c _).mono ?_; rintro e w1 ⟨rfl, rfl⟩)
          go_ret2
          exact Read.mk _ _ HRES.out HB.out
        · obtain ⟨g, cap, hf, _⟩ := Kd.R_form hO (by omega)
          cases hf
          have HCELL : Hid (CellsAt wr g 0 xs) := Lib.hid (fun j hj => by
            have := (Kd.R_celln 0 hO (j : Int) (by omega) (by omega)).1
            simpa [rdOf, rd] using this)
          have HF := Lib.hid (firstFrom_nil xs 0 ht)
          clear hO ht hz
          go_wp2_with (go_at_call 20; refine (index_calls g c xs hN _ HCELL.out).mono ?_; rintro e w1 ⟨rfl, n, rfl⟩; rw [HF.out])
          go_ret2
          exact Read.mk _ _ HRES.out (below_dr HB.out _)
      · obtain ⟨h1, h2, h3⟩ := firstFrom_some xs 0 ht
        have hle := trimL_len xs
        have hne : 0 < (trimL xs).length := List.length_pos_iff.2 ht
        obtain ⟨g, cap, hf, _⟩ := Kd.R_form hO (by omega)
        cases hf
        have HCELL : Hid (CellsAt wr g 0 xs) := Lib.hid (fun j hj => by
          have := (Kd.R_celln 0 hO (j : Int) (by omega) (by omega)).1
          simpa [rdOf, rd] using this)
        obtain ⟨f, hfe⟩ : ∃ f, f = xs.length - (trimL xs).length := ⟨_, rfl⟩
        rw [← hfe] at h1 h2
        have HF : Hid (firstFrom 0 xs = (f : Int)) := Lib.hid (by rw [h1]; omega)
        have f1 : f < xs.length := by omega
        have f2 : f < c := by omega
        have f3 : f ≤ c := by omega
        have f4 : f ≤ xs.length := by omega
        have HNE := Lib.hid ht
        have HY := Lib.hid h2
        have HY0 := Lib.hid h3
        clear hO ht hfe hne hle h1 h2 h3
        go_wp2_with (first
          | (go_at_call 20; refine (index_calls g c xs hN _ HCELL.out).mono ?_; rintro e w1 ⟨rfl, n, rfl⟩; rw [HF.out])
          | (go_at_call 19; fail))
        have hcy : CellsAt (wr.drewN n) g f (trimL xs) := fun k hk => by
          have e := HY.out
          rw [e, List.length_drop] at hk
          have := HCELL.out (f + k) (by omega)
          rw [Nat.zero_add] at this
          rw [e]
          simpa [List.getD] using this
        have hly : (trimL xs).length = xs.length - f := by rw [HY.out, List.length_drop]
        have hry : ∀ x ∈ trimL xs, 0 ≤ x ∧ x < 65536 := fun x hx => HR.out x ((List.dropWhile_sublist _).subset hx)
        have HB2 := Lib.hid (below_dr HB.out n)
        have HV2 := Lib.hid (HV.out.below HB2.out)
        clear HV HR HCELL HF HB HY
        have HRES : Hid (∀ a, readL xs = a ↔ (if (trimR (trimL xs)).any badB then (0, 100) else plainRead (Num.bytes (trimR (trimL xs)))) = a) := Lib.hid (fun a => by
          unfold readL
          rw [if_neg HNE.out])
        generalize wr.drewN n = W1 at *
        generalize trimL xs = ys at *
        have HCY := Lib.hid hcy
        have HLY := Lib.hid hly
        have HRY := Lib.hid hry
        have HNE2 : Hid (0 < ys.length) := Lib.hid (by omega)
        clear hcy hly hry HNE
        go_loopw [4] (fun v4 w2 => ∃ m q : Nat, 1 ≤ m ∧ m ≤ xs.length - f ∧ v4 = .slice (some ⟨g, f, none⟩) m (c - f) ∧ w2 = W1.drewN q ∧ Hid (trimR (ys.take m) = trimR ys)) (fun v4 _ => match v4 with | .slice _ m _ => m | _ => 0)
        case atStart => exact ⟨xs.length - f, 0, by omega, Nat.le_refl _, rfl, rfl, Lib.hid (by rw [List.take_of_length_le (by have := HLY.out; omega)])⟩
        case round =>
          obtain ⟨m, q, hm1, hm2, rfl, rfl, HT⟩ := hrel
          have hlt : m - 1 < ys.length := by have := HLY.out; omega
          have hcell := HCY.out (m - 1) hlt
          have HLT := Lib.hid hlt
          clear hlt
          obtain ⟨m, rfl⟩ : ∃ k, m = k + 1 := ⟨m - 1, by omega⟩
          simp only [Nat.add_sub_cancel] at hcell HLT
          have htk : ys.take (m + 1) = ys.take m ++ [ys.getD m 0] := by
            rw [List.take_succ_eq_append_getElem HLT.out]; simp [List.getD, HLT.out]
          have HTK := Lib.hid htk
          clear htk
          have hz : m = 0 → blankB (ys.getD m 0) = false := fun e => by rw [e]; exact HY0.out
          have HZ := Lib.hid hz
          clear hz
          generalize hyv : ys.getD m 0 = y at hcell HTK HZ
          have HYV := Lib.hid hyv
          clear hyv
          have hbf := Lib.hid (blank_f y)
          cases hb : blankB y with
          | true =>
            have HBL := Lib.hid hb
            have hm0 : 0 < m := by
              rcases Nat.eq_zero_or_pos m with e | e
              · have := HZ.out e; rw [hb] at this; cases this
              · exact e
            clear hb
            go_wp2_with (go_at_call 19; refine (number_blank.calls y _ _ hbf.out).mono ?_; rintro e w1 ⟨rfl, ⟨n4, rfl⟩⟩; rw [HBL.out])
            go_roundw
            case rel =>
              refine ⟨m, _, by omega, by omega, ?_, rfl, Lib.hid ?_⟩
              · rfl
              · rw [← HT.out, HTK.out, trimR_snoc, HBL.out]; rfl
            case measure => simp
          | false =>
            have HBL := Lib.hid hb
            clear hb HZ
            go_wp2_with (go_at_call 19; refine (number_blank.calls y _ _ hbf.out).mono ?_; rintro e w1 ⟨rfl, ⟨n4, rfl⟩⟩; rw [HBL.out]; refine Hid.out ?_)
            have hzs : trimR ys = ys.take (m + 1) := by rw [← HT.out, HTK.out, trimR_snoc, HBL.out]; rfl
            have HZS := Lib.hid hzs
            have hgl : g < W1.heap.size := Lib.lt_of_cell hcell
            have HGL := Lib.hid hgl
            clear hzs HTK HT HBL hbf HYV hcell hgl
            have HB3 := Lib.hid (below_dr HB2.out (q + n4))
            have HCZ : Hid (CellsAt (W1.drewN (q + n4)) g f (ys.take (m + 1))) := Lib.hid (fun k hk => by
              rw [List.length_take] at hk
              have := HCY.out k (by omega)
              rw [show (ys.take (m + 1)).getD k 0 = ys.getD k 0 by simp [List.getD, show k < m + 1 by omega]]
              exact this)
            have hm40 : m + 1 ≤ 1099511627776 := by omega
            have HLZ : Hid ((ys.take (m + 1)).length = m + 1) := Lib.hid (by rw [List.length_take]; have := HLT.out; omega)
            have HRZ : Hid (∀ x ∈ ys.take (m + 1), 0 ≤ x ∧ x < 65536) := Lib.hid (fun x hx => HRY.out x (List.mem_of_mem_take hx))
            have HV3 : Hid (Vars (W1.drewN (q + n4))) := Lib.hid (HV2.out.below (below_mk0 _ _))
            have HGL3 : Hid (g < (W1.drewN (q + n4)).heap.size) := HGL
            generalize W1.drewN (q + n4) = W2 at *
            clear HV2 HB2 HGL HLT HNE2 HRY HLY HCY HY0
            generalize ys.take (m + 1) = zs at *
            refine Lib.hid ?_
            go_wp2_with (first
              | ((with_reducible refine gate_dst (N := 52) rfl ?_); refine Kd.R_make (Kd.int .u8) (w0 := W2) W2.heap.size 5 rfl (N := 52) rfl 40 _ _ rfl ((m : Int) + 1) rfl rfl Tryd.underlying40 (.int .u8 0) 1 info5 rfl (by decide) (by omega) 0 (ok := fun _ => True) (okp := fun _ => True) rfl (fun _ hk => hk) trivial (by omega) (by omega) (Below.refl _ _) (Nat.le_refl _) ?_; intro v184 w5 ho6 hb hg_ hnew_; clear hg_ hnew_; have HO2 := Lib.hid ho6; have HB4 := Lib.hid hb; clear ho6 hb))
            have hlr : (List.replicate ((m : Int) + 1).toNat (0 : Int)).length = m + 1 := by rw [List.length_replicate]; omega
            obtain ⟨g2, c2, hv184, hg2, hg2l, _⟩ := Kd.R_form HO2.out (by rw [hlr]; omega)
            rw [hlr] at hv184
            subst hv184
            clear hlr hg2l
            have HG2 := Lib.hid hg2
            clear hg2
            go_loopw [55] (fun v55 w6 => ∃ k : Nat, k ≤ m + 1 ∧ v55 = .int .i64 k ∧ Aside0 (Kd.R (Kd.int .u8) 5 w6 W2.heap.size (fun _ => True) (.slice (some ⟨g2, 0, none⟩) (m + 1) c2) (zs.take k ++ List.replicate (m + 1 - k) 0)) ∧ Aside0 (Below W2.heap.size W2 w6) ∧ Hid ((zs.take k).any badB = false)) (fun v55 _ => m + 1 - (intOf v55).toNat)
            case atStart => exact ⟨0, by omega, rfl, ⟨by simpa using HO2.out⟩, ⟨HB4.out⟩, Lib.hid rfl⟩
            case round =>
              clear HO2 HB4
              obtain ⟨k, hk, rfl, HO, HB, HBAD⟩ := hrel
              by_cases hlt : k < m + 1
              · have hkz : k < zs.length := by have := HLZ.out; omega
                have hcell := (HB.out.cell (p := ⟨g, f + k, none⟩) HGL3.out).trans (HCZ.out k hkz)
                have hx := HRZ.out zs[k] (List.getElem_mem hkz)
                have hgd : zs.getD k 0 = zs[k] := by simp [List.getD, hkz]
                rw [hgd] at hcell
                have htk : zs.take (k + 1) = zs.take k ++ [zs[k]] := List.take_succ_eq_append_getElem hkz
                have hany : zs.any badB = true ∨ badB zs[k] = false := by
                  cases hb : badB zs[k] with
                  | false => exact .inr rfl
                  | true => exact .inl (List.any_eq_true.2 ⟨_, List.getElem_mem hkz, hb⟩)
                generalize zs[k] = x at hcell hx htk hany
                obtain ⟨x0, x1⟩ := hx
                have HTK := Lib.hid htk
                have HKZ := Lib.hid hkz
                clear htk hkz hgd
                by_cases hb1 : 127 < x
                · have hres : readL xs = (0, 100) := (HRES.out _).2 (by
                    rw [HZS.out, if_pos]
                    rcases hany with h | h
                    · exact h
                    · simp [badB, hb1] at h)
                  have HRS := Lib.hid hres
                  clear hany hres
                  go_wp2
                  go_ret2
                  exact Read.mk _ _ HRS.out (HB3.out.trans (HB.out.mono HB3.out.size))
                · have hb1' : x ≤ 127 := by omega
                  cases hb2 : (x == 95) with
                  | true =>
                    have hres : readL xs = (0, 100) := (HRES.out _).2 (by
                      rw [HZS.out, if_pos]
                      rcases hany with h | h
                      · exact h
                      · simp [badB, hb1, hb2] at h)
                    have HRS := Lib.hid hres
                    clear hany hres
                    go_wp2
                    go_ret2
                    exact Read.mk _ _ HRS.out (HB3.out.trans (HB.out.mono HB3.out.size))
                  | false =>
                    have hnb : badB x = false := by simp [badB, hb1, hb2]
                    have HNB := Lib.hid hnb
                    clear hany hnb
                    have hlen : (zs.take k ++ List.replicate (m + 1 - k) (0 : Int)).length = m + 1 := by
                      rw [List.length_append, List.length_take, List.length_replicate]; have := HLZ.out; omega
                    obtain ⟨hx16, hf16⟩ := Kd.R_celln 0 HO.out (k : Int) (by omega) (by omega)
                    rw [Int.toNat_natCast] at hx16 hf16
                    have hp17 := Kd.R_putg HO.out (k : Int) x
                    rw [Int.toNat_natCast] at hp17
                    have hset : (zs.take k ++ List.replicate (m + 1 - k) (0 : Int)).set k x = zs.take (k + 1) ++ List.replicate (m + 1 - (k + 1)) 0 := by
                      have hlk : (zs.take k).length = k := by rw [List.length_take]; have := HKZ.out; omega
                      rw [List.set_append_right _ _ (by omega), hlk, Nat.sub_self, show m + 1 - k = (m + 1 - (k + 1)) + 1 by omega, List.replicate_succ, HTK.out]
                      simp
                    rw [hset] at hp17
                    have HP17 := Lib.hid hp17
                    clear hp17 hset hlen
                    go_wp2
                    go_roundw
                    case rel => exact ⟨k + 1, by omega, by go_num, ⟨HP17.out.1⟩, ⟨below_set HB.out HG2.out⟩, Lib.hid (by rw [HTK.out, List.any_append, HBAD.out]; simp [HNB.out])⟩
                    case measure => simp [intOf]; omega
              · have hkm : k = m + 1 := by omega
                have hO := HO.out
                have hB := HBAD.out
                rw [hkm, Nat.sub_self, List.take_of_length_le (by have := HLZ.out; omega)] at hO
                rw [hkm, List.take_of_length_le (by have := HLZ.out; omega)] at hB
                simp only [List.replicate_zero, List.append_nil] at hO
                have hcv := own_string (P := Tryd.prog) Tryd.underlying40 Tryd.underlying5 Tryd.underlying9 (Kd.own_of_R hO)
                have hts : (strOfNums zs).size = m + 1 := by rw [strOfNums_size]; exact HLZ.out
                have htl : (strOfNums zs).data.toList = Num.bytes zs := rfl
                have hres : readL xs = plainRead (strOfNums zs).data.toList := (HRES.out _).2 (by rw [HZS.out, if_neg (by rw [hB]; decide), htl])
                have HRS := Lib.hid hres
                have HB5 := Lib.hid (HB3.out.trans (HB.out.mono HB3.out.size))
                have HV5 := Lib.hid (HV3.out.below HB.out)
                have HTS := Lib.hid hts
                clear hO HO hB HBAD htl hres hts HB HB3 HV3 HCZ HRZ HLZ HZS HRES
                generalize strOfNums zs = t at *
                by_cases hbig : 2 < t.size
                · obtain ⟨b0, b1, b2, rest, hL⟩ := three t.data.toList (show 2 < t.size from hbig)
                  have hpz : t.size ≤ 281474976710656 := by have := HTS.out; omega
                  have hbig' : (2 : Int) < (t.size : Int) := by omega
                  have hd2 : decide ((2 : Int) < (t.size : Int)) = true := decide_eq_true hbig'
                  have hext := extract2 hL
                  by_cases hh : b0 = 48 ∧ (b1 = 120 ∨ b1 = 88)
                  · obtain ⟨r, hre⟩ : ∃ r, r = t.extract 2 t.size := ⟨_, rfl⟩
                    have hsl : ∀ W, (Instr.slice 9 (.string t) (some (.int .i64 2)) none none).run Tryd.prog W = .ok (.string r) W := fun W => by
                      rw [run_slice_string_from_if W 9 t .i64 _ Tryd.underlying9, if_pos ⟨by omega, by omega⟩, hre]
                      rfl
                    have hrl : r.data.toList = b2 :: rest := by rw [hre]; exact drop2 hL
                    have hrs : r.size = rest.length + 1 := by
                      have : r.data.toList.length = r.size := rfl
                      rw [hrl] at this; simpa using this.symm
                    have hts : t.size = rest.length + 3 := by
                      have : t.data.toList.length = t.size := rfl
                      rw [hL] at this; simpa using this.symm
                    have hrp : 0 < r.size := by omega
                    have hr0 : (r[0]'hrp) = b2 := by
                      have := Lib.getD_at r 0 hrp
                      rw [hrl] at this; simpa using this
                    have hpl : plainRead t.data.toList = if signB b2 then (0, 100) else toldO (hexInt r.data.toList) := by rw [hrl, hL]; exact head_yes hh
                    rw [hpl] at HRS
                    have hc256 : b2.toNat < 256 := b2.toNat_lt
                    have hpre : ((t.extract 0 2).toList == [48, 120]) = true ∨ (((t.extract 0 2).toList == [48, 120]) = false ∧ ((t.extract 0 2).toList == [48, 88]) = true) := by
                      rw [hext, hh.1]
                      rcases hh.2 with h | h
                      · left; rw [h]; rfl
                      · right; rw [h]; exact ⟨rfl, rfl⟩
                    clear hpl hre hext hh hL HTS
                    cases hs1 : (((r[0]'hrp).toNat : Int) == 45) with
                    | true =>
                      have hres : readL xs = (0, 100) := by
                        rw [HRS.out, if_pos]
                        have : (b2.toNat : Int) = 45 := by rw [hr0] at hs1; simpa using hs1
                        have e : b2 = 45 := UInt8.toNat.inj (by have e2 : b2.toNat = _ := Int.ofNat.inj this; exact e2)
                        simp [signB, e]
                      have HRES2 := Lib.hid hres
                      clear hres HRS hrl hr0
                      rcases hpre with hp1 | ⟨hp1, hp2⟩
                      · go_wp2
                        go_ret2
                        exact Read.mk _ _ HRES2.out HB5.out
                      · go_wp2
                        go_ret2
                        exact Read.mk _ _ HRES2.out HB5.out
                    | false =>
                      cases hs2 : (((r[0]'hrp).toNat : Int) == 43) with
                      | true =>
                        have hres : readL xs = (0, 100) := by
                          rw [HRS.out, if_pos]
                          have : (b2.toNat : Int) = 43 := by rw [hr0] at hs2; simpa using hs2
                          have e : b2 = 43 := UInt8.toNat.inj (by have e2 : b2.toNat = _ := Int.ofNat.inj this; exact e2)
                          simp [signB, e]
                        have HRES2 := Lib.hid hres
                        clear hres HRS hrl hr0
                        rcases hpre with hp1 | ⟨hp1, hp2⟩
                        · go_wp2
                          go_ret2
                          exact Read.mk _ _ HRES2.out HB5.out
                        · go_wp2
                          go_ret2
                          exact Read.mk _ _ HRES2.out HB5.out
                      | false =>
                        have n45 : b2 ≠ 45 := fun e => by rw [hr0, e] at hs1; simp at hs1
                        have n43 : b2 ≠ 43 := fun e => by rw [hr0, e] at hs2; simp at hs2
                        have hsg : signB b2 = false := by simp [signB, n45, n43]
                        have hr43 : r.data.toList.getD 0 0 ≠ 43 := by rw [hrl]; simpa using n43
                        have hr45 : r.data.toList.getD 0 0 ≠ 45 := by rw [hrl]; simpa using n45
                        have hrz : r.size ≠ 0 := by omega
                        have hrm : r.size ≤ 281474976710656 := by omega
                        have HPL : Hid (readL xs = toldO (hexInt r.data.toList)) := Lib.hid (by rw [HRS.out, hsg]; rfl)
                        have HP16 := Lib.hid (parse16_any r hrz hrm hr43 hr45 wr HV5.out)
                        clear HRS hrl hr0 hr43 hr45 n45 n43 hsg
                        rcases hpre with hp1 | ⟨hp1, hp2⟩
                        · have hP := HP16.out
                          cases hd : hexInt r.data.toList with
                          | some v =>
                            rw [hd] at HPL hP
                            have HP := Lib.hid (parsed_some hP)
                            have HTO : Hid (number_told.f v true = some ((toldO (some v)).1, (toldO (some v)).2)) := Lib.hid (told_f v true)
                            clear hP hd
                            generalize toldO (some v) = rr at *
                            go_wp2_with (first
                              | (go_at_call 21; refine HP.out.mono ?_; rintro e w9 ⟨rfl, hb9⟩; have HB9 := Lib.hid (HB5.out.trans (hb9.mono HB5.out.size)); clear hb9)
                              | (go_at_call 22; refine (number_told.calls v _ _ _ _ HTO.out).mono ?_; rintro e w10 ⟨rfl, ⟨n10, rfl⟩⟩))
                            go_ret2
                            exact Read.mk _ _ HPL.out (below_dr HB9.out _)
                          | none =>
                            rw [hd] at HPL hP
                            have HP := Lib.hid (parsed_none hP)
                            have HPL2 : Hid (readL xs = (0, 100)) := HPL
                            clear hP hd HPL
                            go_wp2_with (first
                              | (go_at_call 21; refine HP.out.mono ?_; rintro e w9 ⟨⟨v, N, rfl⟩, hb9⟩; have HB9 := Lib.hid (HB5.out.trans (hb9.mono HB5.out.size)); clear hb9)
                              | (go_at_call 22; refine (number_told.calls _ false 0 100 _ (told_f _ false)).mono ?_; rintro e w10 ⟨rfl, ⟨n10, rfl⟩⟩))
                            go_ret2
                            exact Read.mk _ _ HPL2.out (below_dr HB9.out _)
                        · have hP := HP16.out
                          cases hd : hexInt r.data.toList with
                          | some v =>
                            rw [hd] at HPL hP
                            have HP := Lib.hid (parsed_some hP)
                            have HTO : Hid (number_told.f v true = some ((toldO (some v)).1, (toldO (some v)).2)) := Lib.hid (told_f v true)
                            clear hP hd
                            generalize toldO (some v) = rr at *
                            go_wp2_with (first
                              | (go_at_call 21; refine HP.out.mono ?_; rintro e w9 ⟨rfl, hb9⟩; have HB9 := Lib.hid (HB5.out.trans (hb9.mono HB5.out.size)); clear hb9)
                              | (go_at_call 22; refine (number_told.calls v _ _ _ _ HTO.out).mono ?_; rintro e w10 ⟨rfl, ⟨n10, rfl⟩⟩))
                            go_ret2
                            exact Read.mk _ _ HPL.out (below_dr HB9.out _)
                          | none =>
                            rw [hd] at HPL hP
                            have HP := Lib.hid (parsed_none hP)
                            have HPL2 : Hid (readL xs = (0, 100)) := HPL
                            clear hP hd HPL
                            go_wp2_with (first
                              | (go_at_call 21; refine HP.out.mono ?_; rintro e w9 ⟨⟨v, N, rfl⟩, hb9⟩; have HB9 := Lib.hid (HB5.out.trans (hb9.mono HB5.out.size)); clear hb9)
                              | (go_at_call 22; refine (number_told.calls _ false 0 100 _ (told_f _ false)).mono ?_; rintro e w10 ⟨rfl, ⟨n10, rfl⟩⟩))
                            go_ret2
                            exact Read.mk _ _ HPL2.out (below_dr HB9.out _)
                  · have hpl : plainRead t.data.toList = toldO (decInt t.data.toList) := by rw [hL]; exact head_no hh
                    rw [hpl] at HRS
                    have HPL := HRS
                    have hp1 : ((t.extract 0 2).toList == [48, 120]) = false := by
                      rw [hext, beq_eq_false_iff_ne]; intro e; cases e; exact hh ⟨rfl, .inl rfl⟩
                    have hp2 : ((t.extract 0 2).toList == [48, 88]) = false := by
                      rw [hext, beq_eq_false_iff_ne]; intro e; cases e; exact hh ⟨rfl, .inr rfl⟩
                    clear hpl HRS hext hh hL HTS
                    have hP := parse10_any t hpz wr HV5.out
                    cases hd : decInt t.data.toList with
                    | some v =>
                      rw [hd] at HPL hP
                      have HP := Lib.hid (parsed_some hP)
                      have HTO : Hid (number_told.f v true = some ((toldO (some v)).1, (toldO (some v)).2)) := Lib.hid (told_f v true)
                      clear hP hd
                      generalize toldO (some v) = r at *
                      go_wp2_with (first
                        | (go_at_call 21; refine HP.out.mono ?_; rintro e w9 ⟨rfl, hb9⟩; have HB9 := Lib.hid (HB5.out.trans (hb9.mono HB5.out.size)); clear hb9)
                        | (go_at_call 22; refine (number_told.calls v _ _ _ _ HTO.out).mono ?_; rintro e w10 ⟨rfl, ⟨n10, rfl⟩⟩))
                      go_ret2
                      exact Read.mk _ _ HPL.out (below_dr HB9.out _)
                    | none =>
                      rw [hd] at HPL hP
                      have HP := Lib.hid (parsed_none hP)
                      have HPL2 : Hid (readL xs = (0, 100)) := HPL
                      clear hP hd HPL
                      go_wp2_with (first
                        | (go_at_call 21; refine HP.out.mono ?_; rintro e w9 ⟨⟨v, N, rfl⟩, hb9⟩; have HB9 := Lib.hid (HB5.out.trans (hb9.mono HB5.out.size)); clear hb9)
                        | (go_at_call 22; refine (number_told.calls _ false 0 100 _ (told_f _ false)).mono ?_; rintro e w10 ⟨rfl, ⟨n10, rfl⟩⟩))
                      go_ret2
                      exact Read.mk _ _ HPL2.out (below_dr HB9.out _)
                · have hsm : ¬ ((2 : Int) < (t.size : Int)) := by omega
                  have hd2 : decide ((2 : Int) < (t.size : Int)) = false := decide_eq_false hsm
                  have hpl := head_short (l := t.data.toList) hbig
                  rw [hpl] at HRS
                  have HPL := HRS
                  clear hpl HRS hsm
                  have hpz : t.size ≤ 281474976710656 := by omega
                  have hP := parse10_any t hpz wr HV5.out
                  cases hd : decInt t.data.toList with
                  | some v =>
                    rw [hd] at HPL hP
                    have HP := Lib.hid (parsed_some hP)
                    have HTO : Hid (number_told.f v true = some ((toldO (some v)).1, (toldO (some v)).2)) := Lib.hid (told_f v true)
                    clear hP hd
                    generalize toldO (some v) = r at *
                    go_wp2_with (first
                      | (go_at_call 21; refine HP.out.mono ?_; rintro e w9 ⟨rfl, hb9⟩; have HB9 := Lib.hid (HB5.out.trans (hb9.mono HB5.out.size)); clear hb9)
                      | (go_at_call 22; refine (number_told.calls v _ _ _ _ HTO.out).mono ?_; rintro e w10 ⟨rfl, ⟨n10, rfl⟩⟩))
                    go_ret2
                    exact Read.mk _ _ HPL.out (below_dr HB9.out _)
                  | none =>
                    rw [hd] at HPL hP
                    have HP := Lib.hid (parsed_none hP)
                    have HPL2 : Hid (readL xs = (0, 100)) := HPL
                    clear hP hd HPL
                    go_wp2_with (first
                      | (go_at_call 21; refine HP.out.mono ?_; rintro e w9 ⟨⟨v, N, rfl⟩, hb9⟩; have HB9 := Lib.hid (HB5.out.trans (hb9.mono HB5.out.size)); clear hb9)
                      | (go_at_call 22; refine (number_told.calls _ false 0 100 _ (told_f _ false)).mono ?_; rintro e w10 ⟨rfl, ⟨n10, rfl⟩⟩))
                    go_ret2
                    exact Read.mk _ _ HPL2.out (below_dr HB9.out _)
end Go.Proofs.YtjapgngbphnapaaDoor.Num
