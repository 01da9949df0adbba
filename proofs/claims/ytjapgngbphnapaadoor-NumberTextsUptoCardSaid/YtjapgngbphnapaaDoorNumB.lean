/-
  WALKS: number.Text.
-/
import Derived.Test.YtjapgngbphnapaaDoorNumA
import Derived.Test.YtjapgngbphnapaaDoorNumS
import Derived.WalkSmall
import Derived.Lib.LaidTab
import Derived.Deep.DeepFit
namespace Go.Proofs.YtjapgngbphnapaaDoor.Num
open Go.Proofs.YtjapgngbphnapaaDoor.NumP Go.Proofs.YtjapgngbphnapaaDoorW.PrintWords Go.RowKit

/-- What the listed variables give. -/
structure Vars (w : World) : Prop where
  pow : Lib.TabIs Tryd.prog w "internal/strconv.uint64pow10" .u64 Lib.pow10Tab
  syn : ∃ tp p, w.var? Tryd.prog "strconv.ErrSyntax" = some #[.iface tp p]
  rng : ∃ tp p, w.var? Tryd.prog "strconv.ErrRange" = some #[.iface tp p]

theorem gPow : Tryd.prog.globalNamed "internal/strconv.uint64pow10" = some 2 := by kernel_rfl
theorem gSyn : Tryd.prog.globalNamed "strconv.ErrSyntax" = some 0 := by kernel_rfl
theorem gRng : Tryd.prog.globalNamed "strconv.ErrRange" = some 1 := by kernel_rfl

theorem lt_of_var {w : World} {n : String} {g : Nat} {cs : Array Value} (hg : Tryd.prog.globalNamed n = some g) (h : w.var? Tryd.prog n = some cs) : g < w.heap.size := by
  unfold World.var? at h
  rw [hg] at h
  simp only [Option.bind_some] at h
  cases e : w.heap[g]? with
  | none => rw [e] at h; cases h
  | some o => exact (Array.getElem?_eq_some_iff.1 e).1

theorem Vars.below {w w' : World} (h : Vars w) (hb : Below w.heap.size w w') : Vars w' := by
  refine ⟨?_, ?_, ?_⟩
  · exact var?_below hb gPow (lt_of_var gPow h.pow) h.pow
  · obtain ⟨tp, p, e⟩ := h.syn
    exact ⟨tp, p, var?_below hb gSyn (lt_of_var gSyn e) e⟩
  · obtain ⟨tp, p, e⟩ := h.rng
    exact ⟨tp, p, var?_below hb gRng (lt_of_var gRng e) e⟩

theorem grow_below (w : World) (k : Nat) (os) : Below w.heap.size w (Sort.grow (w.drewN k) os) :=
  ⟨rfl, rfl, rfl, by simp [Sort.grow, World.drewN], fun i hi => by
    show (w.heap ++ os)[i]? = w.heap[i]?
    rw [Array.getElem?_append_left hi]⟩

set_option maxHeartbeats 400000 in
theorem text_calls (n : Int) (h0 : -9223372036854775808 ≤ n) (h1 : n ≤ 9223372036854775807) (w : World) (hv : Vars w) :
    Calls Tryd.prog 9 #[.int .i64 n] w fun e w' => e = .returned (.string (txt n)) ∧ Below w.heap.size w w' := by
  have hf := Lib.hid (itoa_of n h0 h1)
  have HP := Lib.hid hv.pow
  clear hv
  go_enter Tryd.func9, Tryd.ntmps9
  go_wp2_with (first
    | (go_at_call 32; refine (Tryd.strconv_FormatInt_10 n h0 h1 _ HP.out).mono ?_; rintro e w1 ⟨rfl, k, os, rfl⟩; have hb1 := Lib.hid (grow_below w k os); generalize Sort.grow (w.drewN k) os = w1 at *)
    | (go_at_call 31; refine (units_Of.calls 22 _ _ _ _ hf.out).mono ?_; rintro e w2 ⟨rfl, hb2⟩; have hb3 := Lib.hid (hb1.out.trans (hb2.mono hb1.out.size)); clear hb2))
  go_ret
  exact ⟨rfl, hb3.out⟩
end Go.Proofs.YtjapgngbphnapaaDoor.Num
