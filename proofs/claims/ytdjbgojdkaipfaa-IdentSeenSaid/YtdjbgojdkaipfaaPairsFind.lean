/-
  Where the document finds a pair; what a keeper that saw a list of pairs tells.
-/
import Derived.Test.YtdjbgojdkaipfaaPairs
namespace Go.Proofs.Ytdjbgojdkaipfaa
open Go.RowKit Go.Maps Go.WideShapes

def FRel (w : World) (g : Nat) (l : List (List UInt8)) (p : List UInt8) (i : Value) (wr : World) : Prop :=
  ∃ k : Nat, k ≤ l.length ∧ i = .int .i64 (k : Int) ∧ findP (l.take k) p < 0 ∧ Blk wr g 43 (b8s p).toArray ∧ Below w.heap.size w wr
@[go_sem] theorem run_eqGuard_rpair (w : World) (op : BinOp) (x y : Operand) (a b : List UInt8) : (eqGuard op 43 x y (Av a) (Av b)).run Try.prog w = .ok () w := run_eqGuard_agg w op _ x y _ _ guard_rpair
theorem findP_end {l : List (List UInt8)} {p : List UInt8} {k : Nat} (hk : k ≤ l.length) (hlt : ¬ k < l.length) (hf : findP (l.take k) p < 0) : findP l p = -1 := by
  rw [List.take_of_length_le (by omega)] at hf
  have := findP_bd l p
  omega
set_option maxRecDepth 100000 in
set_option maxHeartbeats 4000000 in
theorem rfind_any (l : List (List UInt8)) (p : List UInt8) (A : Option Addr) (cap : Nat) (w : World) (hv : Reads w w.heap.size 24 A l.length (b8s l.flatten)) (hp : Pw l) (h24 : p.length = 24) (hl : l.length ≤ 1000000) :
    Calls Try.prog 31 #[.slice A l.length cap, Av p] w fun e w' => e = .returned (.int .i64 (findP l p)) ∧ Below w.heap.size w w' := by
  go_enter Try.func31, Try.ntmps31
  go_wp2_with fail
  have hrel0 : FRel w w.heap.size l p (.int .i64 0) (w.alloc (.cells (b8s p).toArray 43)) :=
    ⟨0, by omega, rfl, by simp [findP], Blk.new w _ _, ext_alloc w _⟩
  generalize w.heap.size = g at hrel0 ⊢
  go_loopw [5] (fun i wr => FRel w g l p i wr) (fun i _ => l.length - (intOf i).toNat)
  case atStart => exact hrel0
  case round =>
    clear hrel0
    obtain ⟨k, hk, rfl, hf, hB, hb⟩ := hrel
    have HB := hid hB
    have HW := hid hb
    clear hB hb
    by_cases hlt : k < l.length
    · go_wp2_with fail
      obtain ⟨x, hx⟩ : ∃ x, l[k]? = some x := ⟨_, List.getElem?_eq_getElem hlt⟩
      have hx24 := hp.at_ hx
      refine still_all (by kernel_rfl) (by kernel_rfl) ?_
      intro w5 hw5
      have HB5 := hid (hw5 ▸ HB.out.drew)
      have HW5 := hid (hw5 ▸ Below.drew HW.out)
      clear hw5 HB HW
      obtain ⟨ad, rfl, hab, hcells⟩ := pair_cells hp (hv.below HW5.out) hx
      have hl1 := hid (run_loadAt_adr (ty := 43) (ad := ad.add (k * 24)) (w := w5) x (fun j u hu => by rw [add_of_add]; exact hcells j u hu) und_rpair rfl (by rw [info_rpair, hx24]))
      have hl2 := hid (run_loadAt_adr (ty := 43) (ad := ⟨g, 0, none⟩) (w := w5) p (fun j u hu => by rw [add_zero_off, HB5.out.cell j, ← hu]; simp) und_rpair rfl (by rw [info_rpair, h24]))
      have heq := run_eq_pair w5 x p hx24 h24
      by_cases hxp : x = p
      · rw [decide_eq_true hxp] at heq
        have HF := hid (findP_hit (hxp ▸ hx) hf)
        clear hxp
        repeat (first
          | (refine wpStill_load rfl 43 (.tmp 14) rfl (Av x) hl1.out ?_)
          | (refine wpStill_load rfl 43 (.tmp 3) rfl (Av p) hl2.out ?_)
          | still_step)
        refine wpStill_nil ?_
        go_wp2_with fail
        go_ret
        exact ⟨by rw [HF.out]; rfl, HW5.out⟩
      · rw [decide_eq_false hxp] at heq
        have HF := hid (findP_take hx hf hxp)
        clear hxp
        repeat (first
          | (refine wpStill_load rfl 43 (.tmp 14) rfl (Av x) hl1.out ?_)
          | (refine wpStill_load rfl 43 (.tmp 3) rfl (Av p) hl2.out ?_)
          | still_step)
        refine wpStill_nil ?_
        go_wp2_with fail
        go_roundw
        case rel => exact ⟨k + 1, by omega, by go_num, HF.out, HB5.out, HW5.out⟩
        case measure => simp [intOf] <;> omega
    · go_wp2_with fail
      go_ret
      exact ⟨by rw [findP_end hk hlt hf]; rfl, HW.out⟩
end Go.Proofs.Ytdjbgojdkaipfaa
