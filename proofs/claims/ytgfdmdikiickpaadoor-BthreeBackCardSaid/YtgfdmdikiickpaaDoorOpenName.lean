/-
  Names of traces and of spans, as they come in.
-/
import Derived.Test.YtgfdmdikiickpaaDoorOpenArr
import Derived.Test.YtgfdmdikiickpaaDoorAgg
namespace Go.Proofs.YtgfdmdikiickpaaDoor
open Go.ChangeShapes Go.WideShapes Go.RowKit Go.ChangeAt

theorem bytes_of_trodN {H : Type} {enc : TypeId × Value → H} {P : Program} {w : World} {base : Nat} {spare : Nat → Bool} {held : Bool} {fuel n : Nat} {t e : TypeId} {cs : List Value} {x : DataW H × List MemPlace}
    (ht : P.underlying t = some (.array n e)) (he : P.underlying e = some (.int .u8)) (hce : P.cellsOf e = 1) (hct : P.cellsOf t = n) (h : DataW.trod enc P w base spare held fuel t cs = some x) :
    ∃ l : List UInt8, l.length = n ∧ cs = b8s l := by
  obtain ⟨m, hl, hi⟩ := trod_array_each ht h
  rw [hct] at hl
  have hall : ∀ i, i < n → ∃ z : Int, cs[i]? = some (.int .u8 z) ∧ 0 ≤ z ∧ z ≤ 255 := by
    intro i hin
    obtain ⟨y, hy⟩ := hi i hin
    rw [hce, Nat.mul_one] at hy
    have hlt : i < cs.length := by omega
    rw [List.drop_eq_getElem_cons hlt, List.take_succ_cons, List.take_zero] at hy
    obtain ⟨z, e1, _, wz⟩ := DataW.trod_int he hy
    refine ⟨z, ?_, int_bd8 wz⟩
    rw [List.getElem?_eq_getElem hlt]
    simpa using e1
  refine ⟨(List.range n).map (fun i => if hi : i < n then bt (Classical.choose (hall i hi)) else 0), by simp, ?_⟩
  apply List.ext_getElem?
  intro i
  by_cases hin : i < n
  · obtain ⟨h1, h2, h3⟩ := Classical.choose_spec (hall i hin)
    rw [h1]
    simp only [b8s, List.getElem?_map, List.getElem?_range hin, Option.map_some, dif_pos hin]
    rw [b8_bt _ h2 h3]
  · rw [List.getElem?_eq_none (by omega), List.getElem?_eq_none (by simpa using hin)]
set_option maxRecDepth 100000 in
theorem open_name {H : Type} {enc : TypeId × Value → H} {W : World} {base n : Nat} {t : TypeId} {v : Value} {d : DataW H} {p : List MemPlace} (ht : Tryd.prog.underlying t = some (.array n 5)) (hct : Tryd.prog.cellsOf t = n)
    (hv : Value.okWide Tryd.prog W .any base t v) (h : DataW.Trod enc Tryd.prog W 0 (fun _ => true) true t v d p) : ∃ l : List UInt8, (v = Av l ∧ l.length = n) ∧ True := by
  obtain ⟨cs, rfl, _⟩ := okWide_array ht hv
  obtain ⟨fuel, hf⟩ := h
  obtain ⟨l, hl, e⟩ := bytes_of_trodN ht Tryd.underlying5 (by kernel_rfl) hct hf
  refine ⟨l, ⟨?_, hl⟩, trivial⟩
  unfold Av
  congr 1
  exact Array.ext' (by rw [show cs.toList = b8s l from e])
set_option maxRecDepth 100000 in
theorem open_apiTraceID {H : Type} {enc : TypeId × Value → H} {W : World} {base : Nat} {v : Value} {d : DataW H} {p : List MemPlace}
    (hv : Value.okWide Tryd.prog W .any base 25 v) (h : DataW.Trod enc Tryd.prog W 0 (fun _ => true) true 25 v d p) : ∃ l : List UInt8, (v = Av l ∧ l.length = 16) ∧ True :=
  open_name Tryd.underlying25 (by kernel_rfl) hv h
set_option maxRecDepth 100000 in
theorem open_apiSpanID {H : Type} {enc : TypeId × Value → H} {W : World} {base : Nat} {v : Value} {d : DataW H} {p : List MemPlace}
    (hv : Value.okWide Tryd.prog W .any base 27 v) (h : DataW.Trod enc Tryd.prog W 0 (fun _ => true) true 27 v d p) : ∃ l : List UInt8, (v = Av l ∧ l.length = 8) ∧ True :=
  open_name Tryd.underlying27 (by kernel_rfl) hv h
end Go.Proofs.YtgfdmdikiickpaaDoor
