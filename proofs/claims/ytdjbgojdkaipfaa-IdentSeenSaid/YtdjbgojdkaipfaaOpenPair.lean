/-
  Pairs of names, and lists of them, as they come in.
-/
import Derived.Test.YtdjbgojdkaipfaaOpenArr
import Derived.Test.YtdjbgojdkaipfaaOpenFields
import Derived.Test.YtdjbgojdkaipfaaPairs
namespace Go.Proofs.Ytdjbgojdkaipfaa
open Go.ChangeShapes Go.WideShapes Go.Deep Go.RowKit Go.ChangeAt

theorem bytes_of_trod {H : Type} {enc : TypeId × Value → H} {P : Program} {w : World} {base : Nat} {spare : Nat → Bool} {held : Bool} {fuel n : Nat} {t e : TypeId} {cs : List Value} {x : DataW H × List MemPlace}
    (ht : P.underlying t = some (.array n e)) (he : P.underlying e = some (.int .u8)) (hce : P.cellsOf e = 1) (hct : P.cellsOf t = n) (h : DataW.trod enc P w base spare held fuel t cs = some x) :
    ∃ l : List UInt8, l.length = n ∧ cs = b8s l := by
  obtain ⟨m, hl, hi⟩ := trod_array_each ht h
  rw [hct] at hl
  have hall : ∀ i, i < n → ∃ z : Int, cs[i]? = some (.int .u8 z) ∧ 0 ≤ z ∧ z ≤ 255 := by
    intro i hin
    obtain ⟨y, hy⟩ := hi i hin
    rw [hce, Nat.mul_one] at hy
    have hlt : i < cs.length := by omega
    rw [List.drop_eq_getElem_cons hlt, List.take_succ_cons, List.take_zero] at hy
    obtain ⟨z, e1, _, wz⟩ := DataW.trod_int he hy
    refine ⟨z, ?_, int_bd8 wz⟩
    rw [List.getElem?_eq_getElem hlt]
    simpa using e1
  refine ⟨(List.range n).map (fun i => if hi : i < n then bt (Classical.choose (hall i hi)) else 0), by simp, ?_⟩
  apply List.ext_getElem?
  intro i
  by_cases hin : i < n
  · obtain ⟨h1, h2, h3⟩ := Classical.choose_spec (hall i hin)
    rw [h1]
    simp only [b8s, List.getElem?_map, List.getElem?_range hin, Option.map_some, dif_pos hin]
    rw [b8_bt _ h2 h3]
  · rw [List.getElem?_eq_none (by omega), List.getElem?_eq_none (by simpa using hin)]
set_option maxRecDepth 100000 in
theorem pair_of_trod {H : Type} {enc : TypeId × Value → H} {w : World} {base : Nat} {spare : Nat → Bool} {held : Bool} {fuel : Nat} {cs : List Value} {x : DataW H × List MemPlace}
    (h : DataW.trod enc Try.prog w base spare held fuel 43 cs = some x) : ∃ l : List UInt8, l.length = 24 ∧ cs = b8s l := by
  cases fuel with
  | zero => simp [DataW.trod] at h
  | succ m =>
    obtain ⟨ys, n', hn', hy, hlen, hyl, hf⟩ := DataW.trod_struct und_rpair h
    have hff := fields_rpair
    have hsz : Try.prog.cellsOf 43 = 24 := by kernel_rfl
    rw [hsz] at hlen
    have hc16 : Try.prog.cellsOf 39 = 16 := by kernel_rfl
    have hc8 : Try.prog.cellsOf 41 = 8 := by kernel_rfl
    have hc1 : Try.prog.cellsOf 5 = 1 := by kernel_rfl
    have hs : (Try.prog.fieldsOf 43).toList.length = 2 := by have := congrArg List.length hff; simpa using this
    have hs' : (Try.prog.fieldsOf 43).size = 2 := by simpa using hs
    have f0 : ∃ f, (Try.prog.fieldsOf 43)[0]? = some f ∧ f.type = 39 ∧ f.offset = 0 := by
      refine ⟨_, Array.getElem?_eq_getElem (by omega), ?_, ?_⟩ <;> kernel_rfl
    have f1 : ∃ f, (Try.prog.fieldsOf 43)[1]? = some f ∧ f.type = 41 ∧ f.offset = 16 := by
      refine ⟨_, Array.getElem?_eq_getElem (by omega), ?_, ?_⟩ <;> kernel_rfl
    obtain ⟨g0, e0, t0, o0⟩ := f0
    obtain ⟨g1, e1, t1, o1⟩ := f1
    have h0 := hf 0 g0 e0
    have h1 := hf 1 g1 e1
    rw [t0, o0, hc16, List.getElem?_eq_getElem (by omega)] at h0
    rw [t1, o1, hc8, List.getElem?_eq_getElem (by omega)] at h1
    obtain ⟨a, ha, ea⟩ := bytes_of_trod Try.underlying39 Try.underlying5 hc1 hc16 h0
    obtain ⟨b, hb, eb⟩ := bytes_of_trod Try.underlying41 Try.underlying5 hc1 hc8 h1
    refine ⟨a ++ b, by simp [ha, hb], ?_⟩
    rw [List.drop_zero] at ea
    rw [List.take_of_length_le (by simp; omega)] at eb
    rw [b8s_append, ← ea, ← eb, List.take_append_drop]
theorem okWide_struct {P : Program} {w : World} {r : Reach} {base : Nat} {fs : Array Field} {t : TypeId} {v : Value} (ht : P.underlying t = some (.struct fs)) (h : Value.okWide P w r base t v) : ∃ cs, v = .agg cs := by
  unfold Value.okWide at h
  rw [ht] at h
  obtain ⟨cs, rfl, _⟩ := h
  exact ⟨cs, rfl⟩
set_option maxRecDepth 100000 in
theorem open_truchmanref07Pair {H : Type} {enc : TypeId × Value → H} {W : World} {base : Nat} {v : Value} {d : DataW H} {p : List MemPlace}
    (hv : Value.okWide Try.prog W .any base 43 v) (h : DataW.Trod enc Try.prog W 0 (fun _ => true) true 43 v d p) :
    ∃ l : List UInt8, (v = Av l ∧ l.length = 24) ∧ True := by
  obtain ⟨cs, rfl⟩ := okWide_struct und_rpair hv
  obtain ⟨fuel, hf⟩ := h
  obtain ⟨l, hl, e⟩ := pair_of_trod hf
  refine ⟨l, ⟨?_, hl⟩, trivial⟩
  unfold Av
  congr 1
  exact Array.ext' (by rw [show cs.toList = b8s l from e])
theorem flat_reads {w : World} {B : Nat} {a : Addr} {l : List (List UInt8)} (hp : Pw l) (hb : 0 < l.length → a.block < B) (h : ∀ (k : Nat) (x : List UInt8), l[k]? = some x → ∀ j u, (b8s x)[j]? = some u → w.cell? (a.add (k * 24 + j)) = some u) :
    Reads w B 24 (some a) l.length (b8s l.flatten) := by
  refine ⟨by rw [b8s_length, hp.len], fun hn => ⟨a, rfl, hb hn, fun j u hu => ?_⟩⟩
  obtain ⟨b, hb1, rfl⟩ := b8s_get hu
  have hj : j < l.flatten.length := by
    rcases Nat.lt_or_ge j l.flatten.length with h | h
    · exact h
    · rw [List.getElem?_eq_none h] at hb1; cases hb1
  rw [hp.len] at hj
  have hk : j / 24 < l.length := by omega
  have hx : l[j / 24]? = some l[j / 24] := List.getElem?_eq_getElem hk
  have h24 := hp.at_ hx
  have hr : j % 24 < (l[j / 24]).length := by omega
  have hxr : (l[j / 24])[j % 24]? = some ((l[j / 24])[j % 24]) := List.getElem?_eq_getElem hr
  have e : j / 24 * 24 + j % 24 = j := by omega
  have h1 := hp.flat hx hxr
  rw [e, hb1] at h1
  have h2 := h _ _ hx (j % 24) (b8 b) (by simp only [b8s, List.getElem?_map, hxr, Option.map_some]; rw [Option.some.inj h1])
  rwa [e] at h2
set_option maxRecDepth 100000 in
theorem open_Sltruchmanref07Pair {H : Type} {enc : TypeId × Value → H} {W : World} {base : Nat} {v : Value} {d : DataW H} {p : List MemPlace}
    (hv : Value.okWide Try.prog W .any base 37 v) (h : DataW.Trod enc Try.prog W 0 (fun _ => true) true 37 v d p) :
    ∃ l : List (List UInt8), (∃ A cap, v = .slice A l.length cap ∧ l.length ≤ 9223372036854775807 ∧ Pw l ∧ Reads W W.heap.size 24 A l.length (b8s l.flatten)) ∧ True := by
  obtain ⟨a, len, cap, rfl⟩ := okWide_slice Try.underlying37 hv
  obtain ⟨fuel, hf⟩ := h
  have hC : Try.prog.cellsOf 43 = 24 := by kernel_rfl
  rcases open_slice Try.underlying37 hf with ⟨hcs, _⟩ | ⟨x, len', cap', m, n, D, Pl, hcs, hb, hl, hm, hmm, hx, hi⟩
  · simp [Value.cells] at hcs
    obtain ⟨rfl, rfl, rfl⟩ := hcs
    exact ⟨[], ⟨none, 0, rfl, by simp, by intro x hx; simp at hx, Reads.none_⟩, trivial⟩
  · simp [Value.cells] at hcs
    obtain ⟨rfl, rfl, rfl⟩ := hcs
    simp only [if_true] at hmm
    have hall : ∀ i, i < len → ∃ y : List UInt8, y.length = 24 ∧ ∀ j u, (b8s y)[j]? = some u → W.cell? (x.add (i * 24 + j)) = some u := by
      intro i hil
      obtain ⟨cs', hc, ht'⟩ := hi i (by omega)
      rw [hC] at hc
      obtain ⟨_, hcl, hat⟩ := World.cells?_some hc
      obtain ⟨y, hy, e⟩ := pair_of_trod ht'
      refine ⟨y, hy, fun j u hu => ?_⟩
      have hj : j < 24 := by
        rcases Nat.lt_or_ge j (b8s y).length with h | h
        · rw [b8s_length, hy] at h; exact h
        · rw [List.getElem?_eq_none h] at hu; cases hu
      rw [← add_of_add, hat j hj, e, hu]
    obtain ⟨f, hff⟩ : ∃ f : Nat → List UInt8, ∀ i, i < len → (f i).length = 24 ∧ ∀ j u, (b8s (f i))[j]? = some u → W.cell? (x.add (i * 24 + j)) = some u :=
      ⟨fun i => if hi : i < len then Classical.choose (hall i hi) else [], fun i hi => by simp only [dif_pos hi]; exact Classical.choose_spec (hall i hi)⟩
    have hpw : Pw ((List.range len).map f) := by
      intro y hy
      obtain ⟨i, hi', rfl⟩ := List.mem_map.1 hy
      exact (hff i (by simpa using hi')).1
    have hat : ∀ (k : Nat) (y : List UInt8), ((List.range len).map f)[k]? = some y → ∀ j u, (b8s y)[j]? = some u → W.cell? (x.add (k * 24 + j)) = some u := by
      intro k y hy
      have hk : k < len := by
        rcases Nat.lt_or_ge k len with h | h
        · exact h
        · rw [List.getElem?_eq_none (by simpa using h)] at hy; cases hy
      have e : f k = y := by simpa [hk] using hy
      subst e
      exact (hff k hk).2
    refine ⟨(List.range len).map f, ⟨some x, cap, by simp, by unfold maxLen at hm; simp; omega, hpw, flat_reads hpw (fun hn => ?_) hat⟩, trivial⟩
    have hn' : 0 < len := by simpa using hn
    have h24 := (hff 0 hn').1
    have hc0 := (hff 0 hn').2 0 (b8 ((f 0)[0])) (by simp only [b8s, List.getElem?_map, List.getElem?_eq_getElem (show 0 < (f 0).length by omega), Option.map_some])
    have := World.block_lt_of_cell? W _ hc0
    rwa [block_of_add] at this
end Go.Proofs.Ytdjbgojdkaipfaa
