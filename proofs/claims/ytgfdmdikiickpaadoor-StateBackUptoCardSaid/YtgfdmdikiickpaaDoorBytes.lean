/-
  Laws for slices of bytes of the call's own: append, conversions to and from strings, copy, make.
-/
import Derived.Test.YtgfdmdikiickpaaDoorMem
import Derived.Laws.IdiomStrings
import Derived.Lib.SlBytesConst
import Derived.Laws.CopyOwn
import Derived.Laws.MakeOwn
import Derived.Laws.BytesArg
import Derived.Outline
import Derived.Deep.DeepFit
namespace Go.Proofs.YtgfdmdikiickpaaDoor
open Go.RowKit

theorem info_u8 : (Tryd.prog.info? 5).map (fun i => (i.zero, i.size, i.bytes)) = some (some (.int .u8 0), 1, 1) := by kernel_rfl
theorem und_bytes : Tryd.prog.underlying 112 = some (.slice 5) := Tryd.underlying112
theorem und_u8 : Tryd.prog.underlying 5 = some (.int .u8) := Tryd.underlying5
theorem und_str : Tryd.prog.underlying 9 = some .string := Tryd.underlying9

theorem add_zero_off (g j : Nat) : (⟨g, 0, none⟩ : Addr).add j = ⟨g, j, none⟩ := by
  unfold Addr.add; split <;> simp_all

/-- string(b) of bytes that read as a list. -/
theorem run_to_string {w : World} {B : Nat} {v : Value} {l : List UInt8} (h : Bs w B v l) :
    (convert 112 9 v).run Tryd.prog w = .ok (Sv l) w := by
  obtain ⟨A, c, rfl, _, hr⟩ := h
  rcases A with _ | ad
  · have hl : l.length = 0 := by
      rcases Nat.eq_zero_or_pos l.length with h0 | h0
      · exact h0
      · obtain ⟨ad, h, _⟩ := hr.2 h0
        cases h
    obtain rfl : l = [] := List.eq_nil_of_length_eq_zero hl
    rw [run_convert_bytes_nil w _ _ und_bytes und_u8 _ _ _ und_str]
    rfl
  · have hcell : ∀ j v, ((l.map fun b => (b.toNat : Int)).map (Value.int .u8))[j]? = some v → w.cell? (ad.add j) = some v := by
      intro j u hu
      have e : (l.map fun b => (b.toNat : Int)).map (Value.int .u8) = b8s l := by simp [b8s, b8]
      rw [e] at hu
      have hj : j < l.length := by
        rcases Nat.lt_or_ge j l.length with h | h
        · exact h
        · rw [List.getElem?_eq_none (by simpa using h)] at hu; cases hu
      obtain ⟨ad', e', _, hc⟩ := hr.2 (by omega)
      injection e' with e'
      subst e'
      exact hc j u hu
    have hl := run_loadCells_list (P := Tryd.prog) w ad _ hcell
    simp only [List.length_map] at hl
    rw [run_convert_bytes_string w _ _ _ _ _ c und_bytes und_u8 und_str, run_bytesToString w ad l.length c _ hl, foldl_push_bytes]
    simp only [Sv, ByteArray.empty, ByteArray.emptyWithCapacity]
    simp [List.map_map, Function.comp_def]
    rfl

/-- []byte(s). -/
theorem run_to_bytes (w : World) (l : List UInt8) : ∃ v w', (convert 9 112 (Sv l)).run Tryd.prog w = .ok v w' ∧ Bs w' w'.heap.size v l ∧ Below w.heap.size w w' := by
  refine ⟨_, _, run_bytes_of_string w _ _ _ _ und_str und_bytes und_u8, ⟨some ⟨w.heap.size, 0, none⟩, _, rfl, grownCap_ge _ _ _ _, by simp, fun hn => ⟨_, rfl, by simp, ?_⟩⟩, ?_⟩
  · intro j u hu
    rw [add_zero_off]
    have hj : j < l.length := by
      rcases Nat.lt_or_ge j l.length with h | h
      · exact h
      · rw [List.getElem?_eq_none (by simpa using h)] at hu; cases hu
    rw [cell_of_row (w.drew.alloc _) w.heap.size j _ _ _ (heap_alloc_new w.drew _)]
    rw [← hu]
    simp only [bytesRow, b8s]
    rw [Array.getElem?_append_left (by simpa using hj)]
    simp only [List.getElem?_map, Array.getElem?_map, List.getElem?_toArray]
    rfl
  · exact ((Below.refl _ _).drew).alloc (by simp) _

theorem wpList_to_bytes {w : World} {ops : Array Oper} {rest : List Oper} {o : Oper} {a : Act} {Q : Exit → Act → World → Prop} (hgd : o.guard = none) (s : Operand)
    (ho : o.op = .convert 9 112 s) (l : List UInt8) (hs : a.eval s = Sv l)
    (h : ∀ v' w', Bs w' w'.heap.size v' l → Below w.heap.size w w' → wpList Tryd.prog ops Q rest (a.put o.dst v') w') : wpList Tryd.prog ops Q (o :: rest) a w := by
  refine wpList_plain hgd fun K hK => ?_
  obtain ⟨v, w', hr, hb, hw⟩ := run_to_bytes w l
  unfold Oper.wp
  simp [execOp, ho, hs, hr, Result.andThen]
  exact hK _ _ (h v w' hb hw)

/-- append of bytes to a slice of the call's own. -/
theorem wp_app {w : World} {o : Oper} {a : Act} {K : Act → World → Prop} {Q : Exit → Act → World → Prop} (s x : Operand)
    (ho : o.op = .call { callee := .builtin .append, args := #[s, x], argTypes := #[112, 112] })
    (w0 : World) (v : Value) (l : List UInt8) (hs : a.eval s = v) (hown : Own w w0.heap.size v l) (hb : Below w0.heap.size w0 w)
    (ad : Addr) (m c : Nat) (news : List UInt8) (hx : a.eval x = .slice (some ad) m c) (hl : news.length = m) (hnews : ∀ j u, (b8s news)[j]? = some u → w.cell? (ad.add j) = some u)
    (hsz : l.length + m ≤ 140737488355328)
    (h : ∀ v' w', Own w' w0.heap.size v' (l ++ news) → Below w0.heap.size w0 w' → K (a.put o.dst v') w') : o.wp Tryd.prog a w K Q := by
  obtain ⟨i0, hi, hz0, hz1, hz2⟩ := info_parts info_u8
  refine wp_append_own w s x _ ho w0.heap.size 5 i0 _ 1 1 und_bytes hi hz0 hz1 hz2 rfl (by omega) v l.length (b8s l) hs hown ad m c (b8s news) hx (by simpa using hl) hnews (b8s_one _)
    (by unfold maxLen; omega) (by omega) hb.size ?_
  intro v' w' h1 h2 _
  refine h v' w' ?_ (hb.grown h2 hb.size fun k hk => (World.ownsRow.lt hown k hk).1)
  unfold Own
  rw [b8s_append, List.length_append, hl]
  exact h1
theorem wpList_app {w : World} {ops : Array Oper} {rest : List Oper} {o : Oper} {a : Act} {Q : Exit → Act → World → Prop} (hgd : o.guard = none) (s x : Operand)
    (ho : o.op = .call { callee := .builtin .append, args := #[s, x], argTypes := #[112, 112] })
    (w0 : World) (v : Value) (l : List UInt8) (hs : a.eval s = v) (hown : Own w w0.heap.size v l) (hb : Below w0.heap.size w0 w)
    (ad : Addr) (m c : Nat) (news : List UInt8) (hx : a.eval x = .slice (some ad) m c) (hl : news.length = m) (hnews : ∀ j u, (b8s news)[j]? = some u → w.cell? (ad.add j) = some u)
    (hsz : l.length + m ≤ 140737488355328)
    (h : ∀ v' w', Own w' w0.heap.size v' (l ++ news) → Below w0.heap.size w0 w' → wpList Tryd.prog ops Q rest (a.put o.dst v') w') : wpList Tryd.prog ops Q (o :: rest) a w :=
  wpList_plain hgd fun _ hK => wp_app s x ho w0 v l hs hown hb ad m c news hx hl hnews hsz fun v' w' h1 h2 => hK _ _ (h v' w' h1 h2)
theorem step_app {w : World} {ops : Array Oper} {o : Oper} {a : Act} {K : Act → World → Prop} {Q : Exit → Act → World → Prop} {E : Prop} (hgd : o.guard = none) (s x : Operand)
    (ho : o.op = .call { callee := .builtin .append, args := #[s, x], argTypes := #[112, 112] })
    (w0 : World) (v : Value) (l : List UInt8) (hs : a.eval s = v) (hown : Own w w0.heap.size v l) (hb : Below w0.heap.size w0 w)
    (ad : Addr) (m c : Nat) (news : List UInt8) (hx : a.eval x = .slice (some ad) m c) (hl : news.length = m) (hnews : ∀ j u, (b8s news)[j]? = some u → w.cell? (ad.add j) = some u)
    (hsz : l.length + m ≤ 140737488355328)
    (h : ∀ v' w', Own w' w0.heap.size v' (l ++ news) → Below w0.heap.size w0 w' → K (a.put o.dst v') w') :
    if Region.wanted o (yielded ops a.tmps) = true then Oper.wp Tryd.prog o a w K Q else E := by
  have hw : Region.wanted o (yielded ops a.tmps) = true := by simp [Region.wanted, hgd]
  rw [if_pos hw]
  exact wp_app s x ho w0 v l hs hown hb ad m c news hx hl hnews hsz h

/-- append(out, x): the new byte lies in a block of its own. -/
theorem cell_new1 (w : World) (n : Int) (t : TypeId) (h0 : 0 ≤ n) (h1 : n ≤ 255) : ∀ j u, (b8s [bt n])[j]? = some u → (w.alloc (.cells #[.int .u8 n] t)).cell? ((⟨w.heap.size, 0, none⟩ : Addr).add j) = some u := by
  intro j u hj
  match j, hj with
  | 0, hj => simp [b8s, b8_bt n h0 h1] at hj; subst hj; simp [Addr.add]
  | j + 1, hj => simp [b8s] at hj
theorem cell_new2 (w : World) (n m : Int) (t : TypeId) (h0 : 0 ≤ n) (h1 : n ≤ 255) (g0 : 0 ≤ m) (g1 : m ≤ 255) : ∀ j u, (b8s [bt n, bt m])[j]? = some u → (w.alloc (.cells #[.int .u8 n, .int .u8 m] t)).cell? ((⟨w.heap.size, 0, none⟩ : Addr).add j) = some u := by
  intro j u hj
  match j, hj with
  | 0, hj => simp [b8s, b8_bt n h0 h1] at hj; subst hj; simp [Addr.add]
  | 1, hj => simp [b8s, b8_bt m g0 g1] at hj; subst hj; simp [Addr.add]
  | j + 2, hj => simp [b8s] at hj
theorem Own.alloc {w : World} {B : Nat} {v : Value} {l : List UInt8} (h : Own w B v l) (o : Obj) : Own (w.alloc o) B v l := World.ownsRow.alloc h o
theorem Own.below {w w' : World} {B : Nat} {v : Value} {l : List UInt8} (h : Own w B v l) (hb : Below w.heap.size w w') : Own w' B v l :=
  World.ownsRow.kept h (only_of_below hb none) (by cases v.ownBlock <;> simp)
theorem Own.drew {w : World} {B : Nat} {v : Value} {l : List UInt8} (h : Own w B v l) : Own w.drew B v l := h
theorem Own.drewN {w : World} {B : Nat} {v : Value} {l : List UInt8} (h : Own w B v l) (n : Nat) : Own (w.drewN n) B v l := h
theorem Own.nil (w : World) (B : Nat) : Own w B (.slice none 0 0) [] := World.ownsRow_nil _ _ _ _
theorem Own.mono {w : World} {B B' : Nat} {v : Value} {l : List UInt8} (h : Own w B v l) (hB : B' ≤ B) : Own w B' v l := by
  refine ⟨h.1, ?_⟩
  rcases h.2 with h2 | ⟨g, cap, cur, hv, hg, r⟩
  · exact .inl h2
  · exact .inr ⟨g, cap, cur, hv, by omega, r⟩
theorem Bs.below {w w' : World} {B : Nat} {v : Value} {l : List UInt8} (h : Bs w B v l) (hb : Below B w w') : Bs w' B v l := by
  obtain ⟨A, c, e, hc, r⟩ := h
  exact ⟨A, c, e, hc, r.below hb⟩
theorem Bs.more {w : World} {B B' : Nat} {v : Value} {l : List UInt8} (h : Bs w B v l) (hB : B ≤ B') : Bs w B' v l := by
  obtain ⟨A, c, e, hc, r⟩ := h
  exact ⟨A, c, e, hc, r.more hB⟩
theorem Bs.nil (w : World) (B : Nat) : Bs w B (.slice none 0 0) [] := ⟨none, 0, rfl, Nat.le_refl _, Reads.none_⟩

theorem wpList_app1 {w : World} {ops : Array Oper} {rest : List Oper} {o : Oper} {a : Act} {Q : Exit → Act → World → Prop} (hgd : o.guard = none) (s x : Operand)
    (ho : o.op = .call { callee := .builtin .append, args := #[s, x], argTypes := #[112, 112] })
    (w0 : World) (v : Value) (l : List UInt8) (hs : a.eval s = v) (n : Int) (hown : Own w w0.heap.size v l) (hb : Below w0.heap.size w0 w)
    (hx : a.eval x = .slice (some ⟨w.heap.size, 0, none⟩) 1 1) (h0 : 0 ≤ n) (h1 : n ≤ 255)
    (hsz : l.length + 1 ≤ 140737488355328)
    (h : ∀ v' w', Own w' w0.heap.size v' (l ++ [bt n]) → Below w0.heap.size w0 w' → wpList Tryd.prog ops Q rest (a.put o.dst v') w') :
    wpList Tryd.prog ops Q (o :: rest) a (w.alloc (.cells #[.int .u8 n] 5)) :=
  wpList_app hgd s x ho w0 v l hs (hown.alloc _) (hb.alloc hb.size _) _ 1 1 [bt n] hx rfl (cell_new1 w n _ h0 h1) hsz h
theorem wpList_app2 {w : World} {ops : Array Oper} {rest : List Oper} {o : Oper} {a : Act} {Q : Exit → Act → World → Prop} (hgd : o.guard = none) (s x : Operand)
    (ho : o.op = .call { callee := .builtin .append, args := #[s, x], argTypes := #[112, 112] })
    (w0 : World) (v : Value) (l : List UInt8) (hs : a.eval s = v) (n m : Int) (hown : Own w w0.heap.size v l) (hb : Below w0.heap.size w0 w)
    (hx : a.eval x = .slice (some ⟨w.heap.size, 0, none⟩) 2 2) (h0 : 0 ≤ n) (h1 : n ≤ 255) (g0 : 0 ≤ m) (g1 : m ≤ 255)
    (hsz : l.length + 2 ≤ 140737488355328)
    (h : ∀ v' w', Own w' w0.heap.size v' (l ++ [bt n, bt m]) → Below w0.heap.size w0 w' → wpList Tryd.prog ops Q rest (a.put o.dst v') w') :
    wpList Tryd.prog ops Q (o :: rest) a (w.alloc (.cells #[.int .u8 n, .int .u8 m] 5)) :=
  wpList_app hgd s x ho w0 v l hs (hown.alloc _) (hb.alloc hb.size _) _ 2 2 [bt n, bt m] hx rfl (cell_new2 w n m _ h0 h1 g0 g1) hsz h

theorem step_app1 {w : World} {ops : Array Oper} {o : Oper} {a : Act} {K : Act → World → Prop} {Q : Exit → Act → World → Prop} {E : Prop} (hgd : o.guard = none) (s x : Operand)
    (ho : o.op = .call { callee := .builtin .append, args := #[s, x], argTypes := #[112, 112] })
    (w0 : World) (v : Value) (l : List UInt8) (hs : a.eval s = v) (n : Int) (hown : Own w w0.heap.size v l) (hb : Below w0.heap.size w0 w)
    (hx : a.eval x = .slice (some ⟨w.heap.size, 0, none⟩) 1 1) (h0 : 0 ≤ n) (h1 : n ≤ 255)
    (hsz : l.length + 1 ≤ 140737488355328)
    (h : ∀ v' w', Own w' w0.heap.size v' (l ++ [bt n]) → Below w0.heap.size w0 w' → K (a.put o.dst v') w') :
    if Region.wanted o (yielded ops a.tmps) = true then Oper.wp Tryd.prog o a (w.alloc (.cells #[.int .u8 n] 5)) K Q else E :=
  step_app hgd s x ho w0 v l hs (hown.alloc _) (hb.alloc hb.size _) _ 1 1 [bt n] hx rfl (cell_new1 w n _ h0 h1) hsz h
theorem step_app2 {w : World} {ops : Array Oper} {o : Oper} {a : Act} {K : Act → World → Prop} {Q : Exit → Act → World → Prop} {E : Prop} (hgd : o.guard = none) (s x : Operand)
    (ho : o.op = .call { callee := .builtin .append, args := #[s, x], argTypes := #[112, 112] })
    (w0 : World) (v : Value) (l : List UInt8) (hs : a.eval s = v) (n m : Int) (hown : Own w w0.heap.size v l) (hb : Below w0.heap.size w0 w)
    (hx : a.eval x = .slice (some ⟨w.heap.size, 0, none⟩) 2 2) (h0 : 0 ≤ n) (h1 : n ≤ 255) (g0 : 0 ≤ m) (g1 : m ≤ 255)
    (hsz : l.length + 2 ≤ 140737488355328)
    (h : ∀ v' w', Own w' w0.heap.size v' (l ++ [bt n, bt m]) → Below w0.heap.size w0 w' → K (a.put o.dst v') w') :
    if Region.wanted o (yielded ops a.tmps) = true then Oper.wp Tryd.prog o a (w.alloc (.cells #[.int .u8 n, .int .u8 m] 5)) K Q else E :=
  step_app hgd s x ho w0 v l hs (hown.alloc _) (hb.alloc hb.size _) _ 2 2 [bt n, bt m] hx rfl (cell_new2 w n m _ h0 h1 g0 g1) hsz h

/-- make([]byte, 0, n). -/
theorem wpList_make0 {w : World} {ops : Array Oper} {rest : List Oper} {o : Oper} {a : Act} {Q : Exit → Act → World → Prop}
    (hg : o.guard = none) (l c : Operand) (hop : o.op = Op.makeSlice 112 l c) (kl kc : IntKind) (C : Int) (n : Nat) (hl : a.eval l = .int kl 0) (hc : a.eval c = .int kc C) (hC : C = (n : Int))
    (hn : n ≤ 281474976710656) (w0 : World) (hb : Below w0.heap.size w0 w)
    (h : ∀ v w', Own w' w0.heap.size v [] → Below w0.heap.size w0 w' → wpList Tryd.prog ops Q rest (a.put o.dst v) w') : wpList Tryd.prog ops Q (o :: rest) a w := by
  obtain ⟨i0, hi, hz0, hz1, hz2⟩ := info_parts info_u8
  refine wpList_make_own w hg l c _ hop w0.heap.size 5 i0 _ 1 und_bytes hi hz0 hz1 kl kc C n hl hc hC (by rw [hz2]; omega) (by unfold maxLen; omega) hb.size ?_
  intro w' h1 h2
  exact h _ w' h1 (hb.grown h2 hb.size (by simp))

/-- []byte of a constant. -/
@[go_sem] theorem run_conv_const (w : World) (C : Array Value) (n c : Nat) :
    (convert 112 112 (.slice (some ⟨w.heap.size, 0, none⟩) n c)).run Tryd.prog (w.alloc (.cells C 5)) = .ok (.slice (some ⟨w.heap.size, 0, none⟩) n c) (w.alloc (.cells C 5 (C.size, C.size + 1))) :=
  Lib.run_convert_bytes_const w _ _ C n c und_bytes und_u8
theorem bs_new (w : World) (l : List UInt8) (C : Array Value) (fr : Nat × Nat) (n : Nat) (hC : C = (b8s l).toArray) (hn : n = l.length) :
    Bs (w.alloc (.cells C 5 fr)) (w.alloc (.cells C 5 fr)).heap.size (.slice (some ⟨w.heap.size, 0, none⟩) n n) l := by
  subst hn hC
  refine ⟨_, _, rfl, Nat.le_refl _, by simp, fun _ => ⟨_, rfl, by simp, fun j u hu => ?_⟩⟩
  rw [add_zero_off, cell_of_row (w.alloc _) w.heap.size j _ _ _ (heap_alloc_new w _), ← hu]
  simp

/-- string([]byte{x}). -/
theorem conv_one (w : World) (n : Int) (h0 : 0 ≤ n) (h1 : n ≤ 255) :
    (convert 112 9 (.slice (some ⟨w.heap.size, 0, none⟩) 1 1)).run Tryd.prog (w.alloc (.cells #[.int .u8 n] 5)) = .ok (Sv [bt n]) (w.alloc (.cells #[.int .u8 n] 5)) :=
  run_to_string (bs_new w [bt n] #[.int .u8 n] (0, 0) 1 (by simp [b8s, b8_bt n h0 h1]) rfl)

/-- make([]byte, n, C). -/
theorem wpList_makeLen {w : World} {ops : Array Oper} {rest : List Oper} {o : Oper} {a : Act} {Q : Exit → Act → World → Prop}
    (hg : o.guard = none) (l c : Operand) (hop : o.op = Op.makeSlice 112 l c) (kl kc : IntKind) (L C : Int) (n m : Nat) (hl : a.eval l = .int kl L) (hc : a.eval c = .int kc C) (hL : L = (n : Int)) (hC : C = (m : Int))
    (hnm : n ≤ m) (hm : m ≤ 281474976710656) (w0 : World) (hb : Below w0.heap.size w0 w)
    (h : ∀ g w', w0.heap.size ≤ g → Own w' w0.heap.size (.slice (some ⟨g, 0, none⟩) n m) (List.replicate n 0) → Below w0.heap.size w0 w' → wpList Tryd.prog ops Q rest (a.put o.dst (.slice (some ⟨g, 0, none⟩) n m)) w') : wpList Tryd.prog ops Q (o :: rest) a w := by
  obtain ⟨i0, hi, hz0, hz1, hz2⟩ := info_parts info_u8
  refine wpList_plain hg fun K hK => ?_
  have hr := run_make (P := Tryd.prog) w _ _ i0 _ und_bytes hi hz0 kl kc L C (by omega) (by omega) (by rw [hz2]; omega) (by omega)
  subst hL hC
  simp only [Int.toNat_natCast, hz1, Nat.mul_one] at hr
  unfold Oper.wp
  simp [execOp, hop, hl, hc, hr, Result.andThen]
  refine hK _ _ (h _ _ hb.size ⟨by simp, .inr ⟨w.heap.size, m, madeCells #[.int .u8 0] m, by simp, hb.size, heap_alloc_new w _, by simpa using hnm, by unfold maxLen; omega, by rw [size_madeCells]; omega, ?_⟩⟩ (hb.alloc hb.size _))
  rw [toList_madeCells_one, Nat.mul_one, List.length_replicate, List.take_replicate, Nat.min_eq_left hnm]
  simp [b8s, b8]

/-- copy(out, b), out of the call's own and as long as b. -/
theorem wpList_copyAll {w : World} {ops : Array Oper} {rest : List Oper} {o : Oper} {a : Act} {Q : Exit → Act → World → Prop} (hgd : o.guard = none) (d s : Operand)
    (ho : o.op = .call { callee := .builtin .copy, args := #[d, s], argTypes := #[112, 112] }) (w0 : World) (g n cap : Nat) (vb : Value) (B' : Nat) (l0 l : List UInt8)
    (hd : a.eval d = .slice (some ⟨g, 0, none⟩) n cap) (hs : a.eval s = vb) (hown : Own w w0.heap.size (.slice (some ⟨g, 0, none⟩) n cap) l0) (hn : l.length = n) (hvb : Bs w B' vb l)
    (hb : Below w0.heap.size w0 w)
    (h : ∀ w', Own w' w0.heap.size (.slice (some ⟨g, 0, none⟩) n cap) l → Below w0.heap.size w0 w' → wpList Tryd.prog ops Q rest (a.put o.dst (goInt l.length)) w') :
    wpList Tryd.prog ops Q (o :: rest) a w := by
  obtain ⟨i0, hi, hz0, hz1, hz2⟩ := info_parts info_u8
  obtain ⟨A, c, rfl, hlc, hr⟩ := hvb
  rcases hown.2 with ⟨h1, _⟩ | ⟨g', cap', cur, hv, hbg, hg, hnc, hcm, hcs, _⟩
  · cases h1
  · injection hv with hA hl0 hcap
    injection hA with hA
    injection hA with hg' _ _
    subst hcap
    subst hg'
    refine wpList_copy_splice hgd d s _ _ ho 5 und_bytes (by rw [hi]; simp [hz1]) (some ⟨g, 0, none⟩) A n cap l.length c hd hs g 0 cur.toList 5 (by simpa using hg) (b8s l) (by simp [hn]) ?_ ?_ (b8s_one l) w0.heap.size w0 hb hbg ?_
    · intro hp
      obtain ⟨ad, e, _, hcell⟩ := hr.2 (by simpa using hp)
      exact ⟨rfl, ad, e, hcell⟩
    · simp; omega
    · intro w' H hb'
      rw [b8s_length]
      refine h w' ⟨by simp, .inr ⟨g, cap, _, by rw [hn], hbg, H.out, by omega, hcm, ?_, ?_⟩⟩ hb'
      · simp [splice]; omega
      · simp [splice]
end Go.Proofs.YtgfdmdikiickpaaDoor
