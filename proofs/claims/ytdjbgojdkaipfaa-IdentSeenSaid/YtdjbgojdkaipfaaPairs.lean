/-
  Pairs of names: lists of them in memory, their equality, and where the document finds one.
-/
import Derived.Test.YtdjbgojdkaipfaaSeenKey
import Derived.Test.YtdjbgojdkaipfaaStill
namespace Go.Proofs.Ytdjbgojdkaipfaa
open Go.RowKit Go.Maps Go.WideShapes

def findP : List (List UInt8) → List UInt8 → Int
  | [], _ => -1
  | x :: l, p => if x = p then 0 else if findP l p < 0 then -1 else findP l p + 1
theorem findP_bd : ∀ (l : List (List UInt8)) (p : List UInt8), -1 ≤ findP l p ∧ findP l p < l.length
  | [], _ => by simp [findP]
  | x :: l, p => by
    have := findP_bd l p
    unfold findP
    split
    · simp <;> omega
    · split
      · simp <;> omega
      · simp <;> omega
theorem findP_app : ∀ (l : List (List UInt8)) (p x : List UInt8), findP (l ++ [p]) x = if 0 ≤ findP l x then findP l x else if p = x then (l.length : Int) else -1
  | [], p, x => by
    simp only [List.nil_append, findP, List.length_nil]
    by_cases h : p = x <;> simp [h]
  | y :: l, p, x => by
    have ih := findP_app l p x
    have hb := findP_bd l x
    have hl : ((y :: l).length : Int) = (l.length : Int) + 1 := by simp
    simp only [List.cons_append]
    unfold findP
    rw [ih, hl]
    by_cases h1 : y = x
    · simp [h1]
    · by_cases h3 : p = x
      · simp only [if_neg h1, if_pos h3]
        repeat' split
        all_goals omega
      · simp only [if_neg h1, if_neg h3]
        repeat' split
        all_goals omega
theorem findP_hit : ∀ {l : List (List UInt8)} {p : List UInt8} {k : Nat}, l[k]? = some p → findP (l.take k) p < 0 → findP l p = k
  | [], _, _, h, _ => by simp at h
  | x :: l, p, 0, h, _ => by
    have e : x = p := by simpa using h
    simp [findP, e]
  | x :: l, p, k + 1, h, hn => by
    rw [List.take_succ_cons] at hn
    unfold findP at hn ⊢
    by_cases h1 : x = p
    · rw [if_pos h1] at hn; omega
    · rw [if_neg h1] at hn ⊢
      have hb := findP_bd (l.take k) p
      have := findP_hit (l := l) (p := p) (k := k) (by simpa using h) (by split at hn <;> omega)
      rw [this, if_neg (by omega)]
      push_cast; rfl
theorem findP_take {l : List (List UInt8)} {p x : List UInt8} {k : Nat} (h : l[k]? = some x) (hn : findP (l.take k) p < 0) (hx : x ≠ p) : findP (l.take (k + 1)) p < 0 := by
  have e : l.take (k + 1) = l.take k ++ [x] := by rw [List.take_add_one, h]; rfl
  rw [e, findP_app, if_neg (by omega), if_neg hx]
  decide
/-- Lists of pairs, each of 24 bytes. -/
def Pw (l : List (List UInt8)) : Prop := ∀ x ∈ l, x.length = 24
theorem Pw.at_ {l : List (List UInt8)} (h : Pw l) {k : Nat} {x : List UInt8} (hx : l[k]? = some x) : x.length = 24 := h x (List.mem_of_getElem? hx)
theorem Pw.len : ∀ {l : List (List UInt8)}, Pw l → l.flatten.length = l.length * 24
  | [], _ => rfl
  | x :: l, h => by
    rw [List.flatten_cons, List.length_append, Pw.len (l := l) (fun y hy => h y (by simp [hy])), h x (by simp), List.length_cons]
    omega
theorem Pw.flat : ∀ {l : List (List UInt8)}, Pw l → ∀ {k : Nat} {x : List UInt8}, l[k]? = some x → ∀ {j : Nat} {u : UInt8}, x[j]? = some u → l.flatten[k * 24 + j]? = some u
  | [], _, k, x, hx, _, _, _ => by simp at hx
  | y :: l, h, 0, x, hx, j, u, hu => by
    have e : y = x := by simpa using hx
    subst e
    have hj : j < y.length := by
      rcases Nat.lt_or_ge j y.length with h | h
      · exact h
      · rw [List.getElem?_eq_none h] at hu; cases hu
    rw [List.flatten_cons, Nat.zero_mul, Nat.zero_add, List.getElem?_append_left hj]; exact hu
  | y :: l, h, k + 1, x, hx, j, u, hu => by
    have hy : y.length = 24 := h y (by simp)
    have ih := Pw.flat (l := l) (fun z hz => h z (by simp [hz])) (k := k) (x := x) (by simpa using hx) hu
    rw [List.flatten_cons, List.getElem?_append_right (by omega), hy]
    rw [show (k + 1) * 24 + j - 24 = k * 24 + j by omega]; exact ih
theorem Pw.app {l : List (List UInt8)} (h : Pw l) {x : List UInt8} (hx : x.length = 24) : Pw (l ++ [x]) := by
  intro y hy
  rcases List.mem_append.1 hy with hy | hy
  · exact h y hy
  · rw [List.mem_singleton.1 hy]; exact hx
theorem b8s_get {l : List UInt8} {j : Nat} {u : Value} (h : (b8s l)[j]? = some u) : ∃ b, l[j]? = some b ∧ u = b8 b := by
  simp only [b8s, List.getElem?_map, Option.map_eq_some_iff] at h
  obtain ⟨b, h1, h2⟩ := h
  exact ⟨b, h1, h2.symm⟩
/-- The cells of the k-th pair. -/
theorem pair_cells {w : World} {B : Nat} {A : Option Addr} {l : List (List UInt8)} (hw : Pw l) (hr : Reads w B 24 A l.length (b8s l.flatten)) {k : Nat} {x : List UInt8} (hx : l[k]? = some x) :
    ∃ ad, A = some ad ∧ ad.block < B ∧ ∀ j u, (b8s x)[j]? = some u → w.cell? (ad.add (k * 24 + j)) = some u := by
  have hk : k < l.length := by
    rcases Nat.lt_or_ge k l.length with h | h
    · exact h
    · rw [List.getElem?_eq_none h] at hx; cases hx
  obtain ⟨ad, e, hb, hc⟩ := hr.2 (by omega)
  refine ⟨ad, e, hb, fun j u hu => hc _ _ ?_⟩
  obtain ⟨b, hb1, rfl⟩ := b8s_get hu
  simp only [b8s, List.getElem?_map, hw.flat hx hb1, Option.map_some]
theorem run_loadAt_adr {w : World} {ad : Addr} {ty : TypeId} {d : TypeDesc} (l : List UInt8) (hc : ∀ j u, (b8s l)[j]? = some u → w.cell? (ad.add j) = some u)
    (hu : Try.prog.underlying ty = some d) (hd : d.isRow = true) (hi : (Try.prog.info? ty).map (·.size) = some l.length) :
    (Instr.loadAt ty (.pointer (some ad))).run Try.prog w = .ok (Av l) w := by
  have hl : (loadCells ad (b8s l).length).run Try.prog w = .ok (b8s l).toArray w := run_loadCells_list (P := Try.prog) w ad _ hc
  rw [b8s_length] at hl
  cases hq : Try.prog.info? ty with
  | none => simp [hq] at hi
  | some i =>
    have hs : i.size = l.length := by simpa [hq] using hi
    have hagg : (isAgg ty).run Try.prog w = .ok true w := by
      unfold isAgg
      rw [Sem.run_bind, run_underlying hu w]
      cases d <;> simp_all
    simp [Instr.loadAt, Instr.sureAddr, loadVar, Sem.run_bind, hagg, sizeOf, typeInfo, hq, hs, hl, Av]
theorem wpList_load_run {ops : Array Oper} {rest : List Oper} {o : Oper} {a : Act} {w : World} {Q : Exit → Act → World → Prop} (hgd : o.guard = none) (ty : TypeId) (x : Operand) (ho : o.op = .load ty x) (v : Value)
    (hl : (Instr.loadAt ty (a.eval x)).run Try.prog w = .ok v w) (h : wpList Try.prog ops Q rest (a.put o.dst v) w) : wpList Try.prog ops Q (o :: rest) a w := by
  refine wpList_plain hgd fun _ hK => ?_
  unfold Oper.wp execOp
  simp only [ho, Sem.run_bind, hl, Result.andThen_ok]
  exact hK _ _ h
theorem take_cells {w : World} {ad : Addr} {x : List UInt8} (n : Nat) (h : ∀ j u, (b8s x)[j]? = some u → w.cell? (ad.add j) = some u) : ∀ j u, (b8s (x.take n))[j]? = some u → w.cell? (ad.add j) = some u := by
  intro j u hu
  refine h j u ?_
  obtain ⟨b, hb, rfl⟩ := b8s_get hu
  rw [List.getElem?_take] at hb
  split at hb
  · simp only [b8s, List.getElem?_map, hb, Option.map_some]
  · cases hb
theorem drop_cells {w : World} {ad : Addr} {x : List UInt8} (n : Nat) (h : ∀ j u, (b8s x)[j]? = some u → w.cell? (ad.add j) = some u) : ∀ j u, (b8s (x.drop n))[j]? = some u → w.cell? ((ad.add n).add j) = some u := by
  intro j u hu
  rw [add_of_add]
  refine h _ u ?_
  obtain ⟨b, hb, rfl⟩ := b8s_get hu
  rw [List.getElem?_drop] at hb
  simp only [b8s, List.getElem?_map, hb, Option.map_some]
/-- '==' between two pairs. -/
theorem info_rpair : (Try.prog.info? 43).map (·.size) = some 24 := by kernel_rfl
theorem guard_rpair : Try.prog.eqGuardType Try.prog.depth 43 = false := by kernel_rfl
theorem run_part_sub (w : World) (ty n off : Nat) (pre post : List Value) (l : List UInt8) (hty : Try.prog.underlying ty = some (.array n 5)) (hi : (Try.prog.info? ty).map (·.size) = some n) (hp : pre.length = off) (hl : l.length = n) :
    (part ty (pre ++ (b8s l ++ post)).toArray off).run Try.prog w = .ok (Av l) w := by
  cases hq : Try.prog.info? ty with
  | none => simp [hq] at hi
  | some i =>
    have hs : i.size = n := by simpa [hq] using hi
    have e2 : List.take n (List.drop off (pre ++ (b8s l ++ post))) = b8s l := by subst hp hl; simp
    simp only [part, isAgg, Sem.run_bind, run_underlying hty, sizeOf, typeInfo, hq, hs, Result.andThen_ok, Sem.run_pure]
    simp [hq, hs, e2]
    rfl
theorem run_pairFields_cons (w : World) (d : Nat) (xs ys : Array Value) (f : Field) (fs : List Field) (a b : Value) (r s : Bool) (hn : f.name ≠ "_") (ha : (part f.type xs f.offset).run Try.prog w = .ok a w) (hb : (part f.type ys f.offset).run Try.prog w = .ok b w)
    (he : (Op.equalIn d f.type a b).run Try.prog w = .ok r w) (hr : (Op.eqFields d xs ys fs).run Try.prog w = .ok s w) : (Op.eqFields d xs ys (f :: fs)).run Try.prog w = .ok (r && s) w := by
  simp only [Op.eqFields, if_pos hn, Sem.run_bind, ha, hb, he, Result.andThen_ok]
  cases r
  · simp
  · simpa using hr
theorem fields_rpair : (Try.prog.fieldsOf 43).toList.map (fun f => (f.name == "_", f.type, f.offset)) = [(false, 39, 0), (false, 41, 16)] := by kernel_rfl
theorem und_rpair : Try.prog.underlying 43 = some (.struct (Try.prog.fieldsOf 43)) := by kernel_rfl
theorem held_rpair : Try.prog.stoodInHeld 43 = false := by kernel_rfl
theorem run_equalIn_pair (w : World) (d : Nat) (t s t' s' : List UInt8) (ht : t.length = 16) (hs : s.length = 8) (ht' : t'.length = 16) (hs' : s'.length = 8) :
    (Op.equalIn (d + 3) 43 (.agg (b8s (t ++ s)).toArray) (.agg (b8s (t' ++ s')).toArray)).run Try.prog w = .ok (t == t' && (s == s' && true)) w := by
  rw [run_equalIn_struct w (d + 2) 43 _ _ und_rpair held_rpair]
  have hf := fields_rpair
  revert hf
  generalize (Try.prog.fieldsOf 43).toList = fs
  intro hf
  have hlen : fs.length = 2 := by have := congrArg List.length hf; simpa using this
  have c1 : ∀ t s : List UInt8, b8s (t ++ s) = [] ++ (b8s t ++ b8s s) := fun t s => by simp [b8s]
  have c2 : ∀ t s : List UInt8, b8s (t ++ s) = b8s t ++ (b8s s ++ []) := fun t s => by simp [b8s]
  match fs, hlen with
  | [f0, f1], _ =>
    simp only [List.map_cons, List.map_nil, List.cons.injEq, Prod.mk.injEq, and_true] at hf
    obtain ⟨⟨n0, t0, o0⟩, ⟨n1, t1, o1⟩⟩ := hf
    refine run_pairFields_cons w _ _ _ f0 _ (Av t) (Av t') _ _ (by simpa using n0) (by rw [t0, o0, c1]; exact run_part_sub w _ 16 0 _ _ t Try.underlying39 info_trace rfl ht) (by rw [t0, o0, c1]; exact run_part_sub w _ 16 0 _ _ t' Try.underlying39 info_trace rfl ht') (by rw [t0]; exact run_equalIn_bytes (P := Try.prog) w d 39 5 16 Try.underlying39 Try.underlying5 (fun w => size_u8 w) t t' ht ht') ?_
    refine run_pairFields_cons w _ _ _ f1 _ (Av s) (Av s') _ _ (by simpa using n1) (by rw [t1, o1, c2]; exact run_part_sub w _ 8 16 _ _ s Try.underlying41 info_span (by simp [ht]) hs) (by rw [t1, o1, c2]; exact run_part_sub w _ 8 16 _ _ s' Try.underlying41 info_span (by simp [ht']) hs') (by rw [t1]; exact run_equalIn_bytes (P := Try.prog) w d 41 5 8 Try.underlying41 Try.underlying5 (fun w => size_u8 w) s s' hs hs') ?_
    simp [Op.eqFields]
theorem run_eq_pair (w : World) (x y : List UInt8) (hx : x.length = 24) (hy : y.length = 24) : (binOp .eql 43 (Av x) (Av y)).run Try.prog w = .ok (.bool (decide (x = y))) w := by
  show (binOp .eql 43 (.agg _) (.agg _)).run Try.prog w = _
  rw [run_eql_struct]
  have h := run_equalIn_pair w 9997 (x.take 16) (x.drop 16) (y.take 16) (y.drop 16) (by simp [hx]) (by simp [hx]) (by simp [hy]) (by simp [hy])
  rw [List.take_append_drop, List.take_append_drop] at h
  rw [h]
  have e : (x.take 16 == y.take 16 && (x.drop 16 == y.drop 16 && true)) = decide (x = y) := by
    by_cases hxy : x = y
    · subst hxy; simp
    · rw [decide_eq_false hxy, Bool.and_true, Bool.eq_false_iff]
      intro hh
      simp only [Bool.and_eq_true, beq_iff_eq] at hh
      exact hxy (by rw [← List.take_append_drop 16 x, hh.1, hh.2, List.take_append_drop])
  rw [e]; rfl
end Go.Proofs.Ytdjbgojdkaipfaa
