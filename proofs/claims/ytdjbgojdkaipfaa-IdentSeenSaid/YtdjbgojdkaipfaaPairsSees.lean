/-
  What a keeper tells that saw a list of pairs; append of a pair.
-/
import Derived.Test.YtdjbgojdkaipfaaPairsFind
namespace Go.Proofs.Ytdjbgojdkaipfaa
open Go.RowKit Go.Maps Go.WideShapes

theorem b8_inj {a b : UInt8} (h : b8 a = b8 b) : a = b := by
  unfold b8 at h
  injection h with _ h
  exact UInt8.toNat_inj.1 (by exact_mod_cast h)
theorem b8s_inj : ∀ {a b : List UInt8}, b8s a = b8s b → a = b
  | [], [], _ => rfl
  | [], _ :: _, h => by simp [b8s] at h
  | _ :: _, [], h => by simp [b8s] at h
  | x :: a, y :: b, h => by
    simp only [b8s, List.map_cons, List.cons.injEq] at h
    rw [b8_inj h.1, b8s_inj (a := a) (b := b) h.2]
theorem Av_inj {a b : List UInt8} (h : Av a = Av b) : a = b := by
  unfold Av at h
  injection h with h
  exact b8s_inj (by simpa using h)
theorem atKey_no {H : Type} {D : DataW H} {k : Lit} (z : DataW H) (h : Maps.has D k = false) : D.atKey k z = z := by
  cases D <;> try rfl
  rename_i es
  simp only [Maps.has_eq] at h
  show (match es.find? (fun p => p.1.sameKey k) with | some p => p.2 | none => z) = z
  have e : es.find? (fun p => p.1.sameKey k) = none := by
    rw [List.find?_eq_none]
    intro p hp
    rw [List.any_eq_false] at h
    exact h p hp
  rw [e]
structure Sees (D : DataW Unit) (S : List (List UInt8)) : Prop where
  tidy : Maps.Tidy D
  size : Maps.size D = S.length
  has : ∀ (x : List UInt8) (kl : Lit), x.length = 24 → keyOf Try.prog 138 (Av x) = some kl → Maps.has D kl = decide (0 ≤ findP S x)
  at_ : ∀ (x : List UInt8) (kl : Lit), x.length = 24 → keyOf Try.prog 138 (Av x) = some kl → D.atKey kl (.lit (.int .i64 0)) = .lit (.int .i64 (max 0 (findP S x)))
theorem Sees.nil : Sees (.map []) [] :=
  ⟨Maps.tidy_empty, rfl, fun x kl _ _ => by simp [findP, Maps.has_eq], fun x kl _ _ => by rw [atKey_no _ (by simp [Maps.has_eq])]; simp [findP]; decide⟩
theorem Sees.put {D : DataW Unit} {S : List (List UInt8)} (h : Sees D S) {x : List UInt8} {kl : Lit} (hx : x.length = 24) (hk : keyOf Try.prog 138 (Av x) = some kl) (hn : findP S x < 0) :
    Sees (D.put kl (.lit (.int .i64 (Maps.size D)))) (S ++ [x]) := by
  have hkey := pair_law.key hk
  have hno : Maps.has D kl = false := by rw [h.has x kl hx hk]; exact decide_eq_false (by omega)
  refine ⟨h.tidy.put hkey _, ?_, fun y ky hy hyk => ?_, fun y ky hy hyk => ?_⟩
  · rw [Maps.size_put h.tidy, hno, h.size]; simp
  · rw [findP_app]
    by_cases e : ky = kl
    · subst e
      obtain rfl := Av_inj (pair_law.inj hyk hk)
      rw [Maps.has_put_same h.tidy.isMap hkey, if_neg (by omega), if_pos rfl]
      exact (decide_eq_true (by omega)).symm
    · rw [Maps.has_put_other e, h.has y ky hy hyk]
      have hne : x ≠ y := fun e' => e (Option.some.inj ((e' ▸ hyk.symm : some ky = _).trans hk))
      rw [if_neg hne]
      by_cases h0 : 0 ≤ findP S y
      · rw [if_pos h0]
      · rw [if_neg h0, decide_eq_false h0]; rfl
  · rw [findP_app]
    by_cases e : ky = kl
    · subst e
      obtain rfl := Av_inj (pair_law.inj hyk hk)
      rw [Maps.atKey_put_same h.tidy.isMap hkey, if_neg (by omega), if_pos rfl, h.size]
      rw [Int.max_eq_right (by omega)]
    · rw [Maps.atKey_put_other e, h.at_ y ky hy hyk]
      have hne : x ≠ y := fun e' => e (Option.some.inj ((e' ▸ hyk.symm : some ky = _).trans hk))
      rw [if_neg hne]
      have := (findP_bd S y).1
      by_cases h0 : 0 ≤ findP S y
      · rw [if_pos h0]
      · rw [if_neg h0, Int.max_eq_left (by omega), Int.max_eq_left (by decide)]
theorem SeenAt.grown {w w' : World} {s m n : Nat} {D : DataW Unit} (h : SeenAt w s m n D) {row : Option Nat} (hg : w.grownBy w' row) (hs : some s ≠ row) (hm : some m ≠ row) : SeenAt w' s m n D :=
  ⟨Blk.grown h.blk hg hs, h.own.kept hg hm⟩
theorem info_rpair3 : (Try.prog.info? 43).map (fun i => (i.zero, i.size, i.bytes)) = some (some (Av (zb 24)), 24, 24) := by kernel_rfl
/-- append of one pair to a list of the call's own. -/
theorem wpList_appP {w : World} {ops : Array Oper} {rest : List Oper} {o : Oper} {a : Act} {Q : Exit → Act → World → Prop} (hgd : o.guard = none) (s x : Operand)
    (ho : o.op = .call { callee := .builtin .append, args := #[s, x], argTypes := #[37, 37] })
    (base : Nat) (v : Value) (l : List (List UInt8)) (hs : a.eval s = v) (hown : w.ownsRow base 43 24 v l.length (b8s l.flatten))
    (g c : Nat) (T : TypeId) (p : List UInt8) (hx : a.eval x = .slice (some ⟨g, 0, none⟩) 1 c) (hg : Blk w g T (b8s p).toArray) (hp : p.length = 24) (hl : l.length ≤ 1000000) (hbase : base ≤ w.heap.size)
    (h : ∀ v' w', w'.ownsRow base 43 24 v' (l ++ [p]).length (b8s (l ++ [p]).flatten) → w.grownBy w' v.ownBlock → wpList Try.prog ops Q rest (a.put o.dst v') w') : wpList Try.prog ops Q (o :: rest) a w := by
  refine wpList_plain hgd fun K hK => ?_
  obtain ⟨i0, hi, hz0, hz1, hz2⟩ := info_parts info_rpair3
  refine wp_append_own (w := w) s x _ ho base 43 i0 _ 24 24 Try.underlying37 hi hz0 hz1 hz2 (by rw [cells_Av]; simp [zb]) (by omega) v l.length (b8s l.flatten) hs hown ⟨g, 0, none⟩ 1 c (b8s p) hx (by simp [hp])
    (fun j u hu => by rw [add_zero_off, hg.cell j, ← hu]; simp) (b8s_one _) (by unfold maxLen; omega) (by omega) hbase ?_
  intro v' w' h1 h2 _
  refine hK _ _ (h v' w' ?_ h2)
  have e : b8s (l ++ [p]).flatten = b8s l.flatten ++ b8s p := by simp [b8s]
  rw [e, List.length_append]
  exact h1
end Go.Proofs.Ytdjbgojdkaipfaa
