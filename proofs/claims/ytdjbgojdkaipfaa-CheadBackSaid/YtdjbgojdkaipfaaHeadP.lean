/-
  The laying of package chead: append of all bytes of a slice to an empty one.
-/
import Derived.Test.YtdjbgojdkaipfaaHeadS
import Derived.Laws.AppendOwnNone
namespace Go.Proofs.Ytdjbgojdkaipfaa
open Go.RowKit

theorem Own.new0 (w : World) (B : Nat) (hB : B ≤ w.heap.size) : Own (w.alloc (.cells #[] 5)) B (.slice (some ⟨w.heap.size, 0, none⟩) 0 0) [] :=
  World.ownsRow_lit w #[] 0 hB (by unfold maxLen; omega) rfl
/-- append of the bytes of a slice, which may be nil, to a slice of the call's own. -/
theorem wpList_appAll {w : World} {ops : Array Oper} {rest : List Oper} {o : Oper} {a : Act} {Q : Exit → Act → World → Prop} (hgd : o.guard = none) (s x : Operand)
    (ho : o.op = .call { callee := .builtin .append, args := #[s, x], argTypes := #[25, 25] })
    (w0 : World) (v : Value) (l : List UInt8) (hs : a.eval s = v) (hown : Own w w0.heap.size v l) (hb : Below w0.heap.size w0 w)
    (A : Option Addr) (c B : Nat) (news : List UInt8) (hx : a.eval x = .slice A news.length c) (hr : Reads w B 1 A news.length (b8s news)) (hn : A = none → c = 0)
    (hsz : l.length + news.length ≤ 140737488355328)
    (h : ∀ v' w', Own w' w0.heap.size v' (l ++ news) → Below w0.heap.size w0 w' → wpList Try.prog ops Q rest (a.put o.dst v') w') : wpList Try.prog ops Q (o :: rest) a w := by
  cases A with
  | some ad =>
    refine wpList_app hgd s x ho w0 v l hs hown hb ad news.length c news hx rfl ?_ hsz h
    intro j u hj
    by_cases h0 : 0 < news.length
    · obtain ⟨ad', e, _, hc⟩ := hr.2 h0
      injection e with e; subst e
      exact hc j u hj
    · have : news = [] := List.eq_nil_of_length_eq_zero (by omega)
      subst this; simp [b8s] at hj
  | none =>
    have hl : news = [] := by
      by_cases h0 : 0 < news.length
      · obtain ⟨ad', e, _⟩ := hr.2 h0; cases e
      · exact List.eq_nil_of_length_eq_zero (by omega)
    subst hl
    obtain rfl := hn rfl
    obtain ⟨i0, hi, hz0, hz1, hz2⟩ := info_parts info_u8
    refine wpList_append_own_none hgd s x _ ho w0.heap.size 5 i0 1 und_bytes hi v l.length (b8s l) hs hown hx ?_
    exact h v w (by simpa using hown) hb
end Go.Proofs.Ytdjbgojdkaipfaa
