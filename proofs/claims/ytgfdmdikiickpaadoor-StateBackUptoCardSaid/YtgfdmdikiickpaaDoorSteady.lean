/-
  A region that draws its order, of operations that each yield one value and keep a property of the world (calls that make memory of their own among them): one walk in the text's order.
-/
import Derived.Test.YtgfdmdikiickpaaDoorBase
import Derived.Still
import Derived.OrdersHeld
namespace Go.Proofs.YtgfdmdikiickpaaDoor
open Go.RowKit

section
variable {P : Program} {ops : Array Oper} {md : Region.Mode} {S : World → Prop}
/-- What one run of an operation leaves: the value v, and a world that meets S. -/
def steadyEnd (P : Program) (S : World → Prop) (v : Value) : Result Next → Prop
  | .ok (.value u) w => u = v ∧ S w
  | .ok .skip w => v = undef ∧ S w
  | .ok (.enter f args) w => Calls P f args w fun e w' => e = .returned v ∧ S w'
  | _ => False
def Steady (P : Program) (ops : Array Oper) (S : World → Prop) (o : Oper) (v : Value) (a : Act) : Prop :=
  (Region.wanted o (yielded ops a.tmps) = true ∧ ∀ w, S w → steadyEnd P S v ((execOp a.eval o).run P w)) ∨ (Region.wanted o (yielded ops a.tmps) = false ∧ v = undef)
theorem Steady.put {o p : Oper} {v u : Value} {a : Act} (hs : ∀ cs b, o.op ≠ .select cs b) (h : ∀ d, p.dst = some d → d ∉ o.looksAt ops) : Steady P ops S o v (a.put p.dst u) ↔ Steady P ops S o v a := by
  unfold Steady
  rw [execOp_put o hs a p.dst u h, wanted_put o a p.dst u h]
theorem Steady.op {i : Nat} {o : Oper} {v : Value} {a : Act} {w : World} {K : Act → World → Prop} {Q : Exit → Act → World → Prop} (hi : ops[i]? = some o) (h : Steady P ops S o v a) (hS : S w) (hK : ∀ w', S w' → K (a.put o.dst v) w') : wpOp P ops Q i K a w := by
  unfold wpOp
  simp only [hi]
  rcases h with ⟨hw, hv⟩ | ⟨hw, rfl⟩
  · rw [if_pos hw]
    refine .inl ?_
    have h1 := hv w hS
    unfold Oper.wp
    generalize (execOp a.eval o).run P w = r at h1
    cases r with
    | halt x w' => exact h1.elim
    | ok n w' =>
      cases n with
      | value u => exact h1.1 ▸ hK w' h1.2
      | skip => obtain ⟨rfl, h2⟩ := h1; exact hK w' h2
      | enter f args =>
        refine Calls.mono h1 ?_
        rintro e w'' ⟨rfl, hS''⟩
        exact hK w'' hS''
      | _ => exact h1.elim
  · rw [if_neg (by simp [hw])]
    exact hK w hS
/-- All orders from here on: the values do not hang on the order. -/
def wpSet (P : Program) (md : Region.Mode) (ops : Array Oper) (S : World → Prop) (Q : Act → Prop) : Nat → Array Bool → Act → Prop
  | 0, listed, a => Region.ready md ops listed = [] ∧ Q a
  | f + 1, listed, a => (Region.ready md ops listed = [] → Q a) ∧ ∀ i ∈ Region.ready md ops listed, ∀ o, ops[i]? = some o → ∃ v, Steady P ops S o v a ∧ wpSet P md ops S Q f (listed.setIfInBounds i true) (a.put o.dst v)
theorem wpAny_of_set {Q : Exit → Act → World → Prop} {q : Act → Prop} (hq : ∀ a w, q a → S w → Q .normal a w) : ∀ (f : Nat) (listed : Array Bool) (a : Act) (w : World), wpSet P md ops S q f listed a → S w → wpAny P md ops Q f listed a w
  | 0, _, a, w, h, hS => ⟨h.1, hq a w h.2 hS⟩
  | f + 1, listed, a, w, h, hS => by
    refine ⟨fun h0 => hq a w (h.1 h0) hS, fun i hi => ?_⟩
    obtain ⟨_, o, ho, _⟩ := mem_ready.1 hi
    obtain ⟨v, h1, h2⟩ := h.2 i hi o ho
    exact h1.op ho hS fun w' hS' => wpAny_of_set hq f _ _ w' h2 hS'
theorem wpSet_first {Q : Act → Prop} {i : Nat} {o : Oper} {v : Value} (hi : ops[i]? = some o) (hsel : ∀ (j : Nat) (o : Oper) cs b, ops[j]? = some o → o.op ≠ .select cs b) :
    ∀ (f : Nat) (listed : Array Bool) (a : Act),
      (∀ j p, ops[j]? = some p → j ≠ i → listed.getD j true = false → (∀ e ∈ p.after, Region.binds md e = true → e.on ≠ i) → o.apart ops p = true) →
      i ∈ Region.ready md ops listed → Steady P ops S o v a → wpSet P md ops S Q f (listed.setIfInBounds i true) (a.put o.dst v) → wpSet P md ops S Q (f + 1) listed a := by
  intro f
  induction f with
  | zero =>
    intro listed a _ hr hst H
    refine ⟨fun h0 => absurd hr (by rw [h0]; simp), fun j hj p hp => ?_⟩
    rcases Nat.decEq j i with hji | hji
    · have h1 := ready_mono hj hji
      rw [H.1] at h1
      exact absurd h1 (by simp)
    · subst hji
      obtain rfl := Option.some.inj (hi.symm.trans hp)
      exact ⟨v, hst, H⟩
  | succ f ih =>
    intro listed a hfree hr hst H
    refine ⟨fun h0 => absurd hr (by rw [h0]; simp), fun j hj p hp => ?_⟩
    rcases Nat.decEq j i with hji | hji
    · obtain ⟨hun, p', hp', hall⟩ := mem_ready.1 hj
      obtain rfl := Option.some.inj (hp'.symm.trans hp)
      have hun0 := (mem_ready.1 hr).1
      have hno : ∀ e ∈ p'.after, Region.binds md e = true → e.on ≠ i := by
        intro e he hb heq
        have h1 := hall e he hb
        rw [heq] at h1
        by_cases hlt : i < listed.size
        · simp [hlt] at hun0 h1
          rw [hun0] at h1; cases h1
        · simp [Array.getElem?_eq_none (Nat.not_lt.1 hlt)] at h1
      obtain ⟨d1, d2, d3⟩ := Oper.apart_spec (hfree j p' hp hji hun hno)
      obtain ⟨u, hu, Hu⟩ := H.2 j (ready_mono hj hji) p' hp
      refine ⟨u, (Steady.put (fun cs b => hsel j p' cs b hp) d1).1 hu, ih _ _ ?_ (ready_mono hr (Ne.symm hji)) ((Steady.put (fun cs b => hsel i o cs b hi) d3).2 hst) ?_⟩
      · intro k q hq hki hun' hno'
        refine hfree k q hq hki ?_ hno'
        rcases Nat.decEq j k with hjk | hjk
        · rwa [getD_set_ne true hjk] at hun'
        · exact hjk ▸ hun
      · rw [Array.setIfInBounds_comm _ _ hji, ← Act.put_comm a v u d2]
        exact Hu
    · subst hji
      obtain rfl := Option.some.inj (hi.symm.trans hp)
      exact ⟨v, hst, H⟩
/-- The walk in the text's order. -/
def wpSteady (P : Program) (ops : Array Oper) (S : World → Prop) (Q : Act → Prop) : List Oper → Act → Prop
  | [], a => Q a
  | o :: rest, a => ∃ v, Steady P ops S o v a ∧ wpSteady P ops S Q rest (a.put o.dst v)
theorem wpSet_lex {Q : Act → Prop} (hs : Region.noSelect ops = true) : ∀ (l : List Oper) (k : Nat) (listed : Array Bool) (a : Act), (∀ j, l[j]? = ops[k + j]?) →
    Region.lexFrom md ops l.length k listed = true → wpSteady P ops S Q l a → wpSet P md ops S Q l.length listed a
  | [], _, _, _, _, hB, h => ⟨by simpa [Region.lexFrom] using hB, h⟩
  | o :: l, k, listed, a, hl, hB, ⟨v, hv, h⟩ => by
    simp only [List.length_cons, Region.lexFrom, Bool.and_eq_true] at hB
    have h0 : ops[k]? = some o := by simpa using (hl 0).symm
    have hl' : ∀ j, l[j]? = ops[k + 1 + j]? := fun j => by
      have := hl (j + 1)
      rw [List.getElem?_cons_succ] at this
      rw [this, show k + (j + 1) = k + 1 + j by omega]
    exact wpSet_first h0 (Region.noSelect_spec hs) _ _ _ (Region.free_spec h0 hB.1.2) (by simpa using hB.1.1) hv (wpSet_lex hs l (k + 1) _ _ hl' hB.2 h)
/-- THE LAW. -/
theorem region_steady {id : Nat} {Q : Exit → Act → World → Prop} {a : Act} {w : World} {l : List Oper} (S : World → Prop) (hm : P.follows .mixedOrders = true) (hB : Region.lexB .any l.toArray = true) (hS : S w.drew)
    (h : wpSteady P l.toArray S (fun a' => ∀ w', S w' → Q .normal a' w') l a) : (Code.region id l.toArray true).wp P Q a w := by
  simp only [Region.lexB, Bool.and_eq_true] at hB
  refine wp_region_any hm (wpAny_of_set (q := fun a' => ∀ w', S w' → Q .normal a' w') (fun a w h hS => h w hS) _ _ _ _ ?_ hS)
  have := wpSet_lex (md := .any) hB.1 l 0 (Array.replicate l.toArray.size false) a (by simp) (by simpa using hB.2) h
  simpa using this
variable {Q : Act → Prop} {a : Act} {o : Oper} {rest : List Oper}
theorem steady_nil (h : Q a) : wpSteady P ops S Q [] a := h
theorem steady_pure {v : Value} (hw : Region.wanted o (yielded ops a.tmps) = true) (h : ∀ w, (execOp a.eval o).run P w = .ok (.value v) w) (hn : wpSteady P ops S Q rest (a.put o.dst v)) : wpSteady P ops S Q (o :: rest) a :=
  ⟨v, .inl ⟨hw, fun w hS => by rw [h w]; exact ⟨rfl, hS⟩⟩, hn⟩
theorem steady_off (hw : Region.wanted o (yielded ops a.tmps) = false) (hn : wpSteady P ops S Q rest (a.put o.dst undef)) : wpSteady P ops S Q (o :: rest) a :=
  ⟨undef, .inr ⟨hw, rfl⟩, hn⟩
theorem steady_run {v : Value} (hw : Region.wanted o (yielded ops a.tmps) = true) (h : ∀ w, S w → (execOp a.eval o).run P w = .ok (.value v) w) (hn : wpSteady P ops S Q rest (a.put o.dst v)) : wpSteady P ops S Q (o :: rest) a :=
  ⟨v, .inl ⟨hw, fun w hS => by rw [h w hS]; exact ⟨rfl, hS⟩⟩, hn⟩
theorem steady_load {v : Value} (ty : TypeId) (x : Operand) (ho : o.op = .load ty x) (hw : Region.wanted o (yielded ops a.tmps) = true) (h : ∀ w, S w → (Instr.loadAt ty (a.eval x)).run P w = .ok v w) (hn : wpSteady P ops S Q rest (a.put o.dst v)) : wpSteady P ops S Q (o :: rest) a :=
  steady_run hw (fun w hS => by simp [execOp, ho, h w hS, Result.andThen]) hn
theorem steady_call {v : Value} {f : FuncId} {args : Array Value} (hc : ∀ w, S w → Calls P f args w fun e w' => e = .returned v ∧ S w') (hw : Region.wanted o (yielded ops a.tmps) = true) (h : ∀ w, (execOp a.eval o).run P w = .ok (.enter f args) w) (hn : wpSteady P ops S Q rest (a.put o.dst v)) : wpSteady P ops S Q (o :: rest) a :=
  ⟨v, .inl ⟨hw, fun w hS => by rw [h w]; exact hc w hS⟩, hn⟩
end
end Go.Proofs.YtgfdmdikiickpaaDoor
