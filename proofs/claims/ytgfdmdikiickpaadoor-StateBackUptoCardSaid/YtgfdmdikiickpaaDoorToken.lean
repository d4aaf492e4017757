/-
  A region that draws its order, of operations that each yield one value and keep a property of the world, one of which may make a thing of its own (a token, in slot d) that others read: one walk in the text's order.
-/
import Derived.Test.YtgfdmdikiickpaaDoorSteady
import Derived.Test.YtgfdmdikiickpaaDoorMem
import Derived.Laws.Tables
import Derived.StillTail
namespace Go.Proofs.YtgfdmdikiickpaaDoor
open Go.RowKit

section
variable {P : Program} {ops : Array Oper} {md : Region.Mode} {S : Value → World → Prop} {d : Tmp}
/-- The frame, where the token is made (m) or not yet. -/
def fam (d : Tmp) (a : Act) (m : Bool) (x : Value) : Act := match m with
  | true => a.put (some d) x
  | false => a
/-- What one run of an operation leaves: the value v (none: a new token), and a world that meets S. -/
def tokEnd (P : Program) (S : Value → World → Prop) (x : Value) (v : Option Value) : Result Next → Prop
  | .ok (.value u) w => match v with
    | some v => u = v ∧ S x w
    | none => S u w
  | .ok .skip w => v = some undef ∧ S x w
  | .ok (.enter f args) w => ∃ u, v = some u ∧ Calls P f args w fun e w' => e = .returned u ∧ S x w'
  | _ => False
def Tok (P : Program) (ops : Array Oper) (S : Value → World → Prop) (d : Tmp) (o : Oper) (v : Option Value) (a : Act) (m : Bool) : Prop :=
  (match v with
    | some _ => o.dst ≠ some d
    | none => o.dst = some d ∧ m = false) ∧
  (((∀ x, Region.wanted o (yielded ops (fam d a m x).tmps) = true) ∧ (∀ x w, S x w → tokEnd P S x v ((execOp (fam d a m x).eval o).run P w))) ∨
  ((∀ x, Region.wanted o (yielded ops (fam d a m x).tmps) = false) ∧ v = some undef))
def nextA (a : Act) (o : Oper) (v : Option Value) : Act := match v with
  | some v => a.put o.dst v
  | none => a
def nextM (m : Bool) (v : Option Value) : Bool := match v with
  | some _ => m
  | none => true
theorem fam_next {a : Act} {m : Bool} {o : Oper} {v : Option Value} {x y : Value} (h : Tok P ops S d o v a m) (hv : v = none → x = y) : ∀ u, (match v with | some v => u = v | none => u = x) →
    (fam d a m y).put o.dst u = fam d (nextA a o v) (nextM m v) (match v with | some _ => y | none => u) := by
  intro u hu
  cases v with
  | some v =>
    obtain rfl := hu
    cases m with
    | true => exact (Act.put_comm a y u (fun e he => by injection he with he; subst he; exact h.1)) 
    | false => rfl
  | none =>
    obtain rfl := hu
    obtain ⟨⟨h1, h2⟩, _⟩ := h
    subst h2
    show (a.put o.dst u) = a.put (some d) u
    rw [h1]
/-- All orders from here on. -/
def wpTokS (P : Program) (md : Region.Mode) (ops : Array Oper) (S : Value → World → Prop) (d : Tmp) (Q : Act → Bool → Prop) : Nat → Array Bool → Act → Bool → Prop
  | 0, listed, a, m => Region.ready md ops listed = [] ∧ Q a m
  | f + 1, listed, a, m => (Region.ready md ops listed = [] → Q a m) ∧ ∀ i ∈ Region.ready md ops listed, ∀ o, ops[i]? = some o → ∃ v, Tok P ops S d o v a m ∧ wpTokS P md ops S d Q f (listed.setIfInBounds i true) (nextA a o v) (nextM m v)
theorem Tok.op {i : Nat} {o : Oper} {v : Option Value} {a : Act} {m : Bool} {x : Value} {w : World} {K : Act → World → Prop} {Q : Exit → Act → World → Prop} (hi : ops[i]? = some o) (h : Tok P ops S d o v a m) (hS : S x w)
    (hK : ∀ y w', S y w' → K (fam d (nextA a o v) (nextM m v) y) w') : wpOp P ops Q i K (fam d a m x) w := by
  unfold wpOp
  simp only [hi]
  have hn := fun (y : Value) (hv : v = none → y = x) u hu => fam_next (x := y) (y := x) h hv u hu
  rcases h.2 with ⟨hw, hv⟩ | ⟨hw, rfl⟩
  · rw [if_pos (hw x)]
    refine .inl ?_
    have h1 := hv x w hS
    unfold Oper.wp
    generalize (execOp (fam d a m x).eval o).run P w = r at h1
    cases r with
    | halt _ w' => exact h1.elim
    | ok n w' =>
      cases n with
      | value u =>
        cases v with
        | some v =>
          obtain ⟨rfl, hS'⟩ := h1
          show K ((fam d a m x).put o.dst u) w'
          rw [fam_next (x := x) (y := x) h (fun _ => rfl) u rfl]
          exact hK x w' hS'
        | none =>
          show K ((fam d a m x).put o.dst u) w'
          obtain ⟨⟨e1, e2⟩, _⟩ := h
          subst e2
          have hh := hK u w' h1
          have e : (fam d a false x).put o.dst u = fam d (nextA a o none) (nextM false none) u := by
            show a.put o.dst u = a.put (some d) u
            rw [e1]
          rw [e]; exact hh
      | skip =>
        obtain ⟨rfl, h2⟩ := h1
        have e := fam_next (x := x) (y := x) h (fun _ => rfl) undef rfl
        show K ((fam d a m x).put o.dst undef) w'
        rw [e]
        exact hK x w' h2
      | enter f args =>
        obtain ⟨u, rfl, hc⟩ := h1
        have e := fam_next (x := x) (y := x) h (fun _ => rfl) u rfl
        refine Calls.mono hc ?_
        rintro _ w'' ⟨rfl, hS''⟩
        show K ((fam d a m x).put o.dst u) w''
        rw [e]
        exact hK x w'' hS''
      | _ => exact h1.elim
  · rw [if_neg (by simp [hw x])]
    have e := fam_next (x := x) (y := x) h (fun _ => rfl) undef rfl
    rw [e]
    exact hK x w hS
theorem wpAny_of_tokS {Q : Exit → Act → World → Prop} {q : Act → Bool → Prop} (hq : ∀ a m x w, q a m → S x w → Q .normal (fam d a m x) w) : ∀ (f : Nat) (listed : Array Bool) (a : Act) (m : Bool) (x : Value) (w : World), wpTokS P md ops S d q f listed a m → S x w → wpAny P md ops Q f listed (fam d a m x) w
  | 0, _, a, m, x, w, h, hS => ⟨h.1, hq a m x w h.2 hS⟩
  | f + 1, listed, a, m, x, w, h, hS => by
    refine ⟨fun h0 => hq a m x w (h.1 h0) hS, fun i hi => ?_⟩
    obtain ⟨_, o, ho, _⟩ := mem_ready.1 hi
    obtain ⟨v, h1, h2⟩ := h.2 i hi o ho
    exact h1.op ho hS fun y w' hS' => wpAny_of_tokS hq f _ _ _ y w' h2 hS'
theorem eval_fam {o p : Oper} {v u : Option Value} {a : Act} {m : Bool} (hs : ∀ cs b, o.op ≠ .select cs b) (hp : Tok P ops S d p u a m) (h : ∀ e, p.dst = some e → e ∉ o.looksAt ops) (x : Value) :
    execOp (fam d (nextA a p u) (nextM m u) x).eval o = execOp (fam d a m x).eval o ∧ Region.wanted o (yielded ops (fam d (nextA a p u) (nextM m u) x).tmps) = Region.wanted o (yielded ops (fam d a m x).tmps) := by
  cases u with
  | some u =>
    have e := fam_next (x := x) (y := x) hp (fun _ => rfl) u rfl
    simp only at e
    rw [← e]
    exact ⟨execOp_put o hs _ _ _ h, wanted_put o _ _ _ h⟩
  | none =>
    obtain ⟨⟨e1, e2⟩, _⟩ := hp
    subst e2
    show execOp (a.put (some d) x).eval o = execOp a.eval o ∧ Region.wanted o (yielded ops (a.put (some d) x).tmps) = Region.wanted o (yielded ops a.tmps)
    rw [← e1]
    exact ⟨execOp_put o hs _ _ _ h, wanted_put o _ _ _ h⟩
/-- What an operation does is the same before and behind another that it does not look at. -/
theorem Tok.back {o p : Oper} {v u : Option Value} {a : Act} {m : Bool} (hs : ∀ cs b, o.op ≠ .select cs b) (hp : Tok P ops S d p u a m) (h : ∀ e, p.dst = some e → e ∉ o.looksAt ops)
    (hc : Tok P ops S d o v (nextA a p u) (nextM m u)) : Tok P ops S d o v a m := by
  refine ⟨?_, ?_⟩
  · cases v with
    | some v => exact hc.1
    | none =>
      refine ⟨hc.1.1, ?_⟩
      have := hc.1.2
      cases u with
      | some u => exact this
      | none => exact absurd this (by simp [nextM])
  · rcases hc.2 with ⟨h1, h2⟩ | ⟨h1, h2⟩
    · exact .inl ⟨fun x => by rw [← (eval_fam (v := v) hs hp h x).2]; exact h1 x, fun x w hS => by rw [← (eval_fam (v := v) hs hp h x).1]; exact h2 x w hS⟩
    · exact .inr ⟨fun x => by rw [← (eval_fam (v := v) hs hp h x).2]; exact h1 x, h2⟩
theorem Tok.forth {o p : Oper} {v u : Option Value} {a : Act} {m : Bool} (hs : ∀ cs b, o.op ≠ .select cs b) (hp : Tok P ops S d p u a m) (h : ∀ e, p.dst = some e → e ∉ o.looksAt ops) (hne : ∀ e, p.dst = some e → o.dst ≠ some e)
    (hc : Tok P ops S d o v a m) : Tok P ops S d o v (nextA a p u) (nextM m u) := by
  refine ⟨?_, ?_⟩
  · cases v with
    | some v => exact hc.1
    | none =>
      refine ⟨hc.1.1, ?_⟩
      cases u with
      | some u => exact hc.1.2
      | none => exact absurd hc.1.1 (hne d hp.1.1)
  · rcases hc.2 with ⟨h1, h2⟩ | ⟨h1, h2⟩
    · exact .inl ⟨fun x => by rw [(eval_fam (v := v) hs hp h x).2]; exact h1 x, fun x w hS => by rw [(eval_fam (v := v) hs hp h x).1]; exact h2 x w hS⟩
    · exact .inr ⟨fun x => by rw [(eval_fam (v := v) hs hp h x).2]; exact h1 x, h2⟩
theorem next_comm {o p : Oper} {v u : Option Value} {a : Act} {m : Bool} (h : ∀ e, o.dst = some e → p.dst ≠ some e) : nextA (nextA a o v) p u = nextA (nextA a p u) o v ∧ nextM (nextM m v) u = nextM (nextM m u) v := by
  cases v <;> cases u <;> first | exact ⟨rfl, rfl⟩ | exact ⟨Act.put_comm a _ _ h, rfl⟩
theorem wpTokS_first {Q : Act → Bool → Prop} {i : Nat} {o : Oper} {v : Option Value} (hi : ops[i]? = some o) (hsel : ∀ (j : Nat) (o : Oper) cs b, ops[j]? = some o → o.op ≠ .select cs b) :
    ∀ (f : Nat) (listed : Array Bool) (a : Act) (m : Bool),
      (∀ j p, ops[j]? = some p → j ≠ i → listed.getD j true = false → (∀ e ∈ p.after, Region.binds md e = true → e.on ≠ i) → o.apart ops p = true) →
      i ∈ Region.ready md ops listed → Tok P ops S d o v a m → wpTokS P md ops S d Q f (listed.setIfInBounds i true) (nextA a o v) (nextM m v) → wpTokS P md ops S d Q (f + 1) listed a m := by
  intro f
  induction f with
  | zero =>
    intro listed a m _ hr hst H
    refine ⟨fun h0 => absurd hr (by rw [h0]; simp), fun j hj p hp => ?_⟩
    rcases Nat.decEq j i with hji | hji
    · have h1 := ready_mono hj hji
      rw [H.1] at h1
      exact absurd h1 (by simp)
    · subst hji
      obtain rfl := Option.some.inj (hi.symm.trans hp)
      exact ⟨v, hst, H⟩
  | succ f ih =>
    intro listed a m hfree hr hst H
    refine ⟨fun h0 => absurd hr (by rw [h0]; simp), fun j hj p hp => ?_⟩
    rcases Nat.decEq j i with hji | hji
    · obtain ⟨hun, p', hp', hall⟩ := mem_ready.1 hj
      obtain rfl := Option.some.inj (hp'.symm.trans hp)
      have hun0 := (mem_ready.1 hr).1
      have hno : ∀ e ∈ p'.after, Region.binds md e = true → e.on ≠ i := by
        intro e he hb heq
        have h1 := hall e he hb
        rw [heq] at h1
        by_cases hlt : i < listed.size
        · simp [hlt] at hun0 h1
          rw [hun0] at h1; cases h1
        · simp [Array.getElem?_eq_none (Nat.not_lt.1 hlt)] at h1
      obtain ⟨d1, d2, d3⟩ := Oper.apart_spec (hfree j p' hp hji hun hno)
      obtain ⟨u, hu, Hu⟩ := H.2 j (ready_mono hj hji) p' hp
      have hu' := Tok.back (fun cs b => hsel j p' cs b hp) hst d1 hu
      refine ⟨u, hu', ih _ _ _ ?_ (ready_mono hr (Ne.symm hji)) (Tok.forth (fun cs b => hsel i o cs b hi) hu' d3 (fun e he h2 => d2 e h2 he) hst) ?_⟩
      · intro k q hq hki hun' hno'
        refine hfree k q hq hki ?_ hno'
        rcases Nat.decEq j k with hjk | hjk
        · rwa [getD_set_ne true hjk] at hun'
        · exact hjk ▸ hun
      · obtain ⟨e1, e2⟩ := next_comm (a := a) (m := m) (v := v) (u := u) d2
        rw [Array.setIfInBounds_comm _ _ hji, ← e1, ← e2]
        exact Hu
    · subst hji
      obtain rfl := Option.some.inj (hi.symm.trans hp)
      exact ⟨v, hst, H⟩
/-- The walk in the text's order. -/
def wpTok (P : Program) (ops : Array Oper) (S : Value → World → Prop) (d : Tmp) (Q : Act → Bool → Prop) : List Oper → Act → Bool → Prop
  | [], a, m => Q a m
  | o :: rest, a, m => ∃ v, Tok P ops S d o v a m ∧ wpTok P ops S d Q rest (nextA a o v) (nextM m v)
theorem wpTokS_lex {Q : Act → Bool → Prop} (hs : Region.noSelect ops = true) : ∀ (l : List Oper) (k : Nat) (listed : Array Bool) (a : Act) (m : Bool), (∀ j, l[j]? = ops[k + j]?) →
    Region.lexFrom md ops l.length k listed = true → wpTok P ops S d Q l a m → wpTokS P md ops S d Q l.length listed a m
  | [], _, _, _, _, _, hB, h => ⟨by simpa [Region.lexFrom] using hB, h⟩
  | o :: l, k, listed, a, m, hl, hB, ⟨v, hv, h⟩ => by
    simp only [List.length_cons, Region.lexFrom, Bool.and_eq_true] at hB
    have h0 : ops[k]? = some o := by simpa using (hl 0).symm
    have hl' : ∀ j, l[j]? = ops[k + 1 + j]? := fun j => by
      have := hl (j + 1)
      rw [List.getElem?_cons_succ] at this
      rw [this, show k + (j + 1) = k + 1 + j by omega]
    exact wpTokS_first h0 (Region.noSelect_spec hs) _ _ _ _ (Region.free_spec h0 hB.1.2) (by simpa using hB.1.1) hv (wpTokS_lex hs l (k + 1) _ _ _ hl' hB.2 h)
/-- THE LAW. -/
theorem region_token {id : Nat} {Q : Exit → Act → World → Prop} {a : Act} {w : World} {l : List Oper} (S : Value → World → Prop) (d : Tmp) (x : Value) (hm : P.follows .mixedOrders = true) (hB : Region.lexB .any l.toArray = true) (hS : S x w.drew)
    (h : wpTok P l.toArray S d (fun a' m => ∀ y w', S y w' → Q .normal (fam d a' m y) w') l a false) : (Code.region id l.toArray true).wp P Q a w := by
  simp only [Region.lexB, Bool.and_eq_true] at hB
  refine wp_region_any hm (wpAny_of_tokS (q := fun a' m => ∀ y w', S y w' → Q .normal (fam d a' m y) w') (a := a) (m := false) (d := d) (fun a m x w h hS => h x w hS) _ _ x _ ?_ hS)
  have := wpTokS_lex (md := .any) hB.1 l 0 (Array.replicate l.toArray.size false) a false (by simp) (by simpa using hB.2) h
  simpa using this
/-- The same with a tail of one forced order, which may write. -/
def wpTokL (P : Program) (md : Region.Mode) (ops : Array Oper) (S : Value → World → Prop) (d : Tmp) (n : Nat) (L : Array Bool → Act → Bool → Prop) : Nat → Array Bool → Act → Bool → Prop
  | 0, listed, a, m => L listed a m
  | f + 1, listed, a, m => Region.ready md ops listed ≠ [] ∧ ∀ i ∈ Region.ready md ops listed, i < n ∧ ∀ o, ops[i]? = some o → ∃ v, Tok P ops S d o v a m ∧ wpTokL P md ops S d n L f (listed.setIfInBounds i true) (nextA a o v) (nextM m v)
theorem wpAny_of_tokL {n g : Nat} {L : Array Bool → Act → Bool → Prop} {Q' : Exit → Act → World → Prop} (hL : ∀ listed a m x w, L listed a m → S x w → wpAny P md ops Q' g listed (fam d a m x) w) :
    ∀ (f : Nat) (listed : Array Bool) (a : Act) (m : Bool) (x : Value) (w : World), wpTokL P md ops S d n L f listed a m → S x w → wpAny P md ops Q' (f + g) listed (fam d a m x) w
  | 0, listed, a, m, x, w, h, hS => by rw [Nat.zero_add]; exact hL _ _ _ _ _ h hS
  | f + 1, listed, a, m, x, w, h, hS => by
    rw [show f + 1 + g = (f + g) + 1 by omega]
    refine ⟨fun h0 => absurd h0 h.1, fun i hi => ?_⟩
    obtain ⟨_, o, ho, _⟩ := mem_ready.1 hi
    obtain ⟨v, h1, h2⟩ := (h.2 i hi).2 o ho
    exact h1.op ho hS fun y w' hS' => wpAny_of_tokL hL f _ _ _ y w' h2 hS'
theorem wpTokL_first {n i : Nat} {oi : Oper} {v : Option Value} {L : Array Bool → Act → Bool → Prop} (hi : ops[i]? = some oi) (hsel : ∀ (j : Nat) (o : Oper) cs b, ops[j]? = some o → o.op ≠ .select cs b)
    (hs : Region.sinkB md ops n = true) (hc : Region.chainB md ops n = true) (hn : n < ops.size) (hin : i < n)
    (hdone : ∀ listed a m, L listed a m → ∀ j ∈ Region.ready md ops listed, n ≤ j) :
    ∀ (f : Nat) (listed : Array Bool) (a : Act) (m : Bool), HeadInv md ops n listed →
      (∀ j oj, ops[j]? = some oj → j ≠ i → listed.getD j true = false → (∀ e ∈ oj.after, Region.binds md e = true → e.on ≠ i) → oi.apart ops oj = true) →
      i ∈ Region.ready md ops listed → Tok P ops S d oi v a m →
      wpTokL P md ops S d n L f (listed.setIfInBounds i true) (nextA a oi v) (nextM m v) → wpTokL P md ops S d n L (f + 1) listed a m := by
  intro f
  induction f with
  | zero =>
    intro listed a m inv _ hr hy H
    have hun := (mem_ready.1 hr).1
    refine ⟨fun h => (by rw [h] at hr; cases hr), fun j hj => ?_⟩
    have hjn : j < n := by
      rcases Nat.lt_or_ge j n with h | h
      · exact h
      · exact absurd hj (tail_waits hs hc hn inv _ i rfl hin hun j h)
    refine ⟨hjn, fun p hp => ?_⟩
    by_cases hji : j = i
    · subst hji
      obtain rfl := Option.some.inj (hi.symm.trans hp)
      exact ⟨v, hy, H⟩
    · have := hdone _ _ _ H j (ready_mono hj hji)
      omega
  | succ f ih =>
    intro listed a m inv hfree hr hy H
    have hun := (mem_ready.1 hr).1
    refine ⟨fun h => (by rw [h] at hr; cases hr), fun j hj => ?_⟩
    have hjn : j < n := by
      rcases Nat.lt_or_ge j n with h | h
      · exact h
      · exact absurd hj (tail_waits hs hc hn inv _ i rfl hin hun j h)
    refine ⟨hjn, fun p hp => ?_⟩
    by_cases hji : j = i
    · subst hji
      obtain rfl := Option.some.inj (hi.symm.trans hp)
      exact ⟨v, hy, H⟩
    · obtain ⟨hjun, oj, hoj, hall⟩ := mem_ready.1 hj
      obtain rfl := Option.some.inj (hoj.symm.trans hp)
      have hnot : ∀ e ∈ oj.after, Region.binds md e = true → e.on ≠ i := fun e he hb heq => by
        have h1 := hall e he hb
        rw [heq, getD_both hun] at h1
        cases h1
      obtain ⟨d1, d2, d3⟩ := Oper.apart_spec (hfree j oj hoj hji hjun hnot)
      obtain ⟨u, hu, Hu⟩ := (H.2 j (ready_mono hj hji)).2 oj hoj
      have hu' := Tok.back (fun cs b => hsel j oj cs b hoj) hy d1 hu
      have hfree' : ∀ k ok, ops[k]? = some ok → k ≠ i → (listed.setIfInBounds j true).getD k true = false →
          (∀ e ∈ ok.after, Region.binds md e = true → e.on ≠ i) → oi.apart ops ok = true := fun k ok hk hki hun hno => by
        refine hfree k ok hk hki ?_ hno
        by_cases hjk : j = k
        · subst hjk; exact hjun
        · rw [getD_set_ne true hjk] at hun; exact hun
      refine ⟨u, hu', ih _ _ _ (inv.set hj hjn) hfree' (ready_mono hr (Ne.symm hji)) (Tok.forth (fun cs b => hsel i oi cs b hi) hu' d3 (fun e he h2 => d2 e h2 he) hy) ?_⟩
      obtain ⟨e1, e2⟩ := next_comm (a := a) (m := m) (v := v) (u := u) d2
      rw [Array.setIfInBounds_comm _ _ hji, ← e1, ← e2]
      exact Hu
theorem wpTokL_lex {n g : Nat} {Lq : Act → Bool → Prop} (hsel : Region.noSelect ops = true) (hs : Region.sinkB md ops n = true) (hc : Region.chainB md ops n = true) (hn : n < ops.size) :
    ∀ (l : List Oper) (k : Nat) (listed : Array Bool) (a : Act) (m : Bool), (∀ j, j < l.length → l[j]? = ops[k + j]?) → k + l.length = n → HeadInv md ops n listed →
    Region.lexHead md ops g l.length k listed = true → wpTok P ops S d Lq l a m →
    wpTokL P md ops S d n (fun listed' a' m' => Region.seqB md ops g n listed' = true ∧ Lq a' m') l.length listed a m
  | [], k, listed, a, m, _, hk, _, hB, h => by
    have : k = n := by simpa using hk
    subst this
    exact ⟨by simpa [Region.lexHead] using hB, h⟩
  | o :: l, k, listed, a, m, hl, hk, inv, hB, ⟨v, hv, h⟩ => by
    have h0 : ops[k]? = some o := by simpa using (hl 0 (by simp)).symm
    simp only [List.length_cons, Region.lexHead, Bool.and_eq_true] at hB
    obtain ⟨⟨hr, hf⟩, hB'⟩ := hB
    have hkn : k < n := by simp only [List.length_cons] at hk; omega
    have hr' : k ∈ Region.ready md ops listed := by simpa using hr
    exact wpTokL_first h0 (Region.noSelect_spec hsel) hs hc hn hkn (fun listed a m hL => seqB_ready hL.1) _ _ _ _ inv (Region.free_spec h0 hf) hr' hv
      (wpTokL_lex hsel hs hc hn l (k + 1) _ _ _ (fun j hj => by have := hl (j + 1) (by simp; omega); simpa [Nat.add_assoc, Nat.add_comm 1 j] using this) (by simp only [List.length_cons] at hk; omega) (inv.set hr' hkn) hB' h)
/-- THE LAW, with a tail. -/
theorem region_token_tail {id : Nat} {Q : Exit → Act → World → Prop} {a : Act} {w : World} {l : List Oper} (S : Value → World → Prop) (d : Tmp) (x : Value) (n : Nat) (hm : P.follows .mixedOrders = true) (hB : Region.lexTailB .any l.toArray n = true) (hS : S x w.drew)
    (h : wpTok P l.toArray S d (fun a' m => ∀ y w', S y w' → wpList P l.toArray Q (l.drop n) (fam d a' m y) w') (l.take n) a false) : (Code.region id l.toArray true).wp P Q a w := by
  simp only [Region.lexTailB, Bool.and_eq_true, decide_eq_true_eq] at hB
  obtain ⟨⟨⟨⟨hsel, hn⟩, hs⟩, hc⟩, hlex⟩ := hB
  have hn' : n < l.length := by simpa using hn
  have htl : (l.take n).length = n := by simp; omega
  have hdl : (l.drop n).length = l.toArray.size - n := by simp
  have inv0 : HeadInv .any l.toArray n (Array.replicate l.toArray.size false) :=
    ⟨by simp, fun j oj _ hl => (by rw [getD_replicate_false] at hl; cases hl), fun t _ ht => getD_in (by simpa using ht) (getD_replicate_false _ _)⟩
  have H := wpTokL_lex (md := .any) (g := l.toArray.size - n) hsel hs hc hn (l.take n) 0 _ a false (fun j hj => by
    have hj' : j < n := by rw [htl] at hj; exact hj
    simp [hj']) (by simpa using htl) inv0 (by rw [htl]; exact hlex) h
  refine wp_region_any hm ?_
  have := wpAny_of_tokL (Q' := Q) (g := l.toArray.size - n) (fun listed a' m' x' w' hL hS' => by
    have := wpAny_of_seq (md := .any) (Q' := Q) (l.drop n) n listed (fam d a' m' x') w' (fun j => by simp [List.getElem?_drop]) (by rw [hdl]; exact hL.1) (hL.2 x' w' hS')
    rwa [hdl] at this) _ _ _ _ x _ H hS
  rw [htl, show n + (l.toArray.size - n) = l.toArray.size by omega] at this
  exact this
variable {Q : Act → Bool → Prop} {a : Act} {m : Bool} {o : Oper} {rest : List Oper}
theorem tok_nil (h : Q a m) : wpTok P ops S d Q [] a m := h
theorem tok_off (hd : o.dst ≠ some d) (hw : ∀ x, Region.wanted o (yielded ops (fam d a m x).tmps) = false) (hn : wpTok P ops S d Q rest (a.put o.dst undef) m) : wpTok P ops S d Q (o :: rest) a m :=
  ⟨some undef, ⟨hd, .inr ⟨hw, rfl⟩⟩, hn⟩
theorem tok_run {v : Value} (hd : o.dst ≠ some d) (hw : ∀ x, Region.wanted o (yielded ops (fam d a m x).tmps) = true) (h : ∀ x w, S x w → (execOp (fam d a m x).eval o).run P w = .ok (.value v) w) (hn : wpTok P ops S d Q rest (a.put o.dst v) m) : wpTok P ops S d Q (o :: rest) a m :=
  ⟨some v, ⟨hd, .inl ⟨hw, fun x w hS => by rw [h x w hS]; exact ⟨rfl, hS⟩⟩⟩, hn⟩
theorem tok_pure {v : Value} (hd : o.dst ≠ some d) (hw : ∀ x, Region.wanted o (yielded ops (fam d a m x).tmps) = true) (h : ∀ x w, (execOp (fam d a m x).eval o).run P w = .ok (.value v) w) (hn : wpTok P ops S d Q rest (a.put o.dst v) m) : wpTok P ops S d Q (o :: rest) a m :=
  tok_run hd hw (fun x w _ => h x w) hn
theorem tok_load {v : Value} (ty : TypeId) (y : Operand) (ho : o.op = .load ty y) (hd : o.dst ≠ some d) (hw : ∀ x, Region.wanted o (yielded ops (fam d a m x).tmps) = true) (h : ∀ x w, S x w → (Instr.loadAt ty ((fam d a m x).eval y)).run P w = .ok v w) (hn : wpTok P ops S d Q rest (a.put o.dst v) m) : wpTok P ops S d Q (o :: rest) a m :=
  tok_run hd hw (fun x w hS => by simp [execOp, ho, h x w hS, Result.andThen]) hn
theorem tok_call {v : Value} {f : FuncId} {args : Array Value} (hc : ∀ x w, S x w → Calls P f args w fun e w' => e = .returned v ∧ S x w') (hd : o.dst ≠ some d) (hw : ∀ x, Region.wanted o (yielded ops (fam d a m x).tmps) = true) (h : ∀ x w, (execOp (fam d a m x).eval o).run P w = .ok (.enter f args) w) (hn : wpTok P ops S d Q rest (a.put o.dst v) m) : wpTok P ops S d Q (o :: rest) a m :=
  ⟨some v, ⟨hd, .inl ⟨hw, fun x w hS => by rw [h x w]; exact ⟨v, rfl, hc x w hS⟩⟩⟩, hn⟩
theorem tok_make (hd : o.dst = some d) (hw : Region.wanted o (yielded ops a.tmps) = true) (h : ∀ x w, S x w → ∃ u w', (execOp a.eval o).run P w = .ok (.value u) w' ∧ S u w') (hn : wpTok P ops S d Q rest a true) : wpTok P ops S d Q (o :: rest) a false :=
  ⟨none, ⟨⟨hd, rfl⟩, .inl ⟨fun _ => hw, fun x w hS => by obtain ⟨u, w', e, hS'⟩ := h x w hS; show tokEnd P S x none ((execOp a.eval o).run P w); rw [e]; exact hS'⟩⟩, hn⟩
theorem tok_build {cells : Array Value} (ty : TypeId) (parts : Array (Nat × Operand)) (ho : o.op = .build ty parts) (vs : Array (Nat × Value)) (hv : ∀ x, (parts.map fun (i, y) => (i, (fam d a m x).eval y)) = vs) (hb : P.built ty vs.toList = some cells)
    (hd : o.dst ≠ some d) (hw : ∀ x, Region.wanted o (yielded ops (fam d a m x).tmps) = true) (hn : wpTok P ops S d Q rest (a.put o.dst (.agg cells)) m) : wpTok P ops S d Q (o :: rest) a m :=
  tok_pure hd hw (fun x w => by
    have h := run_build (P := P) w ty vs cells hb
    have e := hv x
    simp only [execOp, ho]
    rw [e]
    simp [h, Result.andThen]) hn
theorem tok_add {A B : List UInt8} (t1 t2 : TypeId) (p q : Operand) (ho : o.op = .binOp .add t1 p q t2) (hp : ∀ x, (fam d a m x).eval p = Sv A) (hq : ∀ x, (fam d a m x).eval q = Sv B) (hl : A.length + B.length ≤ 9223372036854775807)
    (hd : o.dst ≠ some d) (hw : ∀ x, Region.wanted o (yielded ops (fam d a m x).tmps) = true) (hn : wpTok P ops S d Q rest (a.put o.dst (Sv (A ++ B))) m) : wpTok P ops S d Q (o :: rest) a m :=
  tok_pure hd hw (fun x w => by
    have h := run_add_Sv (P := P) w t1 A B
    rw [if_neg (by omega)] at h
    simp [execOp, ho, hp x, hq x, eqGuard_at_Sv, h, Result.andThen]) hn
end
section
variable {P : Program} {ops : Array Oper} {S : World → Prop} {Q : Act → Prop} {a : Act} {o : Oper} {rest : List Oper}
theorem steady_add {A B : List UInt8} (t1 t2 : TypeId) (p q : Operand) (ho : o.op = .binOp .add t1 p q t2) (hp : a.eval p = Sv A) (hq : a.eval q = Sv B) (hl : A.length + B.length ≤ 9223372036854775807)
    (hw : Region.wanted o (yielded ops a.tmps) = true) (hn : wpSteady P ops S Q rest (a.put o.dst (Sv (A ++ B)))) : wpSteady P ops S Q (o :: rest) a :=
  steady_pure hw (fun w => by
    have h := run_add_Sv (P := P) w t1 A B
    rw [if_neg (by omega)] at h
    simp [execOp, ho, hp, hq, eqGuard_at_Sv, h, Result.andThen]) hn
end
theorem bel_call {P : Program} {W u : World} (s : Below W.heap.size W u) {f : FuncId} {args : Array Value} {v : Value} (k : Calls P f args u fun e u' => e = .returned v ∧ Below u.heap.size u u') :
    Calls P f args u fun e u' => e = .returned v ∧ Below W.heap.size W u' := k.mono fun _ _ ⟨he, hb⟩ => ⟨he, ext_trans s hb⟩
end Go.Proofs.YtgfdmdikiickpaaDoor
