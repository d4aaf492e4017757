/-
  A region that draws its order: operations that each yield one value and keep a property of the world, beside a chain of operations in one forced order that may turn the world, and a tail of one forced order behind them all.
-/
import Derived.Test.YtgfdmdikiickpaaDoorToken
namespace Go.Proofs.YtgfdmdikiickpaaDoor
open Go.RowKit

section
variable {P : Program} {ops : Array Oper} {md : Region.Mode} {S : List Value → World → Prop} {ds : List Tmp}
/-- The frame with what the chain has yielded so far. -/
def famC : List Tmp → Act → List Value → Act
  | d :: ds, a, x :: X => (famC ds a X).put (some d) x
  | _, a, _ => a
theorem famC_nil (a : Act) : famC ds a [] = a := by cases ds <;> rfl
theorem famC_put (a : Act) (X : List Value) {o : Option Tmp} (v : Value) (h : ∀ d ∈ ds, o ≠ some d) : (famC ds a X).put o v = famC ds (a.put o v) X := by
  induction ds generalizing X with
  | nil => cases X <;> rfl
  | cons d ds ih =>
    cases X with
    | nil => rfl
    | cons x X =>
      show ((famC ds a X).put (some d) x).put o v = (famC ds (a.put o v) X).put (some d) x
      rw [← ih X (fun e he => h e (List.mem_cons_of_mem _ he))]
      exact Act.put_comm _ _ _ (fun e he h2 => by injection he with he; subst he; exact h d (by simp) h2)
theorem famC_snoc (a : Act) : ∀ (ds : List Tmp) (X : List Value) (d : Tmp) (u : Value), ds.Nodup → ds[X.length]? = some d → (famC ds a X).put (some d) u = famC ds a (X ++ [u])
  | [], X, d, u, _, h => by simp at h
  | e :: ds, [], d, u, _, h => by
    have : e = d := by simpa using h
    subst this
    show a.put (some e) u = (famC ds a []).put (some e) u
    rw [famC_nil]
  | e :: ds, x :: X, d, u, hn, h => by
    have h' : ds[X.length]? = some d := by simpa using h
    have hne : e ≠ d := by
      rintro rfl
      exact (List.nodup_cons.1 hn).1 (List.mem_of_getElem? h')
    show ((famC ds a X).put (some e) x).put (some d) u = (famC ds a (X ++ [u])).put (some e) x
    rw [Act.put_comm _ _ _ (fun g hg h2 => by injection hg with hg; subst hg; injection h2 with h2; exact hne h2.symm), famC_snoc a ds X d u (List.nodup_cons.1 hn).2 h']
theorem famC_exec {o : Oper} (hs : ∀ cs b, o.op ≠ .select cs b) (a : Act) (X : List Value) (h : ∀ d ∈ ds, d ∉ o.looksAt ops) :
    execOp (famC ds a X).eval o = execOp a.eval o ∧ Region.wanted o (yielded ops (famC ds a X).tmps) = Region.wanted o (yielded ops a.tmps) := by
  induction ds generalizing X with
  | nil => cases X <;> exact ⟨rfl, rfl⟩
  | cons d ds ih =>
    cases X with
    | nil => exact ⟨rfl, rfl⟩
    | cons x X =>
      obtain ⟨h1, h2⟩ := ih X (fun e he => h e (List.mem_cons_of_mem _ he))
      have hd : ∀ e, (some d : Option Tmp) = some e → e ∉ o.looksAt ops := fun e he => by injection he with he; subst he; exact h d (by simp)
      exact ⟨(execOp_put o hs _ _ _ hd).trans h1, (wanted_put o _ _ _ hd).trans h2⟩
/-- What one run of an operation leaves. -/
def sideEnd (P : Program) (S : World → Prop) (v : Value) : Result Next → Prop
  | .ok (.value u) w => u = v ∧ S w
  | .ok .skip w => v = undef ∧ S w
  | .ok (.enter f args) w => Calls P f args w fun e w' => e = .returned v ∧ S w'
  | _ => False
def chainEnd (P : Program) (S : Value → World → Prop) : Result Next → Prop
  | .ok (.value u) w => S u w
  | .ok (.enter f args) w => Calls P f args w fun e w' => ∃ u, e = .returned u ∧ S u w'
  | _ => False
def Lnk (P : Program) (ops : Array Oper) (S : List Value → World → Prop) (ds : List Tmp) (o : Oper) (v : Option Value) (a : Act) (p : Nat) : Prop :=
  match v with
  | some v => (∀ d ∈ ds, o.dst ≠ some d ∧ d ∉ o.looksAt ops) ∧
    ((Region.wanted o (yielded ops a.tmps) = true ∧ ∀ X w, S X w → sideEnd P (S X) v ((execOp a.eval o).run P w)) ∨ (Region.wanted o (yielded ops a.tmps) = false ∧ v = undef))
  | none => (∃ d, ds[p]? = some d ∧ o.dst = some d) ∧ ∀ X, X.length = p → Region.wanted o (yielded ops (famC ds a X).tmps) = true ∧ ∀ w, S X w → chainEnd P (fun u => S (X ++ [u])) ((execOp (famC ds a X).eval o).run P w)
def nextP (p : Nat) (v : Option Value) : Nat := match v with
  | some _ => p
  | none => p + 1
def wpLnkS (P : Program) (md : Region.Mode) (ops : Array Oper) (S : List Value → World → Prop) (ds : List Tmp) (n : Nat) (L : Array Bool → Act → Nat → Prop) : Nat → Array Bool → Act → Nat → Prop
  | 0, listed, a, p => L listed a p
  | f + 1, listed, a, p => Region.ready md ops listed ≠ [] ∧ ∀ i ∈ Region.ready md ops listed, i < n ∧ ∀ o, ops[i]? = some o → ∃ v, Lnk P ops S ds o v a p ∧ wpLnkS P md ops S ds n L f (listed.setIfInBounds i true) (nextA a o v) (nextP p v)
theorem Lnk.op {i : Nat} {o : Oper} {v : Option Value} {a : Act} {p : Nat} {X : List Value} {w : World} {K : Act → World → Prop} {Q : Exit → Act → World → Prop} (hn : ds.Nodup) (hs : ∀ cs b, o.op ≠ .select cs b) (hi : ops[i]? = some o) (h : Lnk P ops S ds o v a p) (hX : X.length = p) (hS : S X w)
    (hK : ∀ Y w', Y.length = nextP p v → S Y w' → K (famC ds (nextA a o v) Y) w') : wpOp P ops Q i K (famC ds a X) w := by
  unfold wpOp
  simp only [hi]
  cases v with
  | some v =>
    obtain ⟨hd, h⟩ := h
    obtain ⟨e1, e2⟩ := famC_exec (ops := ops) hs a X (fun d hd' => (hd d hd').2)
    have eput : ∀ u, (famC ds a X).put o.dst u = famC ds (a.put o.dst u) X := fun u => famC_put a X u (fun d hd' => (hd d hd').1)
    rcases h with ⟨hw, hv⟩ | ⟨hw, rfl⟩
    · rw [if_pos (by rw [e2]; exact hw)]
      refine .inl ?_
      have h1 := hv X w hS
      unfold Oper.wp
      rw [e1]
      generalize (execOp a.eval o).run P w = r at h1
      cases r with
      | halt _ w' => exact h1.elim
      | ok n w' =>
        cases n with
        | value u =>
          obtain ⟨rfl, hS'⟩ := h1
          show K ((famC ds a X).put o.dst u) w'
          rw [eput]
          exact hK X w' hX hS'
        | skip =>
          obtain ⟨rfl, hS'⟩ := h1
          show K ((famC ds a X).put o.dst undef) w'
          rw [eput]
          exact hK X w' hX hS'
        | enter f args =>
          refine Calls.mono h1 ?_
          rintro _ w'' ⟨rfl, hS''⟩
          show K ((famC ds a X).put o.dst v) w''
          rw [eput]
          exact hK X w'' hX hS''
        | _ => exact h1.elim
    · rw [if_neg (by rw [e2, hw]; simp)]
      rw [eput]
      exact hK X w hX hS
  | none =>
    obtain ⟨⟨d, hd1, hd2⟩, h⟩ := h
    obtain ⟨hw, hv⟩ := h X hX
    rw [if_pos hw]
    refine .inl ?_
    have h1 := hv w hS
    have eput : ∀ u, (famC ds a X).put o.dst u = famC ds a (X ++ [u]) := fun u => by rw [hd2]; exact famC_snoc a ds X d u hn (by rw [hX]; exact hd1)
    unfold Oper.wp
    generalize (execOp (famC ds a X).eval o).run P w = r at h1
    cases r with
    | halt _ w' => exact h1.elim
    | ok n w' =>
      cases n with
      | value u =>
        show K ((famC ds a X).put o.dst u) w'
        rw [eput]
        exact hK _ w' (by simp [hX, nextP]) h1
      | enter f args =>
        refine Calls.mono h1 ?_
        rintro _ w'' ⟨u, rfl, hS''⟩
        show K ((famC ds a X).put o.dst u) w''
        rw [eput]
        exact hK _ w'' (by simp [hX, nextP]) hS''
      | _ => exact h1.elim
theorem wpAny_of_lnk {n g : Nat} {L : Array Bool → Act → Nat → Prop} {Q' : Exit → Act → World → Prop} (hn : ds.Nodup) (hsel : ∀ (j : Nat) (o : Oper) cs b, ops[j]? = some o → o.op ≠ .select cs b)
    (hL : ∀ listed a p X w, L listed a p → X.length = p → S X w → wpAny P md ops Q' g listed (famC ds a X) w) :
    ∀ (f : Nat) (listed : Array Bool) (a : Act) (p : Nat) (X : List Value) (w : World), wpLnkS P md ops S ds n L f listed a p → X.length = p → S X w → wpAny P md ops Q' (f + g) listed (famC ds a X) w
  | 0, listed, a, p, X, w, h, hX, hS => by rw [Nat.zero_add]; exact hL _ _ _ _ _ h hX hS
  | f + 1, listed, a, p, X, w, h, hX, hS => by
    rw [show f + 1 + g = (f + g) + 1 by omega]
    refine ⟨fun h0 => absurd h0 h.1, fun i hi => ?_⟩
    obtain ⟨_, o, ho, _⟩ := mem_ready.1 hi
    obtain ⟨v, h1, h2⟩ := (h.2 i hi).2 o ho
    exact h1.op hn (fun cs b => hsel i o cs b ho) ho hX hS fun Y w' hY hS' => wpAny_of_lnk hn hsel hL f _ _ _ Y w' h2 hY hS'
/-- The chain's operations wait for one another. -/
def chainD (md : Region.Mode) (ops : Array Oper) (ds : List Tmp) : Bool :=
  (List.range ops.size).all fun j => (List.range ops.size).all fun i => (List.range ds.length).all fun k =>
    match ops[i]?, ops[j]? with
    | some oi, some oj => !(oi.dst == ds[k]? && ds[k]?.isSome && oj.dst == ds[k + 1]? && ds[k + 1]?.isSome) || Region.waitsFor md ops j i
    | _, _ => true
theorem chainD_spec (h : chainD md ops ds = true) {i j : Nat} {oi oj : Oper} (hi : ops[i]? = some oi) (hj : ops[j]? = some oj) {k : Nat} {d e : Tmp} (hd : ds[k]? = some d) (he : ds[k + 1]? = some e) (h1 : oi.dst = some d) (h2 : oj.dst = some e) :
    Region.waitsFor md ops j i = true := by
  have hij : i < ops.size := (Array.getElem?_eq_some_iff.1 hi).1
  have hjj : j < ops.size := (Array.getElem?_eq_some_iff.1 hj).1
  have hk : k < ds.length := (List.getElem?_eq_some_iff.1 hd).1
  have h3 := List.all_eq_true.1 (List.all_eq_true.1 (List.all_eq_true.1 h j (List.mem_range.2 hjj)) i (List.mem_range.2 hij)) k (List.mem_range.2 hk)
  simp only [hi, hj, hd, he, h1, h2] at h3
  simpa using h3
theorem Lnk.back {o p : Oper} {v u : Option Value} {a : Act} {q : Nat} (hs : ∀ cs b, o.op ≠ .select cs b) (hp : Lnk P ops S ds p u a q) (h : ∀ e, p.dst = some e → e ∉ o.looksAt ops)
    (hno : ∀ k d e, ds[k]? = some d → ds[k + 1]? = some e → p.dst = some d → o.dst = some e → False)
    (hc : Lnk P ops S ds o v (nextA a p u) (nextP q u)) : Lnk P ops S ds o v a q := by
  cases u with
  | some u =>
    have hex := execOp_put (ops := ops) o hs
    cases v with
    | some v =>
      obtain ⟨hd, hc⟩ := hc
      refine ⟨hd, ?_⟩
      rcases hc with ⟨h1, h2⟩ | ⟨h1, h2⟩
      · refine .inl ⟨by rw [← wanted_put o a p.dst u h]; exact h1, fun X w hS => ?_⟩
        rw [← hex a p.dst u h]
        exact h2 X w hS
      · exact .inr ⟨by rw [← wanted_put o a p.dst u h]; exact h1, h2⟩
    | none =>
      obtain ⟨hd, hc⟩ := hc
      refine ⟨hd, fun X hX => ?_⟩
      obtain ⟨h1, h2⟩ := hc X hX
      have e : famC ds (a.put p.dst u) X = (famC ds a X).put p.dst u := (famC_put a X u (fun d hd' => (hp.1 d hd').1)).symm
      simp only [nextA] at h1 h2
      rw [e] at h1 h2
      refine ⟨by rw [← wanted_put o _ p.dst u h]; exact h1, fun w hS => ?_⟩
      rw [← hex _ p.dst u h]
      exact h2 w hS
  | none =>
    cases v with
    | some v => exact hc
    | none =>
      obtain ⟨⟨d, hd1, hd2⟩, _⟩ := hp
      obtain ⟨⟨e, he1, he2⟩, _⟩ := hc
      exact (hno q d e hd1 he1 hd2 he2).elim
theorem Lnk.forth {o p : Oper} {v u : Option Value} {a : Act} {q : Nat} (hs : ∀ cs b, o.op ≠ .select cs b) (hp : Lnk P ops S ds p u a q) (h : ∀ e, p.dst = some e → e ∉ o.looksAt ops) (hne : ∀ e, p.dst = some e → o.dst ≠ some e)
    (hc : Lnk P ops S ds o v a q) : Lnk P ops S ds o v (nextA a p u) (nextP q u) := by
  cases u with
  | some u =>
    have hex := execOp_put (ops := ops) o hs
    cases v with
    | some v =>
      obtain ⟨hd, hc⟩ := hc
      refine ⟨hd, ?_⟩
      rcases hc with ⟨h1, h2⟩ | ⟨h1, h2⟩
      · refine .inl ⟨by simp only [nextA]; rw [wanted_put o a p.dst u h]; exact h1, fun X w hS => ?_⟩
        simp only [nextA]
        rw [hex a p.dst u h]
        exact h2 X w hS
      · exact .inr ⟨by simp only [nextA]; rw [wanted_put o a p.dst u h]; exact h1, h2⟩
    | none =>
      obtain ⟨hd, hc⟩ := hc
      refine ⟨hd, fun X hX => ?_⟩
      obtain ⟨h1, h2⟩ := hc X hX
      have e : famC ds (a.put p.dst u) X = (famC ds a X).put p.dst u := (famC_put a X u (fun d hd' => (hp.1 d hd').1)).symm
      simp only [nextA]
      rw [e]
      refine ⟨by rw [wanted_put o _ p.dst u h]; exact h1, fun w hS => ?_⟩
      rw [hex _ p.dst u h]
      exact h2 w hS
  | none =>
    cases v with
    | some v => exact hc
    | none =>
      obtain ⟨⟨d, hd1, hd2⟩, _⟩ := hp
      obtain ⟨⟨e, he1, he2⟩, _⟩ := hc
      rw [hd1] at he1
      injection he1 with he1
      subst he1
      exact (hne d hd2 he2).elim
theorem nextP_comm {o p : Oper} {v u : Option Value} {a : Act} {q : Nat} (h : ∀ e, o.dst = some e → p.dst ≠ some e) : nextA (nextA a o v) p u = nextA (nextA a p u) o v ∧ nextP (nextP q v) u = nextP (nextP q u) v := by
  cases v <;> cases u <;> first | exact ⟨rfl, rfl⟩ | exact ⟨Act.put_comm a _ _ h, rfl⟩
theorem wpLnkS_first {n i : Nat} {oi : Oper} {v : Option Value} {L : Array Bool → Act → Nat → Prop} (hcd : chainD md ops ds = true) (hi : ops[i]? = some oi) (hsel : ∀ (j : Nat) (o : Oper) cs b, ops[j]? = some o → o.op ≠ .select cs b)
    (hs : Region.sinkB md ops n = true) (hc : Region.chainB md ops n = true) (hn : n < ops.size) (hin : i < n)
    (hdone : ∀ listed a p, L listed a p → ∀ j ∈ Region.ready md ops listed, n ≤ j) :
    ∀ (f : Nat) (listed : Array Bool) (a : Act) (p : Nat), HeadInv md ops n listed →
      (∀ j oj, ops[j]? = some oj → j ≠ i → listed.getD j true = false → (∀ e ∈ oj.after, Region.binds md e = true → e.on ≠ i) → oi.apart ops oj = true) →
      i ∈ Region.ready md ops listed → Lnk P ops S ds oi v a p →
      wpLnkS P md ops S ds n L f (listed.setIfInBounds i true) (nextA a oi v) (nextP p v) → wpLnkS P md ops S ds n L (f + 1) listed a p := by
  intro f
  induction f with
  | zero =>
    intro listed a p inv _ hr hy H
    have hun := (mem_ready.1 hr).1
    refine ⟨fun h => (by rw [h] at hr; cases hr), fun j hj => ?_⟩
    have hjn : j < n := by
      rcases Nat.lt_or_ge j n with h | h
      · exact h
      · exact absurd hj (tail_waits hs hc hn inv _ i rfl hin hun j h)
    refine ⟨hjn, fun q hq => ?_⟩
    by_cases hji : j = i
    · subst hji
      obtain rfl := Option.some.inj (hi.symm.trans hq)
      exact ⟨v, hy, H⟩
    · have := hdone _ _ _ H j (ready_mono hj hji)
      omega
  | succ f ih =>
    intro listed a p inv hfree hr hy H
    have hun := (mem_ready.1 hr).1
    refine ⟨fun h => (by rw [h] at hr; cases hr), fun j hj => ?_⟩
    have hjn : j < n := by
      rcases Nat.lt_or_ge j n with h | h
      · exact h
      · exact absurd hj (tail_waits hs hc hn inv _ i rfl hin hun j h)
    refine ⟨hjn, fun q hq => ?_⟩
    by_cases hji : j = i
    · subst hji
      obtain rfl := Option.some.inj (hi.symm.trans hq)
      exact ⟨v, hy, H⟩
    · obtain ⟨hjun, oj, hoj, hall⟩ := mem_ready.1 hj
      obtain rfl := Option.some.inj (hoj.symm.trans hq)
      have hnot : ∀ e ∈ oj.after, Region.binds md e = true → e.on ≠ i := fun e he hb heq => by
        have h1 := hall e he hb
        rw [heq, getD_both hun] at h1
        cases h1
      obtain ⟨d1, d2, d3⟩ := Oper.apart_spec (hfree j oj hoj hji hjun hnot)
      obtain ⟨u, hu, Hu⟩ := (H.2 j (ready_mono hj hji)).2 oj hoj
      have hu' := Lnk.back (fun cs b => hsel j oj cs b hoj) hy d1 (fun k d e hd he h1 h2 => by
        obtain ⟨o', ho', x, hx, hb, hon⟩ := Region.waitsFor_spec (chainD_spec hcd hi hoj hd he h1 h2)
        obtain rfl := Option.some.inj (hoj.symm.trans ho')
        exact hnot x hx hb hon) hu
      have hfree' : ∀ k ok, ops[k]? = some ok → k ≠ i → (listed.setIfInBounds j true).getD k true = false →
          (∀ e ∈ ok.after, Region.binds md e = true → e.on ≠ i) → oi.apart ops ok = true := fun k ok hk hki hun hno => by
        refine hfree k ok hk hki ?_ hno
        by_cases hjk : j = k
        · subst hjk; exact hjun
        · rw [getD_set_ne true hjk] at hun; exact hun
      refine ⟨u, hu', ih _ _ _ (inv.set hj hjn) hfree' (ready_mono hr (Ne.symm hji)) (Lnk.forth (fun cs b => hsel i oi cs b hi) hu' d3 (fun e he h2 => d2 e h2 he) hy) ?_⟩
      obtain ⟨e1, e2⟩ := nextP_comm (a := a) (q := p) (v := v) (u := u) d2
      rw [Array.setIfInBounds_comm _ _ hji, ← e1, ← e2]
      exact Hu
/-- The walk in the text's order. -/
def wpLnk (P : Program) (ops : Array Oper) (S : List Value → World → Prop) (ds : List Tmp) (Q : Act → Nat → Prop) : List Oper → Act → Nat → Prop
  | [], a, p => Q a p
  | o :: rest, a, p => ∃ v, Lnk P ops S ds o v a p ∧ wpLnk P ops S ds Q rest (nextA a o v) (nextP p v)
theorem wpLnkS_lex {n g : Nat} {Lq : Act → Nat → Prop} (hcd : chainD md ops ds = true) (hsel : Region.noSelect ops = true) (hs : Region.sinkB md ops n = true) (hc : Region.chainB md ops n = true) (hn : n < ops.size) :
    ∀ (l : List Oper) (k : Nat) (listed : Array Bool) (a : Act) (p : Nat), (∀ j, j < l.length → l[j]? = ops[k + j]?) → k + l.length = n → HeadInv md ops n listed →
    Region.lexHead md ops g l.length k listed = true → wpLnk P ops S ds Lq l a p →
    wpLnkS P md ops S ds n (fun listed' a' p' => Region.seqB md ops g n listed' = true ∧ Lq a' p') l.length listed a p
  | [], k, listed, a, p, _, hk, _, hB, h => by
    have : k = n := by simpa using hk
    subst this
    exact ⟨by simpa [Region.lexHead] using hB, h⟩
  | o :: l, k, listed, a, p, hl, hk, inv, hB, ⟨v, hv, h⟩ => by
    have h0 : ops[k]? = some o := by simpa using (hl 0 (by simp)).symm
    simp only [List.length_cons, Region.lexHead, Bool.and_eq_true] at hB
    obtain ⟨⟨hr, hf⟩, hB'⟩ := hB
    have hkn : k < n := by simp only [List.length_cons] at hk; omega
    have hr' : k ∈ Region.ready md ops listed := by simpa using hr
    exact wpLnkS_first hcd h0 (Region.noSelect_spec hsel) hs hc hn hkn (fun listed a p hL => seqB_ready hL.1) _ _ _ _ inv (Region.free_spec h0 hf) hr' hv
      (wpLnkS_lex hcd hsel hs hc hn l (k + 1) _ _ _ (fun j hj => by have := hl (j + 1) (by simp; omega); simpa [Nat.add_assoc, Nat.add_comm 1 j] using this) (by simp only [List.length_cons] at hk; omega) (inv.set hr' hkn) hB' h)
/-- THE LAW. -/
theorem region_chain {id : Nat} {Q : Exit → Act → World → Prop} {a : Act} {w : World} {l : List Oper} (S : List Value → World → Prop) (ds : List Tmp) (n : Nat) (hm : P.follows .mixedOrders = true) (hB : (Region.lexTailB .any l.toArray n && chainD .any l.toArray ds && decide ds.Nodup) = true) (hS : S [] w.drew)
    (h : wpLnk P l.toArray S ds (fun a' p => ∀ X w', X.length = p → S X w' → wpList P l.toArray Q (l.drop n) (famC ds a' X) w') (l.take n) a 0) : (Code.region id l.toArray true).wp P Q a w := by
  simp only [Region.lexTailB, Bool.and_eq_true, decide_eq_true_eq] at hB
  obtain ⟨⟨⟨⟨⟨⟨hsel, hn⟩, hs⟩, hc⟩, hlex⟩, hcd⟩, hnd⟩ := hB
  have hn' : n < l.length := by simpa using hn
  have htl : (l.take n).length = n := by simp; omega
  have hdl : (l.drop n).length = l.toArray.size - n := by simp
  have inv0 : HeadInv .any l.toArray n (Array.replicate l.toArray.size false) :=
    ⟨by simp, fun j oj _ hl => (by rw [getD_replicate_false] at hl; cases hl), fun t _ ht => getD_in (by simpa using ht) (getD_replicate_false _ _)⟩
  have H := wpLnkS_lex (md := .any) (g := l.toArray.size - n) hcd hsel hs hc hn (l.take n) 0 _ a 0 (fun j hj => by
    have hj' : j < n := by rw [htl] at hj; exact hj
    simp [hj']) (by simpa using htl) inv0 (by rw [htl]; exact hlex) h
  refine wp_region_any hm ?_
  have := wpAny_of_lnk (Q' := Q) (g := l.toArray.size - n) hnd (Region.noSelect_spec hsel) (fun listed a' p' X' w' hL hX' hS' => by
    have := wpAny_of_seq (md := .any) (Q' := Q) (l.drop n) n listed (famC ds a' X') w' (fun j => by simp [List.getElem?_drop]) (by rw [hdl]; exact hL.1) (hL.2 X' w' hX' hS')
    rwa [hdl] at this) _ _ _ _ [] _ H rfl hS
  rw [htl, show n + (l.toArray.size - n) = l.toArray.size by omega, famC_nil] at this
  exact this
variable {Q : Act → Nat → Prop} {a : Act} {p : Nat} {o : Oper} {rest : List Oper}
theorem ch_nil (h : Q a p) : wpLnk P ops S ds Q [] a p := h
theorem ch_off (hd : ∀ d ∈ ds, o.dst ≠ some d ∧ d ∉ o.looksAt ops) (hw : Region.wanted o (yielded ops a.tmps) = false) (hn : wpLnk P ops S ds Q rest (a.put o.dst undef) p) : wpLnk P ops S ds Q (o :: rest) a p :=
  ⟨some undef, ⟨hd, .inr ⟨hw, rfl⟩⟩, hn⟩
theorem ch_run {v : Value} (hd : ∀ d ∈ ds, o.dst ≠ some d ∧ d ∉ o.looksAt ops) (hw : Region.wanted o (yielded ops a.tmps) = true) (h : ∀ X w, S X w → (execOp a.eval o).run P w = .ok (.value v) w) (hn : wpLnk P ops S ds Q rest (a.put o.dst v) p) : wpLnk P ops S ds Q (o :: rest) a p :=
  ⟨some v, ⟨hd, .inl ⟨hw, fun X w hS => by rw [h X w hS]; exact ⟨rfl, hS⟩⟩⟩, hn⟩
theorem ch_pure {v : Value} (hd : ∀ d ∈ ds, o.dst ≠ some d ∧ d ∉ o.looksAt ops) (hw : Region.wanted o (yielded ops a.tmps) = true) (h : ∀ w, (execOp a.eval o).run P w = .ok (.value v) w) (hn : wpLnk P ops S ds Q rest (a.put o.dst v) p) : wpLnk P ops S ds Q (o :: rest) a p :=
  ch_run hd hw (fun _ w _ => h w) hn
theorem ch_load {v : Value} (ty : TypeId) (y : Operand) (ho : o.op = .load ty y) (hd : ∀ d ∈ ds, o.dst ≠ some d ∧ d ∉ o.looksAt ops) (hw : Region.wanted o (yielded ops a.tmps) = true) (h : ∀ X w, S X w → (Instr.loadAt ty (a.eval y)).run P w = .ok v w) (hn : wpLnk P ops S ds Q rest (a.put o.dst v) p) : wpLnk P ops S ds Q (o :: rest) a p :=
  ch_run hd hw (fun X w hS => by simp [execOp, ho, h X w hS, Result.andThen]) hn
theorem ch_call {v : Value} {f : FuncId} {args : Array Value} (hc : ∀ X w, S X w → Calls P f args w fun e w' => e = .returned v ∧ S X w') (hd : ∀ d ∈ ds, o.dst ≠ some d ∧ d ∉ o.looksAt ops) (hw : Region.wanted o (yielded ops a.tmps) = true) (h : ∀ w, (execOp a.eval o).run P w = .ok (.enter f args) w) (hn : wpLnk P ops S ds Q rest (a.put o.dst v) p) : wpLnk P ops S ds Q (o :: rest) a p :=
  ⟨some v, ⟨hd, .inl ⟨hw, fun X w hS => by rw [h w]; exact hc X w hS⟩⟩, hn⟩
theorem ch_make0 (hd : ∃ d, ds[0]? = some d ∧ o.dst = some d) (hw : Region.wanted o (yielded ops a.tmps) = true) (h : ∀ w, S [] w → chainEnd P (fun u => S [u]) ((execOp a.eval o).run P w)) (hn : wpLnk P ops S ds Q rest a 1) : wpLnk P ops S ds Q (o :: rest) a 0 :=
  ⟨none, ⟨hd, fun X hX => by
    obtain rfl := List.eq_nil_of_length_eq_zero hX
    rw [famC_nil]
    exact ⟨hw, h⟩⟩, hn⟩
theorem ch_make1 (hd : ∃ d, ds[1]? = some d ∧ o.dst = some d) (hw : ∀ x, Region.wanted o (yielded ops (famC ds a [x]).tmps) = true) (h : ∀ x w, S [x] w → chainEnd P (fun u => S [x, u]) ((execOp (famC ds a [x]).eval o).run P w)) (hn : wpLnk P ops S ds Q rest a 2) : wpLnk P ops S ds Q (o :: rest) a 1 :=
  ⟨none, ⟨hd, fun X hX => by
    match X, hX with
    | [x], _ => exact ⟨hw x, h x⟩⟩, hn⟩
theorem ch_make2 (hd : ∃ d, ds[2]? = some d ∧ o.dst = some d) (hw : ∀ x y, Region.wanted o (yielded ops (famC ds a [x, y]).tmps) = true) (h : ∀ x y w, S [x, y] w → chainEnd P (fun u => S [x, y, u]) ((execOp (famC ds a [x, y]).eval o).run P w)) (hn : wpLnk P ops S ds Q rest a 3) : wpLnk P ops S ds Q (o :: rest) a 2 :=
  ⟨none, ⟨hd, fun X hX => by
    match X, hX with
    | [x, y], _ => exact ⟨hw x y, h x y⟩⟩, hn⟩
theorem chainEnd_value {S : Value → World → Prop} {r : Result Next} {u : Value} {w : World} (h : r = .ok (.value u) w) (hS : S u w) : chainEnd P S r := by rw [h]; exact hS
theorem chainEnd_enter {S : Value → World → Prop} {r : Result Next} {f : FuncId} {args : Array Value} {w : World} (h : r = .ok (.enter f args) w) (hc : Calls P f args w fun e w' => ∃ u, e = .returned u ∧ S u w') : chainEnd P S r := by rw [h]; exact hc
end
end Go.Proofs.YtgfdmdikiickpaaDoor
