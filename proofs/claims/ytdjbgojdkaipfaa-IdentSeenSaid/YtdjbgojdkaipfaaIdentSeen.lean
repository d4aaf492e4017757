/-
  The law IdentSeen.
-/
import Derived.Test.YtdjbgojdkaipfaaPairsAdd
import Derived.Test.YtdjbgojdkaipfaaIdentLaw
import Derived.Test.YtdjbgojdkaipfaaOpenPair
import Derived.Great.Walk
import Derived.Deep.RegionHeld
namespace Go.Proofs.Ytdjbgojdkaipfaa
open Go.RowKit Go.Maps Go.WideShapes

set_option maxRecDepth 100000 in
theorem built_one (x : List UInt8) (hx : x.length = 24) : Try.prog.builtSlice 43 1 [(0, Av x)] = some (b8s x).toArray := by
  rw [← List.take_append_drop 16 x]
  obtain ⟨a0, a1, a2, a3, a4, a5, a6, a7, a8, a9, a10, a11, a12, a13, a14, a15, h1⟩ := ln16 (t := x.take 16) (by simp [hx])
  obtain ⟨b0, b1, b2, b3, b4, b5, b6, b7, h2⟩ := ln8 (t := x.drop 16) (by simp [hx])
  rw [h1, h2]
  kernel_rfl
theorem wpList_one {ops : Array Oper} {rest : List Oper} {o : Oper} {a : Act} {w : World} {Q : Exit → Act → World → Prop} (hg : o.guard = none) (y : Operand) (ho : o.op = .buildSlice 37 1 #[(0, y)]) (x : List UInt8) (hx : x.length = 24) (hy : a.eval y = Av x)
    (h : ∀ w', w' = w.alloc (.cells (b8s x).toArray 43) → Blk w' w.heap.size 43 (b8s x).toArray → wpList Try.prog ops Q rest (a.put o.dst (.slice (some ⟨w.heap.size, 0, none⟩) 1 1)) w') : wpList Try.prog ops Q (o :: rest) a w :=
  Great.wpList_buildSliceTo hg _ 43 1 _ ho w.heap.size rfl o.dst rfl Try.underlying37 (b8s x).toArray (by simp only [List.map_toArray, List.map_cons, List.map_nil, hy]; exact built_one x hx) (h _ rfl (Blk.new w _ _))
theorem run_load_of {P : Program} {o : Oper} {a : Act} {w : World} {ty : TypeId} {x : Operand} {v : Value} (ho : o.op = .load ty x) (h : (Instr.loadAt ty (a.eval x)).run P w = .ok v w) : (execOp a.eval o).run P w = .ok (.value v) w := by
  simp [execOp, ho, h, Result.andThen]
theorem held_step {P : Program} {md : Region.Mode} {ops : Array Oper} {Q : Exit → Act → World → Prop} {S : World → Prop} {i : Nat} (d : Option Tmp) {v : Value} {fuel : Nat} {listed : Array Bool} {a : Act} {w : World} (hi : (ops[i]?).map (·.dst) = some d)
    (hs : Region.noSelect ops = true) (hf : Region.free md ops listed i = true) (hr : (Region.ready md ops listed).contains i = true)
    (hQ : ∀ c a w, Q (.panic c) (a.put d v) w → Q (.panic c) a w) (hy : ∀ o, ops[i]? = some o → YieldsIf P ops S o v a) (hS : S w)
    (h : wpAnyH P md ops Q S fuel (listed.setIfInBounds i true) (a.put d v) w) : wpAnyH P md ops Q S (fuel + 1) listed a w := by
  obtain ⟨o, ho, hd⟩ := Option.map_eq_some_iff.1 hi
  subst hd
  exact wpAnyH_take ho hs hf hr hQ (hy o ho) hS h
structure LState (w : World) (g s m B : Nat) (p : List UInt8) (l : List (List UInt8)) (k : Nat) (v : Value) (D : DataW Unit) (S : List (List UInt8)) (n : Nat) (wr : World) : Prop where
  hk : k ≤ l.length
  hn : n ≤ k
  hS : S.length ≤ k
  sees : Sees D S
  pw : Pw S
  seen : SeenAt wr s m n D
  own : wr.ownsRow B 43 24 v S.length (b8s S.flatten)
  box : Blk wr g 43 (b8s p).toArray
  bel : Below w.heap.size w wr
  size : B ≤ wr.heap.size
theorem LState.ext {w : World} {g s m B : Nat} {p : List UInt8} {l : List (List UInt8)} {k : Nat} {v : Value} {D : DataW Unit} {S : List (List UInt8)} {n : Nat} {wr w' : World} (h : LState w g s m B p l k v D S n wr) (hb : Below wr.heap.size wr w') : LState w g s m B p l k v D S n w' :=
  ⟨h.hk, h.hn, h.hS, h.sees, h.pw, h.seen.ext hb, World.ownsRow.kept h.own (only_of_below hb none) (by cases v.ownBlock <;> simp), Blk.below h.box hb (Blk.lt h.box), h.bel.trans (hb.mono h.bel.size), Nat.le_trans h.size hb.size⟩
theorem LState.next {w : World} {g s m B : Nat} {p : List UInt8} {l : List (List UInt8)} {k : Nat} {v : Value} {D : DataW Unit} {S : List (List UInt8)} {n : Nat} {wr : World} (h : LState w g s m B p l k v D S n wr) (hk : k < l.length) : LState w g s m B p l (k + 1) v D S n wr :=
  ⟨hk, Nat.le_succ_of_le h.hn, Nat.le_succ_of_le h.hS, h.sees, h.pw, h.seen, h.own, h.box, h.bel, h.size⟩
theorem own_ne {w : World} {base : Nat} {e : TypeId} {size n : Nat} {v : Value} {xs : List Value} (h : w.ownsRow base e size v n xs) {b : Nat} (hb : b < base) : v.ownBlock ≠ some b := by
  rcases h.2 with ⟨rfl, _⟩ | ⟨g', cap, cur, rfl, hg, _⟩
  · simp [Value.ownBlock]
  · simp [Value.ownBlock]; omega
theorem own_form {w : World} {base : Nat} {e : TypeId} {size n : Nat} {v : Value} {xs : List Value} (h : w.ownsRow base e size v n xs) : ∃ A c, v = .slice A n c := by
  rcases h.2 with ⟨rfl, h0⟩ | ⟨g', cap, cur, rfl, _⟩
  · exact ⟨none, 0, by rw [h0]⟩
  · exact ⟨_, _, rfl⟩
/-- Behind the Add of a pair that is new, and ahead of the append. -/
structure MState (w : World) (g s m B : Nat) (p : List UInt8) (l : List (List UInt8)) (k : Nat) (v : Value) (D : DataW Unit) (S : List (List UInt8)) (x : List UInt8) (n : Nat) (wr : World) : Prop where
  hn : n ≤ k
  hS : S.length ≤ k
  sees : Sees D (S ++ [x])
  pw : Pw S
  seen : SeenAt wr s m (n + 1) D
  own : wr.ownsRow B 43 24 v S.length (b8s S.flatten)
  box : Blk wr g 43 (b8s p).toArray
  bel : Below w.heap.size w wr
  size : B ≤ wr.heap.size
theorem LState.added {w : World} {g s m B : Nat} {p : List UInt8} {l : List (List UInt8)} {k : Nat} {v : Value} {D D' : DataW Unit} {S : List (List UInt8)} {x : List UInt8} {n : Nat} {wr w' : World} (h : LState w g s m B p l k v D S n wr)
    (hg : wr.grownBy w' (some m)) (hs : Sees D' (S ++ [x])) (hD : SeenAt w' s m (n + 1) D') (hm : w.heap.size ≤ m) (hgm : g < m) (hmB : m < B) : MState w g s m B p l k v D' S x n w' :=
  ⟨h.hn, h.hS, hs, h.pw, hD, World.ownsRow.kept h.own hg (.inr (own_ne h.own hmB)), Blk.grown h.box hg (by intro e; injection e with e; omega), below_only h.bel hg h.bel.size hm, Nat.le_trans h.size hg.size⟩
theorem MState.ext {w : World} {g s m B : Nat} {p : List UInt8} {l : List (List UInt8)} {k : Nat} {v : Value} {D : DataW Unit} {S : List (List UInt8)} {x : List UInt8} {n : Nat} {wr w' : World} (h : MState w g s m B p l k v D S x n wr) (hb : Below wr.heap.size wr w') : MState w g s m B p l k v D S x n w' :=
  ⟨h.hn, h.hS, h.sees, h.pw, h.seen.ext hb, World.ownsRow.kept h.own (only_of_below hb none) (by cases v.ownBlock <;> simp), Blk.below h.box hb (Blk.lt h.box), h.bel.trans (hb.mono h.bel.size), Nat.le_trans h.size hb.size⟩
theorem MState.put {w : World} {g s m B : Nat} {p : List UInt8} {l : List (List UInt8)} {k : Nat} {v v' : Value} {D : DataW Unit} {S : List (List UInt8)} {x : List UInt8} {n : Nat} {wr w' : World} (h : MState w g s m B p l k v D S x n wr) (hx : x.length = 24) (hk : k < l.length)
    (ho : w'.ownsRow B 43 24 v' (S ++ [x]).length (b8s (S ++ [x]).flatten)) (hg : wr.grownBy w' v.ownBlock) (hgm : g < m) (hms : m < s) (hsB : s < B) (hwB : w.heap.size ≤ B) : LState w g s m B p l (k + 1) v' D (S ++ [x]) (n + 1) w' :=
  ⟨hk, by have := h.hn; omega, by have := h.hS; simp; omega, h.sees, h.pw.app hx, h.seen.grown hg (fun e => own_ne h.own hsB e.symm) (fun e => own_ne h.own (by omega) e.symm), ho, Blk.grown h.box hg (fun e => own_ne h.own (by omega) e.symm),
    h.bel.grown hg h.bel.size (fun b hb => by
      rcases Nat.lt_or_ge b B with hlt | hge
      · exact absurd hb (own_ne h.own hlt)
      · omega), Nat.le_trans h.size hg.size⟩
def LRel (w : World) (g s m B : Nat) (p : List UInt8) (l : List (List UInt8)) (v i : Value) (wr : World) : Prop :=
  ∃ (k : Nat) (D : DataW Unit) (S : List (List UInt8)) (n : Nat), i = .int .i64 (k : Int) ∧ LState w g s m B p l k v D S n wr
set_option maxRecDepth 100000 in
set_option maxHeartbeats 4000000 in
theorem identSeen_any (l : List (List UInt8)) (p : List UInt8) (A : Option Addr) (cap : Nat) (w : World) (hv : Reads w w.heap.size 24 A l.length (b8s l.flatten)) (hp : Pw l) (h24 : p.length = 24) (hl : l.length ≤ 9223372036854775807) :
    Calls Try.prog 6 #[.slice A l.length cap, Av p] w fun e w' => e = .returned (.bool true) ∧ Below w.heap.size w w' := by
  by_cases h40 : 40 < (l.length : Int)
  · go_enter Try.func6, Try.ntmps6
    go_wp2_with fail
    refine (iworks_any _).mono ?_; rintro e w10 ⟨rfl, hw10⟩
    go_wp2_with fail
    go_ret
    exact ⟨rfl, ext_trans (ext_alloc w _) hw10⟩
  go_enter Try.func6, Try.ntmps6
  go_wp2_with fail
  refine (seennew_any _).mono ?_; rintro e w1 ⟨s, m, rfl, hm, hms, hseen, hw1⟩
  have hbox := Blk.below (Blk.new w 43 (b8s p).toArray) hw1 (by simp)
  have hgm : w.heap.size < m := by simp at hm; omega
  have hsl := Blk.lt hseen.blk
  have hrel0 : LRel w w.heap.size s m w1.heap.size p l (.slice none 0 0) (.int .i64 0) w1 :=
    ⟨0, _, [], 0, rfl, by omega, by omega, by simp, Sees.nil, by intro x hx; simp at hx, hseen, World.ownsRow_nil _ _ _ _, hbox, ext_trans (ext_alloc w _) hw1, Nat.le_refl _⟩
  have hgl : w.heap.size ≤ w.heap.size := Nat.le_refl _
  have hB : w.heap.size < w1.heap.size := Blk.lt hbox
  clear hseen hw1 hbox hm
  go_wp2_with fail
  generalize hB1 : w1.heap.size = B at hrel0 hsl hB ⊢
  generalize hG : w.heap.size = g at hrel0 hgm hgl hB ⊢
  clear hB1
  go_loopw [6, 7] (fun v i wr => LRel w g s m B p l v i wr) (fun _ i _ => l.length - (intOf i).toNat)
  case atStart => exact hrel0
  case round =>
    clear hrel0
    obtain ⟨k, D, S, n, rfl, hR⟩ := hrel
    have HR := hid hR
    clear hR
    by_cases hlt : k < l.length
    · obtain ⟨x, hx⟩ : ∃ x, l[k]? = some x := ⟨_, List.getElem?_eq_getElem hlt⟩
      have hx24 := hp.at_ hx
      obtain ⟨ad, rfl, hrun⟩ := elem_runs hp hv hx
      have HRUN := hid hrun
      have HX := hid hx
      have H24 := hid hx24
      have HSL := hid (show S.length ≤ 1000000 by have := HR.out.hS; omega)
      clear hrun hx hx24
      obtain ⟨A', cap', hu6⟩ := own_form HR.out.own
      subst hu6
      by_cases hneg : findP S x < 0
      · have HN := hid hneg
        have c0 : decide (findP S x < 0) = true := decide_eq_true hneg
        clear hneg
        go_wp2_with (refine wpList_load_run rfl 43 (.tmp 28) rfl (Av x) (HRUN.out _ HR.out.bel).1 ?_)
        refine (rfind_own S x B _ wr HR.out.own HR.out.pw H24.out HSL.out).mono ?_; rintro e w2 ⟨rfl, hw2⟩
        have H2 := hid (HR.out.ext hw2)
        clear hw2 HR
        have hFIN := hid (Int.max_eq_left (a := 0) (b := findP S x) (by have := HN.out; omega))
        go_wp2_with fail
        obtain ⟨hr1, hr2, hr3⟩ := HRUN.out _ (H2.out.ext (ext_drew _)).bel
        refine wp_region_held_drew (S := fun u => (Instr.loadAt 39 (.pointer (some (ad.add (k * 24))))).run Try.prog u = .ok (Av (x.take 16)) u ∧ (Instr.loadAt 41 (.pointer (some ⟨(ad.add (k * 24)).block, (ad.add (k * 24)).off + 16, none⟩))).run Try.prog u = .ok (Av (x.drop 16)) u) (by kernel_rfl) ⟨hr2, hr3⟩ (fun hS0 => ?_)
        clear hr1 hr2 hr3
        have HQ := hid (H2.out.ext (ext_drew _))
        generalize w2.drew = w5 at HQ hS0 ⊢
        clear H2
        refine held_step (i := 0) (some 32) (v := ?hv1) (by rfl) (by kernel_rfl) (by kernel_rfl) (by kernel_rfl) (fun _ _ _ h => h) ?hy1 (by assumption) ?hr1
        case hy1 => (intro o ho; simp only [List.getElem?_toArray, List.getElem?_cons_zero, List.getElem?_cons_succ, Option.some.injEq] at ho; subst ho; refine Or.inl ⟨by rfl, fun u hSu => ?_⟩; clear hSu; go_simp; with_reducible rfl)
        try simp only [Act.put, List.setIfInBounds_toArray, List.set_cons_zero, List.set_cons_succ]
        refine held_step (i := 1) (some 33) (v := ?hv2) (by rfl) (by kernel_rfl) (by kernel_rfl) (by kernel_rfl) (fun _ _ _ h => h) ?hy2 (by assumption) ?hr2
        case hy2 => (intro o ho; simp only [List.getElem?_toArray, List.getElem?_cons_zero, List.getElem?_cons_succ, Option.some.injEq] at ho; subst ho; refine Or.inl ⟨by rfl, fun u hSu => ?_⟩; clear hSu; go_simp; with_reducible rfl)
        try simp only [Act.put, List.setIfInBounds_toArray, List.set_cons_zero, List.set_cons_succ]
        refine held_step (i := 2) (some 34) (v := ?hv3) (by rfl) (by kernel_rfl) (by kernel_rfl) (by kernel_rfl) (fun _ _ _ h => h) ?hy3 (by assumption) ?hr3
        case hy3 => (intro o ho; simp only [List.getElem?_toArray, List.getElem?_cons_zero, List.getElem?_cons_succ, Option.some.injEq] at ho; subst ho; refine Or.inl ⟨by rfl, fun u hSu => ?_⟩; clear hSu; go_simp; with_reducible rfl)
        try simp only [Act.put, List.setIfInBounds_toArray, List.set_cons_zero, List.set_cons_succ]
        refine held_step (i := 3) (some 35) (v := ?hv4) (by rfl) (by kernel_rfl) (by kernel_rfl) (by kernel_rfl) (fun _ _ _ h => h) ?hy4 (by assumption) ?hr4
        case hy4 => (intro o ho; simp only [List.getElem?_toArray, List.getElem?_cons_zero, List.getElem?_cons_succ, Option.some.injEq] at ho; subst ho; refine Or.inl ⟨by rfl, fun u hSu => ?_⟩; clear hSu; go_simp; with_reducible rfl)
        try simp only [Act.put, List.setIfInBounds_toArray, List.set_cons_zero, List.set_cons_succ]
        refine held_step (i := 4) (some 36) (v := ?hv5) (by rfl) (by kernel_rfl) (by kernel_rfl) (by kernel_rfl) (fun _ _ _ h => h) ?hy5 (by assumption) ?hr5
        case hy5 => (intro o ho; simp only [List.getElem?_toArray, List.getElem?_cons_zero, List.getElem?_cons_succ, Option.some.injEq] at ho; subst ho; refine Or.inl ⟨by rfl, fun u hSu => ?_⟩; clear hSu; go_simp; with_reducible rfl)
        try simp only [Act.put, List.setIfInBounds_toArray, List.set_cons_zero, List.set_cons_succ]
        refine held_step (i := 5) (some 37) (v := _) (by rfl) (by kernel_rfl) (by kernel_rfl) (by kernel_rfl) (fun _ _ _ h => h) (fun o ho => by (simp only [List.getElem?_toArray, List.getElem?_cons_zero, List.getElem?_cons_succ, Option.some.injEq] at ho; subst ho; exact Or.inl ⟨by rfl, fun u hSu => run_load_of rfl hSu.1⟩)) (by assumption) ?_
        try simp only [Act.put, List.setIfInBounds_toArray, List.set_cons_zero, List.set_cons_succ]
        refine held_step (i := 6) (some 38) (v := ?hv6) (by rfl) (by kernel_rfl) (by kernel_rfl) (by kernel_rfl) (fun _ _ _ h => h) ?hy6 (by assumption) ?hr6
        case hy6 => (intro o ho; simp only [List.getElem?_toArray, List.getElem?_cons_zero, List.getElem?_cons_succ, Option.some.injEq] at ho; subst ho; refine Or.inl ⟨by rfl, fun u hSu => ?_⟩; clear hSu; go_simp; with_reducible rfl)
        try simp only [Act.put, List.setIfInBounds_toArray, List.set_cons_zero, List.set_cons_succ]
        refine held_step (i := 7) (some 39) (v := ?hv7) (by rfl) (by kernel_rfl) (by kernel_rfl) (by kernel_rfl) (fun _ _ _ h => h) ?hy7 (by assumption) ?hr7
        case hy7 => (intro o ho; simp only [List.getElem?_toArray, List.getElem?_cons_zero, List.getElem?_cons_succ, Option.some.injEq] at ho; subst ho; refine Or.inl ⟨by rfl, fun u hSu => ?_⟩; clear hSu; go_simp; with_reducible rfl)
        try simp only [Act.put, List.setIfInBounds_toArray, List.set_cons_zero, List.set_cons_succ]
        refine held_step (i := 8) (some 40) (v := ?hv8) (by rfl) (by kernel_rfl) (by kernel_rfl) (by kernel_rfl) (fun _ _ _ h => h) ?hy8 (by assumption) ?hr8
        case hy8 => (intro o ho; simp only [List.getElem?_toArray, List.getElem?_cons_zero, List.getElem?_cons_succ, Option.some.injEq] at ho; subst ho; refine Or.inl ⟨by rfl, fun u hSu => ?_⟩; clear hSu; go_simp; with_reducible rfl)
        try simp only [Act.put, List.setIfInBounds_toArray, List.set_cons_zero, List.set_cons_succ]
        refine held_step (i := 9) (some 41) (v := ?hv9) (by rfl) (by kernel_rfl) (by kernel_rfl) (by kernel_rfl) (fun _ _ _ h => h) ?hy9 (by assumption) ?hr9
        case hy9 => (intro o ho; simp only [List.getElem?_toArray, List.getElem?_cons_zero, List.getElem?_cons_succ, Option.some.injEq] at ho; subst ho; refine Or.inl ⟨by rfl, fun u hSu => ?_⟩; clear hSu; go_simp; with_reducible rfl)
        try simp only [Act.put, List.setIfInBounds_toArray, List.set_cons_zero, List.set_cons_succ]
        refine held_step (i := 10) (some 42) (v := _) (by rfl) (by kernel_rfl) (by kernel_rfl) (by kernel_rfl) (fun _ _ _ h => h) (fun o ho => by (simp only [List.getElem?_toArray, List.getElem?_cons_zero, List.getElem?_cons_succ, Option.some.injEq] at ho; subst ho; exact Or.inl ⟨by rfl, fun u hSu => run_load_of rfl hSu.2⟩)) (by assumption) ?_
        try simp only [Act.put, List.setIfInBounds_toArray, List.set_cons_zero, List.set_cons_succ]
        refine wpAnyH_ready (rs := [11]) (by kernel_rfl) (by simp) ?_
        refine AllReadyH.cons rfl (fun K hK => ?_) AllReadyH.nil
        rw [if_pos (by rfl)]
        go_simp
        refine (add_newx x H24.out s m n D S w5 HQ.out.sees HQ.out.seen (by have := HQ.out.hn; omega) HSL.out hms HN.out).mono ?_; rintro e w6 ⟨rfl, hD6, hg6⟩
        obtain ⟨D6, hs6, ha6⟩ := hD6
        have M6 := hid (HQ.out.added hg6 hs6 ha6 (by omega) hgm (by omega))
        clear hs6 ha6 hg6
        obtain ⟨hr1, hr2, hr3⟩ := HRUN.out _ M6.out.bel
        refine hK.out _ _ ⟨hr2, hr3⟩ (fun hS6 => ?_)
        clear hr1 hr2 hr3 hK
        try simp only [Act.put, List.setIfInBounds_toArray, List.set_cons_zero, List.set_cons_succ]
        refine held_step (i := 12) (some 31) (v := ?hv10) (by rfl) (by kernel_rfl) (by kernel_rfl) (by kernel_rfl) (fun _ _ _ h => h) ?hy10 (by assumption) ?hr10
        case hy10 => (intro o ho; simp only [List.getElem?_toArray, List.getElem?_cons_zero, List.getElem?_cons_succ, Option.some.injEq] at ho; subst ho; refine Or.inl ⟨by rfl, fun u hSu => ?_⟩; clear hSu; go_simp; with_reducible rfl)
        try simp only [Act.put, List.setIfInBounds_toArray, List.set_cons_zero, List.set_cons_succ]
        refine held_step (i := 13) (some 44) (v := ?hv11) (by rfl) (by kernel_rfl) (by kernel_rfl) (by kernel_rfl) (fun _ _ _ h => h) ?hy11 (by assumption) ?hr11
        case hy11 => (intro o ho; simp only [List.getElem?_toArray, List.getElem?_cons_zero, List.getElem?_cons_succ, Option.some.injEq] at ho; subst ho; refine Or.inl ⟨by rfl, fun u hSu => ?_⟩; clear hSu; go_simp; with_reducible rfl)
        try simp only [Act.put, List.setIfInBounds_toArray, List.set_cons_zero, List.set_cons_succ]
        refine held_step (i := 14) (some 45) (v := ?hv12) (by rfl) (by kernel_rfl) (by kernel_rfl) (by kernel_rfl) (fun _ _ _ h => h) ?hy12 (by assumption) ?hr12
        case hy12 => (intro o ho; simp only [List.getElem?_toArray, List.getElem?_cons_zero, List.getElem?_cons_succ, Option.some.injEq] at ho; subst ho; refine Or.inl ⟨by rfl, fun u hSu => ?_⟩; clear hSu; go_simp; with_reducible rfl)
        try simp only [Act.put, List.setIfInBounds_toArray, List.set_cons_zero, List.set_cons_succ]
        refine held_step (i := 15) (some 9) (v := ?hv13) (by rfl) (by kernel_rfl) (by kernel_rfl) (by kernel_rfl) (fun _ _ _ h => h) ?hy13 (by assumption) ?hr13
        case hy13 => (intro o ho; simp only [List.getElem?_toArray, List.getElem?_cons_zero, List.getElem?_cons_succ, Option.some.injEq] at ho; subst ho; refine Or.inl ⟨by rfl, fun u hSu => ?_⟩; clear hSu; go_simp; with_reducible rfl)
        try simp only [Act.put, List.setIfInBounds_toArray, List.set_cons_zero, List.set_cons_succ]
        refine held_step (i := 16) (some 10) (v := ?hv14) (by rfl) (by kernel_rfl) (by kernel_rfl) (by kernel_rfl) (fun _ _ _ h => h) ?hy14 (by assumption) ?hr14
        case hy14 => (intro o ho; simp only [List.getElem?_toArray, List.getElem?_cons_zero, List.getElem?_cons_succ, Option.some.injEq] at ho; subst ho; refine Or.inl ⟨by rfl, fun u hSu => ?_⟩; clear hSu; go_simp; with_reducible rfl)
        try simp only [Act.put, List.setIfInBounds_toArray, List.set_cons_zero, List.set_cons_succ]
        refine wpAnyH_done (by kernel_rfl) ?_ _
        clear hS0 hS6
        have hlen : Maps.size D6 = S.length + 1 := by rw [M6.out.sees.size]; simp
        go_wp2_with (first
          | (refine wpList_load_run rfl 43 (.tmp 53) rfl (Av x) (HRUN.out _ M6.out.bel).1 ?_)
          | (refine wpList_one rfl (.tmp 54) rfl x H24.out rfl ?_; intro w7 hw7 hb7; have M7 := hid (M6.out.ext (hw7 ▸ ext_alloc _ _)); have B7 := hid hb7; clear hw7 hb7)
          | (refine wpList_appP rfl (.tmp 50) (.tmp 55) rfl B _ S rfl M7.out.own w6.heap.size 1 43 x rfl B7.out H24.out HSL.out M7.out.size ?_; intro v8 w8 ho8 hg8; have H8 := hid (M7.out.put H24.out hlt ho8 hg8 hgm hms hsl (by omega)); clear ho8 hg8))
        obtain ⟨A8, cap8, hv8⟩ := own_form H8.out.own
        rw [List.length_append, List.length_singleton] at hv8
        subst hv8
        refine (seenlen_any s m (n + 1) D6 w8 H8.out.seen).mono ?_; rintro e w9 ⟨rfl, rfl⟩
        have hlen2 : ((S ++ [x]).length : Int) = S.length + 1 := by simp
        clear M6
        go_wp2_with fail
        go_roundw
        case rel => exact ⟨k + 1, D6, S ++ [x], n + 1, by go_num, H8.out⟩
        case measure => simp [intOf] <;> omega
      · have c0 : decide (findP S x < 0) = false := decide_eq_false hneg
        have HN := hid (show 0 ≤ findP S x by omega)
        clear hneg
        go_wp2_with (refine wpList_load_run rfl 43 (.tmp 28) rfl (Av x) (HRUN.out _ HR.out.bel).1 ?_)
        refine (rfind_own S x B _ wr HR.out.own HR.out.pw H24.out HSL.out).mono ?_; rintro e w2 ⟨rfl, hw2⟩
        have H2 := hid (HR.out.ext hw2)
        clear hw2 HR
        go_wp2_with fail
        obtain ⟨hr1, hr2, hr3⟩ := HRUN.out _ (H2.out.ext (ext_drew _)).bel
        refine wp_region_held_drew (S := fun u => (Instr.loadAt 39 (.pointer (some (ad.add (k * 24))))).run Try.prog u = .ok (Av (x.take 16)) u ∧ (Instr.loadAt 41 (.pointer (some ⟨(ad.add (k * 24)).block, (ad.add (k * 24)).off + 16, none⟩))).run Try.prog u = .ok (Av (x.drop 16)) u) (by kernel_rfl) ⟨hr2, hr3⟩ (fun hS0 => ?_)
        clear hr1 hr2 hr3
        have HQ := hid (H2.out.ext (ext_drew _))
        generalize w2.drew = w5 at HQ hS0 ⊢
        clear H2
        refine held_step (i := 0) (some 32) (v := ?hv15) (by rfl) (by kernel_rfl) (by kernel_rfl) (by kernel_rfl) (fun _ _ _ h => h) ?hy15 (by assumption) ?hr15
        case hy15 => (intro o ho; simp only [List.getElem?_toArray, List.getElem?_cons_zero, List.getElem?_cons_succ, Option.some.injEq] at ho; subst ho; refine Or.inl ⟨by rfl, fun u hSu => ?_⟩; clear hSu; go_simp; with_reducible rfl)
        try simp only [Act.put, List.setIfInBounds_toArray, List.set_cons_zero, List.set_cons_succ]
        refine held_step (i := 1) (some 33) (v := ?hv16) (by rfl) (by kernel_rfl) (by kernel_rfl) (by kernel_rfl) (fun _ _ _ h => h) ?hy16 (by assumption) ?hr16
        case hy16 => (intro o ho; simp only [List.getElem?_toArray, List.getElem?_cons_zero, List.getElem?_cons_succ, Option.some.injEq] at ho; subst ho; refine Or.inl ⟨by rfl, fun u hSu => ?_⟩; clear hSu; go_simp; with_reducible rfl)
        try simp only [Act.put, List.setIfInBounds_toArray, List.set_cons_zero, List.set_cons_succ]
        refine held_step (i := 2) (some 34) (v := ?hv17) (by rfl) (by kernel_rfl) (by kernel_rfl) (by kernel_rfl) (fun _ _ _ h => h) ?hy17 (by assumption) ?hr17
        case hy17 => (intro o ho; simp only [List.getElem?_toArray, List.getElem?_cons_zero, List.getElem?_cons_succ, Option.some.injEq] at ho; subst ho; refine Or.inl ⟨by rfl, fun u hSu => ?_⟩; clear hSu; go_simp; with_reducible rfl)
        try simp only [Act.put, List.setIfInBounds_toArray, List.set_cons_zero, List.set_cons_succ]
        refine held_step (i := 3) (some 35) (v := ?hv18) (by rfl) (by kernel_rfl) (by kernel_rfl) (by kernel_rfl) (fun _ _ _ h => h) ?hy18 (by assumption) ?hr18
        case hy18 => (intro o ho; simp only [List.getElem?_toArray, List.getElem?_cons_zero, List.getElem?_cons_succ, Option.some.injEq] at ho; subst ho; refine Or.inl ⟨by rfl, fun u hSu => ?_⟩; clear hSu; go_simp; with_reducible rfl)
        try simp only [Act.put, List.setIfInBounds_toArray, List.set_cons_zero, List.set_cons_succ]
        refine held_step (i := 4) (some 36) (v := ?hv19) (by rfl) (by kernel_rfl) (by kernel_rfl) (by kernel_rfl) (fun _ _ _ h => h) ?hy19 (by assumption) ?hr19
        case hy19 => (intro o ho; simp only [List.getElem?_toArray, List.getElem?_cons_zero, List.getElem?_cons_succ, Option.some.injEq] at ho; subst ho; refine Or.inl ⟨by rfl, fun u hSu => ?_⟩; clear hSu; go_simp; with_reducible rfl)
        try simp only [Act.put, List.setIfInBounds_toArray, List.set_cons_zero, List.set_cons_succ]
        refine held_step (i := 5) (some 37) (v := _) (by rfl) (by kernel_rfl) (by kernel_rfl) (by kernel_rfl) (fun _ _ _ h => h) (fun o ho => by (simp only [List.getElem?_toArray, List.getElem?_cons_zero, List.getElem?_cons_succ, Option.some.injEq] at ho; subst ho; exact Or.inl ⟨by rfl, fun u hSu => run_load_of rfl hSu.1⟩)) (by assumption) ?_
        try simp only [Act.put, List.setIfInBounds_toArray, List.set_cons_zero, List.set_cons_succ]
        refine held_step (i := 6) (some 38) (v := ?hv20) (by rfl) (by kernel_rfl) (by kernel_rfl) (by kernel_rfl) (fun _ _ _ h => h) ?hy20 (by assumption) ?hr20
        case hy20 => (intro o ho; simp only [List.getElem?_toArray, List.getElem?_cons_zero, List.getElem?_cons_succ, Option.some.injEq] at ho; subst ho; refine Or.inl ⟨by rfl, fun u hSu => ?_⟩; clear hSu; go_simp; with_reducible rfl)
        try simp only [Act.put, List.setIfInBounds_toArray, List.set_cons_zero, List.set_cons_succ]
        refine held_step (i := 7) (some 39) (v := ?hv21) (by rfl) (by kernel_rfl) (by kernel_rfl) (by kernel_rfl) (fun _ _ _ h => h) ?hy21 (by assumption) ?hr21
        case hy21 => (intro o ho; simp only [List.getElem?_toArray, List.getElem?_cons_zero, List.getElem?_cons_succ, Option.some.injEq] at ho; subst ho; refine Or.inl ⟨by rfl, fun u hSu => ?_⟩; clear hSu; go_simp; with_reducible rfl)
        try simp only [Act.put, List.setIfInBounds_toArray, List.set_cons_zero, List.set_cons_succ]
        refine held_step (i := 8) (some 40) (v := ?hv22) (by rfl) (by kernel_rfl) (by kernel_rfl) (by kernel_rfl) (fun _ _ _ h => h) ?hy22 (by assumption) ?hr22
        case hy22 => (intro o ho; simp only [List.getElem?_toArray, List.getElem?_cons_zero, List.getElem?_cons_succ, Option.some.injEq] at ho; subst ho; refine Or.inl ⟨by rfl, fun u hSu => ?_⟩; clear hSu; go_simp; with_reducible rfl)
        try simp only [Act.put, List.setIfInBounds_toArray, List.set_cons_zero, List.set_cons_succ]
        refine held_step (i := 9) (some 41) (v := ?hv23) (by rfl) (by kernel_rfl) (by kernel_rfl) (by kernel_rfl) (fun _ _ _ h => h) ?hy23 (by assumption) ?hr23
        case hy23 => (intro o ho; simp only [List.getElem?_toArray, List.getElem?_cons_zero, List.getElem?_cons_succ, Option.some.injEq] at ho; subst ho; refine Or.inl ⟨by rfl, fun u hSu => ?_⟩; clear hSu; go_simp; with_reducible rfl)
        try simp only [Act.put, List.setIfInBounds_toArray, List.set_cons_zero, List.set_cons_succ]
        refine held_step (i := 10) (some 42) (v := _) (by rfl) (by kernel_rfl) (by kernel_rfl) (by kernel_rfl) (fun _ _ _ h => h) (fun o ho => by (simp only [List.getElem?_toArray, List.getElem?_cons_zero, List.getElem?_cons_succ, Option.some.injEq] at ho; subst ho; exact Or.inl ⟨by rfl, fun u hSu => run_load_of rfl hSu.2⟩)) (by assumption) ?_
        try simp only [Act.put, List.setIfInBounds_toArray, List.set_cons_zero, List.set_cons_succ]
        refine wpAnyH_ready (rs := [11]) (by kernel_rfl) (by simp) ?_
        refine AllReadyH.cons rfl (fun K hK => ?_) AllReadyH.nil
        rw [if_pos (by rfl)]
        go_simp
        refine (add_oldx x H24.out s m n D S w5 HQ.out.sees HQ.out.seen HN.out).mono ?_; rintro e w6 ⟨rfl, hD6, hw6⟩
        have H6 := hid (HQ.out.ext hw6)
        clear hD6 hw6
        obtain ⟨hr1, hr2, hr3⟩ := HRUN.out _ H6.out.bel
        refine hK.out _ _ ⟨hr2, hr3⟩ (fun hS6 => ?_)
        clear hr1 hr2 hr3 hK
        try simp only [Act.put, List.setIfInBounds_toArray, List.set_cons_zero, List.set_cons_succ]
        refine held_step (i := 12) (some 31) (v := ?hv24) (by rfl) (by kernel_rfl) (by kernel_rfl) (by kernel_rfl) (fun _ _ _ h => h) ?hy24 (by assumption) ?hr24
        case hy24 => (intro o ho; simp only [List.getElem?_toArray, List.getElem?_cons_zero, List.getElem?_cons_succ, Option.some.injEq] at ho; subst ho; refine Or.inl ⟨by rfl, fun u hSu => ?_⟩; clear hSu; go_simp; with_reducible rfl)
        try simp only [Act.put, List.setIfInBounds_toArray, List.set_cons_zero, List.set_cons_succ]
        refine held_step (i := 13) (some 44) (v := ?hv25) (by rfl) (by kernel_rfl) (by kernel_rfl) (by kernel_rfl) (fun _ _ _ h => h) ?hy25 (by assumption) ?hr25
        case hy25 => (intro o ho; simp only [List.getElem?_toArray, List.getElem?_cons_zero, List.getElem?_cons_succ, Option.some.injEq] at ho; subst ho; refine Or.inl ⟨by rfl, fun u hSu => ?_⟩; clear hSu; go_simp; with_reducible rfl)
        try simp only [Act.put, List.setIfInBounds_toArray, List.set_cons_zero, List.set_cons_succ]
        refine held_step (i := 14) (some 45) (v := ?hv26) (by rfl) (by kernel_rfl) (by kernel_rfl) (by kernel_rfl) (fun _ _ _ h => h) ?hy26 (by assumption) ?hr26
        case hy26 => (intro o ho; simp only [List.getElem?_toArray, List.getElem?_cons_zero, List.getElem?_cons_succ, Option.some.injEq] at ho; subst ho; refine Or.inl ⟨by rfl, fun u hSu => ?_⟩; clear hSu; go_simp; with_reducible rfl)
        try simp only [Act.put, List.setIfInBounds_toArray, List.set_cons_zero, List.set_cons_succ]
        refine held_step (i := 15) (some 9) (v := ?hv27) (by rfl) (by kernel_rfl) (by kernel_rfl) (by kernel_rfl) (fun _ _ _ h => h) ?hy27 (by assumption) ?hr27
        case hy27 => (intro o ho; simp only [List.getElem?_toArray, List.getElem?_cons_zero, List.getElem?_cons_succ, Option.some.injEq] at ho; subst ho; refine Or.inl ⟨by rfl, fun u hSu => ?_⟩; clear hSu; go_simp; with_reducible rfl)
        try simp only [Act.put, List.setIfInBounds_toArray, List.set_cons_zero, List.set_cons_succ]
        refine held_step (i := 16) (some 10) (v := ?hv28) (by rfl) (by kernel_rfl) (by kernel_rfl) (by kernel_rfl) (fun _ _ _ h => h) ?hy28 (by assumption) ?hr28
        case hy28 => (intro o ho; simp only [List.getElem?_toArray, List.getElem?_cons_zero, List.getElem?_cons_succ, Option.some.injEq] at ho; subst ho; refine Or.inl ⟨by rfl, fun u hSu => ?_⟩; clear hSu; go_simp; with_reducible rfl)
        try simp only [Act.put, List.setIfInBounds_toArray, List.set_cons_zero, List.set_cons_succ]
        refine wpAnyH_done (by kernel_rfl) ?_ _
        clear hS0 hS6
        have hlen := H6.out.sees.size
        go_wp2_with fail
        refine (seenlen_any s m n D w6 H6.out.seen).mono ?_; rintro e w9 ⟨rfl, rfl⟩
        go_wp2_with fail
        go_roundw
        case rel => exact ⟨k + 1, D, S, n, by go_num, H6.out.next hlt⟩
        case measure => simp [intOf] <;> omega
    · obtain ⟨A', cap', hu6⟩ := own_form HR.out.own
      subst hu6
      have HSL := hid (show S.length ≤ 1000000 by have := HR.out.hS; have := HR.out.hk; omega)
      obtain ⟨hr1, hr2, hr3⟩ := box_runs h24 HR.out.box
      have HR2 := hid hr2
      have HR3 := hid hr3
      clear hr1 hr2 hr3
      have hbd := (findP_bd S p).1
      go_wp2_with (first
        | (refine wpList_load_run rfl 39 (.tmp 72) rfl (Av (p.take 16)) HR2.out ?_)
        | (refine wpList_load_run rfl 41 (.tmp 74) rfl (Av (p.drop 16)) HR3.out ?_))
      refine (find_x p h24 s m n D S wr HR.out.sees HR.out.seen).mono ?_; rintro e w2 ⟨rfl, hw2⟩
      have H2 := hid (HR.out.ext hw2)
      clear hw2 HR HR2 HR3
      have HR4 := hid (box_runs h24 H2.out.box).1
      go_wp2_with (refine wpList_load_run rfl 43 (.tmp 3) rfl (Av p) HR4.out ?_)
      refine (rfind_own S p B _ w2 H2.out.own H2.out.pw h24 HSL.out).mono ?_; rintro e w3 ⟨rfl, hw3⟩
      have H3 := hid (H2.out.ext hw3)
      clear hw3 H2 HR4
      have hq : (decide (0 ≤ findP S p) == decide (0 ≤ findP S p)) = true := by simp
      go_wp2_with fail
      refine (iworks_any _).mono ?_; rintro e w10 ⟨rfl, hw10⟩
      go_wp2_with fail
      go_ret
      exact ⟨rfl, H3.out.bel.trans (hw10.mono H3.out.bel.size)⟩
end Go.Proofs.Ytdjbgojdkaipfaa
