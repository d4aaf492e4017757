/-
  Add and Find of a keeper that saw a list of pairs, and the document's Find over a list of the call's own.
-/
import Derived.Test.YtdjbgojdkaipfaaPairsSees
namespace Go.Proofs.Ytdjbgojdkaipfaa
open Go.RowKit Go.Maps Go.WideShapes

theorem rfind_own (S : List (List UInt8)) (x : List UInt8) (base : Nat) (v : Value) (w : World) (h : w.ownsRow base 43 24 v S.length (b8s S.flatten)) (hp : Pw S) (hx : x.length = 24) (hl : S.length ≤ 1000000) :
    Calls Try.prog 31 #[v, Av x] w fun e w' => e = .returned (.int .i64 (findP S x)) ∧ Below w.heap.size w w' := by
  rcases h.2 with ⟨rfl, h0⟩ | ⟨g, cap, cur, rfl, _⟩
  · have hS : S = [] := List.eq_nil_of_length_eq_zero h0
    subst hS
    exact rfind_any [] x none 0 w Reads.none_ hp hx hl
  · exact rfind_any S x (some ⟨g, 0, none⟩) cap w (Reads.of_own h) hp hx hl
theorem key_of (x : List UInt8) (hx : x.length = 24) : ∃ kl, keyOf Try.prog 138 (Av x) = some kl := by
  have := key_any (x.take 16) (x.drop 16) (by simp [hx]) (by simp [hx])
  rwa [List.take_append_drop] at this
theorem add_newx (x : List UInt8) (hx : x.length = 24) (s m n : Nat) (D : DataW Unit) (S : List (List UInt8)) (w : World) (hs : Sees D S) (h : SeenAt w s m n D) (hn : n < 1000000) (hS : S.length ≤ 1000000) (hsm : m < s) (hneg : findP S x < 0) :
    Calls Try.prog 32 #[.pointer (some ⟨s, 0, none⟩), Av (x.take 16), Av (x.drop 16)] w fun e w' => e = .returned (.tuple #[.int .i64 S.length, .bool true]) ∧ (∃ D', Sees D' (S ++ [x]) ∧ SeenAt w' s m (n + 1) D') ∧ w.grownBy w' (some m) := by
  obtain ⟨kl, hk⟩ := key_of x hx
  refine (add_new (x.take 16) (x.drop 16) (by simp [hx]) (by simp [hx]) s m n D kl w h hn (by rw [hs.size]; exact hS) hsm (by rw [List.take_append_drop]; exact hk) (by rw [hs.has x kl hx hk]; exact decide_eq_false (by omega))).mono ?_
  rintro e w' ⟨rfl, h1, h2⟩
  exact ⟨by rw [hs.size], ⟨_, hs.put hx hk hneg, h1⟩, h2⟩
theorem add_oldx (x : List UInt8) (hx : x.length = 24) (s m n : Nat) (D : DataW Unit) (S : List (List UInt8)) (w : World) (hs : Sees D S) (h : SeenAt w s m n D) (hpos : 0 ≤ findP S x) :
    Calls Try.prog 32 #[.pointer (some ⟨s, 0, none⟩), Av (x.take 16), Av (x.drop 16)] w fun e w' => e = .returned (.tuple #[.int .i64 (findP S x), .bool false]) ∧ SeenAt w' s m n D ∧ Below w.heap.size w w' := by
  obtain ⟨kl, hk⟩ := key_of x hx
  exact add_old (x.take 16) (x.drop 16) (by simp [hx]) (by simp [hx]) s m n D kl w h (by rw [List.take_append_drop]; exact hk) (findP S x) (by rw [hs.has x kl hx hk]; exact decide_eq_true hpos)
    (by rw [hs.at_ x kl hx hk, Int.max_eq_right hpos])
set_option maxRecDepth 100000 in
theorem find_x (x : List UInt8) (hx : x.length = 24) (s m n : Nat) (D : DataW Unit) (S : List (List UInt8)) (w : World) (hs : Sees D S) (h : SeenAt w s m n D) :
    Calls Try.prog 34 #[.pointer (some ⟨s, 0, none⟩), Av (x.take 16), Av (x.drop 16)] w fun e w' => e = .returned (.tuple #[.int .i64 (max 0 (findP S x)), .bool (decide (0 ≤ findP S x))]) ∧ Below w.heap.size w w' := by
  obtain ⟨kl, hk⟩ := key_of x hx
  refine (find_any (x.take 16) (x.drop 16) (by simp [hx]) (by simp [hx]) s m n D kl w h (by rw [List.take_append_drop]; exact hk)).mono ?_
  rintro e w' ⟨⟨c, rfl, hc⟩, h1, h2⟩
  rw [hs.at_ x kl hx hk] at hc
  have hcc : c = max 0 (findP S x) := by injection hc with hc; injection hc with _ hc; exact hc.symm
  exact ⟨by rw [hs.has x kl hx hk, hcc], h2⟩

set_option maxRecDepth 100000 in
theorem elem_runs {w : World} {A : Option Addr} {l : List (List UInt8)} (hp : Pw l) (hr : Reads w w.heap.size 24 A l.length (b8s l.flatten)) {k : Nat} {x : List UInt8} (hx : l[k]? = some x) :
    ∃ ad, A = some ad ∧ ∀ w', Below w.heap.size w w' →
      (Instr.loadAt 43 (.pointer (some (ad.add (k * 24))))).run Try.prog w' = .ok (Av x) w' ∧
      (Instr.loadAt 39 (.pointer (some (ad.add (k * 24))))).run Try.prog w' = .ok (Av (x.take 16)) w' ∧
      (Instr.loadAt 41 (.pointer (some ⟨(ad.add (k * 24)).block, (ad.add (k * 24)).off + 16, none⟩))).run Try.prog w' = .ok (Av (x.drop 16)) w' := by
  have h24 := hp.at_ hx
  obtain ⟨ad, rfl, _⟩ := pair_cells hp hr hx
  refine ⟨ad, rfl, fun w' hw => ?_⟩
  obtain ⟨ad', e, _, hc⟩ := pair_cells hp (hr.below hw) hx
  injection e with e; subst e
  have hc' : ∀ j u, (b8s x)[j]? = some u → w'.cell? ((ad.add (k * 24)).add j) = some u := fun j u hu => by rw [add_of_add]; exact hc j u hu
  refine ⟨run_loadAt_adr x hc' und_rpair rfl (by rw [info_rpair, h24]), run_loadAt_adr (x.take 16) (take_cells 16 hc') Try.underlying39 rfl (by rw [info_trace]; simp [h24]), ?_⟩
  exact run_loadAt_adr (ad := (ad.add (k * 24)).add 16) (x.drop 16) (drop_cells 16 hc') Try.underlying41 rfl (by rw [info_span]; simp [h24])

set_option maxRecDepth 100000 in
theorem box_runs {w : World} {g : Nat} {T : TypeId} {x : List UInt8} (hx : x.length = 24) (h : Blk w g T (b8s x).toArray) :
      (Instr.loadAt 43 (.pointer (some ⟨g, 0, none⟩))).run Try.prog w = .ok (Av x) w ∧
      (Instr.loadAt 39 (.pointer (some ⟨g, 0, none⟩))).run Try.prog w = .ok (Av (x.take 16)) w ∧
      (Instr.loadAt 41 (.pointer (some ⟨g, 16, none⟩))).run Try.prog w = .ok (Av (x.drop 16)) w := by
  have hc' : ∀ j u, (b8s x)[j]? = some u → w.cell? ((⟨g, 0, none⟩ : Addr).add j) = some u := fun j u hu => by rw [add_zero_off, h.cell j, ← hu]; simp
  refine ⟨run_loadAt_adr x hc' und_rpair rfl (by rw [info_rpair, hx]), run_loadAt_adr (x.take 16) (take_cells 16 hc') Try.underlying39 rfl (by rw [info_trace]; simp [hx]), ?_⟩
  exact run_loadAt_adr (ad := (⟨g, 0, none⟩ : Addr).add 16) (x.drop 16) (drop_cells 16 hc') Try.underlying41 rfl (by rw [info_span]; simp [hx])
end Go.Proofs.Ytdjbgojdkaipfaa
