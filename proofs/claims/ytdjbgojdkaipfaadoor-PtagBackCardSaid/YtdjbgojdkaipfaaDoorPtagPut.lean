/-
  The laying of tags.
-/
import Derived.Test.YtdjbgojdkaipfaaDoorPtagRef
import Derived.Test.YtdjbgojdkaipfaaDoorConv
import Derived.Laws.AppendOwnNone
namespace Go.Proofs.YtdjbgojdkaipfaaDoor
open Go.RowKit

theorem Own.new0 (w : World) (B : Nat) (hB : B ≤ w.heap.size) : Own (w.alloc (.cells #[] 5)) B (.slice (some ⟨w.heap.size, 0, none⟩) 0 0) [] :=
  World.ownsRow_lit w #[] 0 hB (by unfold maxLen; omega) rfl
/-- append of the bytes of a slice that is not nil to a slice of the call's own. -/
theorem wpList_appAll {w : World} {ops : Array Oper} {rest : List Oper} {o : Oper} {a : Act} {Q : Exit → Act → World → Prop} (hgd : o.guard = none) (s x : Operand)
    (ho : o.op = .call { callee := .builtin .append, args := #[s, x], argTypes := #[37, 37] })
    (w0 : World) (v : Value) (l : List UInt8) (hs : a.eval s = v) (hown : Own w w0.heap.size v l) (hb : Below w0.heap.size w0 w)
    (ad : Addr) (c B : Nat) (news : List UInt8) (hx : a.eval x = .slice (some ad) news.length c) (hr : Reads w B 1 (some ad) news.length (b8s news))
    (hsz : l.length + news.length ≤ 140737488355328)
    (h : ∀ v' w', Own w' w0.heap.size v' (l ++ news) → Below w0.heap.size w0 w' → wpList Tryd.prog ops Q rest (a.put o.dst v') w') : wpList Tryd.prog ops Q (o :: rest) a w := by
  refine wpList_app hgd s x ho w0 v l hs hown hb ad news.length c news hx rfl ?_ hsz h
  intro j u hj
  by_cases h0 : 0 < news.length
  · obtain ⟨ad', e, _, hc⟩ := hr.2 h0
    injection e with e; subst e
    exact hc j u hj
  · have : news = [] := List.eq_nil_of_length_eq_zero (by omega)
    subst this; simp [b8s] at hj
theorem tv_some (w : World) (l : List UInt8) : ∃ ad n c, tv w l = .slice (some ad) n c := by
  have h1 := run_tb w l
  have h2 := run_bytes_of_string (P := Tryd.prog) w 9 37 5 ⟨l.toArray⟩ Tryd.underlying9 Tryd.underlying37 Tryd.underlying5
  unfold Sv at h1
  rw [h1] at h2
  injection h2 with e _
  exact ⟨_, _, _, e⟩
def putT (n wi : Int) : List UInt8 := if mayT n wi = true then varB 9 (8 * n + wi) else []
theorem mayT_bd {n wi : Int} (h : mayT n wi = true) : 1 ≤ n ∧ n ≤ 536870911 ∧ 0 ≤ wi ∧ wi ≤ 7 := by
  simp [mayT] at h
  omega
theorem or8 (n wi : Int) (h0 : 0 ≤ n) (h1 : n ≤ 536870911) (g0 : 0 ≤ wi) (g1 : wi ≤ 7) : bits .or .u64 (n * 8) wi = 8 * n + wi := by
  obtain ⟨m, rfl⟩ := Int.eq_ofNat_of_zero_le h0
  obtain ⟨k, rfl⟩ := Int.eq_ofNat_of_zero_le g0
  have := u64_or_nat (m * 8) k (by omega) (by omega)
  have e : m * 8 ||| k = m * 8 + k := by
    have := Nat.shiftLeft_add_eq_or_of_lt (b := k) (i := 3) (by omega) m
    rw [Nat.shiftLeft_eq] at this
    exact this.symm
  rw [e] at this
  push_cast at this
  rw [this]; omega
theorem varB_len8 (f : Nat) (n wi : Int) (h0 : 1 ≤ n) (g0 : 0 ≤ wi) (g1 : wi ≤ 7) : (varB (f + 1) (8 * n + wi)).length = (varB (f + 1) (n * 8)).length := by
  simp only [varB]
  by_cases h : n * 8 < 128
  · rw [if_pos h, if_pos (by omega)]; rfl
  · rw [if_neg h, if_neg (by omega), List.length_cons, List.length_cons, show (8 * n + wi) / 128 = n * 8 / 128 by omega]
set_option maxRecDepth 100000 in
set_option maxHeartbeats 1000000 in
theorem tput_any (vb : Value) (p : List UInt8) (n wi : Int) (w : World) (hb0 : Bs w w.heap.size vb p) (hn : ∃ ad m c, vb = .slice (some ad) m c) (hs : p.length ≤ 140737488351232) :
    Calls Tryd.prog 13 #[vb, Tv n wi] w fun e w' => ∃ v, e = .returned v ∧ Own w' w.heap.size v (p ++ putT n wi) ∧ Below w.heap.size w w' := by
  obtain ⟨ad, m, c, rfl⟩ := hn
  obtain ⟨A, c', e, hlc, hr⟩ := id hb0
  injection e with e1 e2 e3
  subst e1 e2 e3
  have HB := hid hb0
  have HR := hid hr
  clear hb0 hr
  cases hm : mayT n wi with
  | false =>
    have HL := hid (show putT n wi = [] by rw [putT, hm]; rfl)
    have HM := hid hm
    clear hm
    unfold Tv
    go_enter Tryd.func13, Tryd.ntmps13
    go_wp2_with fail
    refine (may_any n wi _).mono ?_; rintro e w1 ⟨rfl, hw1⟩
    rw [HM.out]
    have hb1 := hid (ext_trans (ext_alloc w _) hw1)
    have hR1 := hid (HR.out.below hb1.out)
    clear hw1
    go_wp2_with (at_builtin; refine wpList_appAll rfl (.tmp 8) (.tmp 9) rfl w _ [] rfl (Own.new0 w1 _ hb1.out.size) (hb1.out.alloc hb1.out.size _) ad c w.heap.size p rfl (hR1.out.below (ext_alloc _ _ |>.mono hb1.out.size)) (by simp; omega) ?_; intro v2 w2 hown2 hbw2)
    go_ret
    exact ⟨_, rfl, by rw [HL.out]; simpa using hown2, hbw2⟩
  | true =>
    obtain ⟨n0, n1, g0, g1⟩ := mayT_bd hm
    have HL := hid (show putT n wi = varB 9 (8 * n + wi) by rw [putT, if_pos hm])
    have HM := hid hm
    have hor := or8 n wi (by omega) n1 g0 g1
    have w1 : IntKind.u64.wrap n = n := by rw [IntKind.wrap_u64]; omega
    have w2 : IntKind.u64.wrap wi = wi := by rw [IntKind.wrap_u64]; omega
    have w3 : IntKind.u64.wrap (n * 8) = n * 8 := by rw [IntKind.wrap_u64]; omega
    clear hm
    unfold Tv
    go_enter Tryd.func13, Tryd.ntmps13
    go_wp2_with fail
    refine (may_any n wi _).mono ?_; rintro e w1 ⟨rfl, hw1⟩
    rw [HM.out]
    have hT1 := Blk.below (Blk.new w 30 #[.int .i64 n, .int .i64 wi]) hw1 (by simp)
    obtain ⟨p0, p1, q0, q1⟩ := blk2 hT1
    have hb1 := hid (ext_trans (ext_alloc w _) hw1)
    have hB1 := hid (Bs.ext HB.out hb1.out)
    clear hw1 hT1
    go_wp2_with fail
    refine (vput_any _ p (8 * n + wi) w1 hB1.out (by omega) (by omega) (by omega)).mono ?_; rintro e w2 ⟨v2, rfl, hown2, hbw2⟩
    go_wp2_with fail
    go_ret
    exact ⟨_, rfl, by rw [HL.out]; exact hown2.mono hb1.out.size, ext_trans hb1.out hbw2⟩
set_option maxRecDepth 100000 in
set_option maxHeartbeats 1000000 in
theorem tsize_any (n wi : Int) (w : World) :
    Calls Tryd.prog 17 #[Tv n wi] w fun e w' => e = .returned (.int .i64 ((putT n wi).length : Int)) ∧ Below w.heap.size w w' := by
  cases hm : mayT n wi with
  | false =>
    have HL := hid (show putT n wi = [] by rw [putT, hm]; rfl)
    have HM := hid hm
    clear hm
    unfold Tv
    go_enter Tryd.func17, Tryd.ntmps17
    go_wp2_with fail
    refine (may_any n wi _).mono ?_; rintro e w1 ⟨rfl, hw1⟩
    rw [HM.out]
    go_wp2_with fail
    go_ret
    exact ⟨by rw [HL.out]; rfl, ext_trans (ext_alloc w _) hw1⟩
  | true =>
    obtain ⟨n0, n1, g0, g1⟩ := mayT_bd hm
    have HL := hid (show ((putT n wi).length : Int) = ((varB 9 (n * 8)).length : Int) by
      rw [putT, if_pos hm, varB_len8 8 n wi n0 g0 g1])
    have HM := hid hm
    have w1 : IntKind.u64.wrap n = n := by rw [IntKind.wrap_u64]; omega
    have w3 : IntKind.u64.wrap (n * 8) = n * 8 := by rw [IntKind.wrap_u64]; omega
    clear hm
    unfold Tv
    go_enter Tryd.func17, Tryd.ntmps17
    go_wp2_with fail
    refine (may_any n wi _).mono ?_; rintro e w1 ⟨rfl, hw1⟩
    rw [HM.out]
    have hT1 := Blk.below (Blk.new w 30 #[.int .i64 n, .int .i64 wi]) hw1 (by simp)
    obtain ⟨p0, p1, q0, q1⟩ := blk2 hT1
    have hb1 := hid (ext_trans (ext_alloc w _) hw1)
    clear hw1 hT1
    go_wp2_with fail
    refine (vsize_any (n * 8) _ (by omega) (by omega)).mono ?_; rintro e w2 ⟨rfl, rfl⟩
    go_wp2_with fail
    go_ret
    exact ⟨by rw [HL.out]; rfl, hb1.out⟩
set_option maxRecDepth 100000 in
set_option maxHeartbeats 1000000 in
theorem rttext_any (n wi : Int) (w : World) :
    Calls Tryd.prog 16 #[.int .i64 n, .int .i64 wi] w fun e w' => e = .returned (Sv (putT n wi)) ∧ Below w.heap.size w w' := by
  cases hm : mayT n wi with
  | false =>
    have HL := hid (show putT n wi = [] by rw [putT, hm]; rfl)
    have HM := hid hm
    clear hm
    go_enter Tryd.func16, Tryd.ntmps16
    go_wp2_with fail
    refine (rmay_any n wi _).mono ?_; rintro e w1 ⟨rfl, rfl⟩
    rw [HM.out]
    go_wp2_with fail
    go_ret
    exact ⟨by rw [HL.out]; rfl, Below.refl _ _⟩
  | true =>
    obtain ⟨n0, n1, g0, g1⟩ := mayT_bd hm
    have HL := hid (show putT n wi = varB 9 (8 * n + wi) by rw [putT, if_pos hm])
    have HM := hid hm
    have w1 : IntKind.u64.wrap n = n := by rw [IntKind.wrap_u64]; omega
    have w2 : IntKind.u64.wrap wi = wi := by rw [IntKind.wrap_u64]; omega
    have w3 : IntKind.u64.wrap (8 * n) = 8 * n := by rw [IntKind.wrap_u64]; omega
    have w4 : IntKind.u64.wrap (8 * n + wi) = 8 * n + wi := by rw [IntKind.wrap_u64]; omega
    clear hm
    go_enter Tryd.func16, Tryd.ntmps16
    go_wp2_with fail
    refine (rmay_any n wi _).mono ?_; rintro e w1 ⟨rfl, rfl⟩
    rw [HM.out]
    go_wp2_with fail
    refine (rvput_any 9 (8 * n + wi) _ (by omega) (by omega) (by omega) (by omega)).mono ?_; rintro e w2 ⟨rfl, hw2⟩
    go_wp2_with fail
    go_ret
    exact ⟨by rw [HL.out]; rfl, hw2⟩
end Go.Proofs.YtdjbgojdkaipfaaDoor
