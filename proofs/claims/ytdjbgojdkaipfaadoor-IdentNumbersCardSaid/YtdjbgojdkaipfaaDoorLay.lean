/-
  Walks of package word: bytes of numbers.
-/
import Derived.Test.YtdjbgojdkaipfaaDoorPLay
import Derived.Outline
import Derived.Deep.QuietTactic
import Derived.BigQuiet
namespace Go.Proofs.YtdjbgojdkaipfaaDoor
open Go.RowKit

/-- The table of shifts lies where the program's start laid it. -/
def Highs (w : World) : Prop := ∀ k : Nat, k < 8 → w.cell? ⟨1, k, none⟩ = some (.int .u8 (56 - 8 * (k : Int)))
theorem Highs.lt {w : World} (h : Highs w) : 1 < w.heap.size := World.block_lt_of_cell? w _ (h 0 (by omega))
theorem Highs.ext {w w' : World} (h : Highs w) (hb : Below w.heap.size w w') : Highs w' := fun k hk => (hb.cell (p := ⟨_, k, none⟩) h.lt).trans (h k hk)

set_option maxRecDepth 100000 in
set_option maxHeartbeats 400000 in
theorem wgrown_any (vb : Value) (p : List UInt8) (n : Int) (w : World) (hb0 : Bs w w.heap.size vb p) (h0 : 0 ≤ n) (hs : (p.length : Int) + n ≤ 281474976710656) :
    Calls Tryd.prog 60 #[vb, .int .i64 n] w fun e w' => ∃ v, e = .returned v ∧ Own w' w.heap.size v p ∧ Below w.heap.size w w' := by
  obtain ⟨A, c, rfl, hlc, hr⟩ := hb0
  have hb0 : Hid (Bs w w.heap.size (.slice A p.length c) p) := ⟨A, c, rfl, hlc, hr⟩
  clear hr hlc
  obtain ⟨m, rfl⟩ := Int.eq_ofNat_of_zero_le h0
  go_enter Tryd.func60, Tryd.ntmps60
  go_wp2_with (first
    | (refine wpList_makeLen rfl _ _ rfl .i64 .i64 _ _ p.length (p.length + m) rfl rfl rfl (by omega) (by omega) (by omega) w (Below.refl _ _) ?_; intro g w0 hg hown0 hbw0)
    | (refine wpList_copyAll rfl _ _ rfl w g p.length _ _ w.heap.size _ p rfl rfl hown0 rfl (hb0.out.below hbw0) hbw0 ?_; intro w1 hown1 hbw1))
  go_ret
  exact ⟨_, rfl, hown1, hbw1⟩

theorem mod256_bd (x : Int) : 0 ≤ x % 256 ∧ x % 256 ≤ 255 := by omega
theorem low_step (p : List UInt8) (u : Int) (k : Nat) (hk : k ≤ 7) (n : Nat) (hn : n = 7 - k) : p ++ lowB u n ++ [bt (u / 2 ^ (56 - 8 * k) % 256)] = p ++ lowB u (n + 1) := by
  subst hn
  rw [lowB_snoc, pow_256, List.append_assoc, show 56 - 8 * k = 8 * (7 - k) by omega]

theorem high_step (p : List UInt8) (u : Int) (k : Nat) (hk : k < 8) : p ++ (highB u 8).take k ++ [bt (u / 2 ^ (56 - 8 * k) % 256)] = p ++ (highB u 8).take (k + 1) := by
  rw [highB_take u 8 k hk, pow_256, List.append_assoc, show 56 - 8 * k = 8 * (8 - 1 - k) by omega]
set_option maxRecDepth 100000 in
set_option maxHeartbeats 1000000 in
theorem high64_any (vb : Value) (p : List UInt8) (u : Int) (w : World) (hh : Highs w) (hb0 : Bs w w.heap.size vb p) (h0 : 0 ≤ u) (h1 : u ≤ 18446744073709551615) (hs : p.length ≤ 140737488355000) :
    Calls Tryd.prog 44 #[vb, .int .u64 u] w fun e w' => ∃ v, e = .returned v ∧ Own w' w.heap.size v (p ++ highB u 8) ∧ Below w.heap.size w w' := by
  go_enter Tryd.func44, Tryd.ntmps44
  go_wp2_with fail
  refine (wgrown_any vb p 8 _ hb0 (by omega) (by omega)).mono ?_; rintro e w1 ⟨v, rfl, hown, hb1⟩
  go_wp2_with fail
  go_loopw [5, 9] (fun v i wr => ∃ m : Nat, m ≤ 8 ∧ i = .int .i64 (m : Int) ∧ Own wr w.heap.size v (p ++ (highB u 8).take m) ∧ Below w.heap.size w wr) (fun _ i _ => 8 - (intOf i).toNat)
  case atStart => exact ⟨0, by omega, rfl, by simpa using hown, hb1⟩
  case round =>
    clear hown hb1
    obtain ⟨m, h7, rfl, hown, hbw⟩ := hrel
    by_cases hlt : m < 8
    · have hc := (hh.ext hbw) m (by omega)
      have hst := hid (high_step p u m hlt)
      have hl : (p ++ (highB u 8).take m).length + 1 ≤ 140737488355328 := by rw [List.length_append, List.length_take, highB_length]; omega
      obtain ⟨g0, g1⟩ := mod256_bd (u / 2 ^ (56 - 8 * m))
      go_wp2_with (at_builtin; refine wpList_app1 rfl (.tmp 12) (.tmp 19) rfl w u5 _ rfl _ hown hbw rfl g0 g1 hl ?_; intro v1 w1 hown1 hbw1)
      go_roundw
      case rel => exact ⟨m + 1, by omega, by go_num, hst.out ▸ (by simpa using hown1), hbw1⟩
      case measure => simp [intOf] <;> omega
    · have hm : m = 8 := by omega
      subst hm
      rw [List.take_of_length_le (by rw [highB_length]; omega)] at hown
      go_wp2
      go_ret
      exact ⟨_, rfl, hown, hbw⟩
end Go.Proofs.YtdjbgojdkaipfaaDoor
