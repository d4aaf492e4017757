/-
  Walks of the laws' helpers of chapter 22: Back, Same.
-/
import Derived.Test.YtdjbgojdkaipfaaCreadRefD
namespace Go.Proofs.Ytdjbgojdkaipfaa
open Go.RowKit

theorem flatF_at : ∀ (L : List Fd) (k q : Nat) (F : Fd), L[k]? = some F → q < 6 → (flatF L)[k * 6 + q]? = F.cells[q]?
  | [], k, q, F, h, _ => by simp at h
  | G :: L, 0, q, F, h, hq => by
    have : G = F := by simpa using h
    subst this
    have e : flatF (G :: L) = G.cells.toList ++ flatF L := rfl
    rw [e, Nat.zero_mul, Nat.zero_add, List.getElem?_append_left (by show q < 6; exact hq)]
    simp
  | G :: L, k + 1, q, F, h, hq => by
    have e : flatF (G :: L) = G.cells.toList ++ flatF L := rfl
    have hl : G.cells.toList.length = 6 := rfl
    rw [e, List.getElem?_append_right (by rw [hl]; omega), hl, show (k + 1) * 6 + q - 6 = k * 6 + q by omega]
    exact flatF_at L k q F (by simpa using h) hq
theorem own_cells {w : World} {B : Nat} {T : TypeId} {g cap n : Nat} {L : List Fd} (h : OwnF w B T (.slice (some ⟨g, 0, none⟩) n cap) L) {k : Nat} {F : Fd} (hk : L[k]? = some F) :
    w.cell? ⟨g, k * 6, none⟩ = some (.int .i64 F.id) ∧ w.cell? ⟨g, k * 6 + 1, none⟩ = some (.int .u8 F.kind) ∧ w.cell? ⟨g, k * 6 + 2, none⟩ = some (.int .i64 F.num) ∧ w.cell? ⟨g, k * 6 + 3, none⟩ = some (.int .u64 F.bits) ∧ w.cell? ⟨g, k * 6 + 4, none⟩ = some (Sv F.text) ∧ w.cell? ⟨g, k * 6 + 5, none⟩ = some (Sv F.raw) := by
  rcases h.2 with ⟨he, _⟩ | ⟨g', cap', cur, he, hg, hh, hn, hc, hsz, hx⟩
  · cases he
  · injection he with e1 e2 e3
    injection e1 with e1
    injection e1 with e1
    subst e1
    have hlt : k < L.length := by
      rcases Nat.lt_or_ge k L.length with q | q
      · exact q
      · rw [List.getElem?_eq_none q] at hk; cases hk
    have key : ∀ q, q < 6 → w.cell? ⟨g, k * 6 + q, none⟩ = F.cells[q]? := fun q hq => by
      rw [cell_of_row w g (k * 6 + q) cur T (0, 0) hh, ← flatF_at L k q F hk hq, ← hx]
      rw [List.getElem?_take_of_lt (by omega)]
      simp
    exact ⟨key 0 (by omega), key 1 (by omega), key 2 (by omega), key 3 (by omega), key 4 (by omega), key 5 (by omega)⟩
theorem ownF_form {w : World} {B : Nat} {T : TypeId} {v : Value} {L : List Fd} (h : OwnF w B T v L) : L = [] ∧ v = .slice none 0 0 ∨ ∃ g cap, v = .slice (some ⟨g, 0, none⟩) L.length cap ∧ g < w.heap.size := by
  rcases h.2 with ⟨he, h0⟩ | ⟨g, cap, cur, he, hg, hh, _⟩
  · exact .inl ⟨List.eq_nil_of_length_eq_zero h0, he⟩
  · refine .inr ⟨g, cap, he, ?_⟩
    rcases Nat.lt_or_ge g w.heap.size with q | q
    · exact q
    · rw [Array.getElem?_eq_none q] at hh; cases hh
def BRel (w : World) (L : List Fd) (v i : Value) (wr : World) : Prop := ∃ (v' : Value) (k : Nat), v' = v ∧ i = .int .i64 (k : Int) ∧ k ≤ L.length ∧ OwnF wr w.heap.size 122 v' (L.take k) ∧ Below w.heap.size w wr
set_option maxRecDepth 100000 in
set_option maxHeartbeats 2000000 in
theorem back_any (v : Value) (L : List Fd) (B : Nat) (w : World) (h : OwnF w B 121 v L) (hl : L.length ≤ 100000) :
    Calls Try.prog 83 #[v] w fun e w' => ∃ v', e = .returned v' ∧ OwnF w' w.heap.size 122 v' L ∧ Below w.heap.size w w' := by
  rcases ownF_form h with ⟨rfl, rfl⟩ | ⟨g, cap, rfl, hg⟩
  · go_enter Try.func83, Try.ntmps83
    go_wp2_with fail
    go_loopw [3, 4] (fun v i wr => v = .slice none 0 0 ∧ i = .int .i64 0 ∧ wr = w) (fun _ _ _ => 0)
    case atStart => exact ⟨rfl, rfl, rfl⟩
    case round =>
      obtain ⟨rfl, rfl, rfl⟩ := hrel
      go_wp2_with fail
      go_ret
      exact ⟨_, rfl, OwnF.nil _ _ _, Below.refl _ _⟩
  · have HO := hid h
    clear h
    go_enter Try.func83, Try.ntmps83
    go_wp2_with fail
    go_loopw [3, 4] (fun v i wr => BRel w L v i wr) (fun _ i _ => L.length - (intOf i).toNat)
    case atStart => exact ⟨_, 0, rfl, rfl, Nat.zero_le _, OwnF.nil _ _ _, Below.refl _ _⟩
    case round =>
      obtain ⟨v, k, rfl, rfl, hk, hown, hbel⟩ := hrel
      have HW := hid hown
      have HB := hid hbel
      clear hown hbel
      by_cases hlt : k < L.length
      · obtain ⟨F, hF⟩ : ∃ F, L[k]? = some F := ⟨L[k], List.getElem?_eq_getElem hlt⟩
        obtain ⟨p0, p1, p2, p3, p4, p5⟩ := own_cells (ownF_ext HO.out HB.out) hF
        have HF := hid hF
        clear hF
        have hkl : (L.take k).length ≤ 1000000 := by rw [List.length_take]; omega
        have HBK := hid (Blk.new wr 122 F.cells)
        have HO7 := hid (ownF_ext HW.out (ext_alloc wr (.cells F.cells 122)))
        have HB7 := hid (HB.out.alloc HB.out.size (.cells F.cells 122))
        unfold Fd.cells at HBK HO7 HB7
        generalize hW7 : wr.alloc (.cells #[.int .i64 F.id, .int .u8 F.kind, .int .i64 F.num, .int .u64 F.bits, Sv F.text, Sv F.raw] 122) = w7 at HBK HO7 HB7
        have HW7 := hid hW7
        clear hW7
        go_wp2_with (rw [HW7.out]; refine wpList_appF rfl (.tmp 11) (.tmp 16) 111 122 und_rf info_rf rfl w.heap.size v (L.take k) rfl HO7.out wr.heap.size 1 122 F rfl HBK.out hkl HB7.out.size ?_; intro v8 w8 hown8 hg8; have HO8 := hid hown8; have HB8 := hid (show Below w.heap.size w w8 from Below.grown HB7.out hg8 HB7.out.size (fun k hk => (World.ownsRow.lt HO7.out k hk).1)); clear hown8 hg8)
        refine ⟨⟨v8, k + 1, rfl, by go_num, hlt, ?_, HB8.out⟩, ?_⟩
        · rw [List.take_add_one, HF.out]; exact HO8.out
        · simp [intOf] <;> omega
      · obtain rfl : k = L.length := by omega
        go_wp2_with fail
        go_ret
        exact ⟨_, rfl, by have := HW.out; rwa [List.take_length] at this, HB.out⟩
set_option maxRecDepth 100000 in
set_option maxHeartbeats 2000000 in
theorem same_lists (v u : Value) (L : List Fd) (B C : Nat) (w : World) (h : OwnF w B 122 v L) (h' : OwnF w C 122 u L) (hl : L.length ≤ 100000) :
    Calls Try.prog 82 #[v, u] w fun e w' => e = .returned (.bool true) ∧ Below w.heap.size w w' := by
  rcases ownF_form h with ⟨rfl, rfl⟩ | ⟨g, cap, rfl, hg⟩
  · rcases ownF_form h' with ⟨_, rfl⟩ | ⟨g', cap', rfl, hg'⟩
    · go_enter Try.func82, Try.ntmps82
      go_wp2_with fail
      go_loopw [5] (fun i wr => i = .int .i64 0 ∧ wr = w) (fun _ _ => 0)
      case atStart => exact ⟨rfl, rfl⟩
      case round =>
        obtain ⟨rfl, rfl⟩ := hrel
        go_wp2_with fail
        go_ret
        exact ⟨rfl, Below.refl _ _⟩
    · simp only [List.length_nil]
      go_enter Try.func82, Try.ntmps82
      go_wp2_with fail
      go_loopw [5] (fun i wr => i = .int .i64 0 ∧ wr = w) (fun _ _ => 0)
      case atStart => exact ⟨rfl, rfl⟩
      case round =>
        obtain ⟨rfl, rfl⟩ := hrel
        go_wp2_with fail
        go_ret
        exact ⟨rfl, Below.refl _ _⟩
  · rcases ownF_form h' with ⟨rfl, rfl⟩ | ⟨g', cap', rfl, hg'⟩
    · simp only [List.length_nil]
      go_enter Try.func82, Try.ntmps82
      go_wp2_with fail
      go_loopw [5] (fun i wr => i = .int .i64 0 ∧ wr = w) (fun _ _ => 0)
      case atStart => exact ⟨rfl, rfl⟩
      case round =>
        obtain ⟨rfl, rfl⟩ := hrel
        go_wp2_with fail
        go_ret
        exact ⟨rfl, Below.refl _ _⟩
    · have HO := hid h
      have HU := hid h'
      clear h h'
      go_enter Try.func82, Try.ntmps82
      go_wp2_with fail
      go_loopw [5] (fun i wr => ∃ k : Nat, i = .int .i64 (k : Int) ∧ k ≤ L.length ∧ Below w.heap.size w wr) (fun i _ => L.length - (intOf i).toNat)
      case atStart => exact ⟨0, rfl, Nat.zero_le _, Below.refl _ _⟩
      case round =>
        obtain ⟨k, rfl, hk, hbel⟩ := hrel
        have HB := hid hbel
        clear hbel
        by_cases hlt : k < L.length
        · obtain ⟨F, hF⟩ : ∃ F, L[k]? = some F := ⟨L[k], List.getElem?_eq_getElem hlt⟩
          obtain ⟨p0, p1, p2, p3, p4, p5⟩ := own_cells (ownF_ext HO.out HB.out) hF
          obtain ⟨q0, q1, q2, q3, q4, q5⟩ := own_cells (ownF_ext HU.out HB.out) hF
          have qi : (0 : Int) ≤ (k : Int) ∧ (k : Int) < (L.length : Int) := by omega
          clear hF
          go_wp2_with fail
          go_quiet (fail)
          go_wp2_with fail
          refine ⟨⟨k + 1, by go_num, hlt, below_drewN HB.out _⟩, ?_⟩
          simp [intOf] <;> omega
        · obtain rfl : k = L.length := by omega
          go_wp2_with fail
          go_ret
          exact ⟨rfl, HB.out⟩
def zeroF : Fd := ⟨0, 0, 0, 0, [], []⟩
def hitF (id k : Int) (F : Fd) : Bool := (F.id == id) && sameB F.kind k
def lastF (id k : Int) : List Fd → Fd × Bool
  | [] => (zeroF, false)
  | F :: r => if (lastF id k r).2 = true then lastF id k r else if hitF id k F = true then (F, true) else (zeroF, false)
theorem lastF_snoc (id k : Int) (F : Fd) : ∀ L : List Fd, lastF id k (L ++ [F]) = if hitF id k F = true then (F, true) else lastF id k L
  | [] => by simp [lastF]
  | G :: r => by
    have ih := lastF_snoc id k F r
    show (if (lastF id k (r ++ [F])).2 = true then lastF id k (r ++ [F]) else if hitF id k G = true then (G, true) else (zeroF, false)) = _
    rw [ih]
    by_cases h : hitF id k F = true
    · rw [if_pos h, if_pos rfl, if_pos h]
    · rw [if_neg h, if_neg h]; rfl
theorem lastF_none (id k : Int) : ∀ L : List Fd, (lastF id k L).2 = false → lastF id k L = (zeroF, false)
  | [], _ => rfl
  | F :: r, h => by
    unfold lastF at h ⊢
    split
    · rename_i h1; rw [if_pos h1, h1] at h; cases h
    · rename_i h1
      rw [if_neg h1] at h
      split
      · rename_i h2; rw [if_pos h2] at h; cases h
      · rfl
set_option maxRecDepth 100000 in
set_option maxHeartbeats 2000000 in
theorem clast_any (v : Value) (L : List Fd) (id kind : Int) (B : Nat) (w : World) (h : OwnF w B 121 v L) (hl : L.length ≤ 100000) :
    Calls Try.prog 86 #[v, .int .i64 id, .int .u8 kind] w fun e w' => e = .returned (.tuple #[.agg (lastF id kind L).1.cells, .bool (lastF id kind L).2]) ∧ Below w.heap.size w w' := by
  have HR := hid (Blk.new w 121 #[.int .i64 0, .int .u8 0, .int .i64 0, .int .u64 0, Sv [], Sv []])
  have HRB := hid (ext_alloc w (.cells #[.int .i64 0, .int .u8 0, .int .i64 0, .int .u64 0, Sv [], Sv []] 121))
  have HO := hid (ownF_ext h HRB.out)
  rcases ownF_form h with ⟨rfl, rfl⟩ | ⟨g, cap, rfl, hg⟩
  · go_enter Try.func86, Try.ntmps86
    go_upto_region 1 with fail
    generalize w.alloc (.cells #[.int .i64 0, .int .u8 0, .int .i64 0, .int .u64 0, Sv [], Sv []] 121) = W1 at HR HRB ⊢
    obtain ⟨r0, r1, r2, r3, r4, r5, e0, e1, e2, e3, e4, e5⟩ := blk6 HR.out
    go_wp2_with fail
    go_loopw [8] (fun i wr => i = .int .i64 (-1) ∧ wr = W1) (fun _ _ => 0)
    case atStart => exact ⟨rfl, rfl⟩
    case round =>
      obtain ⟨rfl, rfl⟩ := hrel
      go_wp2_with fail
      exact bodyPost_ret (v := .tuple #[.agg zeroF.cells, .bool false]) (by unfold zeroF Fd.cells; simp only [results, Try.results86]; go_simp) rfl ⟨rfl, by repeat (first | (with_reducible exact HRB.out) | (with_reducible refine below_put ?_ (by omega) _ _))⟩
  · clear h
    go_enter Try.func86, Try.ntmps86
    go_upto_region 1 with fail
    generalize w.alloc (.cells #[.int .i64 0, .int .u8 0, .int .i64 0, .int .u64 0, Sv [], Sv []] 121) = W1 at HR HRB HO ⊢
    obtain ⟨r0, r1, r2, r3, r4, r5, e0, e1, e2, e3, e4, e5⟩ := blk6 HR.out
    go_wp2_with fail
    go_loopw [8] (fun i wr => ∃ k : Nat, i = .int .i64 ((k : Int) - 1) ∧ k ≤ L.length ∧ wr = W1 ∧ Hid (lastF id kind L = lastF id kind (L.take k))) (fun i _ => (intOf i + 1).toNat)
    case atStart => exact ⟨L.length, rfl, Nat.le_refl _, rfl, hid (by rw [List.take_length])⟩
    case round =>
      obtain ⟨k, rfl, hk, rfl, HK⟩ := hrel
      cases k with
      | zero =>
        have HZ := hid (show lastF id kind L = (zeroF, false) by rw [HK.out]; rfl)
        go_wp2_with fail
        exact bodyPost_ret (v := .tuple #[.agg zeroF.cells, .bool false]) (by unfold zeroF Fd.cells; simp only [results, Try.results86]; go_simp) rfl ⟨by rw [HZ.out], by repeat (first | (with_reducible exact HRB.out) | (with_reducible refine below_put ?_ (by omega) _ _))⟩
      | succ k =>
        obtain ⟨F, hF⟩ : ∃ F, L[k]? = some F := ⟨L[k], List.getElem?_eq_getElem (by omega)⟩
        obtain ⟨p0, p1, p2, p3, p4, p5⟩ := own_cells HO.out hF
        have HS := hid (show lastF id kind L = if hitF id kind F = true then (F, true) else lastF id kind (L.take k) by
          rw [HK.out, List.take_add_one, hF]; exact lastF_snoc id kind F _)
        have hki : ((k + 1 : Nat) : Int) - 1 = (k : Int) := by omega
        rw [hki]
        have qi : (0 : Int) ≤ (k : Int) ∧ (k : Int) < (L.length : Int) := by omega
        clear hF HK
        by_cases hid1 : F.id = id
        · subst hid1
          have q : (F.id == F.id) = true := by simp
          go_wp2_with fail
          refine (same_any F.kind kind _).mono ?_; rintro e w3 ⟨rfl, rfl⟩
          cases hsb : sameB F.kind kind with
          | true =>
            have HH := hid (show lastF F.id kind L = (F, true) by rw [HS.out, if_pos (by unfold hitF; rw [q, hsb]; rfl)])
            go_wp2_with fail
            exact bodyPost_ret (v := .tuple #[.agg F.cells, .bool true]) (by unfold Fd.cells; simp only [results, Try.results86]; go_simp) rfl ⟨by rw [HH.out], by repeat (first | (with_reducible exact HRB.out) | (with_reducible refine below_put ?_ (by omega) _ _))⟩
          | false =>
            have HH := hid (show lastF F.id kind L = lastF F.id kind (L.take k) by rw [HS.out, if_neg (by unfold hitF; rw [q, hsb]; simp)])
            go_wp2_with fail
            exact ⟨⟨k, rfl, by omega, trivial, HH⟩, by simp [intOf] <;> omega⟩
        · have q : (F.id == id) = false := by simpa using hid1
          have HH := hid (show lastF id kind L = lastF id kind (L.take k) by rw [HS.out, if_neg (by unfold hitF; rw [q]; simp)])
          go_wp2_with fail
          exact ⟨⟨k, rfl, by omega, trivial, HH⟩, by simp [intOf] <;> omega⟩
end Go.Proofs.Ytdjbgojdkaipfaa
