/-
  The library's functions on strings, at one byte, as the walks meet them: Index, Count, Cut, Split, Trim, Join.
-/
import Derived.Test.YtgfdmdikiickpaaDoorShelf
import Derived.Test.YtgfdmdikiickpaaDoorPState
import Derived.Test.YtgfdmdikiickpaaDoorMem
import Derived.Shelf.Strings.SlTrimAscii
namespace Go.Proofs.YtgfdmdikiickpaaDoor
open Go.RowKit

theorem indexByte_find (c : UInt8) : ∀ l : List UInt8, Lib.indexByte l c = if findN c l = l.length then -1 else (findN c l : Int)
  | [] => rfl
  | b :: l => by
    have ih := indexByte_find c l
    have hle := findN_le c l
    rw [Lib.indexByte, findN]
    by_cases h : b = c
    · subst h
      rw [if_pos (by simp), if_pos rfl, if_neg (by simp)]
      rfl
    · rw [if_neg (by simpa using h), if_neg h, ih]
      by_cases e : findN c l = l.length
      · rw [if_pos e, if_pos (show findN c l + 1 = (b :: l).length by simp [e])]
        rfl
      · rw [if_neg e]
        rw [if_neg (by rw [beq_iff_eq]; omega), if_neg (by simp only [List.length_cons]; omega)]
        omega
theorem slindex_any (s : List UInt8) (c : UInt8) (w : World) :
    Calls Tryd.prog 105 #[Sv s, Sv [c]] w fun e w' => e = .returned (.int .i64 (if findN c s = s.length then -1 else (findN c s : Int))) ∧ w' = w := by
  rw [← indexByte_find]
  exact Any.stringslite_Index_one Tryd.lays219 ⟨s.toArray⟩ c w
theorem sindex_any (s : List UInt8) (c : UInt8) (w : World) :
    Calls Tryd.prog 100 #[Sv s, Sv [c]] w fun e w' => e = .returned (.int .i64 (if findN c s = s.length then -1 else (findN c s : Int))) ∧ w' = w := by
  rw [← indexByte_find]
  exact Any.strings_Index_one Tryd.lays143 ⟨s.toArray⟩ c w
/-- What strings.Cut gives at one byte. -/
def cutOut (c : UInt8) (s : List UInt8) : Value := .tuple #[Sv (s.take (findN c s)), Sv (s.drop (findN c s + 1)), .bool (decide (findN c s < s.length))]
set_option maxRecDepth 100000 in
set_option maxHeartbeats 1000000 in
theorem slcut_any (s : List UInt8) (c : UInt8) (w : World) (hs : s.length ≤ 4611686018427387904) :
    Calls Tryd.prog 88 #[Sv s, Sv [c]] w fun e w' => e = .returned (cutOut c s) ∧ Below w.heap.size w w' := by
  have hle := findN_le c s
  by_cases h : findN c s = s.length
  · have HO := hid (show cutOut c s = .tuple #[Sv s, Sv [], .bool false] by
      unfold cutOut
      rw [h, List.take_length, List.drop_eq_nil_of_le (by omega), show decide (s.length < s.length) = false by simp])
    have hix := slindex_any s c
    rw [if_pos h] at hix
    clear h
    go_enter Tryd.func88, Tryd.ntmps88
    go_wp2_with fail
    refine (hix _).mono ?_; rintro e w1 ⟨rfl, rfl⟩
    go_wp2_with fail
    refine bodyPost_ret (results_tmp3 rfl _ _ _) rfl ?_
    exact ⟨by rw [HO.out]; rfl, Below.refl _ _⟩
  · obtain ⟨k, hk⟩ : ∃ k, findN c s = k := ⟨_, rfl⟩
    have HO := hid (show cutOut c s = .tuple #[Sv (s.take k), Sv (s.drop (k + 1)), .bool true] by
      unfold cutOut
      rw [hk, show decide (k < s.length) = true by simp; omega])
    have hix := slindex_any s c
    rw [if_neg h, hk] at hix
    have hkl : k < s.length := by omega
    clear h hk hle
    go_enter Tryd.func88, Tryd.ntmps88
    go_wp2_with fail
    refine (hix _).mono ?_; rintro e w1 ⟨rfl, rfl⟩
    go_wp2_with fail
    go_region
    go_wp2_with fail
    refine bodyPost_ret (results_tmp3 rfl _ _ _) rfl ?_
    exact ⟨by rw [HO.out]; rfl, below_drewN (Below.refl _ _) _⟩
set_option maxRecDepth 100000 in
set_option maxHeartbeats 1000000 in
theorem scut_any (s : List UInt8) (c : UInt8) (w : World) (hs : s.length ≤ 4611686018427387904) :
    Calls Tryd.prog 57 #[Sv s, Sv [c]] w fun e w' => e = .returned (cutOut c s) ∧ Below w.heap.size w w' := by
  have h := slcut_any s c
  unfold cutOut at h ⊢
  go_enter Tryd.func57, Tryd.ntmps57
  go_wp2_with fail
  refine (h _ hs).mono ?_; rintro e w1 ⟨rfl, hb⟩
  go_wp2_with fail
  refine bodyPost_ret (results_tmp3 rfl _ _ _) rfl ?_
  exact ⟨rfl, hb⟩
theorem scount_any (s : ByteArray) (c : UInt8) (w : World) :
    Calls Tryd.prog 99 #[.string s, .string ⟨#[c]⟩] w fun e w' => e = .returned (.int .i64 (Lib.countB s ⟨#[c]⟩)) ∧ w' = w := by
  refine Calls.mono (Any.strings_Count_one Tryd.lays138 s c w) fun e w' ⟨he, hw⟩ => ⟨?_, hw⟩
  rw [he]
  show _ = Ending.returned (Value.int .i64 ((Lib.count s.data.toList [c] : Nat) : Int))
  rw [Lib.count_one]
  rfl
theorem sgen_any (s : ByteArray) (c : UInt8) (w : World) (hs : s.size < 4294967281) :
    Calls Tryd.prog 80 #[.string s, .string ⟨#[c]⟩, .int .i64 0, .int .i64 (-1)] w fun e w' =>
      e = .returned (.slice (some ⟨w.heap.size, 0, none⟩) (Lib.countB s ⟨#[c]⟩ + 1) (Lib.countB s ⟨#[c]⟩ + 1)) ∧ w' = w.alloc (.cells ((Lib.splitB ⟨#[c]⟩ 0 (Lib.countB s ⟨#[c]⟩) s).map Value.string).toArray 9) := by
  have h1 : 1 ≤ (⟨#[c]⟩ : ByteArray).size := Nat.le_refl _
  have hle := Lib.countB_le ⟨#[c]⟩ h1 s.size s (Nat.le_refl _)
  have hlen := Lib.splitB_all ⟨#[c]⟩ h1 0 _ s rfl
  have q := Any.strings_genSplit_core Tryd.lays221 (by kernel_rfl) s ⟨#[c]⟩ 0 (-1) (Lib.countB s ⟨#[c]⟩ + 1) w hs h1 (Nat.zero_le _)
    (fun x cs _ => Calls.mono (Any.strings_Index_one Tryd.lays143 x c _) (fun e w' ⟨he, hw⟩ => ⟨by
      rw [he]
      have e1 : Lib.indexByte x.data.toList c = Lib.indexB x ⟨#[c]⟩ := (indexByte_find c _).trans (index_find c _).symm
      rw [e1], hw⟩))
    (scount_any s c w) (by decide) (by decide) (by rw [if_pos (by decide)]; omega)
  rw [Nat.add_sub_cancel, hlen] at q
  have e2 : Lib.cellsOf (Lib.splitB ⟨#[c]⟩ 0 (Lib.countB s ⟨#[c]⟩) s) (Lib.countB s ⟨#[c]⟩ + 1) = ((Lib.splitB ⟨#[c]⟩ 0 (Lib.countB s ⟨#[c]⟩) s).map Value.string).toArray := by rw [← hlen]; exact Lib.cellsOf_full _
  rw [e2] at q
  exact q
theorem map_Sv (L : List ByteArray) : L.map Value.string = (L.map (·.data.toList)).map Sv := by
  rw [List.map_map]
  rfl
set_option maxRecDepth 100000 in
set_option maxHeartbeats 1000000 in
set_option maxRecDepth 100000 in
/-- strings.Split, at one byte. -/
theorem ssplit_any (s : List UInt8) (c : UInt8) (w : World) (hs : s.length < 4294967281) :
    Calls Tryd.prog 55 #[Sv s, Sv [c]] w fun e w' => e = .returned (.slice (some ⟨w.heap.size, 0, none⟩) (cutB c s).length (cutB c s).length) ∧ w' = w.alloc (.cells ((cutB c s).map Sv).toArray 9) := by
  have q := sgen_any ⟨s.toArray⟩ c w (by simpa [ByteArray.size] using hs)
  have e1 : (Lib.splitB ⟨#[c]⟩ 0 (Lib.countB ⟨s.toArray⟩ ⟨#[c]⟩) ⟨s.toArray⟩).map (·.data.toList) = cutB c s := splitB_cut c ⟨s.toArray⟩
  have e2 : Lib.countB ⟨s.toArray⟩ ⟨#[c]⟩ + 1 = (cutB c s).length := by
    rw [← e1, List.length_map]
    exact (Lib.splitB_all ⟨#[c]⟩ (Nat.le_refl _) 0 _ ⟨s.toArray⟩ rfl).symm
  rw [map_Sv, e1, e2] at q
  clear e1 e2 hs
  have q' : Calls Tryd.prog 80 #[Sv s, Sv [c], .int .i64 0, .int .i64 (-1)] w fun e w' => e = .returned (.slice (some ⟨w.heap.size, 0, none⟩) (cutB c s).length (cutB c s).length) ∧ w' = w.alloc (.cells ((cutB c s).map Sv).toArray 9) := q
  generalize (cutB c s).length = n at q' ⊢
  generalize ((cutB c s).map Sv).toArray = cs at q' ⊢
  clear q
  go_enter Tryd.func55, Tryd.ntmps55
  go_wp2_with fail
  refine q'.mono ?_; rintro e w1 ⟨rfl, hw⟩
  rw [hw]
  go_wp2_with fail
  go_ret
  exact ⟨rfl, rfl⟩
/-- strings.Trim at blanks. -/
theorem strim_any (s : List UInt8) (w : World) (hs : s.length ≤ 9223372036854775807) :
    Calls Tryd.prog 56 #[Sv s, Sv [32, 9]] w fun e w' => e = .returned (Sv (trimB s)) ∧ Below w.heap.size w w' := by
  have q := Any.strings_Trim_laid Tryd.lays160 (by kernel_rfl) ⟨s.toArray⟩ ⟨#[32, 9]⟩ w (by simpa [ByteArray.size] using hs) (by decide) (fun j b hb => by
    have : b ∈ ([32, 9] : List UInt8) := List.mem_of_getElem? hb
    simp only [List.mem_cons, List.not_mem_nil, or_false] at this
    rcases this with rfl | rfl <;> decide)
  rw [← trimS_eq]
  exact q
/-- strings.Join. -/
theorem sjoin_any (g cap : Nat) (xs : List (List UInt8)) (sep : List UInt8) (w : World) (hc : ∀ (j : Nat) x, xs[j]? = some x → w.cell? ⟨g, j, none⟩ = some (Sv x)) (hg : g < w.heap.size) (hN : xs.length ≤ 140737488355328) (hcap : xs.length ≤ cap) (hlen : (Lib.join xs sep).length ≤ 140737488355328) :
    Calls Tryd.prog 68 #[.slice (some ⟨g, 0, none⟩) xs.length cap, Sv sep] w fun e w' => e = .returned (Sv (Lib.join xs sep)) ∧ Below w.heap.size w w' := by
  have e0 : (xs.map fun x => (⟨x.toArray⟩ : ByteArray)).map (·.data.toList) = xs := by
    rw [List.map_map]
    exact List.map_id'' (fun _ => rfl) xs
  have q := Any.strings_Join Tryd.lays156 Tryd.Builder_Extra_156 g 0 cap (xs.map fun x => ⟨x.toArray⟩) ⟨sep.toArray⟩ w (fun j x hx => by
    rw [List.getElem?_map] at hx
    cases hj : xs[j]? with
    | none => rw [hj] at hx; cases hx
    | some y =>
      rw [hj] at hx
      obtain rfl := Option.some.inj hx
      rw [Nat.zero_add]
      exact hc j y hj) hg (by simpa using hN) (by simpa using hcap) (by rw [e0]; exact hlen)
  rw [e0, List.length_map] at q
  exact q
theorem sjoin_none (a : Option Addr) (cap : Nat) (sep : List UInt8) (w : World) :
    Calls Tryd.prog 68 #[.slice a 0 cap, Sv sep] w fun e w' => e = .returned (Sv []) ∧ w' = w := Any.strings_Join_none Tryd.lays156 Tryd.Builder_Extra_156 a cap ⟨sep.toArray⟩ w
end Go.Proofs.YtgfdmdikiickpaaDoor
