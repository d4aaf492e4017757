/-
  Texts cut at a byte, as plain functions.
-/
import Derived.Test.YtgfdmdikiickpaaDoorBase
import Derived.Lib.SplitLaws
namespace Go.Proofs.YtgfdmdikiickpaaDoor

theorem u8_all {p : UInt8 → Prop} (h : ∀ n : Fin 256, p (UInt8.ofNat n.val)) (b : UInt8) : p b := by
  have := h ⟨b.toNat, b.toNat_lt⟩
  simpa using this
/-- A text, cut at each c. -/
def cutB (c : UInt8) : List UInt8 → List (List UInt8)
  | [] => [[]]
  | x :: r => if x = c then [] :: cutB c r else (x :: (cutB c r).headD []) :: (cutB c r).tail
def glue (cur : List UInt8) (L : List (List UInt8)) : List (List UInt8) := (cur ++ L.headD []) :: L.tail
theorem cutB_eq (c : UInt8) (r : List UInt8) : cutB c (c :: r) = [] :: cutB c r := by
  show (if c = c then _ else _) = _
  rw [if_pos rfl]
theorem cutB_cons {x c : UInt8} (h : x ≠ c) (r : List UInt8) : cutB c (x :: r) = (x :: (cutB c r).headD []) :: (cutB c r).tail := by
  show (if x = c then _ else _) = _
  rw [if_neg h]
theorem cutB_ne (c : UInt8) (s : List UInt8) : cutB c s ≠ [] := by
  cases s with
  | nil => simp [cutB]
  | cons x r => unfold cutB; split <;> simp
theorem glue_nil {L : List (List UInt8)} (h : L ≠ []) : glue [] L = L := by
  cases L with
  | nil => exact absurd rfl h
  | cons a t => rfl
theorem glue_eq (c : UInt8) (cur r : List UInt8) : glue cur (cutB c (c :: r)) = cur :: glue [] (cutB c r) := by
  rw [glue_nil (cutB_ne c r), cutB_eq]
  simp [glue]
theorem glue_ne {x c : UInt8} (h : x ≠ c) (cur r : List UInt8) : glue cur (cutB c (x :: r)) = glue (cur ++ [x]) (cutB c r) := by
  rw [cutB_cons h]
  simp [glue]
theorem glue_end (c : UInt8) (cur : List UInt8) : glue cur (cutB c []) = [cur] := by simp [glue, cutB]
theorem splitK_cons_ne {b c : UInt8} (h : b ≠ c) (k : Nat) (l : List UInt8) : Lib.splitK [c] 0 k (b :: l) = (b :: (Lib.splitK [c] 0 k l).headD []) :: (Lib.splitK [c] 0 k l).tail := by
  cases k with
  | zero => rfl
  | succ k =>
    have hp : ([c] : List UInt8).isPrefixOf (b :: l) = false := by simp [List.isPrefixOf, Ne.symm h]
    have hix : Lib.index (b :: l) [c] = if Lib.index l [c] == -1 then -1 else Lib.index l [c] + 1 := by rw [Lib.index, hp]; simp
    have hge := Lib.index_ge l [c]
    unfold Lib.splitK
    rw [hix]
    by_cases hm : Lib.index l [c] = -1
    · rw [hm]; simp
    · obtain ⟨j, hj⟩ : ∃ j : Nat, Lib.index l [c] = j := ⟨(Lib.index l [c]).toNat, by omega⟩
      rw [hj]
      have e1 : (((j : Nat) : Int) == -1) = false := by rw [beq_eq_false_iff_ne]; omega
      have e2 : (((j : Nat) : Int) + 1 == -1) = false := by rw [beq_eq_false_iff_ne]; omega
      have e3 : (((j : Nat) : Int) + 1).toNat = j + 1 := by omega
      simp [e1, e2, e3]
theorem splitK_cut (c : UInt8) : ∀ s : List UInt8, Lib.splitK [c] 0 (Lib.count s [c]) s = cutB c s
  | [] => by rw [Lib.count_one]; rfl
  | b :: l => by
    by_cases h : b = c
    · subst h
      rw [Lib.count_cons_eq, Nat.add_comm]
      have hix : Lib.index (b :: l) [b] = 0 := by rw [Lib.index]; simp [List.isPrefixOf]
      unfold Lib.splitK
      rw [hix]
      rw [cutB_eq]
      have := splitK_cut b l
      simpa using this
    · rw [Lib.count_cons_ne b c l h, splitK_cons_ne h, splitK_cut c l, cutB_cons h]
/-- What strings.Split gives, at one byte. -/
theorem splitB_cut (c : UInt8) (s : ByteArray) : (Lib.splitB ⟨#[c]⟩ 0 (Lib.countB s ⟨#[c]⟩) s).map (·.data.toList) = cutB c s.data.toList := by
  rw [Lib.splitB_data]
  exact splitK_cut c _
theorem cutB_length (c : UInt8) : ∀ s : List UInt8, (cutB c s).length ≤ s.length + 1
  | [] => by simp [cutB]
  | x :: r => by
    have := cutB_length c r
    unfold cutB
    split
    · simp only [List.length_cons]; omega
    · simp only [List.length_cons, List.length_tail]; omega
theorem cutB_flat (c : UInt8) : ∀ s : List UInt8, ∀ p ∈ cutB c s, p.length ≤ s.length
  | [], p, hp => by simp [cutB] at hp; simp [hp]
  | x :: r, p, hp => by
    have ih := cutB_flat c r
    unfold cutB at hp
    split at hp
    · rcases List.mem_cons.1 hp with rfl | hp
      · simp
      · have := ih p hp; simp only [List.length_cons]; omega
    · rcases List.mem_cons.1 hp with rfl | hp
      · cases hq : cutB c r with
        | nil => exact absurd hq (cutB_ne c r)
        | cons a t =>
          have := ih a (by rw [hq]; simp)
          simp only [List.headD_cons, List.length_cons]; omega
      · have := ih p (List.mem_of_mem_tail hp)
        simp only [List.length_cons]; omega
theorem cutB_none {c : UInt8} : ∀ {s : List UInt8}, c ∉ s → cutB c s = [s]
  | [], _ => rfl
  | x :: r, h => by
    have hx : x ≠ c := fun e => h (by simp [e])
    have hr := cutB_none (s := r) (fun e => h (List.mem_cons_of_mem _ e))
    rw [cutB_cons hx, hr]; rfl
theorem cutB_app {c : UInt8} : ∀ {a : List UInt8}, c ∉ a → ∀ b : List UInt8, cutB c (a ++ c :: b) = a :: cutB c b
  | [], _, b => by simp [cutB]
  | x :: r, h, b => by
    have hx : x ≠ c := fun e => h (by simp [e])
    have hr := cutB_app (a := r) (fun e => h (List.mem_cons_of_mem _ e)) b
    rw [List.cons_append, cutB_cons hx, hr]; rfl
end Go.Proofs.YtgfdmdikiickpaaDoor
