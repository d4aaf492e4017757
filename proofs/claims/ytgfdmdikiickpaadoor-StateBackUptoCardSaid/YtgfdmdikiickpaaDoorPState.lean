/-
  Chapter 44 as plain functions: keys, values, members, a header's text.
-/
import Derived.Test.YtgfdmdikiickpaaDoorPSplit
import Derived.Test.YtgfdmdikiickpaaDoorPHexa
import Derived.Lib.SlTrimSet
import Derived.Lib.Join
namespace Go.Proofs.YtgfdmdikiickpaaDoor

def lowK (b : Int) : Bool := decide (97 ≤ b) && decide (b ≤ 122)
def numK (b : Int) : Bool := decide (48 ≤ b) && decide (b ≤ 57)
def inKeyB (b : Int) : Bool := lowK b || (numK b || (b == 95 || (b == 45 || (b == 42 || b == 47))))
def inValB (b : Int) : Bool := decide (32 ≤ b) && (decide (b ≤ 126) && (!(b == 44) && !(b == 61)))
def allP (f : Int → Bool) (s : List UInt8) : Bool := s.all fun b => f (bi b)
def allB (f : Int → Bool) (s : List UInt8) (n : Int) : Bool := allP f s && (decide (1 ≤ s.length) && decide ((s.length : Int) ≤ n))
theorem allP_drop (f : Int → Bool) (l : List UInt8) (k : Nat) (h : k < l.length) : allP f (l.drop k) = (f (byteAt l k) && allP f (l.drop (k + 1))) := by
  unfold allP
  rw [List.drop_eq_getElem_cons h, List.all_cons, byteAt_getElem l k h]
def findN (c : UInt8) : List UInt8 → Nat
  | [] => 0
  | b :: l => if b = c then 0 else findN c l + 1
theorem findN_le (c : UInt8) : ∀ l, findN c l ≤ l.length
  | [] => Nat.le_refl _
  | b :: l => by
    have := findN_le c l
    unfold findN
    split
    · simp
    · simp only [List.length_cons]; omega
theorem findN_drop (c : UInt8) (l : List UInt8) (k : Nat) (h : k < l.length) : findN c (l.drop k) = if byteAt l k = bi c then 0 else findN c (l.drop (k + 1)) + 1 := by
  rw [List.drop_eq_getElem_cons h, findN, byteAt_getElem l k h]
  by_cases e : l[k] = c
  · rw [if_pos e, if_pos (by rw [e])]
  · rw [if_neg e, if_neg (fun q => e (bi_inj q))]
theorem index_find (c : UInt8) : ∀ l : List UInt8, Lib.index l [c] = if findN c l = l.length then -1 else (findN c l : Int)
  | [] => rfl
  | b :: l => by
    have ih := index_find c l
    have hle := findN_le c l
    rw [Lib.index, findN]
    by_cases h : b = c
    · subst h
      rw [if_pos (by simp [List.isPrefixOf]), if_pos rfl, if_neg (by simp)]
      rfl
    · rw [if_neg (by simp [List.isPrefixOf, Ne.symm h]), if_neg h, ih]
      by_cases e : findN c l = l.length
      · rw [if_pos e, if_pos (show findN c l + 1 = (b :: l).length by simp [e])]
        rfl
      · rw [if_neg e]
        rw [if_neg (by rw [beq_iff_eq]; omega), if_neg (by simp only [List.length_cons]; omega)]
        omega
theorem cut_find (c : UInt8) (l : List UInt8) : Lib.cut l [c] = if findN c l = l.length then (l, [], false) else (l.take (findN c l), l.drop (findN c l + 1), true) := by
  unfold Lib.cut
  rw [index_find]
  by_cases e : findN c l = l.length
  · rw [if_pos e, if_pos e, if_neg (by omega)]
  · rw [if_neg e, if_neg e, if_pos (by omega)]
    simp
theorem findN_none {c : UInt8} : ∀ {l : List UInt8}, c ∉ l → findN c l = l.length
  | [], _ => rfl
  | b :: l, h => by
    rw [findN, if_neg (fun e => h (by simp [e])), findN_none (fun q => h (List.mem_cons_of_mem _ q))]
    rfl
theorem findN_app {c : UInt8} : ∀ {a : List UInt8}, c ∉ a → ∀ b, findN c (a ++ c :: b) = a.length
  | [], _, b => by simp [findN]
  | x :: a, h, b => by
    rw [List.cons_append, findN, if_neg (fun e => h (by simp [e])), findN_app (fun q => h (List.mem_cons_of_mem _ q))]
    rfl
def keyB (s : List UInt8) : Bool :=
  if findN 64 s = s.length then allB inKeyB s 256 && lowK (byteAt s 0)
  else (allB inKeyB (s.take (findN 64 s)) 241 && (lowK (byteAt (s.take (findN 64 s)) 0) || numK (byteAt (s.take (findN 64 s)) 0))) && (allB inKeyB (s.drop (findN 64 s + 1)) 14 && lowK (byteAt (s.drop (findN 64 s + 1)) 0))
def valB (s : List UInt8) : Bool := allB inValB s 256 && !(byteAt s (s.length - 1) == 32)
def blanks : List UInt8 := [32, 9]
def blankB (b : UInt8) : Bool := blanks.contains b
def ldrop (s : List UInt8) : List UInt8 := s.dropWhile blankB
def rdrop (s : List UInt8) : List UInt8 := (s.reverse.dropWhile blankB).reverse
def trimB (s : List UInt8) : List UInt8 := rdrop (ldrop s)
theorem rdrop_cons (x : UInt8) (r : List UInt8) : rdrop (x :: r) = if rdrop r = [] then (if blankB x = true then [] else [x]) else x :: rdrop r := by
  unfold rdrop
  rw [List.reverse_cons, List.dropWhile_append]
  by_cases h : r.reverse.dropWhile blankB = []
  · rw [h]
    simp only [List.isEmpty_nil, if_true, List.reverse_nil]
    by_cases q : blankB x = true <;> simp [List.dropWhile, q]
  · have : (List.dropWhile blankB r.reverse).isEmpty = false := by simpa using h
    rw [this]
    simp [h]
theorem rdrop_len : ∀ s : List UInt8, (rdrop s).length ≤ s.length
  | [] => Nat.le_refl _
  | x :: r => by
    have := rdrop_len r
    rw [rdrop_cons]
    split
    · split <;> simp
    · simp only [List.length_cons]; omega
theorem ldrop_len (s : List UInt8) : (ldrop s).length ≤ s.length := (List.dropWhile_suffix _).length_le
theorem trimB_len (s : List UInt8) : (trimB s).length ≤ s.length := Nat.le_trans (rdrop_len _) (ldrop_len _)
theorem rdrop_all : ∀ {s : List UInt8}, ldrop s = [] → rdrop s = []
  | [], _ => rfl
  | x :: r, h => by
    unfold ldrop at h
    rw [List.dropWhile_cons] at h
    split at h
    · rename_i hx
      rw [rdrop_cons, rdrop_all (s := r) h, if_pos rfl, if_pos hx]
    · cases h
theorem ldrop_all : ∀ {s : List UInt8}, rdrop s = [] → ldrop s = []
  | [], _ => rfl
  | x :: r, h => by
    rw [rdrop_cons] at h
    split at h
    · rename_i hr
      split at h
      · rename_i hx
        unfold ldrop
        rw [List.dropWhile_cons, if_pos hx]
        exact ldrop_all hr
      · cases h
    · cases h
theorem trim_comm : ∀ s : List UInt8, ldrop (rdrop s) = rdrop (ldrop s)
  | [] => rfl
  | x :: r => by
    have ih := trim_comm r
    by_cases hx : blankB x = true
    · have e1 : ldrop (x :: r) = ldrop r := by unfold ldrop; rw [List.dropWhile_cons, if_pos hx]
      rw [e1, rdrop_cons]
      split
      · rename_i hr
        first
        | (rw [if_pos hx, ldrop_all hr]; rfl)
        | (rw [ldrop_all hr]; rfl)
      · show ldrop (x :: rdrop r) = _
        have e2 : ldrop (x :: rdrop r) = ldrop (rdrop r) := by unfold ldrop; rw [List.dropWhile_cons, if_pos hx]
        rw [e2, ih]
    · have e1 : ldrop (x :: r) = x :: r := by unfold ldrop; rw [List.dropWhile_cons, if_neg hx]
      have keep : ∀ t, ldrop (x :: t) = x :: t := fun t => by unfold ldrop; rw [List.dropWhile_cons, if_neg hx]
      rw [e1, rdrop_cons]
      split
      · first | (rw [if_neg hx]; exact keep []) | exact keep []
      · exact keep _
theorem trimS_eq (s : List UInt8) : Lib.trimS s [32, 9] = trimB s := trim_comm s
theorem ldrop_drop (l : List UInt8) (k : Nat) (h : k < l.length) : ldrop (l.drop k) = if blankB (l[k]) = true then ldrop (l.drop (k + 1)) else l.drop k := by
  rw [List.drop_eq_getElem_cons h]
  unfold ldrop
  rw [List.dropWhile_cons]
theorem rdrop_take (l : List UInt8) (k : Nat) (h : k < l.length) : rdrop (l.take (k + 1)) = if blankB (l[k]) = true then rdrop (l.take k) else l.take (k + 1) := by
  unfold rdrop
  have e : (l.take (k + 1)).reverse = l[k] :: (l.take k).reverse := by
    rw [List.take_succ_eq_append_getElem h, List.reverse_append]; rfl
  rw [e, List.dropWhile_cons]
  split
  · rfl
  · rw [← e, List.reverse_reverse]
theorem blankB_eq (b : UInt8) : blankB b = (bi b == 32 || bi b == 9) := by
  exact u8_all (p := fun b => blankB b = (bi b == 32 || bi b == 9)) (by decide +kernel) b
/-! Members. -/
abbrev Mb := List UInt8 × List UInt8
def hasM (L : List Mb) (key : List UInt8) : Bool := L.any fun m => m.1 == key
def getM (L : List Mb) (key : List UInt8) : List UInt8 := ((L.find? fun m => m.1 == key).map (·.2)).getD []
def stepS (acc : List Mb) (p : List UInt8) : List Mb × Int :=
  if trimB p = [] then (acc, 0)
  else if findN 61 (trimB p) = (trimB p).length ∨ keyB ((trimB p).take (findN 61 (trimB p))) = false ∨ valB ((trimB p).drop (findN 61 (trimB p) + 1)) = false then ([], 3)
  else if hasM acc ((trimB p).take (findN 61 (trimB p))) = true then ([], 8)
  else if acc.length = 32 then ([], 34)
  else (acc ++ [((trimB p).take (findN 61 (trimB p)), (trimB p).drop (findN 61 (trimB p) + 1))], 0)
def readP : List (List UInt8) → List Mb → List Mb × Int
  | [], acc => (acc, 0)
  | p :: ps, acc => if (stepS acc p).2 = 0 then readP ps (stepS acc p).1 else stepS acc p
def readS (s : List UInt8) : List Mb × Int := readP (cutB 44 s) []
def memT (m : Mb) : List UInt8 := m.1 ++ 61 :: m.2
def textS (L : List Mb) : List UInt8 := Lib.join (L.map memT) [44]
def putS (L : List Mb) (key value : List UInt8) : List Mb × Int :=
  if keyB key = true ∧ valB value = true then ((key, value) :: (L.filter fun m => !(m.1 == key)).take 31, 0) else ([], 3)
structure GoodM (L : List Mb) : Prop where
  all : ∀ m ∈ L, keyB m.1 = true ∧ valB m.2 = true
  len : L.length ≤ 32
  nod : (L.map (·.1)).Nodup
theorem GoodM.nil : GoodM [] := ⟨by simp, by simp, by simp⟩
theorem hasM_iff (L : List Mb) (key : List UInt8) : hasM L key = true ↔ key ∈ L.map (·.1) := by
  unfold hasM
  rw [List.any_eq_true]
  constructor
  · rintro ⟨m, hm, e⟩
    rw [beq_iff_eq] at e
    exact List.mem_map.2 ⟨m, hm, e⟩
  · intro h
    obtain ⟨m, hm, e⟩ := List.mem_map.1 h
    exact ⟨m, hm, by rw [beq_iff_eq]; exact e⟩
theorem stepS_good {acc : List Mb} (h : GoodM acc) (p : List UInt8) (h0 : (stepS acc p).2 = 0) : GoodM (stepS acc p).1 := by
  unfold stepS at h0 ⊢
  split
  · exact h
  · rename_i c1
    rw [if_neg c1] at h0
    split
    · rename_i c2; rw [if_pos c2] at h0; exact absurd h0 (by decide)
    · rename_i c2
      rw [if_neg c2] at h0
      split
      · rename_i c3; rw [if_pos c3] at h0; exact absurd h0 (by decide)
      · rename_i c3
        rw [if_neg c3] at h0
        split
        · rename_i c4; rw [if_pos c4] at h0; exact absurd h0 (by decide)
        · rename_i c4
          have hl := h.len
          refine ⟨fun m hm => ?_, by simp only [List.length_append, List.length_cons, List.length_nil]; omega, ?_⟩
          · rcases List.mem_append.1 hm with hm | hm
            · exact h.all m hm
            · obtain rfl := List.mem_singleton.1 hm
              constructor
              · exact Classical.byContradiction fun q => c2 (.inr (.inl (by simpa using q)))
              · exact Classical.byContradiction fun q => c2 (.inr (.inr (by simpa using q)))
          · rw [List.map_append, List.nodup_append]
            refine ⟨h.nod, by simp, ?_⟩
            intro a ha b hb e
            subst e
            simp only [List.map_cons, List.map_nil, List.mem_singleton] at hb
            subst hb
            exact c3 ((hasM_iff _ _).2 ha)
theorem readP_good : ∀ (ps : List (List UInt8)) {acc : List Mb}, GoodM acc → (readP ps acc).2 = 0 → GoodM (readP ps acc).1
  | [], acc, h, _ => h
  | p :: ps, acc, h, h0 => by
    unfold readP at h0 ⊢
    by_cases c : (stepS acc p).2 = 0
    · rw [if_pos c] at h0 ⊢
      exact readP_good ps (stepS_good h p c) h0
    · rw [if_neg c] at h0
      exact absurd h0 c
theorem readS_good {s : List UInt8} (h : (readS s).2 = 0) : GoodM (readS s).1 := readP_good _ GoodM.nil h
theorem stepS_bad {acc : List Mb} {p : List UInt8} (h : (stepS acc p).2 ≠ 0) : (stepS acc p).1 = [] := by
  unfold stepS at h ⊢
  split
  · rename_i c; rw [if_pos c] at h; exact absurd rfl h
  · rename_i c; rw [if_neg c] at h
    split
    · rfl
    · rename_i c; rw [if_neg c] at h
      split
      · rfl
      · rename_i c; rw [if_neg c] at h
        split
        · rfl
        · rename_i c; rw [if_neg c] at h; exact absurd rfl h
theorem readP_bad : ∀ (ps : List (List UInt8)) {acc : List Mb}, (readP ps acc).2 ≠ 0 → (readP ps acc).1 = []
  | [], acc, h => absurd rfl h
  | p :: ps, acc, h => by
    unfold readP at h ⊢
    by_cases c : (stepS acc p).2 = 0
    · rw [if_pos c] at h ⊢; exact readP_bad ps h
    · rw [if_neg c] at h ⊢; exact stepS_bad c
theorem readS_bad {s : List UInt8} (h : (readS s).2 ≠ 0) : (readS s).1 = [] := readP_bad _ h
/-! What is good comes back of its text. -/
theorem allP_mem {f : Int → Bool} {s : List UInt8} (h : allP f s = true) {b : UInt8} (hb : b ∈ s) : f (bi b) = true := by
  unfold allP at h
  exact List.all_eq_true.1 h b hb
theorem allB_of {f : Int → Bool} {s : List UInt8} {n : Int} (h : allB f s n = true) : allP f s = true ∧ 1 ≤ s.length ∧ (s.length : Int) ≤ n := by
  unfold allB at h
  simpa [Bool.and_eq_true] using h
theorem keyB_mem {s : List UInt8} (h : keyB s = true) {b : UInt8} (hb : b ∈ s) : inKeyB (bi b) = true ∨ b = 64 := by
  unfold keyB at h
  split at h
  · rw [Bool.and_eq_true] at h
    exact .inl (allP_mem (allB_of h.1).1 hb)
  · rename_i c
    simp only [Bool.and_eq_true] at h
    have e : s = s.take (findN 64 s) ++ s.drop (findN 64 s) := (List.take_append_drop _ _).symm
    rw [e, List.mem_append] at hb
    rcases hb with hb | hb
    · exact .inl (allP_mem (allB_of h.1.1).1 hb)
    · have hlt : findN 64 s < s.length := by have := findN_le 64 s; omega
      rw [List.drop_eq_getElem_cons hlt, List.mem_cons] at hb
      rcases hb with hb | hb
      · right
        have key : ∀ (l : List UInt8) (h : findN 64 l < l.length), l[findN 64 l] = 64 := by
          intro l
          induction l with
          | nil => intro h; exact absurd h (by simp [findN])
          | cons x r ih =>
            intro h
            by_cases q : x = 64
            · have : findN 64 (x :: r) = 0 := by rw [findN, if_pos q]
              simp only [this, List.getElem_cons_zero]; exact q
            · have e : findN 64 (x :: r) = findN 64 r + 1 := by rw [findN, if_neg q]
              have h' : findN 64 r < r.length := by rw [e] at h; simpa using h
              simp only [e, List.getElem_cons_succ]
              exact ih h'
        rw [hb]; exact key s hlt
      · exact .inl (allP_mem (allB_of h.2.1).1 hb)
theorem keyB_first {s : List UInt8} (h : keyB s = true) : ∃ b r, s = b :: r ∧ (lowK (bi b) = true ∨ numK (bi b) = true) := by
  unfold keyB at h
  split at h
  · rw [Bool.and_eq_true] at h
    obtain ⟨_, h1, _⟩ := allB_of h.1
    cases s with
    | nil => exact absurd h1 (by simp)
    | cons b r => exact ⟨b, r, rfl, .inl h.2⟩
  · simp only [Bool.and_eq_true, Bool.or_eq_true] at h
    obtain ⟨_, h1, _⟩ := allB_of h.1.1
    have h2 := h.1.2
    cases s with
    | nil => exact absurd h1 (by simp)
    | cons b r =>
      cases hk : findN 64 (b :: r) with
      | zero => rw [hk] at h1; exact absurd h1 (by simp)
      | succ k =>
        rw [hk] at h2
        exact ⟨b, r, rfl, h2⟩
theorem noKey (b : UInt8) (hb : b = 44 ∨ b = 61) : inKeyB (bi b) = false ∧ b ≠ 64 := by rcases hb with rfl | rfl <;> decide
theorem key_none {s : List UInt8} (h : keyB s = true) (c : UInt8) (hc : c = 44 ∨ c = 61) : c ∉ s := by
  intro hm
  rcases keyB_mem h hm with q | q
  · rw [(noKey c hc).1] at q; cases q
  · exact (noKey c hc).2 q
theorem val_none {s : List UInt8} (h : valB s = true) : (44 : UInt8) ∉ s := by
  intro hm
  unfold valB at h
  rw [Bool.and_eq_true] at h
  have := allP_mem (allB_of h.1).1 hm
  revert this; decide
theorem memT_nocomma {m : Mb} (h1 : keyB m.1 = true) (h2 : valB m.2 = true) : (44 : UInt8) ∉ memT m := by
  unfold memT
  rw [List.mem_append, List.mem_cons]
  rintro (h | h | h)
  · exact key_none h1 44 (.inl rfl) h
  · exact absurd h (by decide)
  · exact val_none h2 h
theorem val_last {s : List UInt8} (h : valB s = true) : ∃ r b, s = r ++ [b] ∧ blankB b = false := by
  unfold valB at h
  rw [Bool.and_eq_true] at h
  obtain ⟨ha, h1, _⟩ := allB_of h.1
  have hs : s ≠ [] := by rintro rfl; exact absurd h1 (by simp)
  refine ⟨s.dropLast, s.getLast hs, (List.dropLast_concat_getLast hs).symm, ?_⟩
  have hin := allP_mem ha (List.getLast_mem hs)
  have hb : byteAt s (s.length - 1) = bi (s.getLast hs) := by
    rw [byteAt_getElem s _ (by omega), List.getLast_eq_getElem]
  have h2 := h.2
  rw [hb] at h2
  rw [blankB_eq]
  simp only [Bool.not_eq_true', beq_eq_false_iff_ne] at h2
  simp only [inValB, Bool.and_eq_true, decide_eq_true_eq] at hin
  simp only [Bool.or_eq_false_iff, beq_eq_false_iff_ne]
  omega
theorem rdrop_snoc {r : List UInt8} {b : UInt8} (h : blankB b = false) : rdrop (r ++ [b]) = r ++ [b] := by
  unfold rdrop
  rw [List.reverse_append]
  simp [h]
theorem trim_mem {m : Mb} (h1 : keyB m.1 = true) (h2 : valB m.2 = true) : trimB (memT m) = memT m := by
  obtain ⟨b, r, e, hb⟩ := keyB_first h1
  obtain ⟨r', b', e', hb'⟩ := val_last h2
  have hb0 : blankB b = false := by
    rw [blankB_eq]
    simp only [lowK, numK, Bool.and_eq_true, decide_eq_true_eq] at hb
    simp only [Bool.or_eq_false_iff, beq_eq_false_iff_ne]
    omega
  have h3 : ldrop (memT m) = memT m := by
    unfold memT ldrop
    rw [e, List.cons_append, List.dropWhile_cons, if_neg (by rw [hb0]; simp)]
  unfold trimB
  rw [h3]
  have : memT m = (m.1 ++ 61 :: r') ++ [b'] := by unfold memT; rw [e']; simp
  rw [this]
  exact rdrop_snoc hb'
theorem step_mem {acc : List Mb} {m : Mb} (h1 : keyB m.1 = true) (h2 : valB m.2 = true) (hn : m.1 ∉ acc.map (·.1)) (hl : acc.length < 32) : stepS acc (memT m) = (acc ++ [m], 0) := by
  have hf : findN 61 (memT m) = m.1.length := findN_app (key_none h1 61 (.inr rfl)) _
  have ht : (memT m).take m.1.length = m.1 := by unfold memT; simp
  have hd : (memT m).drop (m.1.length + 1) = m.2 := by
    unfold memT
    rw [List.drop_append]
    simp
  have hlen : (memT m).length = m.1.length + 1 + m.2.length := by unfold memT; simp; omega
  unfold stepS
  rw [trim_mem h1 h2, hf, ht, hd]
  rw [if_neg (by intro e; rw [e] at hlen; simp only [List.length_nil] at hlen; omega), if_neg (by rw [h1, h2, hlen]; simp; omega)]
  rw [if_neg (fun q => hn ((hasM_iff _ _).1 q)), if_neg (by omega)]
theorem readP_back : ∀ (L acc : List Mb), GoodM (acc ++ L) → readP (L.map memT) acc = (acc ++ L, 0)
  | [], acc, _ => by simp [readP]
  | m :: L, acc, h => by
    have hm := h.all m (by simp)
    have hl := h.len
    have hn := h.nod
    rw [List.map_append, List.map_cons, List.nodup_append] at hn
    have hs := step_mem (acc := acc) hm.1 hm.2 (fun q => hn.2.2 _ q _ (by simp) rfl) (by simp only [List.length_append, List.length_cons] at hl; omega)
    rw [List.map_cons, readP, hs, if_pos rfl, readP_back L (acc ++ [m]) (by rw [List.append_assoc]; exact h), List.append_assoc]
    rfl
theorem cut_join {c : UInt8} : ∀ {xs : List (List UInt8)}, xs ≠ [] → (∀ x ∈ xs, c ∉ x) → cutB c (Lib.join xs [c]) = xs
  | [], h, _ => absurd rfl h
  | [x], _, h => by
    show cutB c ([c].intercalate [x]) = _
    rw [show [c].intercalate [x] = x by simp [List.intercalate]]
    exact cutB_none (h x (by simp))
  | x :: y :: r, _, h => by
    have ih := cut_join (c := c) (xs := y :: r) (by simp) (fun z hz => h z (List.mem_cons_of_mem _ hz))
    have e : Lib.join (x :: y :: r) [c] = x ++ c :: Lib.join (y :: r) [c] := by
      unfold Lib.join
      simp [List.intercalate, List.intersperse]
    rw [e, cutB_app (h x (by simp)), ih]
theorem text_back {L : List Mb} (h : GoodM L) : readS (textS L) = (L, 0) := by
  unfold readS textS
  cases L with
  | nil => rfl
  | cons m L =>
    rw [cut_join (by simp) (fun x hx => by
      obtain ⟨m', hm', rfl⟩ := List.mem_map.1 hx
      exact memT_nocomma (h.all m' hm').1 (h.all m' hm').2)]
    exact readP_back (m :: L) [] h
theorem put_good {L : List Mb} {key value : List UInt8} (h : GoodM L) (h0 : (putS L key value).2 = 0) : GoodM (putS L key value).1 := by
  unfold putS at h0 ⊢
  split
  · rename_i c
    refine ⟨fun m hm => ?_, ?_, ?_⟩
    · rcases List.mem_cons.1 hm with rfl | hm
      · exact c
      · exact h.all m ((List.mem_filter.1 (List.mem_of_mem_take hm)).1)
    · simp only [List.length_cons, List.length_take]; omega
    · show (key :: ((L.filter fun m => !(m.1 == key)).take 31).map (·.1)).Nodup
      rw [List.nodup_cons]
      constructor
      · intro hk
        obtain ⟨m, hm, e⟩ := List.mem_map.1 hk
        have := (List.mem_filter.1 (List.mem_of_mem_take hm)).2
        rw [e] at this
        simp at this
      · rw [List.map_take]
        refine (List.take_sublist _ _).nodup ?_
        exact (List.filter_sublist.map _).nodup h.nod
  · rename_i c
    rw [if_neg c] at h0
    exact absurd h0 (by decide)
end Go.Proofs.YtgfdmdikiickpaaDoor
