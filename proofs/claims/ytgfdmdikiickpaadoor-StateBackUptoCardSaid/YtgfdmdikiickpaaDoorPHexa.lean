/-
  Digits to the base 16, as plain functions on lists of bytes.
-/
import Derived.Test.YtgfdmdikiickpaaDoorBytes
namespace Go.Proofs.YtgfdmdikiickpaaDoor

def nibV (c : Int) : Int := if 48 ≤ c ∧ c ≤ 57 then c - 48 else if 97 ≤ c ∧ c ≤ 102 then c - 87 else 0
def nibOk (c : Int) : Bool := decide ((48 ≤ c ∧ c ≤ 57) ∨ (97 ≤ c ∧ c ≤ 102))
theorem nibV_bd (c : Int) : 0 ≤ nibV c ∧ nibV c ≤ 15 := by unfold nibV; (repeat' split) <;> omega
def bi (b : UInt8) : Int := (b.toNat : Int)
def hexDec : List UInt8 → Option (List UInt8)
  | [] => some []
  | [_] => none
  | a :: b :: r => if nibOk (bi a) && nibOk (bi b) then (hexDec r).map (bt (nibV (bi a) * 16 + nibV (bi b)) :: ·) else none
/-- The pairs of bytes, whatever they are. -/
def hexRaw : List UInt8 → List UInt8
  | a :: b :: r => bt (nibV (bi a) * 16 + nibV (bi b)) :: hexRaw r
  | _ => []
def digI (n : Int) : Int := if n < 10 then n + 48 else n + 87
def hexEnc : List UInt8 → List UInt8
  | [] => []
  | b :: r => bt (digI (bi b / 16)) :: bt (digI (bi b % 16)) :: hexEnc r

theorem hexEnc_length (l : List UInt8) : (hexEnc l).length = 2 * l.length := by
  induction l with
  | nil => rfl
  | cons b r ih => simp [hexEnc, ih]; omega
theorem hexEnc_append (a b : List UInt8) : hexEnc (a ++ b) = hexEnc a ++ hexEnc b := by
  induction a with
  | nil => rfl
  | cons x r ih => simp [hexEnc, ih]
theorem bi_lt (b : UInt8) : 0 ≤ bi b ∧ bi b ≤ 255 := by unfold bi; have := b.toNat_lt; omega
theorem bi_bt (n : Int) (h0 : 0 ≤ n) (h1 : n ≤ 255) : bi (bt n) = n := by
  unfold bi bt
  have e : n % 256 = n := by omega
  rw [e, UInt8.toNat_ofNat']
  omega
theorem bt_bi (b : UInt8) : bt (bi b) = b := by
  have := bi_bt (bi b) (bi_lt b).1 (bi_lt b).2
  unfold bi at this ⊢
  exact UInt8.toNat_inj.1 (by omega)
theorem bi_inj {a b : UInt8} (h : bi a = bi b) : a = b := by rw [← bt_bi a, ← bt_bi b, h]
theorem byteAt_bi (l : List UInt8) (k : Nat) : byteAt l k = bi (l.getD k 0) := rfl
theorem nib_dig (n : Int) (h0 : 0 ≤ n) (h1 : n ≤ 15) : nibV (digI n) = n ∧ nibOk (digI n) = true ∧ 0 ≤ digI n ∧ digI n ≤ 255 := by
  unfold nibV nibOk digI
  (repeat' split) <;> simp <;> omega
theorem dig_nib (c : Int) (h : nibOk c = true) : digI (nibV c) = c := by
  unfold nibV digI
  simp [nibOk] at h
  (repeat' split) <;> omega
theorem hexDec_enc (l : List UInt8) : hexDec (hexEnc l) = some l := by
  induction l with
  | nil => rfl
  | cons b r ih =>
    have hb := bi_lt b
    obtain ⟨a1, a2, a3, a4⟩ := nib_dig (bi b / 16) (by omega) (by omega)
    obtain ⟨b1, b2, b3, b4⟩ := nib_dig (bi b % 16) (by omega) (by omega)
    have e : bi b / 16 * 16 + bi b % 16 = bi b := by omega
    simp [hexEnc, hexDec, bi_bt _ a3 a4, bi_bt _ b3 b4, a1, a2, b1, b2, ih, e, bt_bi]
theorem hexEnc_dec : ∀ (l t : List UInt8), hexDec l = some t → hexEnc t = l
  | [], t, h => by simp [hexDec] at h; subst h; rfl
  | [_], t, h => by simp [hexDec] at h
  | a :: b :: r, t, h => by
    unfold hexDec at h
    split at h
    · rename_i hn
      simp only [Bool.and_eq_true] at hn
      cases hr : hexDec r with
      | none => rw [hr] at h; simp at h
      | some t' =>
        rw [hr] at h
        simp at h
        subst h
        have ih := hexEnc_dec r t' hr
        have na := nibV_bd (bi a)
        have nb := nibV_bd (bi b)
        have e := bi_bt (nibV (bi a) * 16 + nibV (bi b)) (by omega) (by omega)
        have e1 : (nibV (bi a) * 16 + nibV (bi b)) / 16 = nibV (bi a) := by omega
        have e2 : (nibV (bi a) * 16 + nibV (bi b)) % 16 = nibV (bi b) := by omega
        simp only [hexEnc, e, e1, e2, dig_nib _ hn.1, dig_nib _ hn.2, bt_bi, ih]
    · simp at h
theorem hexDec_raw : ∀ (l t : List UInt8), hexDec l = some t → hexRaw l = t
  | [], t, h => by simp [hexDec] at h; subst h; rfl
  | [_], t, h => by simp [hexDec] at h
  | a :: b :: r, t, h => by
    unfold hexDec at h
    split at h
    · cases hr : hexDec r with
      | none => rw [hr] at h; simp at h
      | some t' =>
        rw [hr] at h
        simp at h
        subst h
        simp [hexRaw, hexDec_raw r t' hr]
    · simp at h
theorem hexRaw_dec (l : List UInt8) : hexEnc (hexRaw l) = l ↔ hexDec l = some (hexRaw l) :=
  ⟨fun h => by rw [← h, hexDec_enc, h], fun h => hexEnc_dec _ _ h⟩
theorem hexDec_none (l : List UInt8) : hexEnc (hexRaw l) ≠ l ↔ hexDec l = none := by
  rw [Ne, hexRaw_dec]
  constructor
  · intro h
    cases hd : hexDec l with
    | none => rfl
    | some t => exact absurd (by rw [hd, hexDec_raw _ _ hd]) h
  · intro h
    rw [h]; simp
theorem hexDec_length : ∀ (l t : List UInt8), hexDec l = some t → l.length = 2 * t.length := by
  intro l t h
  rw [← hexEnc_length, hexEnc_dec l t h]
theorem hexDec_odd (l : List UInt8) (h : l.length % 2 ≠ 0) : hexDec l = none := by
  cases hd : hexDec l with
  | none => rfl
  | some t => have := hexDec_length l t hd; omega
theorem drop_two (l : List UInt8) (k : Nat) (h : k + 1 < l.length) : l.drop k = l[k] :: l[k + 1] :: l.drop (k + 2) := by
  rw [List.drop_eq_getElem_cons (by omega), List.drop_eq_getElem_cons (i := k + 1) h]
theorem byteAt_getElem (l : List UInt8) (k : Nat) (h : k < l.length) : byteAt l k = bi l[k] := by
  unfold byteAt bi; simp [List.getD, h]
theorem hexDec_step (l acc : List UInt8) (k : Nat) (h : k + 1 < l.length) (h1 : nibOk (byteAt l k) = true) (h2 : nibOk (byteAt l (k + 1)) = true) :
    (hexDec (l.drop k)).map (acc ++ ·) = (hexDec (l.drop (k + 2))).map ((acc ++ [bt (nibV (byteAt l k) * 16 + nibV (byteAt l (k + 1)))]) ++ ·) := by
  rw [drop_two l k h]
  rw [byteAt_getElem l k (by omega)] at *
  rw [byteAt_getElem l (k + 1) h] at *
  simp [hexDec, h1, h2, Option.map_map, Function.comp_def]
theorem hexDec_stop (l acc : List UInt8) (k : Nat) (h : k + 1 < l.length) (h1 : (nibOk (byteAt l k) && nibOk (byteAt l (k + 1))) = false) :
    (hexDec (l.drop k)).map (acc ++ ·) = none := by
  rw [drop_two l k h]
  rw [byteAt_getElem l k (by omega), byteAt_getElem l (k + 1) h] at h1
  simp only [hexDec, h1]
  rfl
theorem hexRaw_step (l acc : List UInt8) (k : Nat) (h : k + 1 < l.length) :
    acc ++ hexRaw (l.drop k) = (acc ++ [bt (nibV (byteAt l k) * 16 + nibV (byteAt l (k + 1)))]) ++ hexRaw (l.drop (k + 2)) := by
  rw [drop_two l k h, byteAt_getElem l k (by omega), byteAt_getElem l (k + 1) h]
  simp [hexRaw]
theorem hexRaw_end (l : List UInt8) (k : Nat) (h : ¬ k + 1 < l.length) : hexRaw (l.drop k) = [] := by
  have : (l.drop k).length ≤ 1 := by simp; omega
  match hd : l.drop k, this with
  | [], _ => rfl
  | [_], _ => rfl
theorem hexEnc_snoc (l : List UInt8) (k : Nat) (h : k < l.length) : hexEnc (l.take (k + 1)) = hexEnc (l.take k) ++ [bt (digI (byteAt l k / 16)), bt (digI (byteAt l k % 16))] := by
  rw [List.take_succ_eq_append_getElem h, hexEnc_append, byteAt_getElem l k h]
  rfl
theorem dig_at (n : Int) (h0 : 0 ≤ n) (h1 : n < 16) : byteAt [48, 49, 50, 51, 52, 53, 54, 55, 56, 57, 97, 98, 99, 100, 101, 102] n.toNat = digI n := by
  obtain ⟨m, rfl⟩ := Int.eq_ofNat_of_zero_le h0
  have : ∀ k : Fin 16, byteAt [48, 49, 50, 51, 52, 53, 54, 55, 56, 57, 97, 98, 99, 100, 101, 102] ((k.val : Int)).toNat = digI (k.val : Int) := by decide
  exact this ⟨m, by omega⟩
theorem digI_bd (n : Int) (h0 : 0 ≤ n) (h1 : n < 16) : 0 ≤ digI n ∧ digI n ≤ 255 := by unfold digI; split <;> omega
end Go.Proofs.YtgfdmdikiickpaaDoor
