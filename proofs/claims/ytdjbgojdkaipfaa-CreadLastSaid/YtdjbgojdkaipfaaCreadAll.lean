/-
  The law CreadLast: fields that came in; the document's last field; the law.
-/
import Derived.Test.YtdjbgojdkaipfaaOpenFields
import Derived.Test.YtdjbgojdkaipfaaCreadLaw
namespace Go.Proofs.Ytdjbgojdkaipfaa
section
open Go.ChangeShapes Go.WideShapes Go.Deep Go.RowKit

/-- The fields that lie in a slice that came in. -/
def Fds (w : World) (B : Nat) (A : Option Addr) (L : List Fd) : Prop :=
  ∀ (k : Nat) (F : Fd), L[k]? = some F → ∃ ad : Addr, A = some ad ∧ ad.block < B ∧ ∀ q u, F.cells[q]? = some u → w.cell? (ad.add (k * 6 + q)) = some u
theorem Fds.below {w w' : World} {B : Nat} {A : Option Addr} {L : List Fd} (h : Fds w B A L) (hb : Below B w w') : Fds w' B A L := fun k F hF => by
  obtain ⟨ad, e, hlt, hc⟩ := h k F hF
  exact ⟨ad, e, hlt, fun q u hu => (hb.cell (by rw [block_of_add]; exact hlt)).trans (hc q u hu)⟩
theorem Fds.mono_ {w : World} {B B' : Nat} {A : Option Addr} {L : List Fd} (h : Fds w B A L) (hB : B ≤ B') : Fds w B' A L := fun k F hF => by
  obtain ⟨ad, e, hlt, hc⟩ := h k F hF
  exact ⟨ad, e, Nat.lt_of_lt_of_le hlt hB, hc⟩
theorem Fds.at_ {w : World} {B : Nat} {A : Option Addr} {L : List Fd} (h : Fds w B A L) {k : Nat} {F : Fd} (hF : L[k]? = some F) :
    ∃ ad : Addr, A = some ad ∧ w.cell? (ad.add (k * 6)) = some (.int .i64 F.id) ∧ w.cell? ⟨(ad.add (k * 6)).block, (ad.add (k * 6)).off + 1, none⟩ = some (.int .u8 F.kind) ∧
      w.cell? ⟨(ad.add (k * 6)).block, (ad.add (k * 6)).off + 2, none⟩ = some (.int .i64 F.num) ∧ w.cell? ⟨(ad.add (k * 6)).block, (ad.add (k * 6)).off + 3, none⟩ = some (.int .u64 F.bits) ∧
      w.cell? ⟨(ad.add (k * 6)).block, (ad.add (k * 6)).off + 4, none⟩ = some (Sv F.text) ∧ w.cell? ⟨(ad.add (k * 6)).block, (ad.add (k * 6)).off + 5, none⟩ = some (Sv F.raw) := by
  obtain ⟨ad, e, _, hc⟩ := h k F hF
  have q0 := hc 0 _ rfl
  have q1 := hc 1 _ rfl
  have q2 := hc 2 _ rfl
  have q3 := hc 3 _ rfl
  have q4 := hc 4 _ rfl
  have q5 := hc 5 _ rfl
  rw [← add_of_add] at q1 q2 q3 q4 q5
  exact ⟨ad, e, q0, q1, q2, q3, q4, q5⟩
set_option maxRecDepth 100000 in
theorem open_Sltruchmanref22Field {H : Type} {enc : TypeId × Value → H} {W : World} {base : Nat} {v : Value} {d : DataW H} {p : List MemPlace}
    (hv : Value.okWide Try.prog W .any base 111 v) (h : DataW.Trod enc Try.prog W 0 (fun _ => true) true 111 v d p) :
    ∃ L : List Fd, (∃ A cap, v = .slice A L.length cap ∧ L.length ≤ cap ∧ cap ≤ 9223372036854775807 ∧ Fds W W.heap.size A L) ∧ True := by
  obtain ⟨a, len, cap, rfl⟩ := okWide_slice Try.underlying111 hv
  obtain ⟨fuel, hf⟩ := h
  rcases open_slice_fields Try.underlying111 Try.underlying122 (by kernel_rfl) (by kernel_rfl) hf with ⟨hcs, _⟩ | ⟨x, len', cap', m, D, Pl, hcs, _, hl, hm, hmm, _, hi⟩
  · simp [Value.cells] at hcs
    obtain ⟨rfl, rfl, rfl⟩ := hcs
    exact ⟨[], ⟨none, 0, rfl, Nat.le_refl _, by omega, fun k F hk => by simp at hk⟩, trivial⟩
  · simp [Value.cells] at hcs
    obtain ⟨rfl, rfl, rfl⟩ := hcs
    simp only [if_true] at hmm
    have hall : ∀ i, i < len → ∃ F : Fd, ∀ q u, F.cells[q]? = some u → W.cell? (x.add (i * 6 + q)) = some u := by
      intro i hil
      obtain ⟨ys, n, _, _, _, hfs⟩ := hi i (by omega)
      obtain ⟨v0, y0, c0, _, t0⟩ := hfs 0 _ rfl
      obtain ⟨v1, y1, c1, _, t1⟩ := hfs 1 _ rfl
      obtain ⟨v2, y2, c2, _, t2⟩ := hfs 2 _ rfl
      obtain ⟨v3, y3, c3, _, t3⟩ := hfs 3 _ rfl
      obtain ⟨v4, y4, c4, _, t4⟩ := hfs 4 _ rfl
      obtain ⟨v5, y5, c5, _, t5⟩ := hfs 5 _ rfl
      obtain ⟨k, e0, _, wk⟩ := DataW.trod_int Try.underlying3 t0
      obtain ⟨n', e1, _, wn⟩ := DataW.trod_int Try.underlying5 t1
      obtain ⟨d', e2, _, wd⟩ := DataW.trod_int Try.underlying3 t2
      obtain ⟨b', e3, _, wb⟩ := DataW.trod_int Try.underlying29 t3
      obtain ⟨s', e4, _, ws⟩ := DataW.trod_string Try.underlying9 t4
      obtain ⟨r', e5, _, wr⟩ := DataW.trod_string Try.underlying9 t5
      simp at e0 e1 e2 e3 e4 e5
      subst e0 e1 e2 e3 e4 e5
      refine ⟨⟨k, n', d', b', s'.data.toList, r'.data.toList⟩, fun q u hu => ?_⟩
      match q, hu with
      | 0, hu => rw [show u = .int .i64 k from (Option.some.inj hu).symm]; exact c0
      | 1, hu => rw [show u = .int .u8 n' from (Option.some.inj hu).symm]; exact c1
      | 2, hu => rw [show u = .int .i64 d' from (Option.some.inj hu).symm]; exact c2
      | 3, hu => rw [show u = .int .u64 b' from (Option.some.inj hu).symm]; exact c3
      | 4, hu => rw [show u = .string s' from (Option.some.inj hu).symm]; exact c4
      | 5, hu => rw [show u = .string r' from (Option.some.inj hu).symm]; exact c5
      | q + 6, hu => simp [Fd.cells] at hu
    obtain ⟨f, hff⟩ : ∃ f : Nat → Fd, ∀ i, i < len → ∀ q u, (f i).cells[q]? = some u → W.cell? (x.add (i * 6 + q)) = some u :=
      ⟨fun i => if hi : i < len then Classical.choose (hall i hi) else ⟨0, 0, 0, 0, [], []⟩, fun i hi => by simp only [dif_pos hi]; exact Classical.choose_spec (hall i hi)⟩
    refine ⟨(List.range len).map f, ⟨some x, cap, by simp, by simpa using hl, by unfold maxLen at hm; omega, fun k F hF => ?_⟩, trivial⟩
    have hk : k < len := by
      rcases Nat.lt_or_ge k len with h | h
      · exact h
      · rw [List.getElem?_eq_none (by simpa using h)] at hF; cases hF
    have e : f k = F := by simpa [hk] using hF
    subst e
    refine ⟨x, rfl, ?_, hff k hk⟩
    have := World.block_lt_of_cell? W _ (hff k hk 0 _ rfl)
    rwa [block_of_add] at this
end
section
open Go.RowKit

theorem sameB_mid {a b : Int} (h1 : a = 1 ∨ a = 2) (h2 : b = 1 ∨ b = 2) : sameB a b = true := by
  rcases h1 with rfl | rfl <;> rcases h2 with rfl | rfl <;> rfl
theorem sameB_out {a b : Int} (h : ¬ ((a = 1 ∨ a = 2) ∧ (b = 1 ∨ b = 2))) : sameB a b = (a == b) := by
  unfold sameB
  cases h1 : (a == b)
  · simp only [Bool.false_or]
    simp only [Bool.and_eq_false_iff, Bool.or_eq_false_iff, beq_eq_false_iff_ne]
    omega
  · rfl
/-- What the document's condition comes to. -/
def LastHit (id kind : Int) (F : Fd) (h : Bool) : Prop := hitF id kind F = h
set_option maxRecDepth 100000 in
set_option maxHeartbeats 4000000 in
theorem rlast_any (A : Option Addr) (cap : Nat) (L : List Fd) (id kind : Int) (w : World) (h : Fds w w.heap.size A L) (hl : L.length ≤ 100000) :
    Calls Try.prog 87 #[.slice A L.length cap, .int .i64 id, .int .u8 kind] w fun e w' => e = .returned (.tuple #[.agg (lastF id kind L).1.cells, .bool (lastF id kind L).2]) ∧ Below w.heap.size w w' := by
  have HR := hid (Blk.new w 122 #[.int .i64 0, .int .u8 0, .int .i64 0, .int .u64 0, Sv [], Sv []])
  have HRB := hid (ext_alloc w (.cells #[.int .i64 0, .int .u8 0, .int .i64 0, .int .u64 0, Sv [], Sv []] 122))
  have HO := hid (h.below HRB.out)
  clear h
  go_enter Try.func87, Try.ntmps87
  go_upto_region 1 with fail
  generalize w.alloc (.cells #[.int .i64 0, .int .u8 0, .int .i64 0, .int .u64 0, Sv [], Sv []] 122) = W1 at HR HRB HO ⊢
  obtain ⟨r0, r1, r2, r3, r4, r5, e0, e1, e2, e3, e4, e5⟩ := blk6 HR.out
  go_wp2_with fail
  go_loopw [8] (fun i wr => ∃ k : Nat, i = .int .i64 ((k : Int) - 1) ∧ k ≤ L.length ∧ wr = W1 ∧ Hid (lastF id kind L = lastF id kind (L.take k))) (fun i _ => (intOf i + 1).toNat)
  case atStart => exact ⟨L.length, rfl, Nat.le_refl _, rfl, hid (by rw [List.take_length])⟩
  case round =>
    obtain ⟨k, rfl, hk, rfl, HK⟩ := hrel
    cases k with
    | zero =>
      have HZ := hid (show lastF id kind L = (zeroF, false) by rw [HK.out]; rfl)
      go_wp2_with fail
      exact bodyPost_ret (v := .tuple #[.agg zeroF.cells, .bool false]) (by unfold zeroF Fd.cells; simp only [results, Try.results87]; go_simp) rfl ⟨by rw [HZ.out], by repeat (first | (with_reducible exact HRB.out) | (with_reducible refine below_put ?_ (by omega) _ _))⟩
    | succ k =>
      obtain ⟨F, hF⟩ : ∃ F, L[k]? = some F := ⟨L[k], List.getElem?_eq_getElem (by omega)⟩
      obtain ⟨ad, hA, p0, p1, p2, p3, p4, p5⟩ := HO.out.at_ hF
      subst hA
      have HS := hid (show lastF id kind L = if hitF id kind F = true then (F, true) else lastF id kind (L.take k) by
        rw [HK.out, List.take_add_one, hF]; exact lastF_snoc id kind F _)
      have hki : ((k + 1 : Nat) : Int) - 1 = (k : Int) := by omega
      rw [hki]
      have qi : (0 : Int) ≤ (k : Int) ∧ (k : Int) < (L.length : Int) := by omega
      clear hF HK
      have HT := hid (fun (h : hitF id kind F = true) => show lastF id kind L = (F, true) by rw [HS.out, if_pos h])
      have HN := hid (fun (h : hitF id kind F = false) => show lastF id kind L = lastF id kind (L.take k) by rw [HS.out, if_neg (by rw [h]; simp)])
      clear HS
      obtain ⟨Fi, Fk, Fn, Fb, Ft, Fr⟩ := F
      simp only at p0 p1 p2 p3 p4 p5
      have yes : hitF id kind ⟨Fi, Fk, Fn, Fb, Ft, Fr⟩ = true → Hid (lastF id kind L = (⟨Fi, Fk, Fn, Fb, Ft, Fr⟩, true)) := fun h => hid (HT.out h)
      have no : hitF id kind ⟨Fi, Fk, Fn, Fb, Ft, Fr⟩ = false → Hid (lastF id kind L = lastF id kind (L.take k)) := fun h => hid (HN.out h)
      have YES := hid yes
      have NO := hid no
      clear HT HN yes no
      have HIT : hitF id kind ⟨Fi, Fk, Fn, Fb, Ft, Fr⟩ = ((Fi == id) && sameB Fk kind) := rfl
      by_cases hid1 : Fi = id
      · have q : (Fi == id) = true := by simpa using hid1
        by_cases hkk : Fk = kind
        · have q2 : (Fk == kind) = true := by simpa using hkk
          have HH := YES.out (by rw [HIT, q]; unfold sameB; rw [q2]; rfl)
          subst hkk
          clear YES NO HIT
          clear hid1
          rcases (by omega : Fk ≤ 0 ∨ 3 ≤ Fk ∨ (0 < Fk ∧ Fk < 3)) with hq | hq | ⟨hq, hq'⟩
          all_goals
            go_wp2_with fail
            exact bodyPost_ret (v := .tuple #[.agg (Fd.cells ⟨Fi, Fk, Fn, Fb, Ft, Fr⟩), .bool true]) (by unfold Fd.cells; simp only [results, Try.results87]; go_simp) rfl ⟨by rw [HH.out], by repeat (first | (with_reducible exact HRB.out) | (with_reducible refine below_put ?_ (by omega) _ _))⟩
        · have q2 : (Fk == kind) = false := by simpa using hkk
          by_cases hm : (Fk = 1 ∨ Fk = 2) ∧ (kind = 1 ∨ kind = 2)
          · have HH := YES.out (by rw [HIT, q, sameB_mid hm.1 hm.2]; rfl)
            have m1 : 0 < Fk ∧ Fk < 3 ∧ 0 < kind ∧ kind < 3 := by omega
            obtain ⟨m1, m2, m3, m4⟩ := m1
            clear YES NO HIT hid1 hkk hm
            go_wp2_with fail
            exact bodyPost_ret (v := .tuple #[.agg (Fd.cells ⟨Fi, Fk, Fn, Fb, Ft, Fr⟩), .bool true]) (by unfold Fd.cells; simp only [results, Try.results87]; go_simp) rfl ⟨by rw [HH.out], by repeat (first | (with_reducible exact HRB.out) | (with_reducible refine below_put ?_ (by omega) _ _))⟩
          · have HH := NO.out (by rw [HIT, sameB_out hm, q2]; simp)
            rcases (by omega : Fk ≤ 0 ∨ 3 ≤ Fk ∨ (0 < Fk ∧ Fk < 3)) with hq | hq | ⟨hq, hq'⟩
            all_goals
              rcases (by omega : kind ≤ 0 ∨ 3 ≤ kind ∨ (0 < kind ∧ kind < 3)) with hj | hj | ⟨hj, hj'⟩
            all_goals
              first
              | (exfalso; omega)
              | (clear YES NO HIT hid1 hkk hm
                 go_wp2_with fail
                 exact ⟨⟨k, rfl, by omega, trivial, HH⟩, by simp [intOf] <;> omega⟩)
      · have q : (Fi == id) = false := by simpa using hid1
        have HH := NO.out (by rw [HIT, q]; rfl)
        clear YES NO HIT hid1
        rcases (by omega : Fk ≤ 0 ∨ 3 ≤ Fk ∨ (0 < Fk ∧ Fk < 3)) with hq | hq | ⟨hq, hq'⟩
        all_goals
          rcases (by omega : kind ≤ 0 ∨ 3 ≤ kind ∨ (0 < kind ∧ kind < 3)) with hj | hj | ⟨hj, hj'⟩
        all_goals
          go_wp2_with fail
          exact ⟨⟨k, rfl, by omega, trivial, HH⟩, by simp [intOf] <;> omega⟩
end
section
open Go.RowKit

set_option maxRecDepth 100000 in
set_option maxHeartbeats 4000000 in
theorem creadLast_any (A : Option Addr) (cap : Nat) (L : List Fd) (id kind : Int) (w : World) (h : Fds w w.heap.size A L) :
    Calls Try.prog 19 #[.slice A L.length cap, .int .i64 id, .int .u8 kind] w fun e w' => e = .returned (.bool true) ∧ Below w.heap.size w w' := by
  by_cases hl : 40 < L.length
  · go_enter Try.func19, Try.ntmps19
    go_wp2_with fail
    refine (crworks_any _).mono ?_; rintro e w1 ⟨rfl, hb1⟩
    go_wp2_with fail
    go_ret
    exact ⟨rfl, hb1⟩
  · have HO := hid h
    have HL := hid hl
    clear h
    go_enter Try.func19, Try.ntmps19
    have hl' : L.length ≤ 40 := by have := HL.out; omega
    go_wp2_with fail
    go_loopw [7, 8] (fun v i wr => ∃ (k : Nat), i = .int .i64 (k : Int) ∧ k ≤ L.length ∧ Hid (OwnF wr w.heap.size 121 v (L.take k)) ∧ Hid (Below w.heap.size w wr)) (fun _ i _ => L.length - (intOf i).toNat)
    case atStart => exact ⟨0, rfl, Nat.zero_le _, OwnF.nil _ _ _, Below.refl _ _⟩
    case round =>
      obtain ⟨k, rfl, hk, HW, HB⟩ := hrel
      by_cases hlt : k < L.length
      · obtain ⟨F, hF⟩ : ∃ F, L[k]? = some F := ⟨L[k], List.getElem?_eq_getElem hlt⟩
        obtain ⟨ad, hA, p0, p1, p2, p3, p4, p5⟩ := (HO.out.below HB.out).at_ hF
        subst hA
        have HF := hid hF
        clear hF
        have qi : (0 : Int) ≤ (k : Int) ∧ (k : Int) < (L.length : Int) := by omega
        have hkl : (L.take k).length ≤ 1000000 := by rw [List.length_take]; omega
        have HBK := hid (Blk.new wr 122 F.cells)
        have HO7 := hid (ownF_ext HW.out (ext_alloc wr (.cells F.cells 121)))
        have HBK := hid (Blk.new wr 121 F.cells)
        have HB7 := hid (HB.out.alloc HB.out.size (.cells F.cells 121))
        unfold Fd.cells at HBK HO7 HB7
        generalize hW7 : wr.alloc (.cells #[.int .i64 F.id, .int .u8 F.kind, .int .i64 F.num, .int .u64 F.bits, Sv F.text, Sv F.raw] 121) = w7 at HBK HO7 HB7
        have HW7 := hid hW7
        clear hW7
        go_wp2_with (rw [HW7.out]; refine wpList_appF rfl (.tmp 23) (.tmp 28) 108 121 und_cf info_cf rfl w.heap.size u7 (L.take k) rfl HO7.out wr.heap.size 1 121 F rfl HBK.out hkl HB7.out.size ?_; intro v8 w8 hown8 hg8; have HO8 := hid hown8; have HB8 := hid (show Below w.heap.size w w8 from Below.grown HB7.out hg8 HB7.out.size (fun k hk => (World.ownsRow.lt HO7.out k hk).1)); clear hown8 hg8)
        refine ⟨⟨k + 1, by go_num, hlt, hid ?_, HB8⟩, ?_⟩
        · rw [List.take_add_one, HF.out]; exact HO8.out
        · simp [intOf] <;> omega
      · obtain rfl : k = L.length := by omega
        have HW := hid (show OwnF wr w.heap.size 121 u7 L by have := HW.out; rwa [List.take_length] at this)
        go_wp2_with fail
        refine (clast_any _ L id kind _ _ HW.out (by omega)).mono ?_; rintro e w2 ⟨rfl, hb2⟩
        have HB2 := hid (HB.out.trans (hb2.mono HB.out.size))
        clear hb2
        generalize hF : (lastF id kind L).1 = F
        generalize hT : (lastF id kind L).2 = T
        have HF := hid hF
        have HT := hid hT
        clear hF hT
        obtain ⟨Fi, Fk, Fn, Fb, Ft, Fr⟩ := F
        unfold Fd.cells
        go_wp2_with fail
        refine (rlast_any A cap L id kind _ (HO.out.below (HB2.out.alloc HB2.out.size _) |>.mono_ (by first | exact Nat.le_refl _ | exact (HB2.out.alloc HB2.out.size _).size)) (by omega)).mono ?_; rintro e w3 ⟨rfl, hb3⟩
        rw [HF.out, HT.out]
        obtain ⟨hA3, hz3, hb3'⟩ := box1 hb3
        have HB3 := hid (HB2.out.trans (hb3'.mono HB2.out.size))
        have HX := hid (hA3.alloc (.cells #[.int .i64 Fi, .int .u8 Fk, .int .i64 Fn, .int .u64 Fb, Sv Ft, Sv Fr] 122))
        have HY := hid (Blk.new w3 122 #[.int .i64 Fi, .int .u8 Fk, .int .i64 Fn, .int .u64 Fb, Sv Ft, Sv Fr])
        have HB4 := hid (HB3.out.alloc HB3.out.size (.cells #[.int .i64 Fi, .int .u8 Fk, .int .i64 Fn, .int .u64 Fb, Sv Ft, Sv Fr] 122))
        clear hA3 hb3 hb3'
        unfold Fd.cells
        go_upto_region 10 with fail
        generalize w3.alloc (.cells #[.int .i64 Fi, .int .u8 Fk, .int .i64 Fn, .int .u64 Fb, Sv Ft, Sv Fr] 122) = W4 at HX HY HB4 ⊢
        obtain ⟨r0, r1, r2, r3, r4, r5, _⟩ := blk6 HX.out
        obtain ⟨s0, s1, s2, s3, s4, s5, _⟩ := blk6 HY.out
        have qT : (T == T) = true := by cases T <;> rfl
        go_wp2_with fail
        refine (crworks_any _).mono ?_; rintro e w5 ⟨rfl, hb5⟩
        have HB5 := hid (HB4.out.trans (hb5.mono HB4.out.size))
        clear hb5
        go_wp2_with fail
        go_ret
        exact ⟨rfl, HB5.out⟩
end
end Go.Proofs.Ytdjbgojdkaipfaa
