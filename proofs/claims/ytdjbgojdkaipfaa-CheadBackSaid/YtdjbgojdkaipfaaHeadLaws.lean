/-
  The laws of chapter 20: CheadFields and CheadLists.
-/
import Derived.Test.YtdjbgojdkaipfaaHeadLaw
import Derived.Test.YtdjbgojdkaipfaaSt
namespace Go.Proofs.Ytdjbgojdkaipfaa
open Go.RowKit

structure VJ (c d : Cu) : Prop where
  fc : c.fit
  fd : d.fit
  code : d.code = c.code
  same : c.code = 0 → c = d
theorem VJ.stepR {c d c' d' : Cu} (h : VJ c d) (R : List UInt8 → Int × Nat) (hc : Rd c c' (R c.ahead).1 (R c.ahead).2) (hd : Rd d d' (R d.ahead).1 (R d.ahead).2) : VJ c' d' := by
  by_cases h0 : c.code = 0
  · obtain rfl := h.same h0
    obtain ⟨a1, a2⟩ := hc.good h0
    obtain ⟨b1, b2⟩ := hd.good h0
    exact ⟨hc.fit, hd.fit, by rw [a1, b1], fun hz => by rw [a2 (a1 ▸ hz), b2 (a1 ▸ hz)]⟩
  · have a1 := hc.bad h0
    have b1 := hd.bad (by rw [h.code]; exact h0)
    subst a1 b1
    exact h
theorem VJ.stepL {c d c' d' : Cu} (h : VJ c d) (R : List UInt8 → Int × Nat × Int × Int) {i j k m : Int}
    (hc : Rd c c' (R c.ahead).1 (R c.ahead).2.1) (hcb : c.code ≠ 0 → i = 0 ∧ k = 0) (hcg : c.code = 0 → i = (R c.ahead).2.2.1 ∧ k = (R c.ahead).2.2.2)
    (hd : Rd d d' (R d.ahead).1 (R d.ahead).2.1) (hdb : d.code ≠ 0 → j = 0 ∧ m = 0) (hdg : d.code = 0 → j = (R d.ahead).2.2.1 ∧ m = (R d.ahead).2.2.2) :
    VJ c' d' ∧ j = i ∧ m = k := by
  refine ⟨h.stepR (fun a => ((R a).1, (R a).2.1)) hc hd, ?_⟩
  by_cases h0 : c.code = 0
  · obtain rfl := h.same h0
    obtain ⟨a1, a2⟩ := hcg h0
    obtain ⟨b1, b2⟩ := hdg h0
    exact ⟨by rw [a1, b1], by rw [a2, b2]⟩
  · obtain ⟨a1, a2⟩ := hcb h0
    obtain ⟨b1, b2⟩ := hdb (by rw [h.code]; exact h0)
    exact ⟨by rw [a1, b1], by rw [a2, b2]⟩
theorem fieldR_bd (last : Int) (a : List UInt8) : -32768 ≤ (fieldR last a).2.2.1 ∧ (fieldR last a).2.2.1 ≤ 32767 := by
  have hz : (-32768 : Int) ≤ 0 ∧ (0 : Int) ≤ 32767 := by decide
  cases a with
  | nil => exact hz
  | cons b r =>
    simp only [fieldR]
    split
    · exact hz
    · split
      · exact hz
      · split
        · split
          · rename_i h; simpa [inR] using h
          · exact hz
        · split
          · split
            · rename_i h; simpa [inR] using h
            · exact hz
          · exact hz
def CFRel (w : World) (b g : Nat) (last i : Value) (wr : World) : Prop :=
  ∃ (k : Nat) (L : Int) (c d : Cu), k ≤ 4 ∧ i = .int .i64 (k : Int) ∧ last = .int .i64 L ∧ -32768 ≤ L ∧ L ≤ 32767 ∧ VJ c d ∧ Sd w wr b g c d
set_option maxRecDepth 100000 in
set_option maxHeartbeats 4000000 in
theorem cheadFields_any (s : List UInt8) (last : Int) (w : World) (hs : s.length ≤ 1125899906842624) :
    Calls Try.prog 11 #[Sv s, .int .i64 last] w fun e w' => e = .returned (.bool true) ∧ Below w.heap.size w w' := by
  by_cases hlo : last < -32768
  · go_enter Try.func11, Try.ntmps11
    go_wp2_with fail
    refine (hworks_any _).mono ?_; rintro e w10 ⟨rfl, hw10⟩
    go_wp2_with fail
    go_ret
    exact ⟨rfl, hw10⟩
  by_cases hhi : 32767 < last
  · go_enter Try.func11, Try.ntmps11
    go_wp2_with fail
    refine (hworks_any _).mono ?_; rintro e w10 ⟨rfl, hw10⟩
    go_wp2_with fail
    go_ret
    exact ⟨rfl, hw10⟩
  have f1 := Cu.start_fit hs
  go_enter Try.func11, Try.ntmps11
  go_wp2_with fail
  refine (new_any s _ hs).mono ?_; rintro e w1 ⟨b, rfl, hb, hc1, hw1⟩
  go_wp2_with fail
  refine (rnew_any s _).mono ?_; rintro e w2 ⟨rfl, hw2⟩
  have hc2 := CurAt.ext hc1 hw2
  have hbw := ext_trans hw1 hw2
  have hrel0 : CFRel w b w2.heap.size (.int .i64 last) (.int .i64 0) (w2.alloc (.cells #[Sv (Cu.start s).s, .int .i64 (Cu.start s).pos, .int .i64 (Cu.start s).en, .int .i64 (Cu.start s).code] 78)) :=
    ⟨0, last, _, _, by omega, rfl, rfl, by omega, by omega, ⟨f1, f1, rfl, fun _ => rfl⟩, hc2.alloc _, Blk.new w2 _ _, hbw.alloc hbw.size _, hb, hbw.size, Nat.ne_of_lt hc2.lt⟩
  clear hc1 hw1 hw2 hc2 hbw
  unfold agg
  go_wp2_with fail
  generalize w2.heap.size = g at hrel0 ⊢
  go_loopw [1, 7] (fun l i wr => CFRel w b g l i wr) (fun l i _ => 4 - (intOf i).toNat)
  case atStart => exact hrel0
  case round =>
    clear hrel0 hlo hhi
    obtain ⟨k, L, c, d, hk, rfl, rfl, hl0, hl1, hj, hS⟩ := hrel
    have hS := hid hS
    by_cases hlt : k < 4
    · go_wp2_with fail
      refine (field_any b c L _ hS.out.cur hj.fc (by omega) (by omega)).mono ?_; rintro e w4 ⟨c', id, kind, rfl, hv4, hvb, hvg, hc4, hg4⟩
      have S4 := hS.out.move hc4 hg4
      obtain ⟨p0, p1, p2, p3, u0, u1, u2, u3⟩ := blk4 S4.doc
      have hS4 := hid S4
      clear hc4 hg4 S4
      go_wp2_with fail
      refine (rfield_any d L _ hj.fd (by omega) (by omega)).mono ?_; rintro e w5 ⟨d', id', kind', rfl, hv5, hub, hug, hw5⟩
      obtain ⟨hj', rfl, rfl⟩ := hj.stepL (fieldR L) hv4 hvb hvg hv5 hub hug
      have hI : -32768 ≤ id' ∧ id' ≤ 32767 := by
        by_cases h0 : c.code = 0
        · rw [(hvg h0).1]; exact fieldR_bd _ _
        · rw [(hvb h0).1]; decide
      have S5 := hS4.out.ext hw5
      obtain ⟨p0, p1, p2, p3, u0, u1, u2, u3⟩ := blk4 S5.doc
      have S6 := S5.put d'
      have hS6 := hid S6
      have HI := hid hI
      clear hw5 S5 S6 hv4 hv5 hvb hvg hub hug hI hS hS4
      unfold agg
      go_wp2_with fail
      obtain ⟨p0, p1, p2, p3, u0, u1, u2, u3⟩ := blk4 hS6.out.doc
      have i0 : (id' != id') = false := by simp
      have i1 : (kind' != kind') = false := by simp
      by_cases hz : c'.code = 0
      · obtain rfl := hj'.same hz
        have c0 : (c'.code == 0) = true := by simpa using hz
        have HJ := hid hj'
        clear hz hj'
        go_quiet ((first
          | (go_at_call 57; exact err_quiet b _ _ _ hS6.out.cur)
          | (go_at_call 58; exact at_quiet b _ _ _ hS6.out.cur)))
        go_wp2_with fail
        go_roundw
        case rel => exact ⟨k + 1, id', c', c', by omega, by go_num, rfl, HI.out.1, HI.out.2, HJ.out, hS6.out.drewN _⟩
        case measure => simp [intOf] <;> omega
      · have c0 : (c'.code == 0) = false := by simpa using hz
        have c1 : (c'.code != d'.code) = false := by rw [hj'.code]; simp
        have c2 : (d'.code == 0) = false := by rw [hj'.code]; exact c0
        have HJ := hid hj'
        clear hz hj'
        go_quiet ((first
          | (go_at_call 57; exact err_quiet b _ _ _ hS6.out.cur)
          | (go_at_call 58; exact at_quiet b _ _ _ hS6.out.cur)))
        go_wp2_with fail
        go_roundw
        case rel => exact ⟨k + 1, id', c', d', by omega, by go_num, rfl, HI.out.1, HI.out.2, HJ.out, hS6.out.drewN _⟩
        case measure => simp [intOf] <;> omega
    · have HB := hid hS.out.bel
      clear hS
      go_wp2_with fail
      refine (hworks_any _).mono ?_; rintro e w10 ⟨rfl, hw10⟩
      go_wp2_with fail
      go_ret
      exact ⟨rfl, HB.out.trans (hw10.mono HB.out.size)⟩
end Go.Proofs.Ytdjbgojdkaipfaa
