/-
  A text's bytes are no nil slice.
-/
import Derived.Test.YtdjbgojdkaipfaaHeadPutM
import Derived.Test.YtdjbgojdkaipfaaConv
namespace Go.Proofs.Ytdjbgojdkaipfaa
open Go.RowKit

theorem tv_some (w : World) (l : List UInt8) : ∃ ad n c, tv w l = .slice (some ad) n c := by
  have h1 := run_tb w l
  have h2 := run_bytes_of_string (P := Try.prog) w 9 25 5 ⟨l.toArray⟩ Try.underlying9 Try.underlying25 Try.underlying5
  unfold Sv at h1
  rw [h1] at h2
  injection h2 with e _
  exact ⟨_, _, _, e⟩
theorem tv_bsN (w : World) (l : List UInt8) : BsN (tb w l) (tb w l).heap.size (tv w l) l := by
  obtain ⟨A, c, e, _, hr⟩ := tb_bs w l
  refine ⟨A, c, e, hr, fun hA => ?_⟩
  obtain ⟨ad, n, c', e'⟩ := tv_some w l
  rw [e] at e'
  injection e' with q
  rw [hA] at q
  cases q
theorem Bs.toN {w : World} {B : Nat} {l : List UInt8} {ad : Addr} {n c : Nat} (h : Bs w B (.slice (some ad) n c) l) : BsN w B (.slice (some ad) n c) l := by
  obtain ⟨A, c', e, _, hr⟩ := h
  refine ⟨A, c', e, hr, fun hA => ?_⟩
  injection e with q
  rw [hA] at q
  cases q
theorem nil_bsN (w : World) (B : Nat) : BsN w B (.slice none 0 0) [] := ⟨none, 0, rfl, Reads.none_, fun _ => rfl⟩
end Go.Proofs.Ytdjbgojdkaipfaa
