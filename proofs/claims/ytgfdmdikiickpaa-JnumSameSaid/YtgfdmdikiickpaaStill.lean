/-
  A region that draws its order, reads and calls quietly, and ends in a tail of one forced order: one walk.
-/
import Derived.Test.YtgfdmdikiickpaaCurRef
import Derived.StillTailTactics
namespace Go.Proofs.Ytgfdmdikiickpaa
open Go.RowKit

theorem still_tail {P : Program} {id : Nat} {Q : Exit → Act → World → Prop} {a : Act} {w : World} {l : List Oper} (n : Nat) (hm : P.follows .mixedOrders = true) (hB : Region.lexTailB .any l.toArray n = true)
    (h : ∀ w', w.drew = w' → wpStill P l.toArray w' (fun a' => wpList P l.toArray Q (l.drop n) a' w') (l.take n) a) : (Code.region id l.toArray true).wp P Q a w :=
  wp_region_still_tail n hm hB (h _ rfl)
theorem still_all {P : Program} {id : Nat} {Q : Exit → Act → World → Prop} {a : Act} {w : World} {l : List Oper} (hm : P.follows .mixedOrders = true) (hB : Region.lexB .any l.toArray = true)
    (h : ∀ w', w.drew = w' → wpStill P l.toArray w' (fun a' => Q .normal a' w') l a) : (Code.region id l.toArray true).wp P Q a w :=
  wp_region_still_lit hm hB (h _ rfl)
theorem err_st (b : Nat) (c : Cu) (w : World) (hc : CurAt w b c) : Calls Try.prog 14 #[ptr b] w fun e w'' => e = .returned (.int .i64 c.code) ∧ w'' = w :=
  (err_any b c w hc).mono fun _ _ h => ⟨h.1, h.2.symm⟩
theorem at_st (b : Nat) (c : Cu) (w : World) (hc : CurAt w b c) : Calls Try.prog 15 #[ptr b] w fun e w'' => e = .returned (.int .i64 c.pos) ∧ w'' = w :=
  (at_any b c w hc).mono fun _ _ h => ⟨h.1, h.2.symm⟩
end Go.Proofs.Ytgfdmdikiickpaa
