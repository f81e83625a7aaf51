/- Walks and plain laws. Conditions: none. -/
import Derived.Test.YtajchhghjjlahaaDoorBodiesL4
set_option linter.all false
set_option maxRecDepth 10000
set_option maxHeartbeats 8000000
namespace Go.Proofs.YtajchhghjjlahaaDoor
open Go Go.Cn Go.RowKit
attribute [local irreducible] evL sem onG onI onV
theorem rsize_app {σ : H} {n c : Nat} {a : Option Addr} (hn : n ≤ 1000000) : App Tryd.prog (.func 58) #[] #[.agg #[.slice a n c]] σ fun w σ' => σ' = σ ∧ w = .int .i64 ((n * 128 : Nat) : Int) := by
 refine App.forget (App.of_sem mixed Tryd.func58 t58 k58 r58 (Nat.le_of_ble_eq_true rfl) ?_)
 rw [← ap_nil (σ := σ)]
 unfold s58
 have w1 : IntKind.wrap .i64 ((n : Int) * 128) = ((n * 128 : Nat) : Int) := by rw [wrap64' (by omega) (by omega)]; omega
 simp only [↓eD, eZ, ↓reduceIte, Nat.reduceEqDiff, Nat.reduceAdd, Nat.reduceMul, reduceCtorEq, Nat.reduceLeDiff, Int.reduceLT, Int.reduceLE, Int.reduceToNat, Int.reduceEq, Nat.reduceLT, w1, undef_eq]
 first | exact ⟨.ap, rfl⟩ | exact .ap
end Go.Proofs.YtajchhghjjlahaaDoor
