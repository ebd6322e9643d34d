/- maps.Clone of a set; a copy of a stack. -/

import Derived.Test.YtjmidomcgaijjaaRead
import Derived.WalkSpells
namespace Go.Proofs.Ytjmidomcgaijjaa
set_option linter.unusedVariables false
open Go.RowKit

set_option maxRecDepth 100000 in
set_option maxHeartbeats 400000 in
theorem clone_any (m : Nat) (xs : List Int) (w : World) (hs : SetAt w m xs) :
    Calls Try.prog 53 #[.map (some m)] w fun e w' => e = .returned (.map (some w.heap.size)) ∧ SetAt w' w.heap.size xs ∧ Below w.heap.size w w' ∧ w'.heap.size = w.heap.size + 1 := by
  obtain ⟨es, clock, hm, hi⟩ := hs
  have hrun : ∀ t, (Extern.MapsClone.clone #[.iface t (.map (some m))]).run Try.prog w = .ok (.iface t (.map (some w.heap.size))) (w.alloc (.map es clock)) := by
    intro t
    change Sem.run Try.prog (do
      let x ← getObj m
      match x with
      | .map entries clock => do
        let n ← newObj (.map entries clock)
        pure (Value.iface t (.map (some n)))
      | _ => stuck "maps.clone: a map expected") w = _
    simp [getObj, newObj, Sem.run, hm]
  have hcall : ∀ t, (callFunc 64 #[.iface t (.map (some m))]).run Try.prog w = .ok (.value (.iface t (.map (some w.heap.size)))) (w.alloc (.map es clock)) := by
    intro t
    rw [run_callFunc_extern (e := Extern.MapsClone.clone) Try.func64 (by kernel_rfl) (by kernel_rfl) (by kernel_rfl) (by rfl), hrun]
    rfl
  have hnil := run_eql_map_nil (P := Try.prog) w 81 _ _ (some m) Try.underlying81
  go_enter Try.func53, Try.ntmps53
  have hass : ∀ (W : World) (r : Option Nat), (Instr.typeAssert (.iface 81 (.map r)) 20 81 false).run Try.prog W = .ok (.map r) W := fun _ _ => by kernel_rfl
  go_wp2
  go_ret
  exact ⟨rfl, ⟨es, clock, heap_alloc_new w _, hi⟩, (ext_refl w).alloc (Nat.le_refl _) _, by simp⟩
end Go.Proofs.Ytjmidomcgaijjaa
