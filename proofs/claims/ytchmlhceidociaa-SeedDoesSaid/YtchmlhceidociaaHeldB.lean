/- A region that draws its order: two that may come up. -/
import Derived.Test.YtchmlhceidociaaHeld
namespace Go.Proofs.Ytchmlhceidociaa
set_option linter.unusedVariables false
section
variable {P : Program} {md : Region.Mode} {Q : Exit → Act → World → Prop} {S : World → Prop} {k : Nat}
theorem AtE.two {L r1 r2 : List Oper} {n i j : Nat} {oi oj : Oper} {li : Array Bool} {a : Act} {w : World} (hi : L.drop i = oi :: r1) (hj : L.drop j = oj :: r2) (hr : Region.ready md L.toArray li = [i, j])
    (h1 : ∀ K : Act → World → Prop, Shut (∀ b x, (i ≠ k → S x) → ((i ≠ k → S x) → AtE P md L.toArray Q S k n (li.setIfInBounds i true) b x) → K b x) → if Region.wanted oi (yielded L.toArray a.tmps) = true then Oper.wp P oi a w K Q else K (a.put oi.dst undef) w)
    (h2 : ∀ K : Act → World → Prop, Shut (∀ b x, (j ≠ k → S x) → ((j ≠ k → S x) → AtE P md L.toArray Q S k n (li.setIfInBounds j true) b x) → K b x) → if Region.wanted oj (yielded L.toArray a.tmps) = true then Oper.wp P oj a w K Q else K (a.put oj.dst undef) w) :
    AtE P md L.toArray Q S k (n + 1) li a w := by
  intro hc
  refine ⟨fun h0 => ?_, fun m hm => ?_⟩
  · rw [hr] at h0
    cases h0
  · have hmm : m = i ∨ m = j := by rw [hr] at hm; simpa using hm
    rcases hmm with rfl | rfl
    · exact wpOp_step (drop_at hi) (fun K hK => h1 K (fun b x hS hW => hK b x ⟨hS, hW hS ⟨hc.1.set hm, hc.2⟩⟩))
    · exact wpOp_step (drop_at hj) (fun K hK => h2 K (fun b x hS hW => hK b x ⟨hS, hW hS ⟨hc.1.set hm, hc.2⟩⟩))
end
end Go.Proofs.Ytchmlhceidociaa
