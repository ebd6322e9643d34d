/- A region that draws its order, whose head reads, whose one call may write, and whose rest only reads. -/
import Derived.Test.YtchmlhceidociaaBase
import Derived.Deep.RegionHeld
import Derived.Deep.Quiet
namespace Go.Proofs.Ytchmlhceidociaa
set_option linter.unusedVariables false

section
variable {P : Program} {ops : Array Oper} {md : Region.Mode} {C S : World → Prop}

theorem wpAnyH_of_quiet {Q : Act → Prop} {Q' : Exit → Act → World → Prop} (hCS : ∀ w, C w → S w) (hQ : ∀ a w, C w → Q a → Q' .normal a w) : ∀ (fuel : Nat) (listed : Array Bool) (a : Act) (w : World), C w →
    wpAnyQ P md ops C Q fuel listed a → wpAnyH P md ops Q' S fuel listed a w
  | 0, _, _, _, hw, h => ⟨h.1, hQ _ _ hw h.2⟩
  | fuel + 1, _, _, _, hw, h => ⟨fun h0 => hQ _ _ hw (h.1 h0), fun i hi => wpOp_of_qOp hw (fun a' w' hw' hq => ⟨hCS _ hw', wpAnyH_of_quiet hCS hQ fuel _ a' w' hw' hq⟩) (h.2 i hi)⟩

/-- the rest of a region, from its n-th operation on -/
theorem wpAnyH_tail {L l : List Oper} {Q' : Exit → Act → World → Prop} {fuel : Nat} {listed : Array Bool} {a : Act} {w : World} (n : Nat) (hl : l = L.drop n) (hf : l.length = fuel)
    (hs : Region.noSelect L.toArray = true) (hB : Region.lexFrom md L.toArray fuel n listed = true) (hCS : ∀ w, C w → S w) (hC : C w)
    (h : wpQuiet P L.toArray C (fun a' => ∀ w', C w' → Q' .normal a' w') l a) : wpAnyH P md L.toArray Q' S fuel listed a w := by
  subst hf
  refine wpAnyH_of_quiet (Q := fun a' => ∀ w', C w' → Q' .normal a' w') hCS (fun _ w' hw' h => h w' hw') _ _ _ _ hC ?_
  refine wpAnyQ_lex hs l n listed a (fun j => ?_) hB h
  rw [hl, List.getElem?_drop]
  simp
end
end Go.Proofs.Ytchmlhceidociaa
