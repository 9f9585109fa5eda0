/- The tied card of PostingsEncodes. -/
import Derived.Test.YteoefjahcbfpeaaDoorEncProofs
import Derived.Test.YteoefjahcbfpeaaDoorTie
import Derived.Test.YteoefjahcbfpeaaDoorCards
import Derived.SevenTiedAt
namespace Go.Proofs.YteoefjahcbfpeaaDoor
open Go
set_option maxRecDepth 100000

theorem postingsEncodes_card : Rows.PostingsEncodesCardSaid :=
  Claim7.holds_tied_plain_at .later [] [.handle] true (true, "2e535c4209ad2d5e473d39c03018ed831bc45ba348910fff11e2a8cfe88fd1e4") true
    postingsEncodes_holds (fun _ h => by cases h) (by kernel_rfl) (fun _ h => by cases h) postingsEncodes_row_tie rfl ⟨rfl, rfl⟩ (by kernel_rfl) rfl
    (fun f fn hf hfn => by
      obtain rfl : f = 3 := Option.some.inj ((show Tryd.prog.funcNamed "glossary/glossarylaw24.PostingsEncodes" = some 3 by kernel_rfl).symm.trans hf) |>.symm
      obtain rfl : fn = Tryd.f3 := (Option.some.inj (Tryd.func3.symm.trans hfn)).symm
      exact ⟨by kernel_rfl, fun j t ht => by
        rw [Tryd.params3] at ht
        have h3 : t = 22 := by
          rcases j with _ | j
          · simpa using ht.symm
          · simp at ht
        subst h3
        exact (show Tryd.prog.wantsStandIn 22 = false by kernel_rfl)⟩)
    (by kernel_rfl)
#print axioms postingsEncodes_card
end Go.Proofs.YteoefjahcbfpeaaDoor
