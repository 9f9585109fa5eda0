/- The tied card of PostingsBack. -/
import Derived.Test.YteoefjahcbfpeaaDoorBackProofs
import Derived.Test.YteoefjahcbfpeaaDoorTie
import Derived.Test.YteoefjahcbfpeaaDoorCards
import Derived.SevenTiedAt
namespace Go.Proofs.YteoefjahcbfpeaaDoor
open Go
set_option maxRecDepth 100000

theorem postingsBack_card : Rows.PostingsBackCardSaid :=
  Claim7.holds_tied_plain_at .later [] [.handle] true (true, "2e535c4209ad2d5e473d39c03018ed831bc45ba348910fff11e2a8cfe88fd1e4") true
    postingsBack_holds (fun _ h => by cases h) (by kernel_rfl) (fun _ h => by cases h) postingsBack_row_tie rfl ⟨rfl, rfl⟩ (by kernel_rfl) rfl
    (fun f fn hf hfn => by
      obtain rfl : f = 4 := Option.some.inj ((show Tryd.prog.funcNamed "glossary/glossarylaw24.PostingsBack" = some 4 by kernel_rfl).symm.trans hf) |>.symm
      obtain rfl : fn = Tryd.f4 := (Option.some.inj (Tryd.func4.symm.trans hfn)).symm
      exact ⟨by kernel_rfl, fun j t ht => by
        rw [Tryd.params4] at ht
        have h3 : t = 22 ∨ t = 3 := by
          rcases j with _ | _ | j
          · exact .inl (by simpa using ht.symm)
          · exact .inr (by simpa using ht.symm)
          · simp at ht
        rcases h3 with rfl | rfl
        · exact (show Tryd.prog.wantsStandIn 22 = false by kernel_rfl)
        · exact (show Tryd.prog.wantsStandIn 3 = false by kernel_rfl)⟩)
    (by kernel_rfl)
#print axioms postingsBack_card
end Go.Proofs.YteoefjahcbfpeaaDoor
