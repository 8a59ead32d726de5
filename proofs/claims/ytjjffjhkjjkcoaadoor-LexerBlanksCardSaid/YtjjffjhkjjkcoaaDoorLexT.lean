/- LexerBlanks answers true for every slice of numbers, every remark and every text, and leaves its arguments as they were. The conditions: the package-level variables that the row lists read as the program's text lays them, which the card ties to that text; of the other named variable the row speaks for every value. -/
import Derived.Test.YtjjffjhkjjkcoaaDoorLexS
import Derived.Test.YtjjffjhkjjkcoaaDoorTie
import Derived.Test.YtjjffjhkjjkcoaaDoorCards
import Derived.SevenTiedAt
namespace Go.Proofs.YtjjffjhkjjkcoaaDoor
open Go

theorem lexerBlanks_card : Rows.LexerBlanksCardSaid :=
  Claim7.holds_tied_plain_at .later [] [.data, .data, .data, .handle, .sentinel, .sentinel] true (true, "5fd4272c30093e67eb08661122a7aba281af4cdcd5bfa1be10436b792b50b85f") true
    lexerBlanks_holds (fun _ h => by cases h) (by kernel_rfl) (fun _ h => by cases h) lexerBlanks_row_tie rfl ⟨rfl, rfl⟩ (by kernel_rfl) rfl
    (fun f fn hf hfn => by
      obtain rfl : f = 3 := Option.some.inj ((show Tryd.prog.funcNamed "quarry/quarrylaw12.LexerBlanks" = some 3 by kernel_rfl).symm.trans hf) |>.symm
      obtain rfl : fn = Tryd.f3 := (Option.some.inj (Tryd.func3.symm.trans hfn)).symm
      exact ⟨by kernel_rfl, fun j t ht => by
        rw [Tryd.params3] at ht
        have h3 : t = 22 ∨ t = 9 := by
          rcases j with _ | _ | _ | j
          · simp at ht; exact .inl ht.symm
          · simp at ht; exact .inr ht.symm
          · simp at ht; exact .inr ht.symm
          · simp at ht
        rcases h3 with rfl | rfl
        · exact (show Tryd.prog.wantsStandIn 22 = false by kernel_rfl)
        · exact (show Tryd.prog.wantsStandIn 9 = false by kernel_rfl)⟩)
    (by kernel_rfl)
#print axioms lexerBlanks_card
end Go.Proofs.YtjjffjhkjjkcoaaDoor
