/- LexerAgain answers true for every text, and leaves it as it was. The conditions: the package-level variables that the row lists read as the program's text lays them, which the card ties to that text; of the other named variables the row speaks for every value. -/
import Derived.Test.YtgidnbkbmjjihaaGreatDoorLexAgRow
import Derived.Test.YtgidnbkbmjjihaaGreatDoorTie
import Derived.Test.YtgidnbkbmjjihaaGreatDoorCards
import Derived.SevenTiedAt
namespace Go.Proofs.YtgidnbkbmjjihaaGreatDoor
open Go

theorem lx_prog : Tryz.pinned.checked.prog = Tryz.prog := by kernel_rfl
theorem ag_closed2 : joinedFacts Tryz.pinned.checked.prog 3 Tryz.f3 (OpenSpec.ofChange Rows.lexerAgainSpec).bare Rows.lexerAgainRow = true := by
  rw [lx_prog]
  exact ag_closed

theorem lexerAgain_holds : Rows.LexerAgainSaid :=
  OpenClaim.holds_of_cond 3 Tryz.f3 rfl rfl rfl rfl rfl rfl rfl ⟨rfl, rfl, rfl, rfl, rfl⟩ rfl rfl rfl rfl rfl (by kernel_rfl) Tryz.func3 (by exact ag_closed2)
    (of_decide_eq_true (by kernel_rfl)) (by unfold Func.isWrapper; rw [if_neg (of_decide_eq_false (by kernel_rfl))]; exact ⟨rfl, rfl⟩)
    (fun os started H enc _ F0 => by rw [OpenClaim.pre_eq_preRow]; exact lexerAgain_lifted os started H enc F0)

theorem ag_k1 : Tryz.prog.funcNamed "quarry/quarrylaw12.LexerAgain" = some 3 := by kernel_rfl
theorem ag_k2 : Tryz.prog.wantsStandIn 9 = false := by kernel_rfl

theorem lexerAgain_card : Rows.LexerAgainCardSaid :=
  Claim7.holds_tied_plain_at .later [] [.data, .data, .data, .data, .handle, .sentinel, .sentinel, .pinned] true Rows.lexerAgainCard.stood.harness true
    lexerAgain_holds (fun _ h => by cases h) (by kernel_rfl) (fun _ h => by cases h) lexerAgain_row_tie rfl ⟨rfl, rfl⟩ (by kernel_rfl) rfl
    (fun f fn hf hfn => by
      obtain rfl : f = 3 := Option.some.inj (ag_k1.symm.trans hf) |>.symm
      obtain rfl : fn = Tryz.f3 := (Option.some.inj (Tryz.func3.symm.trans hfn)).symm
      exact ⟨by kernel_rfl, fun j t ht => by
        rw [Tryz.params3] at ht
        have h3 : t = 9 := by
          rcases j with _ | j
          · simpa using ht.symm
          · simp at ht
        subst h3
        exact ag_k2⟩)
    (by kernel_rfl)
#print axioms lexerAgain_card
end Go.Proofs.YtgidnbkbmjjihaaGreatDoor
