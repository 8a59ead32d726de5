/- LexerAgain: what the row's conditions give the walk, a start that fits, and the lifted proof. -/
import Derived.Test.YtgidnbkbmjjihaaGreatDoorLexZ
import Derived.Test.YtgidnbkbmjjihaaGreatDoorLexR
import Derived.Lib.LaidTab
namespace Go.Proofs.YtgidnbkbmjjihaaGreatDoor
open Go.ChangeShapes Go.WideShapes Go.ChangeAt Go.RowKit Go.ChangeMaps

theorem lx_pow {l : List (String × DataW Unit)} {W : World} (h : laidMet Tryz.prog (("internal/strconv.uint64pow10", Rows.laid_internal_strconv_uint64pow10) :: l) W) :
    Lib.TabIs Tryz.prog W "internal/strconv.uint64pow10" .u64 Lib.pow10Tab :=
  Lib.tabIs_of_head gPow (t := 319) (by kernel_rfl) Tryz.underlying319 Tryz.underlying46 (by kernel_rfl) (by kernel_rfl)
    (show laidMet Tryz.prog (("internal/strconv.uint64pow10", Lib.tabData .u64 Lib.pow10Tab) :: l) W from h)

/-- The door's own heap, and in it the one table that the form pins. -/
noncomputable def tx_world (os : Os) : World :=
  { World.doorLaid Tryz.prog 400 os with heap := (World.doorLaid Tryz.prog 400 os).heap.modify 7 fun
      | .cells _ t frozen => .cells (Pinned.utf8FirstZ.map fun (n : Nat) => Value.int .u8 (n : Int)).toArray t frozen
      | o => o }

theorem ag_met (os : Os) (args : Array Value) : laidMetH Tryz.prog Rows.lexerAgainRow.laid ((tx_world os).forCall (fun _ _ => 0) ⟨#[], args, []⟩).memory :=
  laidMetH_of_parts (laidMet_of_run' 8 (by kernel_rfl) (by kernel_rfl)) (by kernel_rfl)

theorem ag_laid {W : World} (hs : W.ShapedOpen Tryz.prog) (h : laidMetH Tryz.prog Rows.lexerAgainRow.laid W) : LaidE W ∧ LaidT W := by
  have h' : laidMet Tryz.prog [("math/bits.deBruijn32tab", Rows.laid_math_bits_deBruijn32tab), ("math/bits.deBruijn64tab", Rows.laid_math_bits_deBruijn64tab), ("internal/strconv.uint64pow10", Rows.laid_internal_strconv_uint64pow10), ("unicode/utf8.acceptRanges", Rows.laid_unicode_utf8_acceptRanges), ("strconv.ErrRange", Rows.laid_strconv_ErrRange), ("strconv.ErrSyntax", Rows.laid_strconv_ErrSyntax), ("unicode/utf8.first", Rows.laid_unicode_utf8_first)] W ∧ handlesMet Tryz.prog [("errors.errorType", Rows.laid_errors_errorType)] W := h
  have hE := lx_laid hs h'.1.tail.tail.tail.tail h'.2
  exact ⟨hE, hE.base, lx_pow h'.1.tail.tail⟩

def ag_args : Array Value := #[.string ⟨#[]⟩]

theorem ag_witness (os : Os) {H : Type} (enc : TypeId × Value → H) :
    ∃ (w : World) (tape : Tape) (i : Input), w.os = os ∧ (w.forCall tape i).Shaped Tryz.checked.prog ∧ i.vars = [] ∧ Input.okWide Tryz.checked.prog (w.forCall tape i) .any w.heap.size 3 i ∧
      (OpenSpec.ofChange Rows.lexerAgainSpec).preRow enc Tryz.checked.prog Tryz.f3 [] false Rows.lexerAgainRow.laid (w.forCall tape i).memory i.args ∧ ({} : Assume).holds Tryz.checked.prog (lone (Frame.enter Tryz.checked.prog 3 i.args .normal) [] (w.forCall tape i)) := by
  have hok : Input.okWideB Tryz.checked.prog ((tx_world os).forCall (fun _ _ => 0) ⟨#[], ag_args, []⟩) 3 ⟨#[], ag_args, []⟩ = true := by kernel_rfl
  refine ⟨tx_world os, fun _ _ => 0, ⟨#[], ag_args, []⟩, rfl, World.shaped_of_RefB (by kernel_rfl) (by kernel_rfl), (Input.okWide_of_okWideB (base := 0) hok).1, (Input.okWide_of_okWideB hok).2,
    OpenSpec.preRow_of_B rfl 8 (by kernel_rfl) (by kernel_rfl) (ag_met os _), ?_⟩
  simp only [Assume.holds]
  exact ⟨by simp, by simp, by simp, by simp, by simp⟩

set_option maxRecDepth 100000 in
theorem lexerAgain_lifted (os : Os) (started : os.Started) (H : Type) (enc : TypeId × Value → H) (F : Stop.Interp) :
    ReturnsInHanded {} Tryz.checked os 3 .any ((OpenSpec.ofChange Rows.lexerAgainSpec).preRow enc Tryz.prog Tryz.f3 Rows.lexerAgainRow.domain false Rows.lexerAgainRow.laid) (((OpenSpec.ofChange Rows.lexerAgainSpec).at F).post enc Tryz.prog Tryz.f3 false true false false) := by
  refine returnsInHanded_of_row (C := Tryz.checked) (s := OpenSpec.ofChange Rows.lexerAgainSpec) lx_own started (by kernel_rfl) Tryz.func3 (ag_witness os enc) ?_
  intro W base args ds gs before hval0 hW _ _ _ hL hsh _
  have hval : ∀ (j : Nat) t v, Tryz.f3.params[j]? = some t → args[j]? = some v → Value.okWide Tryz.prog W .any base t v := hval0
  have hW' := hW
  obtain ⟨p, q, hA0, hV, rfl, hfz, hnd⟩ := hW
  have hA : DataW.TrodAll enc Tryz.prog W 0 (fun _ => true) true Tryz.f3.params.toList args.toList ds p := hA0
  rw [Tryz.params3] at hA hval
  obtain ⟨v0, d0, rfl, rfl, h0⟩ := trodAll_one hA
  obtain ⟨rfl, rfl⟩ := trodVars_none hV
  obtain ⟨text, rfl, rfl, rfl, htext⟩ := open_string Tryz.underlying9 (hval 0 9 v0 rfl rfl) h0
  clear hA0 hval0
  simp only [List.append_nil] at hW'
  obtain ⟨hE, hT⟩ := ag_laid hsh hL
  refine (again_any text W hE hT).mono ?_
  rintro e W' ⟨rfl, bel⟩
  refine ⟨_, rfl, _, _, _, [], [], [], hW', ?_, ?_, ?_, bel.frame _, fun h => by cases h⟩
  · exact trodAll_mk1 (shut_bool Tryz.underlying4 true)
  · exact trodAll_mk1 (shut_string Tryz.underlying9 htext)
  · rfl

theorem lx_maps : mapsRowed Tryz.prog = true := by kernel_rfl
theorem ag_c1 : (Rows.lexerAgainRow.inPlace == Tryz.prog.inPlace 3) = true := by kernel_rfl
theorem ag_c2 : (Rows.lexerAgainRow.unfollowed == Tryz.prog.unfollowed 3) = true := by kernel_rfl
theorem ag_c3 : (Rows.lexerAgainRow.recurses == Tryz.prog.recurses 3) = true := by kernel_rfl
theorem ag_c4 : (Rows.lexerAgainRow.named == Tryz.prog.varsNamed 3) = true := by kernel_rfl

theorem ag_closed : joinedFacts Tryz.prog 3 Tryz.f3 Rows.lexerAgainSpec Rows.lexerAgainRow = true := by
  unfold joinedFacts
  rw [lx_laidOut, lx_maps, ag_c1, ag_c2, ag_c3, ag_c4]
  kernel_rfl

end Go.Proofs.YtgidnbkbmjjihaaGreatDoor
