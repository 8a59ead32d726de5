/- What the rows of the lexer's laws give a walk: the listed variables, and the library's own number, out of the world's shape. -/
import Derived.Test.YtgidnbkbmjjihaaGreatDoorRows
import Derived.Test.YtgidnbkbmjjihaaGreatDoorLexG
import Derived.ProofKit
import Derived.ChangeSame
import Derived.LaidMore
import Derived.LaidHandle
import Derived.OpenShut
import Derived.Stop.Joined
import Derived.Stop.LaidErr
import Derived.Deep.DeepHandedRow
import Derived.SliceStrings
import Derived.ChangeSlices
import Derived.ChangeMaps5
import Derived.Carry
import Derived.Shelf.Vars
namespace Go.Proofs.YtgidnbkbmjjihaaGreatDoor
open Go.ChangeShapes Go.WideShapes Go.ChangeAt Go.RowKit

theorem lx_own : ownKnob Tryz.prog.godebug = none := by kernel_rfl
theorem lx_laidOut : laidOutB Tryz.prog = true := by kernel_rfl
theorem lx_gSyn : Tryz.prog.globalNamed "strconv.ErrSyntax" = some 3 := by kernel_rfl
theorem lx_gRng : Tryz.prog.globalNamed "strconv.ErrRange" = some 4 := by kernel_rfl
theorem lx_gEt : Tryz.prog.globalNamed "errors.errorType" = some 0 := by kernel_rfl
theorem lx_tSyn : (Tryz.prog.globals[3]?).map (·.type) = some 25 := by kernel_rfl
theorem lx_tRng : (Tryz.prog.globals[4]?).map (·.type) = some 25 := by kernel_rfl
theorem lx_star : "*" ++ "errors.errorString" = "*errors.errorString" := by decide
theorem lx_row (u : TypeId) (h : Tryz.prog.typeName? 3 u = some "*errors.errorString") : u = 362 :=
  typeName_ptr_named (nm := "errors.errorString") (by rw [lx_star]; kernel_rfl) (by kernel_rfl) (by decide) u (by rw [lx_star]; exact h)
theorem lx_rt : (Tryz.prog.cutTypes.find? (·.1 == "internal/reflectlite.rtype")).map (·.2) = some 273 := by kernel_rfl
theorem lx_oneRow : ((List.range 397).filter fun t => Tryz.prog.rowNamed t [101, 114, 114, 111, 114]) = [25] := by kernel_rfl
theorem lx_size : Tryz.prog.types.size = 397 := by kernel_rfl

/-- The handle of the type error, out of a row's list. -/
theorem lx_handle {l : List (String × DataW Unit)} {W : World} (h : handlesMet Tryz.prog (("errors.errorType", Rows.laid_errors_errorType) :: l) W) : W.cell? ⟨0, 0, none⟩ = some (.iface 273 (.agg #[.pointer (some ⟨9, 25, none⟩)])) := by
  obtain ⟨name, u, ty, e1, e2, e3, e4, e5⟩ := h _ (List.mem_cons_self)
  have en : name = [101, 114, 114, 111, 114] := (Option.some.inj e1).symm
  subst en
  obtain rfl := Option.some.inj (lx_rt.symm.trans e2)
  have hm : ty ∈ (List.range 397).filter fun t => Tryz.prog.rowNamed t [101, 114, 114, 111, 114] := List.mem_filter.2 ⟨List.mem_range.2 (by rw [← lx_size]; exact e3), e4⟩
  rw [lx_oneRow] at hm
  obtain rfl := List.mem_singleton.1 hm
  have hh : typeHandle Tryz.prog 25 = .pointer (some ⟨9, 25, none⟩) := by kernel_rfl
  rw [hh] at e5
  simpa using World.var?_cell lx_gEt e5 0

theorem lx_cell_lt {W : World} {a : Addr} {v : Value} (h : W.cell? a = some v) : a.block < W.heap.size := by
  rcases Nat.lt_or_ge a.block W.heap.size with h' | h'
  · exact h'
  · simp [World.cell?, Array.getElem?_eq_none h'] at h

/-- WHAT THE ROW's CONDITION AND THE WORLD's SHAPE GIVE: the walks' own hypothesis. -/
theorem lx_laid {W : World} {l2 : List (String × DataW Unit)} (hs : W.ShapedOpen Tryz.prog)
    (hm : laidMet Tryz.prog (("strconv.ErrRange", Rows.laid_strconv_ErrRange) :: ("strconv.ErrSyntax", Rows.laid_strconv_ErrSyntax) :: l2) W)
    {l : List (String × DataW Unit)} (hh : handlesMet Tryz.prog (("errors.errorType", Rows.laid_errors_errorType) :: l) W) : LaidE W := by
  obtain ⟨a1, s1, hv1, _⟩ := laid_sentinel hm lx_gRng lx_tRng Tryz.underlying25 lx_row Tryz.underlying362 Tryz.underlying364 rfl rfl Tryz.underlying9 (by kernel_rfl) (by kernel_rfl)
  obtain ⟨a2, s2, hv2, _⟩ := laid_sentinel hm.tail lx_gSyn lx_tSyn Tryz.underlying25 lx_row Tryz.underlying362 Tryz.underlying364 rfl rfl Tryz.underlying9 (by kernel_rfl) (by kernel_rfl)
  have h1 : W.cell? ⟨4, 0, none⟩ = some (.iface 362 (.pointer (some a1))) := by simpa using World.var?_cell lx_gRng hv1 0
  have h2 : W.cell? ⟨3, 0, none⟩ = some (.iface 362 (.pointer (some a2))) := by simpa using World.var?_cell lx_gSyn hv2 0
  have h3 := lx_handle hh
  obtain ⟨m, h4⟩ := cell_of_shapedOpen_int (P := Tryz.prog) (g := 1) (t := 3) (zero := #[.int .i64 0]) hs (of_decide_eq_true (by kernel_rfl)) (by kernel_rfl) rfl (by kernel_rfl) (by kernel_rfl) Tryz.underlying3
  exact ⟨⟨⟨lx_cell_lt h3, lx_cell_lt h4, lx_cell_lt h2, lx_cell_lt h1⟩, ⟨m, h4⟩, ⟨_, _, h2⟩, ⟨_, _, h1⟩⟩, h3⟩
end Go.Proofs.YtgidnbkbmjjihaaGreatDoor
