/- What an error is seen as: none, or a fault with its place and its number; walked. -/
import Derived.Test.YtgidnbkbmjjihaaGreatDoorLexM
import Derived.Test.YtgidnbkbmjjihaaGreatDoorLexN
namespace Go.Proofs.YtgidnbkbmjjihaaGreatDoor
open Go.RowKit

theorem results_cell1 {fn : Func} {p : Tmp} {ty : TypeId} (h : fn.results = #[.cell p ty]) (tmps : Array Value) (P : Program) (w : World) :
    (results fn tmps).run P w = ((asAddr (tmps.getD p undef)).run P w).andThen fun a w₁ => ((loadVar ty a).run P w₁).andThen fun v w₂ => .ok v w₂ := by
  simp only [results, h]
  simp [Sem.run_bind, Result.andThen]
  split
  · split <;> simp_all
  · rfl

theorem load_fault2 {W : World} {g : Nat} {a b : Value} (h : W.heap[g]? = some (.cells #[a, b] 57 (0, 0))) : (loadVar 57 ⟨g, 0, none⟩).run Tryz.prog W = .ok (.agg #[a, b]) W := by
  have h0 : W.cell? ⟨g, 0, none⟩ = some a := by simp [World.cell?, h]
  have h1 : W.cell? ⟨g, 1, none⟩ = some b := by simp [World.cell?, h]
  simp [go_sem, h0, h1]

theorem seen_ret {R : Ending → World → Prop} {a : Act} {W : World} {g : Nat} {c0 c1 : Value} (h2 : a.tmps.getD 2 undef = .pointer (some ⟨g, 0, none⟩)) (hd : a.defers = [])
    (hW : W.heap[g]? = some (.cells #[c0, c1] 57 (0, 0))) (hR : R (.returned (.agg #[c0, c1])) W) : bodyPost Tryz.prog Tryz.f28 R .ret a W := by
  refine bodyPost_ret (v := .agg #[c0, c1]) ?_ hd hR
  rw [results_cell1 (fn := Tryz.f28) rfl, h2]
  have e : (asAddr (.pointer (some ⟨g, 0, none⟩))).run Tryz.prog W = .ok ⟨g, 0, none⟩ W := rfl
  rw [e]
  simp only [Result.andThen]
  rw [load_fault2 hW]

theorem assert_errno (er : Int) (W : World) : (Instr.typeAssert (.iface 41 (.int .i64 er)) 25 41 true).run Tryz.prog W = .ok (.tuple #[.int .i64 er, .bool true]) W := by kernel_rfl

theorem seen_nil (w : World) : Calls Tryz.prog 28 #[.nilIface] w fun e w' => e = .returned (.agg #[.int .i64 0, .int .i64 0]) ∧ Below w.heap.size w w' := by
  go_enter Tryz.func28, Tryz.ntmps28
  go_wp2
  refine seen_ret (g := w.heap.size) rfl rfl (heap_alloc_new w _) ⟨rfl, (Below.refl _ _).alloc (Nat.le_refl _) _⟩

set_option maxRecDepth 100000 in
set_option maxHeartbeats 4000000 in
theorem seen_fault (p : Nat) (n er : Int) (w : World) (hL : LaidE w) (hp : w.heap[p]? = some (.cells #[.int .i64 n, .iface 41 (.int .i64 er)] 96 (0, 0))) :
    Calls Tryz.prog 28 #[.iface 94 (.pointer (some ⟨p, 0, none⟩))] w fun e w' => e = .returned (.agg #[.int .i64 n, .int .i64 er]) ∧ Below w.heap.size w w' := by
  have hlt : p < w.heap.size := by
    rcases Nat.lt_or_ge p w.heap.size with h | h
    · exact h
    · rw [Array.getElem?_eq_none h] at hp; cases hp
  have hp0 : w.cell? ⟨p, 0, none⟩ = some (.int .i64 n) := by simp [World.cell?, hp]
  have hp1 : w.cell? ⟨p, 1, none⟩ = some (.iface 41 (.int .i64 er)) := by simp [World.cell?, hp]
  have HG := Lib.hid hL.et
  have HLt := Lib.hid hL.base.lt
  have hq : ∀ (j : Nat) (u : Value), w.cell? ⟨p, j, none⟩ = some u → ∀ o1 o2 o3 o4 o5 o6 : Obj, ((((((w.alloc o1).alloc o2).alloc o3).alloc o4).alloc o5).alloc o6).cell? ⟨p, j, none⟩ = some u := by
    intro j u h o1 o2 o3 o4 o5 o6
    rw [World.cell?_alloc_lt _ _ _ (by simp; omega), World.cell?_alloc_lt _ _ _ (by simp; omega), World.cell?_alloc_lt _ _ _ (by simp; omega), World.cell?_alloc_lt _ _ _ (by simp; omega), World.cell?_alloc_lt _ _ _ (by simp; omega), World.cell?_alloc_lt _ _ _ hlt]
    exact h
  have hq0 := hq 0 _ hp0
  have hq1 := hq 1 _ hp1
  clear hp hL hq hp0 hp1
  have HA : ∀ o1 o2 : Obj, Hid (Calls Tryz.prog 65 #[.iface 94 (.pointer (some ⟨p, 0, none⟩)), .iface 121 (.pointer (some ⟨w.heap.size + 1, 0, none⟩))] ((w.alloc (.cells #[.int .i64 0, .int .i64 0] 57)).alloc (.cells #[.pointer none] 94)) _) := fun _ _ => Lib.hid (as_hit ⟨p, 0, none⟩ ⟨w.heap.size + 1, 0, none⟩ (.pointer none) _
    (by rw [World.cell?_alloc_lt _ _ _ (by have := HLt.out.1; simp), World.cell?_alloc_lt _ _ _ HLt.out.1]; exact HG.out) (by simp) (by simp))
  have hta := assert_errno er
  go_enter Tryz.func28, Tryz.ntmps28
  go_wp2_with (go_at_call 65; (with_reducible refine (HA (.cells #[] 0) (.cells #[] 0)).out.mono ?_); rintro e w1 ⟨rfl, rfl⟩)
  refine seen_ret (g := w.heap.size) (c0 := .int .i64 n) (c1 := .int .i64 er) rfl rfl ?_ ⟨rfl, ?_⟩
  · rw [Below.heap_alloc _ _ _ (by simp <;> omega), Below.heap_alloc _ _ _ (by simp <;> omega), Below.heap_alloc _ _ _ (by simp <;> omega), Below.heap_alloc _ _ _ (by simp <;> omega), Below.heap_alloc _ _ _ (by simp <;> omega)]
    exact heap_alloc_new w _
  · repeat refine Below.alloc ?_ (by simp <;> omega) _
    exact Below.refl _ _
end Go.Proofs.YtgidnbkbmjjihaaGreatDoor
